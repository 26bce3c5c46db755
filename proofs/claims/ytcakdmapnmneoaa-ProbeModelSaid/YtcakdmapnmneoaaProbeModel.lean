/- ProbeModel, walked (chapter 8's laws). -/
import Derived.Test.YtcakdmapnmneoaaPmL
namespace Go.Proofs.Ytcakdmapnmneoaa
open Go.RowKit
set_option linter.unusedVariables false
set_option linter.unusedSimpArgs false

theorem probeModel_early (most same : Int) (pa pl : Option Addr) (na ca nl cl : Nat) (w : World) (h : most < 0 ∨ 1000 < most ∨ 60 < nl ∨ 20 < na) :
    Calls Try.prog 9 #[.int .i64 most, .int .i64 same, .slice pa na ca, .slice pl nl cl] w fun e w' => e = .returned (.bool true) ∧ Below w.heap.size w w' := by
  by_cases h1 : most < 0
  · have d1 : decide (most < 0) = true := by simpa using h1
    clear h h1
    go_enter Try.func9, Try.ntmps9
    go_wp2_with (go_at_call 11; refine (awake8 _).mono ?_; rintro e w' ⟨rfl, hb⟩)
    go_ret
    exact ⟨rfl, hb⟩
  · have d1 : decide (most < 0) = false := by simpa using h1
    by_cases h2 : 1000 < most
    · have d2 : decide ((1000 : Int) < most) = true := by simpa using h2
      clear h h1 h2
      go_enter Try.func9, Try.ntmps9
      go_wp2_with (go_at_call 11; refine (awake8 _).mono ?_; rintro e w' ⟨rfl, hb⟩)
      go_ret
      exact ⟨rfl, hb⟩
    · have d2 : decide ((1000 : Int) < most) = false := by simpa using h2
      by_cases h3 : 60 < nl
      · have d3 : decide ((60 : Int) < (nl : Int)) = true := by simp; omega
        clear h h1 h2 h3
        go_enter Try.func9, Try.ntmps9
        go_wp2_with (go_at_call 11; refine (awake8 _).mono ?_; rintro e w' ⟨rfl, hb⟩)
        go_ret
        exact ⟨rfl, hb⟩
      · have d3 : decide ((60 : Int) < (nl : Int)) = false := by simp; omega
        have d4 : decide ((20 : Int) < (na : Int)) = true := by simp; omega
        clear h h1 h2 h3
        go_enter Try.func9, Try.ntmps9
        go_wp2_with (go_at_call 11; refine (awake8 _).mono ?_; rintro e w' ⟨rfl, hb⟩)
        go_ret
        exact ⟨rfl, hb⟩
theorem call_cells {w : World} {a : Option Addr} {len : Nat} {F : Nat → Int} (h : IntRow .i64 4 w a len F) {i : Nat} (hi : i < len) :
    ∃ b off, a = some ⟨b, off, none⟩ ∧ ∀ W, Keeps [] w W → W.cell? ⟨b, off + i * 4, none⟩ = some (.int .i64 (F (i * 4))) ∧ W.cell? ⟨b, off + i * 4 + 1, none⟩ = some (.int .i64 (F (i * 4 + 1))) ∧ W.cell? ⟨b, off + i * 4 + 2, none⟩ = some (.int .i64 (F (i * 4 + 2))) ∧ W.cell? ⟨b, off + i * 4 + 3, none⟩ = some (.int .i64 (F (i * 4 + 3))) := by
  rcases h with h | ⟨b, off, h1, _, _, hc⟩
  · omega
  · refine ⟨b, off, h1, fun W k => ?_⟩
    have e0 := (hc (i * 4) (by omega)).1
    have e1 := (hc (i * 4 + 1) (by omega)).1
    have e2 := (hc (i * 4 + 2) (by omega)).1
    have e3 := (hc (i * 4 + 3) (by omega)).1
    rw [Nat.add_assoc, Nat.add_assoc, Nat.add_assoc]
    exact ⟨k.cell e0 (by simp), k.cell e1 (by simp), k.cell e2 (by simp), k.cell e3 (by simp)⟩
/-- Both beside each other. -/
structure Both8 (w : World) (rb db t mo : Nat) (most same : Int) (acv : Value) (acts : List Ac8) (i : Nat) (s : Ms8) (S : List Nat) (aa : Option Addr) (M : List Nat) (d : Dic) (wr : World) : Prop where
  r : RlS w.heap.size rb db t S aa same acv false d s.A wr
  m : MdAt w.heap.size mo M most same acv false s wr
  rel : Rel8 most d s
  bd : Bd8 acts i (i * 2100) s
  ap : ∀ x, x ∈ M → x ∉ rlR rb db S aa
  k : Keeps [] w wr
theorem Both8.keeps {w : World} {rb db t mo : Nat} {most same : Int} {acv : Value} {acts : List Ac8} {i : Nat} {s : Ms8} {S : List Nat} {aa : Option Addr} {M : List Nat} {d : Dic} {wr W : World} (h : Both8 w rb db t mo most same acv acts i s S aa M d wr) (k : Keeps [] wr W) : Both8 w rb db t mo most same acv acts i s S aa M d W :=
  ⟨h.r.keeps0 k, h.m.keeps k (by simp), h.rel, h.bd, h.ap, h.k.trans k⟩
set_option maxRecDepth 100000 in
set_option maxHeartbeats 16000000 in
theorem probeModel_main (most same : Int) (pa pl : Option Addr) (na ca nl cl : Nat) (FA FL : Nat → Int) (w : World) (wa : IntRow .i64 5 w pa na FA) (wl : IntRow .i64 4 w pl nl FL) (h1 : 0 ≤ most) (h2 : most ≤ 1000) (h3 : nl ≤ 60) (h4 : na ≤ 20) :
    Calls Try.prog 9 #[.int .i64 most, .int .i64 same, .slice pa na ca, .slice pl nl cl] w fun e w' => e = .returned (.bool true) ∧ Below w.heap.size w w' := by
  have d1 : decide (most < 0) = false := by simp; omega
  have d2 : decide ((1000 : Int) < most) = false := by simp; omega
  have d3 : decide ((60 : Int) < (nl : Int)) = false := by simp; omega
  have d4 : decide ((20 : Int) < (na : Int)) = false := by simp; omega
  have WA := Lib.hid wa
  have WL := Lib.hid wl
  clear wa wl
  go_enter Try.func9, Try.ntmps9
  go_wp2_with fail
  refine (new8_any most none ⟨0, 0, 0, 0⟩ w (fun b hb => by simp at hb) h1 (by omega)).mono ?_
  rintro r w1 ⟨db, t, S, rfl, dd, _, k1, l1⟩
  have D1 := Lib.hid dd
  have K1 := Lib.hid (show Keeps [] w w1 from k1)
  have L1 := Lib.hid l1
  clear dd k1 l1 d1 d2 d3 d4
  go_upto_region 8 with (fail)
  refine wp_gen (fun V => V.heap[w1.heap.size]? = some (realO db (.slice none 0 0) (.slice pa na ca) same false) ∧ V.heap[w1.heap.size + 1]? = some (modO (.slice none 0 0) most 0 (.slice none 0 0) (.slice pa na ca) same false) ∧ Keeps [] w1 V) ⟨has_alloc (has_new _ _) _, has_new' _ _ (by simp), ((Keeps.refl [] w1).alloc _).alloc _⟩ ?_
  rintro w2 ⟨b2, m2, k2⟩
  obtain ⟨rb, hrb⟩ := ex_hid w1.heap.size
  obtain ⟨mo, hmo⟩ := ex_hid (w1.heap.size + 1)
  rw [← hmo.out] at m2 ⊢
  rw [← hrb.out] at b2 ⊢
  have J0 := Lib.hid (show Both8 w rb db t mo most same (.slice pa na ca) (actL FA na) 0 ⟨[], 0, []⟩ S none [mo] (newD most) w2 from by
    have hz := K1.out.size
    have hr := hrb.out
    have hm := hmo.out
    have hd := D1.out.keeps k2 (by simp) (by simp)
    refine ⟨⟨⟨0, b2, A8Row.nil _ _⟩, hd, fun hx => ?_, fun x hx => by simp [blk] at hx, by omega⟩, ⟨none, 0, none, 0, m2, P8Row.nil _ _, A8Row.nil _ _, by simp [blk], by omega⟩, ⟨rfl, rfl, rfl, newD_ok most⟩, ⟨Nat.zero_le _, Nat.le_refl _, Nat.le_refl _⟩, fun x hx hq => ?_, K1.out.trans k2⟩
    · have := (D1.out.t.foot _ hx).2; omega
    · simp at hx; subst hx
      unfold rlR at hq
      simp only [List.mem_cons, List.mem_append, blk, List.not_mem_nil, or_false] at hq
      rcases hq with hq | hq | hq
      · omega
      · have := lt_of_block D1.out.b; omega
      · have := (D1.out.t.foot _ hq).2; omega)
  clear b2 m2 k2
  go_wp2_with fail
  go_loopw [13] (fun z13 wr => ∃ (i : Nat) (s : Ms8) (S : List Nat) (aa : Option Addr) (M : List Nat) (d : Dic), i ≤ nl ∧ z13 = .int .i64 i ∧ Hid (Both8 w rb db t mo most same (.slice pa na ca) (actL FA na) i s S aa M d wr)) (fun z13 _ => nl - (intOf z13).toNat)
  case atStart => exact ⟨0, ⟨[], 0, []⟩, S, none, [mo], newD most, Nat.zero_le _, rfl, J0⟩
  case round =>
    obtain ⟨i, s, S, aa, M, d, hi, rfl, JJ⟩ := hrel
    clear J0 D1 K1 L1
    have i0 : (0 : Int) ≤ (i : Int) := by omega
    by_cases hlt : i < nl
    · have i1 : (i : Int) < (nl : Int) := by omega
      obtain ⟨b, off, rfl, hcs⟩ := call_cells WL.out hlt
      have HCS := Lib.hid hcs
      obtain ⟨c0, c1, c2, c3⟩ := hcs wr JJ.out.k
      obtain ⟨cg, hcg⟩ := ex_hid (FL (i * 4))
      obtain ⟨ch, hch⟩ := ex_hid (FL (i * 4 + 1))
      obtain ⟨ck, hck⟩ := ex_hid (FL (i * 4 + 2))
      obtain ⟨cv, hcv⟩ := ex_hid (FL (i * 4 + 3))
      rw [← hcg.out] at c0
      rw [← hch.out] at c1
      rw [← hck.out] at c2
      rw [← hcv.out] at c3
      clear hcs
      by_cases hg1 : cg < 1
      · have e1 : decide (cg < 1) = true := by simpa using hg1
        clear hg1
        go_wp2_with fail
        go_roundw
        case rel => exact ⟨i + 1, s, S, aa, M, d, by omega, by go_num, Lib.hid ⟨JJ.out.r, JJ.out.m, JJ.out.rel, JJ.out.bd.mono (by omega) (by omega), JJ.out.ap, JJ.out.k⟩⟩
        case measure => exact meas8 hlt
      · have e1 : decide (cg < 1) = false := by simpa using hg1
        by_cases hg4 : 4 < cg
        · have e2 : decide (4 < cg) = true := by simpa using hg4
          clear hg1 hg4
          go_wp2_with fail
          go_roundw
          case rel => exact ⟨i + 1, s, S, aa, M, d, by omega, by go_num, Lib.hid ⟨JJ.out.r, JJ.out.m, JJ.out.rel, JJ.out.bd.mono (by omega) (by omega), JJ.out.ap, JJ.out.k⟩⟩
          case measure => exact meas8 hlt
        · have e2 : decide (4 < cg) = false := by simpa using hg4
          obtain ⟨g, rfl⟩ : ∃ g : Nat, cg = (g : Int) := ⟨cg.toNat, by omega⟩
          have g1 : 1 ≤ g := by omega
          have g4 : g ≤ 4 := by omega
          have AL := actL_len FA na
          have ASK := Lib.hid (asks_out (one8 same) most (actL FA na))
          have CALL := Lib.hid (call_any8 w mo M most same (.slice pa na ca) false (actL FA na) (askO (one8 same) most (actL FA na)) ASK.out (fun e => by cases e) (fun _ => ⟨rfl, act_any8 w mo most same pa na ca FA WA.out h4⟩) i (i * 2100) (by rw [AL]; omega) (fun _ => by omega) ⟨g, ch, ck, cv⟩ s wr JJ.out.m JJ.out.k JJ.out.bd)
          have BD9 : Hid (∀ s' tt, call8 (askO (one8 same) most (actL FA na)) (one8 same) most ⟨g, ch, ck, cv⟩ s = some (s', tt) → Bd8 (actL FA na) (i + 1) ((i + 1) * 2100) s') := Lib.hid (fun s' tt h => by
            obtain ⟨⟨sE, oE⟩, hf, hfin⟩ := Option.map_eq_some_iff.1 h
            have h9 := (find8_bd ASK.out (one8 same) ch ck (C := i) (by rw [AL]; omega) 20 s (i * 2100) JJ.out.bd sE oE hf).1
            have h8 := h9.fin most ⟨g, ch, ck, cv⟩ oE
            simp only at hfin
            rw [hfin] at h8
            exact h8.mono (Nat.le_refl _) (by omega))
          clear hg1 hg4
          rcases hc : call8 (askO (one8 same) most (actL FA na)) (one8 same) most ⟨g, ch, ck, cv⟩ s with _ | ⟨s', tt⟩
          · rw [hc] at CALL
            have CL : Hid (Calls Try.prog 28 #[.pointer (some ⟨mo, 0, none⟩), .agg #[.int .i64 g, .int .i64 ch, .int .i64 ck, .int .i64 cv]] wr fun r w' => r = .returned (.tuple #[Trn.agg noTrn, .bool false]) ∧ Keeps [] w w') := Lib.hid (CALL.out.mono (fun r w' h => by
              rcases h with ⟨s', t', e, _⟩ | ⟨_, e, s', M', _, k, _⟩
              · cases e
              · exact ⟨e, JJ.out.k.then k (fun x hx => .inl (JJ.out.m.foot x hx).1)⟩))
            clear CALL BD9 hc
            unfold Trn.agg noTrn at CL
            go_wp2_with (first | (go_at_call 28; refine (CL.out).mono ?_; rintro r w3 ⟨rfl, hk⟩; have KK := Lib.hid hk; clear hk) | (go_at_call 11; refine (awake8 _).mono ?_; rintro e w' ⟨rfl, hb⟩))
            go_ret
            refine ⟨rfl, ?_⟩
            have kb := Below.keeps hb []
            exact ((KK.out.alloc _).trans kb).below (Nat.le_refl _) (by simp)
          · rw [hc] at CALL
            have CL : Hid (Calls Try.prog 28 #[.pointer (some ⟨mo, 0, none⟩), .agg #[.int .i64 g, .int .i64 ch, .int .i64 ck, .int .i64 cv]] wr fun r w' => r = .returned (.tuple #[Trn.agg tt, .bool true]) ∧ Md8 w.heap.size mo M most same (.slice pa na ca) false s' wr w') := Lib.hid (CALL.out.mono (fun r w' h => by
              rcases h with ⟨s2, t2, e, h5, h6⟩ | ⟨e, _⟩
              · cases e; exact ⟨h5, h6⟩
              · cases e))
            have BD := Lib.hid (BD9.out s' tt hc)
            have HC := Lib.hid hc
            clear CALL BD9 hc
            unfold Trn.agg at CL
            go_upto_region 13 with (go_at_call 28; refine (CL.out).mono ?_; rintro r w3 ⟨rfl, hq⟩; have QQ := Lib.hid hq; clear hq)
            refine wp_gen (fun V => V.heap[w3.heap.size]? = some (trnO tt) ∧ Keeps [] w3 V) ⟨has_new _ _, (Keeps.refl [] w3).alloc _⟩ ?_
            rintro w4 ⟨b4, k4⟩
            obtain ⟨b14, hb14⟩ := ex_hid w3.heap.size
            rw [← hb14.out] at b4 ⊢
            obtain ⟨M3, m3, km, gm⟩ := QQ.out
            have apR : ∀ x, x ∈ rlR rb db S aa → x ∉ M := fun x hx hq => JJ.out.ap x hq hx
            have R4 := Lib.hid ((JJ.out.r.keeps km apR).keeps0 k4)
            have M4 := Lib.hid (m3.keeps k4 (by simp))
            have K4 := Lib.hid (show Keeps [] w w4 from (JJ.out.k.then km (fun x hx => .inl (JJ.out.m.foot x hx).1)).trans k4)
            have AP4 := Lib.hid (show ∀ x, x ∈ M3 → x ∉ rlR rb db S aa from fun x hx hq => by
              rcases gm x hx with h | h
              · exact JJ.out.ap x h hq
              · have := (JJ.out.r.foot x hq).2; omega)
            have N14 := Lib.hid (show b14 ∉ rlR rb db S aa ∧ b14 ∉ M3 from ⟨fun hx => by have := (JJ.out.r.foot _ hx).2; have := km.size; have := hb14.out; omega, fun hx => by have := (m3.foot _ hx).2; have := hb14.out; omega⟩)
            have B4 := Lib.hid b4
            obtain ⟨c0, c1, c2, c3⟩ := HCS.out w4 K4.out
            rw [← hcg.out] at c0
            rw [← hch.out] at c1
            rw [← hck.out] at c2
            rw [← hcv.out] at c3
            have RC := Lib.hid (rcall_any8 w rb db t most same (.slice pa na ca) false (actL FA na) (askO (one8 same) most (actL FA na)) ASK.out (fun e => by cases e) (fun _ => ⟨rfl, ract_any8 w rb db t most same pa na ca FA WA.out h4⟩) i (i * 2100) (by rw [AL]; omega) (fun _ => by omega) g g1 g4 ch ck cv s s' tt HC.out S aa d w4 R4.out K4.out JJ.out.rel JJ.out.bd)
            unfold Trn.agg at RC
            clear b4 k4 m3 km gm apR
            go_upto_region 16 with (go_at_call 29; refine (RC.out).mono ?_; rintro r w5 ⟨rfl, d5, hq⟩; have RQ := Lib.hid hq; clear hq)
            refine wp_gen (fun V => V.heap[w5.heap.size]? = some (trnO tt) ∧ Keeps [] w5 V) ⟨has_new _ _, (Keeps.refl [] w5).alloc _⟩ ?_
            rintro w6 ⟨b6, k6⟩
            obtain ⟨b16, hb16⟩ := ex_hid w5.heap.size
            rw [← hb16.out] at b6 ⊢
            obtain ⟨⟨S5, a5, r5, kr, gr⟩, rel5, go5⟩ := RQ.out
            have apM : ∀ x, x ∈ M3 → x ∉ rlR rb db S aa := AP4.out
            have J6 := Lib.hid (show Both8 w rb db t mo most same (.slice pa na ca) (actL FA na) (i + 1) s' S5 a5 M3 d5 w6 from
              Both8.keeps (wr := w5) ⟨r5, M4.out.keeps kr apM, rel5, BD.out, fun x hx hq => by
                rcases gr x hq with h | h
                · exact AP4.out x hx h
                · have := (M4.out.foot x hx).2; omega, K4.out.then kr (fun x hx => .inl (R4.out.foot x hx).1)⟩ k6)
            have b14c := (kr.trans (k6.mono (by simp))).has B4.out N14.out.1
            obtain ⟨v0, v1, v2, v3, v4⟩ := trn_cells b14c
            obtain ⟨u0, u1, u2, u3, u4⟩ := trn_cells b6
            have hq := fun w => neq_trn tt tt w
            simp only [decide_true, Bool.not_true, Trn.agg] at hq
            have SAME := Lib.hid (same_any8 w.heap.size rb db t mo S5 M3 a5 most same (.slice pa na ca) (.slice pa na ca) false false d5 s' w6 J6.out.r J6.out.m J6.out.rel (by rw [J6.out.rel.v]; have := J6.out.bd.le; rw [AL] at this; omega) (by have := J6.out.bd.a; omega))
            clear b6 k6 b14c r5 kr gr rel5 go5 apM c0 c1 c2 c3 RC CL
            go_wp2_with (go_at_call 30; refine (SAME.out).mono ?_; rintro r w7 ⟨rfl, hk⟩; have K7 := Lib.hid hk; clear hk)
            go_roundw
            case rel => exact ⟨i + 1, s', S5, a5, M3, d5, by omega, by go_num, Lib.hid (J6.out.keeps K7.out)⟩
            case measure => exact meas8 hlt
    · obtain rfl : i = nl := by omega
      have hge : ¬ (i : Int) < (i : Int) := by omega
      go_wp2_with (go_at_call 11; refine (awake8 _).mono ?_; rintro e w' ⟨rfl, hb⟩)
      go_ret
      exact ⟨rfl, (JJ.out.k.trans (Below.keeps hb [])).below (Nat.le_refl _) (by simp)⟩
theorem probeModel_walk (a0 a1 : Int) (a2 : Option Addr) (len2 cap2 : Nat) (F2 : Nat → Int) (a3 : Option Addr) (len3 cap3 : Nat) (F3 : Nat → Int) (w : World) (w2 : IntRow .i64 5 w a2 len2 F2) (w3 : IntRow .i64 4 w a3 len3 F3) :
    Calls Try.prog 9 #[.int .i64 a0, .int .i64 a1, .slice a2 len2 cap2, .slice a3 len3 cap3] w fun e w' => e = .returned (.bool true) ∧ Below w.heap.size w w' := by
  by_cases h : a0 < 0 ∨ 1000 < a0 ∨ 60 < len3 ∨ 20 < len2
  · exact probeModel_early a0 a1 a2 a3 len2 cap2 len3 cap3 w h
  · exact probeModel_main a0 a1 a2 a3 len2 cap2 len3 cap3 F2 F3 w w2 w3 (by omega) (by omega) (by omega) (by omega)
end Go.Proofs.Ytcakdmapnmneoaa
