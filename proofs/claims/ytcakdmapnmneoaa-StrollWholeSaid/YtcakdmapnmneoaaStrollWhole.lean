/- StrollWhole, walked (chapter 9's laws). -/
import Derived.Test.YtcakdmapnmneoaaStrWh
namespace Go.Proofs.Ytcakdmapnmneoaa
open Go.RowKit
set_option linter.unusedVariables false
set_option linter.unusedSimpArgs false

theorem strollWhole_early (a1 a2 : Option Addr) (n1 c1 n2 c2 : Nat) (back : Bool) (w : World) (h : 150 < n1 ∨ 150 < n2) :
    Calls Try.prog 7 #[.slice a1 n1 c1, .bool back, .slice a2 n2 c2] w fun e w' => e = .returned (.bool true) ∧ Below w.heap.size w w' := by
  have hq : decide ((150 : Int) < (n1 : Int)) = true ∨ (decide ((150 : Int) < (n1 : Int)) = false ∧ decide ((150 : Int) < (n2 : Int)) = true) := by
    by_cases h1 : 150 < n1
    · left; simp; omega
    · right; simp; omega
  rcases hq with q1 | ⟨q1, q2⟩
  all_goals
    go_enter Try.func7, Try.ntmps7
    go_wp2_with (go_at_call 25; refine (awake9 _).mono ?_; rintro e w' ⟨rfl, hb⟩)
    go_ret
    exact ⟨rfl, hb⟩
set_option maxRecDepth 100000 in
set_option maxHeartbeats 8000000 in
theorem strollWhole_main (a1 a2 : Option Addr) (n1 c1 n2 c2 : Nat) (F1 F2 : Nat → Int) (back : Bool) (w : World) (h1 : n1 ≤ 150) (h2 : n2 ≤ 150) (s1 : IntRow .i64 1 w a1 n1 F1) (s2 : IntRow .i64 1 w a2 n2 F2) :
    Calls Try.prog 7 #[.slice a1 n1 c1, .bool back, .slice a2 n2 c2] w fun e w' => e = .returned (.bool true) ∧ Below w.heap.size w w' := by
  have d1 : decide ((150 : Int) < (n1 : Int)) = false := by simp; omega
  have d2 : decide ((150 : Int) < (n2 : Int)) = false := by simp; omega
  have Z1 := Lib.hid s1
  have Z2 := Lib.hid s2
  clear s1 s2
  go_enter Try.func7, Try.ntmps7
  go_wp2_with fail
  refine (filled_any a1 n1 c1 F1 w h1 Z1.out).mono ?_
  rintro r w1 ⟨db, t, S, d, rfl, hF, k1⟩
  have FI := Lib.hid hF
  have K1 := Lib.hid k1
  clear hF k1
  go_wp2_with fail
  go_loopw [9, 10] (fun l i wr => ∃ (k c : Nat) (a : Option Addr), k ≤ n1 ∧ i = .int .i64 k ∧ l = .slice a k c ∧ ValRow 3 w1.heap.size a k c (intV fun i => 5 * i) wr ∧ Keeps [] w1 wr) (fun _ i _ => n1 - (intOf i).toNat)
  case atStart => exact ⟨0, 0, none, by omega, rfl, rfl, ValRow.nil _ _ _ _, Keeps.refl _ _⟩
  case round =>
    obtain ⟨k, c, a, hk, rfl, rfl, hR, hK⟩ := hrel
    have hk0 : (0 : Int) ≤ (k : Int) := by omega
    have HR := Lib.hid hR
    have HK := Lib.hid hK
    by_cases hlt : k < n1
    · have hlt' : (k : Int) < (n1 : Int) := by omega
      have hk5 : (k : Int) ≤ 150 := by omega
      have k2 : Keeps [] wr (wr.alloc (.cells #[.int .i64 (5 * k)] 3)) := (Keeps.refl [] wr).alloc _
      obtain ⟨g, cap, w3, hrun, r1, r2, r3, r4⟩ := int_app9 w1.heap.size a c k (intV fun i => 5 * i) (5 * k) _ wr.heap.size (hR.keeps k2 (by simp)) (has_new _ _) (by omega) (by have := hK.size; have := k2.size; omega)
      have R3 := Lib.hid r1
      have K3 := Lib.hid ((hK.trans k2).then r2 (by intro y hy; exact .inl (hR.blk_lt y hy).1))
      have HRun := Lib.hid hrun
      clear hR hK k2 r1 r2 r3 r4 hrun
      go_wp2_with (at_builtin; refine wpList_append_run rfl _ _ 22 rfl _ _ rfl rfl _ _ HRun.out ?_)
      go_roundw
      case rel =>
        refine ⟨k + 1, cap, some ⟨g, 0, none⟩, by omega, by go_num, by simp, ?_, K3.out⟩
        exact R3.out.congr (fun j hj => by
          unfold putV intV
          split
          · rename_i e; rw [e]
          · rfl)
      case measure => simp [intOf]; omega
    · obtain rfl : k = n1 := by omega
      have hge : ¬ (k : Int) < (k : Int) := by omega
      clear hR hK
      have FI2 := Lib.hid (FI.out.keeps HK.out)
      go_wp2_with fail
      refine (snew_any db t w.heap.size S (mV none) d back wr FI2.out.dic (by have := FI2.out.ok.t.ek; omega) (by have := FI2.out.ok.v; omega)).mono ?_
      rintro r w4 ⟨b, Fs, rfl, s4, k4⟩
      have zz := K1.out.size
      have z4 := HK.out.size
      have hf := FI2.out.dic.foot9
      have hf1 := FI.out.dic.foot9
      have hrl := HR.out.blk_lt
      have WI := Lib.hid (show WhoI F1 (fun i => 5 * i) k k 0 back db t w.heap.size b a c S Fs d (newS db d back) w4 from
        ⟨FI2.out.keeps k4, s4.mono (by omega), StrI.new FI2.out.run FI2.out.ok (by omega) back, (HR.out.mono zz).keeps k4 (by simp), fun e => by have := (s4.lo _ e).1; have := (hf db (by simp)).2; omega, fun x hx e => by have := (s4.lo _ e).1; have := (hf x (by simp [hx])).2; omega,
          fun x hx e => by have := (s4.lo _ e).1; have := (hrl x hx).2; omega, fun x hx e => by have := (hrl x hx).1; have := (hf1 x e).2; omega⟩)
      have K4 := Lib.hid ((K1.out.trans HK.out).trans k4)
      clear s4 k4 zz z4 hf hf1 hrl
      obtain ⟨W5, hW5⟩ : ∃ x, x = w4 := ⟨_, rfl⟩
      subst hW5
      have hlo : w.heap.size ≤ W5.heap.size := K4.out.size
      go_wp2_with fail
      go_loopw [12] (fun i wx => ∃ (m kk : Nat) (V : Nat → Int) (d : Dic) (s : Str) (S Fs : List Nat), m ≤ k ∧ kk ≤ k + m ∧ i = .int .i64 m ∧ WhoI F1 V k kk m back db t w.heap.size b a c S Fs d s wx ∧ Keeps [] w wx) (fun i _ => k - (intOf i).toNat)
      case atStart => exact ⟨0, k, _, d, _, S, Fs, by omega, by omega, rfl, WI.out, K4.out⟩
      case round =>
        obtain ⟨m, kk, V, d, s, S, Fs, hm, hkk, rfl, hW, hK5⟩ := hrel
        have hm0 : (0 : Int) ≤ (m : Int) := by omega
        have HW := Lib.hid hW
        have HK5 := Lib.hid hK5
        clear hW hK5 WI K4 FI FI2 HK HR K1
        by_cases hlt2 : m < k
        · have hlt' : (m : Int) < (k : Int) := by omega
          obtain ⟨g, rfl⟩ := HW.out.row.shape (by omega)
          rcases Z1.out with h0 | ⟨b1, off1, rfl, hb11, hb12, hcl1⟩
          · omega
          have HC1 := Lib.hid hcl1
          clear hcl1
          obtain ⟨tb, htb⟩ : ∃ tb, Hid (tb = decide (m < n2 ∧ 0 ≤ F2 m)) := ⟨_, Lib.hid rfl⟩
          go_upto_region 17 with (fail)
          go_cut [67] from 51 to 120 (fun y wx => wx = wr ∧ y = .bool tb)
          case first =>
            by_cases hm2 : m < n2
            · have ht1 : (m : Int) < (n2 : Int) := by omega
              rcases Z2.out with h0 | ⟨b2, off2, rfl, hb21, hb22, hcl2⟩
              · omega
              obtain ⟨y0, hy0⟩ := ex_hid (F2 m)
              have q0 : wr.cell? ⟨b2, off2 + m, none⟩ = some (.int .i64 y0) := by rw [hy0.out]; exact HK5.out.cell (hcl2 m (by omega)).1 (by simp)
              have HTB := Lib.hid (show tb = decide (0 ≤ y0) by rw [htb.out, hy0.out]; simp [hm2])
              clear hcl2 htb
              go_wp2_with fail
              go_meet
              exact ⟨rfl, by rw [HTB.out]⟩
            · have ht1 : ¬ (m : Int) < (n2 : Int) := by omega
              have HTB := Lib.hid (show tb = false by rw [htb.out]; simp [hm2])
              clear htb
              go_wp2_with fail
              go_meet
              exact ⟨rfl, by rw [HTB.out]⟩
          case rest =>
            obtain ⟨rfl, rfl⟩ := hcut
            obtain ⟨W6, hW6⟩ : ∃ x, x = wc := ⟨_, rfl⟩
            subst hW6
            go_upto_if 67 with (fail)
            go_cut [13] from 51 to 120 (fun y wx => ∃ (kk' : Nat) (V' : Nat → Int) (d' : Dic) (S' : List Nat), kk' ≤ k + m + 1 ∧ WhoI F1 V' k kk' m back db t w.heap.size b (some ⟨g, 0, none⟩) c S' Fs d' s wx ∧ Keeps [] w wx)
            case first =>
              have hq := htb.out
              have HTB := Lib.hid htb.out
              clear htb
              cases tb
              · clear hq
                go_wp2_with fail
                go_meet
                exact ⟨kk, V, d, S, by omega, HW.out, HK5.out⟩
              · obtain ⟨hm2, hy⟩ := of_decide_eq_true hq.symm
                obtain ⟨y, hy⟩ : ∃ y : Nat, F2 m = (y : Int) := ⟨(F2 m).toNat, by omega⟩
                have ht1 : (m : Int) < (n2 : Int) := by omega
                rcases Z2.out with h0 | ⟨b2, off2, rfl, hb21, hb22, hcl2⟩
                · omega
                have q0 : W6.cell? ⟨b2, off2 + m, none⟩ = some (.int .i64 y) := by rw [← hy]; exact HK5.out.cell (hcl2 m (by omega)).1 (by simp)
                obtain ⟨x, hx⟩ : ∃ x, x = y % k := ⟨_, rfl⟩
                have hxk : x < k := by rw [hx]; exact Nat.mod_lt _ (by omega)
                have ex : (y : Int) % (k : Int) = (x : Int) := by rw [hx]; rfl
                have hx0 : (0 : Int) ≤ (x : Int) := by omega
                have hx1 : (x : Int) < (k : Int) := by omega
                have hk0 : ((k : Int) == 0) = false := by simp; omega
                have g0 : W6.cell? ⟨g, x, none⟩ = some (.int .i64 (V x)) := HW.out.row.cell hxk
                have gf := HW.out.row.free x
                have hm150 : (m : Int) ≤ 150 := by omega
                obtain ⟨f, hf⟩ := ex_hid (F1 x)
                have b0 : W6.cell? ⟨b1, off1 + x, none⟩ = some (.int .i64 f) := by rw [hf.out]; exact HK5.out.cell (HC1.out x (by omega)).1 (by simp)
                have hgb : g ≠ b1 := fun e => by have := (HW.out.row.blk_lt g (by simp [blk])).1; omega
                clear hx hcl2 hq hy
                go_upto_region 19 with (fail)
                rw [ex]
                clear ex q0
                go_upto_region 20 with (fail)
                obtain ⟨vm, hvm⟩ : ∃ vm : Int, vm = 1000 + (m : Int) := ⟨_, rfl⟩
                rw [← hvm]
                obtain ⟨W7, hW7⟩ : ∃ W7, W6.setCell ⟨g, x, none⟩ (.int .i64 vm) = W7 := ⟨_, rfl⟩
                have kg : Keeps [g] W6 W7 := by rw [← hW7]; exact (Keeps.refl [g] W6).setCell (p := ⟨g, x, none⟩) (.inr (by simp)) _
                have r7 : ValRow 3 w.heap.size (some ⟨g, 0, none⟩) k c (intV (putI V x vm)) W7 := by
                  rw [← hW7]
                  exact (HW.out.row.put x (.int .i64 vm)).congr (fun j hj => by unfold putV intV putI; split <;> rfl)
                have g7 : W7.cell? ⟨g, x, none⟩ = some (.int .i64 vm) := by have := r7.cell hxk; simpa [intV, putI] using this
                have b7 := kg.cell b0 (by simp; exact fun e => hgb e.symm)
                have hgS : g ∉ db :: S := HW.out.j4 g (by simp [blk])
                have DW := Lib.hid (HW.out.fil.dic.keeps kg (by simp; intro e; exact hgS (by simp [e])) (fun z hz e => by simp at e; subst e; exact hgS (by simp [hz])))
                obtain ⟨e, r1, r2, r3, r4⟩ := HW.out.fil.run.put hxk vm
                rw [← hf.out] at r1 r2 r3 r4
                have R1 := Lib.hid r1
                have R2 := Lib.hid r2
                have R3 := Lib.hid r3
                have R4 := Lib.hid r4
                have HW7 := Lib.hid hW7
                have KG := Lib.hid kg
                have HB1 := Lib.hid (show b1 ∉ db :: S from fun h9 => by have := (HW.out.fil.dic.foot9 b1 h9).1; omega)
                have HGS := Lib.hid hgS
                have HXK := Lib.hid hxk
                rw [hW7]
                clear hW7 kg r7 b0 g0 gf hgS hvm r1 r2 r3 r4 hxk hgb
                go_region_held3 (fun w' => w'.cell? ⟨b1, off1 + x, none⟩ = some (.int .i64 f) ∧ w'.cell? ⟨g, x, none⟩ = some (.int .i64 vm)) (go_keep)
                  (first
                    | (go_at_call 27; refine (put9_any kk (by omega) db t w.heap.size S d f x vm (some e) W7.drew (DW.out.keeps (Keeps.refl [] W7).drew (by simp) (by simp)) HW.out.fil.ok R1.out).mono ?_; rintro r w8 ⟨S8, rfl, d8, k8, gr8⟩; have j1 := k8.cell (w := W7.drew) b7 HB1.out; have j2 := k8.cell (w := W7.drew) g7 HGS.out; rw [R3.out]))
                go_wp2_with fail
                go_meet
                have WN := HW.out.put HXK.out vm (by omega) rfl (by rw [← hf.out]; exact R2.out) (by rw [← hf.out]; exact R4.out) (by rw [HW7.out]; exact (Keeps.undrew k8)) (by rw [← hf.out]; exact d8) (by rw [HW7.out]; exact gr8)
                refine ⟨kk + 1, _, _, S8, by omega, WN, (HK5.out.then KG.out (fun z hz => by simp at hz; subst hz; exact .inl (HW.out.row.blk_lt _ (by simp [blk])).1)).then (Keeps.undrew k8) (fun z hz => .inl (HW.out.fil.dic.foot9 z hz).1)⟩
            case rest =>
              obtain ⟨kk', V', d', S', hkk', hw', hk'⟩ := hcut
              have HW8 := Lib.hid hw'
              have HK8 := Lib.hid hk'
              obtain ⟨W8, hW8⟩ : ∃ x, x = wc := ⟨_, rfl⟩
              subst hW8
              clear hw' hk' HW HK5 htb
              obtain ⟨p, hp⟩ := ex_hid (if back = true then k - 1 - m else m)
              have hpk : p < k := by rw [hp.out]; split <;> omega
              go_upto_if 93 with (fail)
              go_cut [14] from 51 to 120 (fun y wx => wx = W8 ∧ y = .int .i64 p)
              case first =>
                have hpo := hp.out
                cases back
                · have ep : p = m := by simpa using hpo
                  have EP := Lib.hid ep
                  clear hpo ep hp
                  go_wp2_with fail
                  go_meet
                  exact ⟨rfl, by rw [EP.out]⟩
                · have ep : (k : Int) - 1 - (m : Int) = (p : Int) := by simp at hpo; omega
                  clear hpo hp
                  go_wp2_with fail
                  go_meet
                  exact ⟨rfl, rfl⟩
              case rest =>
                obtain ⟨rfl, rfl⟩ := hcut
                obtain ⟨W9, hW9⟩ : ∃ x, x = wc := ⟨_, rfl⟩
                subst hW9
                obtain ⟨e1, e2, _⟩ := HW8.out.si.next HW8.out.fil.run hlt2 HW8.out.fil.ok (by omega)
                rw [← hp.out] at e2
                have E1 := Lib.hid e1
                have E2 := Lib.hid e2
                clear e1 e2
                go_wp2_with fail
                refine (snext_any kk' (by omega) db t w.heap.size w.heap.size b S' Fs (mV none) d' s W9 HW8.out.fil.dic HW8.out.str HW8.out.si.dp HW8.out.fil.ok HW8.out.fil.run.o HW8.out.si.ok ⟨HW8.out.j1, HW8.out.j2⟩).mono ?_
                rintro r w10 ⟨F10, rfl, s10, g10, k10⟩
                rw [E1.out, E2.out]
                have WN := Lib.hid (HW8.out.next hlt2 (by omega) s10 g10 k10)
                have K10 := Lib.hid (HK8.out.then k10 (fun z hz => by
                  have h5 := HW8.out.str.five
                  have h6 := HW8.out.str.lo
                  simp at hz
                  rcases hz with rfl | rfl | rfl
                  · exact .inl (h6 _ (h5 0 (by omega))).1
                  · exact .inl (h6 _ (h5 2 (by omega))).1
                  · exact .inl (h6 _ (h5 3 (by omega))).1))
                clear s10 g10 k10
                obtain ⟨f, hf⟩ := ex_hid (F1 p)
                obtain ⟨v, hv⟩ := ex_hid (V' p)
                have hE : entI F1 V' p = ⟨true, f, p, v, p⟩ := by unfold entI; rw [hf.out, hv.out]
                rw [hE]
                unfold Ent.agg
                simp only
                go_upto_region 26 with (fail)
                refine wp_gen (fun V => V.heap[w10.heap.size]? = some (ent9 ⟨true, f, p, v, p⟩) ∧ Keeps [] w10 V) ⟨has_new _ _, (Keeps.refl [] w10).alloc _⟩ ?_
                rintro W11 ⟨b11, k11⟩
                have WX := Lib.hid (WN.out.keeps k11)
                have K11 := Lib.hid (K10.out.trans k11)
                obtain ⟨lr, hlr⟩ := ex_hid w10.heap.size
                rw [← hlr.out] at b11 ⊢
                obtain ⟨t0, t1, t2, t3, t4⟩ := ent9_cells b11
                have c1 : W11.cell? ⟨b1, off1 + p, none⟩ = some (.int .i64 f) := by rw [hf.out]; exact K11.out.cell (HC1.out p (by omega)).1 (by simp)
                have c2 : W11.cell? ⟨g, p, none⟩ = some (.int .i64 v) := by rw [hv.out]; exact WX.out.row.cell hpk
                have hneq : ∀ W : World, (binOp .neq 36 (.agg #[.bool true, .int .i64 f, .int .i64 p, .int .i64 v, .int .i64 p]) (.agg #[.bool true, .int .i64 f, .int .i64 p, .int .i64 v, .int .i64 p])).run Try.prog W = .ok (.bool false) W := fun W => by
                  have := neq_ent ⟨true, f, p, v, p⟩ ⟨true, f, p, v, p⟩ W
                  simpa [Ent.agg] using this
                have hp0 : (0 : Int) ≤ (p : Int) := by omega
                have hp1 : (p : Int) < (k : Int) := by omega
                simp only at t0 t1 t2 t3 t4
                clear b11 k11 hE
                go_region_held3 (fun w' => w'.cell? ⟨lr, 0, none⟩ = some (.bool true) ∧ w'.cell? ⟨lr, 1, none⟩ = some (.int .i64 f) ∧ w'.cell? ⟨lr, 2, none⟩ = some (.int .i64 p) ∧ w'.cell? ⟨lr, 3, none⟩ = some (.int .i64 v) ∧ w'.cell? ⟨lr, 4, none⟩ = some (.int .i64 p) ∧ w'.cell? ⟨b1, off1 + p, none⟩ = some (.int .i64 f) ∧ w'.cell? ⟨g, p, none⟩ = some (.int .i64 v)) (go_keep) (fail)
                have WY := Lib.hid (WX.out.keeps (Keeps.refl [] W11).drew)
                have K12 := Lib.hid (K11.out.trans (Keeps.refl [] W11).drew)
                obtain ⟨W12, hW12⟩ : ∃ W12, W11.drew = W12 := ⟨_, rfl⟩
                rw [hW12] at WY K12 ⊢
                clear hneq t0 t1 t2 t3 t4 c1 c2
                go_wp2_with fail
                go_roundw
                case rel => exact ⟨m + 1, kk', V', d', _, S', F10, by omega, by omega, by go_num, WY.out, K12.out⟩
                case measure => simp [intOf]; omega
        · obtain rfl : m = k := by omega
          have hge2 : ¬ (m : Int) < (m : Int) := by omega
          obtain ⟨e1, e2⟩ := HW.out.si.end_ HW.out.fil.run
          have E1 := Lib.hid e1
          have E2 := Lib.hid e2
          clear e1 e2
          go_wp2_with fail
          refine (snext_any kk (by omega) db t w.heap.size w.heap.size b S Fs (mV none) d s wr HW.out.fil.dic HW.out.str HW.out.si.dp HW.out.fil.ok HW.out.fil.run.o HW.out.si.ok ⟨HW.out.j1, HW.out.j2⟩).mono ?_
          rintro r w10 ⟨F10, rfl, s10, g10, k10⟩
          rw [E1.out]
          have hin : ∀ z, z ∈ [b, b + 2, b + 3] → z ∈ Fs := fun z hz => by
            have h5 := HW.out.str.five
            simp at hz
            rcases hz with rfl | rfl | rfl
            · exact h5 0 (by omega)
            · exact h5 2 (by omega)
            · exact h5 3 (by omega)
          have K10 := Lib.hid (HK5.out.then k10 (fun z hz => .inl (HW.out.str.lo z (hin z hz)).1))
          have D10 := Lib.hid (HW.out.fil.dic.keeps k10 (fun h => HW.out.j1 (hin _ h)) (fun z hz h => HW.out.j2 z hz (hin _ h)))
          have S10 := Lib.hid s10
          have G10 := Lib.hid g10
          obtain ⟨z, hz⟩ := ex_hid (strX d s)
          rw [← hz.out]
          clear s10 g10 k10 hin
          unfold Ent.agg
          go_upto_region 29 with (fail)
          refine wp_gen (fun V => Keeps [] w10 V) ((Keeps.refl [] w10).alloc _) ?_
          rintro W11 k11
          have D11 := Lib.hid (D10.out.keeps k11 (by simp) (by simp))
          have S11 := Lib.hid (S10.out.keeps k11 (by simp))
          have K11 := Lib.hid (K10.out.trans k11)
          clear k11
          go_wp2_with fail
          refine (put9_any kk (by omega) db t w.heap.size S d 3 5000 1 none W11 D11.out HW.out.fil.ok (HW.out.fil.run.absent 2 3 5000 1 (.inr (by omega)))).mono ?_
          rintro r w12 ⟨S12, rfl, d12, k12, _⟩
          rw [show (finT d (newM 2 3 5000 1) none).kind = 2 from (live_add 3 5000 1 (HW.out.fil.run.full (by omega))).2.2.2.2]
          have S12' := Lib.hid (S11.out.keeps k12 (fun y hy h => by
            have hl := HW.out.fil.dic.foot9 y h
            rcases G10.out y hy with h1 | h1
            · simp only [List.mem_cons] at h
              rcases h with rfl | h
              · exact HW.out.j1 h1
              · exact HW.out.j2 y h h1
            · omega))
          have K12 := Lib.hid (K11.out.then k12 (fun y hy => .inl (HW.out.fil.dic.foot9 y hy).1))
          clear d12 k12
          go_wp2_with fail
          refine (snext_over w.heap.size b F10 (strN d s) w12 S12'.out E2.out).mono ?_
          rintro r w13 ⟨rfl, k13⟩
          have K13 := Lib.hid (K12.out.trans k13)
          clear k13
          unfold Ent.agg noE
          go_wp2_with (go_at_call 25; refine (awake9 _).mono ?_; rintro e w14 ⟨rfl, hb⟩)
          go_ret
          exact ⟨rfl, (K13.out.trans (Below.keeps hb [])).below (Nat.le_refl _) (by simp)⟩
theorem strollWhole_walk (a0 : Option Addr) (len0 cap0 : Nat) (F0 : Nat → Int) (a1 : Bool) (a2 : Option Addr) (len2 cap2 : Nat) (F2 : Nat → Int) (w : World) (w0 : IntRow .i64 1 w a0 len0 F0) (w2 : IntRow .i64 1 w a2 len2 F2) :
    Calls Try.prog 7 #[.slice a0 len0 cap0, .bool a1, .slice a2 len2 cap2] w fun e w' => e = .returned (.bool true) ∧ Below w.heap.size w w' := by
  by_cases h : 150 < len0 ∨ 150 < len2
  · exact strollWhole_early a0 a2 len0 cap0 len2 cap2 a1 w h
  · exact strollWhole_main a0 a2 len0 cap0 len2 cap2 F0 F2 a1 w (by omega) (by omega) w0 w2
end Go.Proofs.Ytcakdmapnmneoaa
