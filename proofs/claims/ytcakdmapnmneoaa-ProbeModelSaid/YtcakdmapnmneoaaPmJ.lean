/- ProbeModel: the real one's call, whoever is asked (chapter 8's laws). -/
import Derived.Test.YtcakdmapnmneoaaPmI
namespace Go.Proofs.Ytcakdmapnmneoaa
open Go.RowKit
set_option linter.unusedVariables false
set_option linter.unusedSimpArgs false

/-- Ahead of a Step. -/
structure RCS (w0 : World) (rb db t mb : Nat) (most same : Int) (acv : Value) (inner : Bool) (acts : List Ac8) (ask : Ms8 → Int → Ms8) (C B : Nat) (c : Ca8) (R0 : List Nat) (w2 : World) (d0 : Dic) (res : Option (Ms8 × Option Nat)) (n N t1 : Nat) (d1 : Dic) (q : Mac) (s1 : Ms8) (S1 : List Nat) (aa1 : Option Addr) (sb : Nat) (wr : World) : Prop where
  r : RlS w0.heap.size rb db t S1 aa1 same acv inner d1 s1.A wr
  m : MSt mb sb db t w0.heap.size S1 d1 q wr
  p : Pos8 ask (one8 same) N t1 d1 q s1 res
  rel : Rel8 most d1 s1
  bd : Bd8 acts C (B + n) s1
  fo : For8 c q
  sc : q.scans ≤ n
  go : Goes8 d0 d1
  k : Keeps (mb :: R0) w2 wr
  g : Grew R0 w2 (rlR rb db S1 aa1)
  sbl : q.st ≠ 0 → w2.heap.size ≤ sb
theorem scans_step (d : Dic) (q : Mac) : (stepM d q).scans ≤ q.scans + 1 := by
  have hs : ∀ q : Mac, (scanM d q).scans = q.scans := fun q => by
    unfold scanM; simp only; split
    · rfl
    · split <;> rfl
  unfold stepM
  split
  · omega
  · split
    · rw [hs]; exact Nat.le_refl _
    · split
      · show q.scans ≤ _; omega
      · rw [hs]; omega
theorem seek_seek {q : Mac} {b : Bool} (h : (tellM q b).st ≠ 0) : q.st ≠ 0 := by
  unfold tellM at h
  split at h
  · omega
  · exact h
theorem tell_for {c : Ca8} {q : Mac} (h : For8 c q) (b : Bool) : For8 c (tellM q b) := by
  unfold tellM
  split
  · exact ⟨h.g, h.h, h.k, h.v⟩
  · exact h
/-- All frames behind a Step. -/
theorem RCS.stepped {w0 : World} {rb db t mb : Nat} {most same : Int} {acv : Value} {inner : Bool} {acts : List Ac8} {ask : Ms8 → Int → Ms8} {C B : Nat} {c : Ca8} {R0 : List Nat} {w2 : World} {d0 : Dic} {res : Option (Ms8 × Option Nat)} {n N t1 : Nat} {d1 : Dic} {q : Mac} {s1 : Ms8} {S1 : List Nat} {aa1 : Option Addr} {sb : Nat} {wr w3 : World}
    (J : RCS w0 rb db t mb most same acv inner acts ask C B c R0 w2 d0 res n N t1 d1 q s1 S1 aa1 sb wr) {S3 : List Nat} {sb3 : Nat} (k3 : Keeps (feet mb sb db S1 q) wr w3) (g3 : Grew S1 wr S3) (l3 : (sb3 = sb ∧ q.st ≠ 0) ∨ wr.heap.size ≤ sb3) :
    Keeps (mb :: R0) w2 w3 ∧ Grew R0 w2 (rlR rb db S3 aa1) ∧ w2.heap.size ≤ sb3 := by
  have hz := J.k.size
  refine ⟨J.k.then k3 (fun x hx => ?_), fun x hx => ?_, ?_⟩
  · unfold feet skS at hx
    simp only [List.mem_cons, List.mem_append] at hx ⊢
    rcases hx with rfl | rfl | hx | hx
    · exact .inr (.inl rfl)
    · rcases J.g x (by simp [rlR]) with h | h
      · exact .inr (.inr h)
      · exact .inl h
    · split at hx
      · simp at hx
      · rename_i hs
        simp at hx; subst hx
        exact .inl (J.sbl hs)
    · rcases J.g x (by simp [rlR, hx]) with h | h
      · exact .inr (.inr h)
      · exact .inl h
  · unfold rlR at hx
    simp only [List.mem_cons, List.mem_append] at hx
    rcases hx with rfl | rfl | hx | hx
    · exact J.g x (by simp [rlR])
    · exact J.g x (by simp [rlR])
    · rcases g3 x hx with h | h
      · exact J.g x (by simp [rlR, h])
      · exact .inr (by omega)
    · exact J.g x (by simp [rlR, hx])
  · rcases l3 with ⟨h, h2⟩ | h
    · rw [h]; exact J.sbl h2
    · omega
set_option maxRecDepth 100000 in
set_option maxHeartbeats 16000000 in
theorem rcall_any8 (w0 : World) (rb db t : Nat) (most same : Int) (acv : Value) (inner : Bool) (acts : List Ac8) (ask : Ms8 → Int → Ms8) (A : Asks8 acts ask)
    (hin : inner = true → ask = askIn) (hout : inner = false → ask = askO (one8 same) most acts ∧ ActR w0 rb db t most same acv acts)
    (C B : Nat) (hC : C + 2 * acts.length ≤ 100) (hB : inner = false → B + 2100 ≤ 900000) (g : Nat) (h1 : 1 ≤ g) (h4 : g ≤ 4) (ch ck cv : Int) (s s' : Ms8) (tt : Trn) (hres : call8 ask (one8 same) most ⟨g, ch, ck, cv⟩ s = some (s', tt))
    (S : List Nat) (aa : Option Addr) (d : Dic) (w : World) (H : RlS w0.heap.size rb db t S aa same acv inner d s.A w) (K0 : Keeps [] w0 w) (hR : Rel8 most d s) (hb : Bd8 acts C B s) :
    Calls Try.prog 29 #[.pointer (some ⟨rb, 0, none⟩), .agg #[.int .i64 g, .int .i64 ch, .int .i64 ck, .int .i64 cv]] w fun r w' => r = .returned (.tuple #[Trn.agg tt, .bool true]) ∧ ∃ d', Rl8 w0.heap.size rb db t S aa same acv inner d' s'.A w w' ∧ Rel8 most d' s' ∧ Goes8 d d' := by
  have HM := Lib.hid H
  have HK0 := Lib.hid K0
  have HBD := Lib.hid hb
  have AA := Lib.hid A
  have HIN := Lib.hid hin
  have HOUT := Lib.hid hout
  have HREL := Lib.hid hR
  obtain ⟨⟨sE, oE⟩, hf, hfin⟩ := Option.map_eq_some_iff.1 hres
  simp only at hf hfin
  obtain ⟨res, hrs⟩ := ex_hid (find8 ask (one8 same) ch ck 20 s)
  have HE := Lib.hid (show res = some (sE, oE) from hrs.out.trans hf)
  have HFIN := Lib.hid hfin
  have FB := Lib.hid (find8_bd A (one8 same) ch ck (C := C) (by omega) 20 s B hb sE oE hf).1
  have SA := Lib.hid (show s'.A = sE.A from by have := (fin8_same most ⟨g, ch, ck, cv⟩ sE oE).2.1; rw [hfin] at this; exact this)
  obtain ⟨R0, hR0⟩ := ex_hid (rlR rb db S aa)
  obtain ⟨ac, hrb, hrow⟩ := H.b
  have HRB := Lib.hid hrb
  clear H K0 hb A hin hout hR hf hfin hres hrow hrb
  go_enter Try.func29, Try.ntmps29
  go_upto_region 1 with (fail)
  refine wp_gen (fun V => V.heap[w.heap.size]? = some (callO ⟨g, ch, ck, cv⟩) ∧ V.heap[w.heap.size + 1]? = some (trnO noTrn) ∧ Keeps [] w V) ⟨has_alloc (has_new _ _) _, has_new' _ _ (by simp), ((Keeps.refl [] w).alloc _).alloc _⟩ ?_
  rintro w1 ⟨b1, t1, k1⟩
  obtain ⟨bx, hbx⟩ := ex_hid w.heap.size
  obtain ⟨tb, htb⟩ := ex_hid (w.heap.size + 1)
  rw [← htb.out] at t1 ⊢
  rw [← hbx.out] at b1 ⊢
  have B1 := Lib.hid b1
  have T1 := Lib.hid t1
  have K1 := Lib.hid k1
  have LW := Lib.hid (show w.heap.size ≤ bx ∧ w.heap.size ≤ tb from by have := hbx.out; have := htb.out; omega)
  have HD1 := Lib.hid (HM.out.keeps0 k1).d
  have x0 : w1.cell? ⟨bx, 0, none⟩ = some (.int .i64 g) := cell_has b1 (i := 0) rfl
  have x1 : w1.cell? ⟨bx, 1, none⟩ = some (.int .i64 ch) := cell_has b1 (i := 1) rfl
  have x2 : w1.cell? ⟨bx, 2, none⟩ = some (.int .i64 ck) := cell_has b1 (i := 2) rfl
  have x3 : w1.cell? ⟨bx, 3, none⟩ = some (.int .i64 cv) := cell_has b1 (i := 3) rfl
  have y0 : w1.cell? ⟨rb, 0, none⟩ = some (.pointer (some ⟨db, 0, none⟩)) := cell_has (k1.has HRB.out (by simp)) (i := 0) rfl
  clear b1 t1 k1
  go_region_held3 (fun w' => w'.cell? ⟨rb, 0, none⟩ = some (.pointer (some ⟨db, 0, none⟩)) ∧ w'.cell? ⟨bx, 0, none⟩ = some (.int .i64 g) ∧ w'.cell? ⟨bx, 1, none⟩ = some (.int .i64 ch) ∧ w'.cell? ⟨bx, 2, none⟩ = some (.int .i64 ck) ∧ w'.cell? ⟨bx, 3, none⟩ = some (.int .i64 cv)) (go_keep)
    (first | (go_at_call 13; refine (begin_one db t w0.heap.size S d g ch ck cv w1.drew h1 h4 (HD1.out.keeps (Keeps.refl [] w1).drew (by simp) (by simp))).mono ?_; rintro r w2 ⟨mb, rfl, d2, m2, l2, k2⟩; have j0 := k2.cell (w := w1.drew) y0 (by simp); have j1 := k2.cell (w := w1.drew) x0 (by simp); have j2 := k2.cell (w := w1.drew) x1 (by simp); have j3 := k2.cell (w := w1.drew) x2 (by simp); have j4 := k2.cell (w := w1.drew) x3 (by simp)))
  have k12 : Keeps [] w1 w2 := ((Keeps.refl [] w1).drew).trans k2
  have K12 := Lib.hid k12
  have l2' : w1.heap.size ≤ mb := l2
  have HR2 := Lib.hid (HM.out.keeps0 (K1.out.trans k12))
  have KW2 := Lib.hid (K1.out.trans k12)
  have HM2 := Lib.hid (m2 mb)
  have MLT := Lib.hid (m2 mb).mb_lt
  have J0 := Lib.hid (show RCS w0 rb db t mb most same acv inner acts ask C B ⟨g, ch, ck, cv⟩ R0 w2 d res 0 19 0 d (newM g ch ck cv) s S aa mb w2 from ⟨HR2.out, HM2.out, by rw [hrs.out]; exact Pos8.begin_ ask (one8 same) d g ch ck cv s, HREL.out, HBD.out, ⟨rfl, rfl, rfl, rfl⟩, Nat.zero_le _, Goes8.refl d, Keeps.refl _ _, fun x hx => .inl (by rw [hR0.out]; exact hx), fun h => absurd rfl h⟩)
  have B2 := Lib.hid (k12.has B1.out (by simp))
  have T2 := Lib.hid (k12.has T1.out (by simp))
  have LB := Lib.hid (show bx < w1.heap.size ∧ tb < w1.heap.size from ⟨lt_of_block B1.out, lt_of_block T1.out⟩)
  have ZW : Hid (w.heap.size ≤ w1.heap.size ∧ w1.heap.size ≤ w2.heap.size ∧ w1.heap.size ≤ mb) := Lib.hid ⟨K1.out.size, k12.size, l2'⟩
  -- what is the caller's own stays
  have OWN : Hid (∀ W, Keeps (mb :: R0) w2 W → W.heap[bx]? = some (callO ⟨g, ch, ck, cv⟩) ∧ W.heap[tb]? = some (trnO noTrn)) := Lib.hid (fun W k => by
    have hb0 : ∀ x, x = bx ∨ x = tb → x ∉ mb :: R0 := fun x hx hq => by
      have hl : w.heap.size ≤ x ∧ x < w1.heap.size := by rcases hx with rfl | rfl; exact ⟨LW.out.1, LB.out.1⟩; exact ⟨LW.out.2, LB.out.2⟩
      simp only [List.mem_cons] at hq
      rcases hq with hq | hq
      · have := ZW.out.2.2; omega
      · rw [hR0.out] at hq; have := (HM.out.foot x hq).2; omega
    exact ⟨k.has B2.out (hb0 _ (.inl rfl)), k.has T2.out (hb0 _ (.inr rfl))⟩)
  have K02 : Hid (∀ W, Keeps (mb :: R0) w2 W → Keeps [] w0 W) := Lib.hid (fun W k => (HK0.out.trans KW2.out).then k (fun x hx => by
    simp only [List.mem_cons] at hx
    have hz := HK0.out.size
    rcases hx with rfl | hx
    · have := ZW.out; exact .inl (by omega)
    · rw [hR0.out] at hx; exact .inl (HM.out.foot x hx).1))
  clear k2 d2 m2 l2 l2' k12 x0 x1 x2 x3 y0 j0 j1 j2 j3 j4 HRB
  have hfc := field_cells
  go_wp2_with fail
  go_loopw [7] (fun z7 wr => ∃ (n N t1 : Nat) (d1 : Dic) (q : Mac) (s1 : Ms8) (S1 : List Nat) (aa1 : Option Addr) (sb : Nat), z7 = .int .i64 n ∧ N ≤ 19 ∧ t1 ≤ 100 ∧ n ≤ (19 - N) * 101 + t1 ∧ Hid (RCS w0 rb db t mb most same acv inner acts ask C B ⟨g, ch, ck, cv⟩ R0 w2 d res n N t1 d1 q s1 S1 aa1 sb wr)) (fun z7 _ => 9000 - (intOf z7).toNat)
  case atStart => exact ⟨0, 19, 0, d, newM g ch ck cv, s, S, aa, mb, rfl, by omega, by omega, by omega, J0⟩
  case round =>
    obtain ⟨n, N, t1, d1, q, s1, S1, aa1, sb, rfl, hN, ht1, hn, JJ⟩ := hrel
    clear J0
    have n0 : (0 : Int) ≤ (n : Int) := by omega
    have n9 : (n : Int) < 9000 := by omega
    have hver : d1.ver ≤ 100 := by rw [JJ.out.rel.v]; have := JJ.out.bd.le; omega
    have HVER := Lib.hid hver
    obtain ⟨F9, W9⟩ := Pos8.step JJ.out.rel (by omega) JJ.out.fo JJ.out.m.o JJ.out.p
    have FO := Lib.hid F9
    have I3 := Lib.hid (show DicOk (d1.ver + 1) (stepD d1 q) from JJ.out.rel.ok.step (by omega) q)
    have SCN := Lib.hid (Nat.le_trans (scans_step d1 q) (Nat.succ_le_succ JJ.out.sc))
    have STEP := Lib.hid (step_one d1.ver (by omega) mb sb db t w0.heap.size S1 d1 q wr JJ.out.r.d JJ.out.m JJ.out.rel.ok (by have := JJ.out.sc; omega))
    clear F9
    go_wp2_with fail
    refine (STEP.out).mono ?_
    rintro r w3 ⟨S3, sb3, rfl, d3, m3, k3, g3, l3⟩
    have R3 := Lib.hid (JJ.out.r.step JJ.out.m d3 k3 g3)
    have M3 := Lib.hid m3
    have ST3 := Lib.hid (JJ.out.stepped k3 g3 l3)
    clear STEP d3 m3 k3 g3 l3
    obtain ⟨qn, hqn⟩ := ex_hid (stepM d1 q)
    obtain ⟨dn, hdn⟩ := ex_hid (stepD d1 q)
    rw [← hqn.out] at FO M3 W9 SCN ⊢
    rw [← hdn.out] at R3 M3 W9 I3
    obtain ⟨tn, htn⟩ := ex_hid qn.turn
    rw [← htn.out]
    unfold Trn.agg
    go_upto_region 8 with (fail)
    refine wp_gen (fun V => V.heap[w3.heap.size]? = some (trnO tn) ∧ Keeps [] w3 V) ⟨has_new _ _, (Keeps.refl [] w3).alloc _⟩ ?_
    rintro w4 ⟨b4, k4⟩
    obtain ⟨b8, hb8⟩ := ex_hid w3.heap.size
    rw [← hb8.out] at b4 ⊢
    have B4 := Lib.hid b4
    have R4 := Lib.hid (R3.out.keeps0 k4)
    have M4 := Lib.hid (M3.out.keeps k4 (by simp) (by simp))
    have KK4 := Lib.hid (ST3.out.1.trans (k4.mono (by simp)))
    have GG4 := Lib.hid ST3.out.2
    have N8 := Lib.hid (show (b8 ∉ rlR rb db S3 aa1) ∧ b8 ≠ mb ∧ b8 ≠ sb3 ∧ w2.heap.size ≤ b8 from ⟨fun hx => by have := (R3.out.foot _ hx).2; have := hb8.out; omega, by have := M3.out.mb_lt; have := hb8.out; omega, by
      intro e
      by_cases hs : qn.st = 0
      · have h9 : qn.st ≠ 0 := by
          rcases W9 with ⟨f, y, _, W8, _⟩ | E8
          · have := W8.st; omega
          · have := E8.st; omega
        exact h9 hs
      · have := M3.out.sb_lt hs; have := hb8.out; omega, by have := ST3.out.1.size; have := hb8.out; omega⟩)
    have y0 : w4.cell? ⟨rb, 0, none⟩ = some (.pointer (some ⟨db, 0, none⟩)) := by obtain ⟨ac9, m9, _⟩ := R4.out.b; exact cell_has m9 (i := 0) rfl
    have v0 : w4.cell? ⟨b8, 0, none⟩ = some (.int .i64 tn.kind) := cell_has b4 (i := 0) rfl
    have hLn : dn.T.L ≤ 20 := by have := I3.out.t.l12; omega
    have hEn : dn.T.E.length ≤ 1000000 := by have := I3.out.t.ek; have := HVER.out; omega
    obtain ⟨M, hM0⟩ := ex_hid (2 ^ dn.T.L)
    have hM1 : M ≤ 4096 := by rw [hM0.out]; exact Nat.le_trans (Nat.pow_le_pow_right (by omega) I3.out.t.l12) (by decide)
    have hw13 : IntKind.i64.wrap ((M : Int) + 13) = (M : Int) + 13 := by rw [IntWalk.i64_left]; exact IntWalk.wrap64_in _ (by omega)
    obtain ⟨vi, hvi⟩ := ex_hid (scanN qn)
    have ZL := Lib.hid hLn
    have ZE := Lib.hid hEn
    have ZF := Lib.hid I3.out.t.ft
    clear b4 k4 hver hLn hEn
    rcases W9 with ⟨f, y, hft, W8, hdd⟩ | E8
    · have hdn2 : dn = d1 := hdd
      obtain ⟨ky, hky⟩ := ex_hid y.key
      have WT := Lib.hid W8
      have RELN := Lib.hid JJ.out.rel
      have hf100 := W8.lt JJ.out.rel.ok
      have hv100 := HVER.out
      have hw8 := W8.turn
      have hvis : qn.sk.vis ≤ 2 ^ d1.T.L + 13 := W8.vis JJ.out.rel.ok (by rw [← hdn2]; exact M4.out.o.sk (by have := W8.st; omega))
      have hscan : scanN qn = qn.sk.vis := by unfold scanN; rw [if_neg (by have := W8.st; omega)]
      have KK := Lib.hid (show qn.k = ck from FO.out.k)
      have htn2 : tn = ⟨1, ky, false, 0, 0⟩ := by rw [htn.out, hw8, hky.out]
      rw [htn2] at B4 v0 htn
      have hgt : ¬ (M : Int) + 13 < (vi : Int) := by have h1 := hvi.out; have h2 := hM0.out; rw [hdn2] at h2; omega
      have hgt2 : decide ((M : Int) + 13 < (vi : Int)) = false := by simpa using hgt
      clear W8 hw8 hscan hvis
      refine wp_regionG (fun w' => w'.cell? ⟨rb, 0, none⟩ = some (.pointer (some ⟨db, 0, none⟩)) ∧ w'.cell? ⟨b8, 0, none⟩ = some (.int .i64 1)) 16 (by kernel_rfl) ⟨y0, v0⟩ (fun hF => ?_)
      refine wpAnyG_takeY (i := 0) (v := ?_) rfl (by kernel_rfl) (by decide +kernel) (by decide +kernel) (by decide +kernel) (fun _ _ _ h => h) (by kernel_rfl) ?_ (by assumption) ?_
      rotate_left
      · (intro wz; go_simp; with_reducible rfl)
      try simp only [Act.put, List.setIfInBounds_toArray, List.set_cons_zero, List.set_cons_succ]
      refine wpAnyG_takeY (i := 2) (v := ?_) rfl (by kernel_rfl) (by decide +kernel) (by decide +kernel) (by decide +kernel) (fun _ _ _ h => h) (by kernel_rfl) ?_ (by assumption) ?_
      rotate_left
      · (intro wz; go_simp; with_reducible rfl)
      try simp only [Act.put, List.setIfInBounds_toArray, List.set_cons_zero, List.set_cons_succ]
      refine wpAnyG_takeY (i := 3) (v := ?_) rfl (by kernel_rfl) (by decide +kernel) (by decide +kernel) (by decide +kernel) (fun _ _ _ h => h) (by kernel_rfl) ?_ (by assumption) ?_
      rotate_left
      · (intro wz; go_simp; with_reducible rfl)
      try simp only [Act.put, List.setIfInBounds_toArray, List.set_cons_zero, List.set_cons_succ]
      refine wpAnyG_takeY (i := 4) (v := ?_) rfl (by kernel_rfl) (by decide +kernel) (by decide +kernel) (by decide +kernel) (fun _ _ _ h => h) (by kernel_rfl) ?_ (by assumption) ?_
      rotate_left
      · (intro wz; go_simp; with_reducible rfl)
      try simp only [Act.put, List.setIfInBounds_toArray, List.set_cons_zero, List.set_cons_succ]
      refine wpAnyG_take (i := 5) (v := ?_) rfl (by kernel_rfl) (by decide +kernel) (by decide +kernel) (by decide +kernel) (by decide +kernel) (by rfl) (fun _ _ _ h => h) (by kernel_rfl) ?_ (by assumption) ?_
      rotate_left
      · (intro wz hSw; (try dsimp only at hSw); go_simp; with_reducible rfl)
      try simp only [Act.put, List.setIfInBounds_toArray, List.set_cons_zero, List.set_cons_succ]
      refine wpAnyG_one (i := 1) rfl (by kernel_rfl) (by kernel_rfl) (fun K hK => ?_)
      have HK := Lib.hid hK
      clear hK
      go_simp
      refine (scan_any mb sb3 db t qn w4.drew (M4.out.keeps (Keeps.refl [] w4).drew (by simp) (by simp)).a).mono ?_
      rintro r w5 ⟨rfl, rfl⟩
      rw [← hvi.out]
      refine HK.out _ _ hF ?_
      clear HK K
      try simp only [Act.put, List.setIfInBounds_toArray, List.set_cons_zero, List.set_cons_succ]
      refine wpAnyG_one (i := 6) rfl (by kernel_rfl) (by kernel_rfl) (fun K hK => ?_)
      have HK := Lib.hid hK
      clear hK
      go_simp
      refine (dsight_any db t w0.heap.size S3 (mV none) dn w4.drew (R4.out.d.keeps (Keeps.refl [] w4).drew (by simp) (by simp)) ZL.out ZF.out ZE.out).mono ?_
      rintro r w6 ⟨ca, cc, ea, ec, rfl, _, _, b6⟩
      have hF6 := And.intro ((Below.keeps b6 []).cell hF.1 (by simp)) ((Below.keeps b6 []).cell hF.2 (by simp))
      have K6 := Lib.hid (show Keeps [] w4 w6 from ((Keeps.refl [] w4).drew).trans (Below.keeps b6 []))
      clear b6
      unfold sightAgg
      rw [← hM0.out]
      refine HK.out _ _ hF6 ?_
      clear HK K hF
      try simp only [Act.put, List.setIfInBounds_toArray, List.set_cons_zero, List.set_cons_succ]
      refine wpAnyG_takeY (i := 7) (v := ?_) rfl (by kernel_rfl) (by decide +kernel) (by decide +kernel) (by decide +kernel) (fun _ _ _ h => h) (by kernel_rfl) ?_ (by assumption) ?_
      rotate_left
      · (intro wz; go_simp; with_reducible rfl)
      try simp only [Act.put, List.getElem_toArray, List.getElem_cons_succ, List.getElem_cons_zero, List.setIfInBounds_toArray, List.set_cons_zero, List.set_cons_succ]
      refine wpAnyG_takeY (i := 8) (v := ?_) rfl (by kernel_rfl) (by decide +kernel) (by decide +kernel) (by decide +kernel) (fun _ _ _ h => h) (by kernel_rfl) ?_ (by assumption) ?_
      rotate_left
      · (intro wz; go_simp; with_reducible rfl)
      try simp only [Act.put, List.getElem_toArray, List.getElem_cons_succ, List.getElem_cons_zero, List.setIfInBounds_toArray, List.set_cons_zero, List.set_cons_succ]
      refine wpAnyG_takeY (i := 9) (v := ?_) rfl (by kernel_rfl) (by decide +kernel) (by decide +kernel) (by decide +kernel) (fun _ _ _ h => h) (by kernel_rfl) ?_ (by assumption) ?_
      rotate_left
      · (intro wz; go_simp; with_reducible rfl)
      try simp only [Act.put, List.getElem_toArray, List.getElem_cons_succ, List.getElem_cons_zero, List.setIfInBounds_toArray, List.set_cons_zero, List.set_cons_succ]
      refine wpAnyG_takeY (i := 10) (v := ?_) rfl (by kernel_rfl) (by decide +kernel) (by decide +kernel) (by decide +kernel) (fun _ _ _ h => h) (by kernel_rfl) ?_ (by assumption) ?_
      rotate_left
      · (intro wz; go_simp; with_reducible rfl)
      try simp only [Act.put, List.getElem_toArray, List.getElem_cons_succ, List.getElem_cons_zero, List.setIfInBounds_toArray, List.set_cons_zero, List.set_cons_succ]
      try rw [hgt2]
      refine wpAnyG_takeY (i := 11) (v := ?_) rfl (by kernel_rfl) (by decide +kernel) (by decide +kernel) (by decide +kernel) (fun _ _ _ h => h) (by kernel_rfl) ?_ (by assumption) ?_
      rotate_left
      · (intro wz; go_simp; with_reducible rfl)
      try simp only [Act.put, List.getElem_toArray, List.getElem_cons_succ, List.getElem_cons_zero, List.setIfInBounds_toArray, List.set_cons_zero, List.set_cons_succ]
      refine wpAnyG_takeU (i := 12) rfl (by kernel_rfl) (by decide +kernel) (by decide +kernel) (by decide +kernel) (fun _ _ _ h => h) (by kernel_rfl) (by assumption) ?_
      try simp only [Act.put, List.getElem_toArray, List.getElem_cons_succ, List.getElem_cons_zero, List.setIfInBounds_toArray, List.set_cons_zero, List.set_cons_succ]
      refine wpAnyG_takeU (i := 13) rfl (by kernel_rfl) (by decide +kernel) (by decide +kernel) (by decide +kernel) (fun _ _ _ h => h) (by kernel_rfl) (by assumption) ?_
      try simp only [Act.put, List.getElem_toArray, List.getElem_cons_succ, List.getElem_cons_zero, List.setIfInBounds_toArray, List.set_cons_zero, List.set_cons_succ]
      refine wpAnyG_takeU (i := 14) rfl (by kernel_rfl) (by decide +kernel) (by decide +kernel) (by decide +kernel) (fun _ _ _ h => h) (by kernel_rfl) (by assumption) ?_
      try simp only [Act.put, List.getElem_toArray, List.getElem_cons_succ, List.getElem_cons_zero, List.setIfInBounds_toArray, List.set_cons_zero, List.set_cons_succ]
      refine wpAnyG_takeY (i := 15) (v := ?_) rfl (by kernel_rfl) (by decide +kernel) (by decide +kernel) (by decide +kernel) (fun _ _ _ h => h) (by kernel_rfl) ?_ (by assumption) ?_
      rotate_left
      · (intro wz; go_simp; with_reducible rfl)
      try simp only [Act.put, List.getElem_toArray, List.getElem_cons_succ, List.getElem_cons_zero, List.setIfInBounds_toArray, List.set_cons_zero, List.set_cons_succ]
      refine wpAnyG_done (by kernel_rfl) ?_ _
      have R6 := Lib.hid (show RlS w0.heap.size rb db t S3 aa1 same acv inner d1 s1.A w6 from by rw [← hdn2]; exact R4.out.keeps0 K6.out)
      have M6 := Lib.hid (show MSt mb sb3 db t w0.heap.size S3 d1 qn w6 from by rw [← hdn2]; exact M4.out.keeps K6.out (by simp) (by simp))
      have B6 := Lib.hid (K6.out.has B4.out (by simp))
      have KK6 := Lib.hid (KK4.out.trans (K6.out.mono (by simp)))
      obtain ⟨u0, u1, u2, u3, u4⟩ := trn_cells B6.out
      simp only at u0 u1 u2 u3 u4
      clear y0 v0 hF6 hgt hgt2 htn2 hdn2 B4
      cases hinn : inner
      · have hB' := hB hinn
        have ni : (!false) = true := rfl
        obtain ⟨ac6, hb6, hr6⟩ := R6.out.b
        obtain ⟨na, hna⟩ := ex_hid s1.A.length
        have y4 : w6.cell? ⟨rb, 4, none⟩ = some (.bool false) := by rw [← hinn]; exact cell_has hb6 (i := 4) rfl
        have y1 : w6.cell? ⟨rb, 1, none⟩ = some (.slice aa1 na ac6) := by rw [hna.out]; exact cell_has hb6 (i := 1) rfl
        have hba := JJ.out.bd.a
        have hlz := (R6.out.foot rb (by simp [rlR]))
        obtain ⟨gA, cap, W5, run5, v5, k5, g5, l5⟩ := a8_append w0.heap.size aa1 ac6 s1.A ky (w6.drew.alloc (.cells #[.int .i64 ky] 3)) w6.heap.size (0, 0) (own_keeps8 hr6 (((Keeps.refl [] w6).drew).alloc _) (by simp)) (has_new w6.drew _) (by omega) (by simp; omega)
        rw [← hna.out] at run5
        have RUN := Lib.hid run5
        have k5' : Keeps (blk aa1) w6 W5 := ((((Keeps.refl [] w6).drew).alloc _).mono (by simp)).trans k5
        have nra : rb ∉ blk aa1 := own_notin8 hr6 hb6 (by decide)
        have nba : b8 ∉ blk aa1 := fun hx => N8.out.1 (by
          unfold rlR; simp [hx])
        have f1 : W5.frozen? ⟨rb, 1, none⟩ = false := free_of_has (k5'.has hb6 nra) 1
        have q5 : W5.cell? ⟨rb, 1, none⟩ = some (.slice aa1 na ac6) ∧ W5.cell? ⟨b8, 1, none⟩ = some (.int .i64 ky) := ⟨k5'.cell y1 nra, k5'.cell u1 nba⟩
        have Q5 := Lib.hid q5
        obtain ⟨a1, a2, a3⟩ := R6.out.asked (x := ky) hb6 k5' v5 (g5.imp id (fun h => by rw [h]; simp))
        rw [← hna.out] at a1 a2
        have A1 := Lib.hid a1
        have A2 := Lib.hid a2
        have A3 := Lib.hid a3
        obtain ⟨s3, hs3⟩ := ex_hid (ask s1 ky)
        have ES := Lib.hid (show acts8 (one8 same) most acts ⟨s1.L, s1.V, s1.A ++ [ky]⟩ = s3 from by rw [hs3.out, (HOUT.out hinn).1]; rfl)
        have ACT := Lib.hid (HOUT.out hinn).2
        have EZ := hs3
        have HINN := Lib.hid hinn
        have HBA := Lib.hid (And.intro hba hB')
        clear run5 v5 k5 g5 l5 a1 a2 a3 hba hlz k5' nra nba q5 hinn hB' hb6 hr6
        go_upto_region 14 with (fail)
        refine wp_regionG (fun w' => w'.cell? ⟨rb, 1, none⟩ = some (.slice aa1 na ac6) ∧ w'.cell? ⟨b8, 1, none⟩ = some (.int .i64 ky)) 11 (by kernel_rfl) ⟨y1, u1⟩ (fun hF => ?_)
        refine wpAnyG_takeY (i := 0) (v := ?_) rfl (by kernel_rfl) (by decide +kernel) (by decide +kernel) (by decide +kernel) (fun _ _ _ h => h) (by kernel_rfl) ?_ (by assumption) ?_
        rotate_left
        · (intro wz; go_simp; with_reducible rfl)
        try simp only [Act.put, List.setIfInBounds_toArray, List.set_cons_zero, List.set_cons_succ]
        refine wpAnyG_takeY (i := 1) (v := ?_) rfl (by kernel_rfl) (by decide +kernel) (by decide +kernel) (by decide +kernel) (fun _ _ _ h => h) (by kernel_rfl) ?_ (by assumption) ?_
        rotate_left
        · (intro wz; go_simp; with_reducible rfl)
        try simp only [Act.put, List.setIfInBounds_toArray, List.set_cons_zero, List.set_cons_succ]
        refine wpAnyG_takeY (i := 2) (v := ?_) rfl (by kernel_rfl) (by decide +kernel) (by decide +kernel) (by decide +kernel) (fun _ _ _ h => h) (by kernel_rfl) ?_ (by assumption) ?_
        rotate_left
        · (intro wz; go_simp; with_reducible rfl)
        try simp only [Act.put, List.setIfInBounds_toArray, List.set_cons_zero, List.set_cons_succ]
        refine wpAnyG_takeY (i := 3) (v := ?_) rfl (by kernel_rfl) (by decide +kernel) (by decide +kernel) (by decide +kernel) (fun _ _ _ h => h) (by kernel_rfl) ?_ (by assumption) ?_
        rotate_left
        · (intro wz; go_simp; with_reducible rfl)
        try simp only [Act.put, List.setIfInBounds_toArray, List.set_cons_zero, List.set_cons_succ]
        refine wpAnyG_take (i := 4) (v := ?_) rfl (by kernel_rfl) (by decide +kernel) (by decide +kernel) (by decide +kernel) (by decide +kernel) (by rfl) (fun _ _ _ h => h) (by kernel_rfl) ?_ (by assumption) ?_
        rotate_left
        · (intro wz hSw; (try dsimp only at hSw); go_simp; with_reducible rfl)
        try simp only [Act.put, List.setIfInBounds_toArray, List.set_cons_zero, List.set_cons_succ]
        refine wpAnyG_takeY (i := 5) (v := ?_) rfl (by kernel_rfl) (by decide +kernel) (by decide +kernel) (by decide +kernel) (fun _ _ _ h => h) (by kernel_rfl) ?_ (by assumption) ?_
        rotate_left
        · (intro wz; go_simp; with_reducible rfl)
        try simp only [Act.put, List.setIfInBounds_toArray, List.set_cons_zero, List.set_cons_succ]
        refine wpAnyG_take (i := 6) (v := ?_) rfl (by kernel_rfl) (by decide +kernel) (by decide +kernel) (by decide +kernel) (by decide +kernel) (by rfl) (fun _ _ _ h => h) (by kernel_rfl) ?_ (by assumption) ?_
        rotate_left
        · (intro wz hSw; (try dsimp only at hSw); go_simp; with_reducible rfl)
        try simp only [Act.put, List.setIfInBounds_toArray, List.set_cons_zero, List.set_cons_succ]
        refine wpAnyG_one (i := 7) rfl (by kernel_rfl) (by kernel_rfl) (fun K hK => ?_)
        have HK := Lib.hid hK
        clear hK
        go_simp
        refine HK.out _ _ ⟨cell_alloc hF.1 _, cell_alloc hF.2 _⟩ ?_
        clear HK K hF
        refine wpAnyG_one (i := 8) rfl (by kernel_rfl) (by kernel_rfl) (fun K hK => ?_)
        have HK := Lib.hid hK
        clear hK
        refine wp_append_run (.tmp 62) (.tmp 65) 22 rfl _ _ rfl rfl _ _ RUN.out ?_
        have hF := Q5.out
        refine HK.out _ _ hF ?_
        clear HK K
        try simp only [Act.put, List.setIfInBounds_toArray, List.set_cons_zero, List.set_cons_succ]
        refine wpAnyG_takeY (i := 9) (v := ?_) rfl (by kernel_rfl) (by decide +kernel) (by decide +kernel) (by decide +kernel) (fun _ _ _ h => h) (by kernel_rfl) ?_ (by assumption) ?_
        rotate_left
        · (intro wz; go_simp; with_reducible rfl)
        try simp only [Act.put, List.setIfInBounds_toArray, List.set_cons_zero, List.set_cons_succ]
        refine wpAnyG_takeY (i := 10) (v := ?_) rfl (by kernel_rfl) (by decide +kernel) (by decide +kernel) (by decide +kernel) (fun _ _ _ h => h) (by kernel_rfl) ?_ (by assumption) ?_
        rotate_left
        · (intro wz; go_simp; with_reducible rfl)
        try simp only [Act.put, List.setIfInBounds_toArray, List.set_cons_zero, List.set_cons_succ]
        refine wpAnyG_last rfl (by kernel_rfl) (by rfl) (by rfl) (fun K hK => ?_)
        have HK := Lib.hid hK
        clear hK
        go_simp
        refine HK.out _ _ ?_
        clear HK K
        refine wpAnyG_done (by kernel_rfl) ?_ _
        obtain ⟨w7, hw7⟩ : ∃ x, x = W5.setCell ⟨rb, 1, none⟩ (.slice (some ⟨gA, 0, none⟩) (na + 1) cap) := ⟨_, rfl⟩
        rw [← hw7]
        have R7 := Lib.hid (show RlS w0.heap.size rb db t S3 (some ⟨gA, 0, none⟩) same acv false d1 (s1.A ++ [ky]) w7 from by rw [hw7, ← HINN.out]; exact A1.out)
        have K7 := Lib.hid (show Keeps (rlR rb db S3 aa1) w6 w7 from by rw [hw7]; exact A2.out)
        have M7 := Lib.hid (M6.out.acted R6.out K7.out A3.out (Goes8.refl d1))
        have KK7 := Lib.hid (show Keeps (mb :: R0) w2 w7 from KK6.out.then K7.out (fun x hx => (GG4.out.1 x hx).elim (fun h => .inr (by simp [h])) .inl))
        have GG7 := Lib.hid (show Grew R0 w2 (rlR rb db S3 (some ⟨gA, 0, none⟩)) from grew_then8 (w := w) GG4.out.1 KK6.out.size A3.out)
        have B7 := Lib.hid (K7.out.has B6.out N8.out.1)
        have N87 := Lib.hid (show b8 ∉ rlR rb db S3 (some (⟨gA, 0, none⟩ : Addr)) from fun hx => by
          rcases A3.out _ hx with h | h
          · exact N8.out.1 h
          · have := lt_of_block B6.out; omega)
        have CL := Lib.hid (ACT.out S3 (some ⟨gA, 0, none⟩) d1 ⟨s1.L, s1.V, s1.A ++ [ky]⟩ w7 R7.out (K02.out _ KK7.out) (RELN.out.asked _) JJ.out.bd.l (by have := JJ.out.bd.le; show s1.V + _ ≤ _; omega) (by simp) (by have h1 := HBA.out.1; have h2 := HBA.out.2; simp; omega))
        clear hw7 f1 y1 y4 u0 u1 u2 u3 u4 hF RUN Q5 A1 A2
        go_wp2_with fail
        refine (CL.out).mono ?_
        rintro r wz ⟨rfl, dz, ⟨Sz, az, r9, k9, g9⟩, lz, gz⟩
        rw [ES.out] at lz
        have s3A : s3.A = s1.A ++ [ky] := by rw [← ES.out]; unfold acts8; exact (acts_same (one8 same) most _ acts _).2.1
        have RZ := Lib.hid (show RlS w0.heap.size rb db t Sz az same acv inner dz s3.A wz from by rw [HINN.out, s3A]; exact r9)
        have MZ := Lib.hid (M7.out.acted R7.out k9 g9 gz)
        have LZ := Lib.hid lz
        have GZ := Lib.hid gz
        have KZ := Lib.hid (show Keeps (mb :: R0) w2 wz from KK7.out.then k9 (fun x hx => (GG7.out x hx).elim (fun h => .inr (by simp [h])) .inl))
        have GG := Lib.hid (show Grew R0 w2 (rlR rb db Sz az) from grew_then8 (w := w) GG7.out KK7.out.size g9)
        have B8Z := Lib.hid (k9.has B7.out N87.out)
        have DZ := Lib.hid (show Bd8 acts C (B + (n + 1)) s3 from by rw [EZ.out]; exact AA.out.bd s1 ky C _ JJ.out.bd)
        clear r9 k9 g9 lz gz s3A CL
        have y3 : wz.cell? ⟨rb, 3, none⟩ = some (.int .i64 same) := by obtain ⟨ac9, m9, _⟩ := RZ.out.b; exact cell_has m9 (i := 3) rfl
        have v1 : wz.cell? ⟨b8, 1, none⟩ = some (.int .i64 ky) := cell_has B8Z.out (i := 1) rfl
        have x2 : wz.cell? ⟨bx, 2, none⟩ = some (.int .i64 ck) := cell_has (OWN.out wz KZ.out).1 (i := 2) rfl
        go_wp2_with fail
        refine (rone_any8 rb same ky ck wz y3).mono ?_
        rintro r w8 ⟨rfl, k8⟩
        have RZ8 := Lib.hid (RZ.out.keeps0 k8)
        have MZ8 := Lib.hid (MZ.out.keeps k8 (by simp) (by simp))
        have KZ8 := Lib.hid (KZ.out.trans (k8.mono (by simp)))
        clear k8 y3 v1 x2
        go_wp2_with fail
        refine (tell_one mb sb3 db t w0.heap.size Sz dz qn w8 MZ8.out (one8 same ky ck)).mono ?_
        rintro r w9 ⟨rfl, m9, k9⟩
        have M9 := Lib.hid m9
        have nm : mb ∉ rlR rb db Sz az := fun hx => by
          obtain ⟨f1, f2⟩ := RZ8.out.apartM MZ8.out mb (by simp [feet])
          unfold rlR at hx
          simp only [List.mem_cons, List.mem_append] at hx
          rcases hx with hx | hx | hx | hx
          · exact f1 hx
          · exact MZ8.out.n hx
          · exact MZ8.out.s hx
          · exact f2 hx
        have R9 := Lib.hid (RZ8.out.keeps k9 (fun x hx hq => by simp at hq; subst hq; exact nm hx))
        have K9 := Lib.hid (KZ8.out.trans (k9.mono (by simp)))
        have T0 : tellE qn = 0 := by unfold tellE; rw [if_pos WT.out.st]
        rw [T0]
        clear m9 k9 nm T0
        obtain ⟨N', t', P9, hNt⟩ := WT.out.tell (RELN.out) (by rw [HE.out]; simp) (by rw [← hky.out, ← EZ.out]; exact LZ.out) GZ.out
        have PP := Lib.hid (show Pos8 ask (one8 same) N' t' dz (tellM qn (one8 same ky ck)) s3 res from by rw [KK.out, ← hky.out] at P9; rw [EZ.out]; exact P9)
        clear P9
        go_wp2_with fail
        go_roundw
        case rel =>
          refine ⟨n + 1, N', t', dz, tellM qn (one8 same ky ck), s3, Sz, az, sb3, by go_num, by omega, by omega, by omega, Lib.hid ⟨R9.out, M9.out, PP.out, LZ.out, DZ.out, tell_for FO.out _, ?_, JJ.out.go.trans GZ.out, K9.out, GG.out, fun _ => GG4.out.2⟩⟩
          rw [tell_sc]; exact SCN.out
        case measure => simp [intOf]; omega
      · obtain ⟨ac6, hb6, hr6⟩ := R6.out.b
        have ni : (!true) = false := rfl
        have y4 : w6.cell? ⟨rb, 4, none⟩ = some (.bool true) := by rw [← hinn]; exact cell_has hb6 (i := 4) rfl
        obtain ⟨s3, hs3⟩ := ex_hid (ask s1 ky)
        have ES : Hid (s3 = s1) := Lib.hid (by rw [hs3.out, HIN.out hinn]; rfl)
        have EZ := hs3
        obtain ⟨wz, hwz⟩ : ∃ x, x = w6 := ⟨_, rfl⟩
        obtain ⟨dz, hdz⟩ : ∃ x, x = d1 := ⟨_, rfl⟩
        obtain ⟨Sz, hSz⟩ : ∃ x, x = S3 := ⟨_, rfl⟩
        obtain ⟨az, haz⟩ : ∃ x, x = aa1 := ⟨_, rfl⟩
        have RZ := Lib.hid (show RlS w0.heap.size rb db t Sz az same acv inner dz s3.A wz from by rw [hwz, hdz, hSz, haz, ES.out]; exact R6.out)
        have MZ := Lib.hid (show MSt mb sb3 db t w0.heap.size Sz dz qn wz from by rw [hwz, hdz, hSz]; exact M6.out)
        have LZ := Lib.hid (show Rel8 most dz s3 from by rw [hdz, ES.out]; exact RELN.out)
        have GZ := Lib.hid (show Goes8 d1 dz from by rw [hdz]; exact Goes8.refl d1)
        have KZ := Lib.hid (show Keeps (mb :: R0) w2 wz from by rw [hwz]; exact KK6.out)
        have GG := Lib.hid (show Grew R0 w2 (rlR rb db Sz az) from by rw [hSz, haz]; exact GG4.out.1)
        have B8Z := Lib.hid (show wz.heap[b8]? = some (trnO ⟨1, ky, false, 0, 0⟩) from by rw [hwz]; exact B6.out)
        have DZ := Lib.hid (show Bd8 acts C (B + (n + 1)) s3 from by rw [ES.out]; exact JJ.out.bd.mono (Nat.le_refl _) (by omega))
        clear hb6 hr6 hinn
        go_upto_region 16 with (fail)
        rw [← hwz]
        clear hwz hdz hSz haz y4 u0 u1 u2 u3 u4
        have y3 : wz.cell? ⟨rb, 3, none⟩ = some (.int .i64 same) := by obtain ⟨ac9, m9, _⟩ := RZ.out.b; exact cell_has m9 (i := 3) rfl
        have v1 : wz.cell? ⟨b8, 1, none⟩ = some (.int .i64 ky) := cell_has B8Z.out (i := 1) rfl
        have x2 : wz.cell? ⟨bx, 2, none⟩ = some (.int .i64 ck) := cell_has (OWN.out wz KZ.out).1 (i := 2) rfl
        go_wp2_with fail
        refine (rone_any8 rb same ky ck wz y3).mono ?_
        rintro r w8 ⟨rfl, k8⟩
        have RZ8 := Lib.hid (RZ.out.keeps0 k8)
        have MZ8 := Lib.hid (MZ.out.keeps k8 (by simp) (by simp))
        have KZ8 := Lib.hid (KZ.out.trans (k8.mono (by simp)))
        clear k8 y3 v1 x2
        go_wp2_with fail
        refine (tell_one mb sb3 db t w0.heap.size Sz dz qn w8 MZ8.out (one8 same ky ck)).mono ?_
        rintro r w9 ⟨rfl, m9, k9⟩
        have M9 := Lib.hid m9
        have nm : mb ∉ rlR rb db Sz az := fun hx => by
          obtain ⟨f1, f2⟩ := RZ8.out.apartM MZ8.out mb (by simp [feet])
          unfold rlR at hx
          simp only [List.mem_cons, List.mem_append] at hx
          rcases hx with hx | hx | hx | hx
          · exact f1 hx
          · exact MZ8.out.n hx
          · exact MZ8.out.s hx
          · exact f2 hx
        have R9 := Lib.hid (RZ8.out.keeps k9 (fun x hx hq => by simp at hq; subst hq; exact nm hx))
        have K9 := Lib.hid (KZ8.out.trans (k9.mono (by simp)))
        have T0 : tellE qn = 0 := by unfold tellE; rw [if_pos WT.out.st]
        rw [T0]
        clear m9 k9 nm T0
        obtain ⟨N', t', P9, hNt⟩ := WT.out.tell (RELN.out) (by rw [HE.out]; simp) (by rw [← hky.out, ← EZ.out]; exact LZ.out) GZ.out
        have PP := Lib.hid (show Pos8 ask (one8 same) N' t' dz (tellM qn (one8 same ky ck)) s3 res from by rw [KK.out, ← hky.out] at P9; rw [EZ.out]; exact P9)
        clear P9
        go_wp2_with fail
        go_roundw
        case rel =>
          refine ⟨n + 1, N', t', dz, tellM qn (one8 same ky ck), s3, Sz, az, sb3, by go_num, by omega, by omega, by omega, Lib.hid ⟨R9.out, M9.out, PP.out, LZ.out, DZ.out, tell_for FO.out _, ?_, JJ.out.go.trans GZ.out, K9.out, GG.out, fun _ => GG4.out.2⟩⟩
          rw [tell_sc]; exact SCN.out
        case measure => simp [intOf]; omega
    · have hk1 := E8.kind
      rw [← htn.out] at hk1
      have bk1 : (tn.kind == 1) = false := by simpa using hk1
      have bk2 : (tn.kind != 1) = true := by simpa using hk1
      have END : Hid (∀ W, Keeps [] w4 W → ∀ W2, Keeps [b8, tb] W W2 → ∃ d', Rl8 w0.heap.size rb db t S aa same acv inner d' s'.A w W2 ∧ Rel8 most d' s' ∧ Goes8 d d') := Lib.hid (fun W k W2 k2 => by
        obtain ⟨o, e1, e2, e3⟩ := E8.out
        rw [HE.out] at e1
        injection e1 with e1
        injection e1 with e1 e1'
        subst e1; subst e1'
        rw [HFIN.out] at e2
        have nn : ∀ x, x ∈ rlR rb db S3 aa1 → x ∉ [b8, tb] := fun x hx hq => by
          simp at hq
          rcases hq with rfl | rfl
          · exact N8.out.1 hx
          · rcases GG4.out.1 x hx with h | h
            · rw [hR0.out] at h; have := (HM.out.foot x h).2; have := LW.out.2; omega
            · have := LB.out.2; have := ZW.out.2.1; omega
        refine ⟨dn, ⟨S3, aa1, ?_, ?_, ?_⟩, e2, JJ.out.go.trans (by rw [hdn.out]; exact Goes8.step d1 q)⟩
        · rw [SA.out]; exact ((R4.out.keeps0 k).keeps k2 nn)
        · refine ((KW2.out.mono (T := rlR rb db S aa) (by simp)).then (KK4.out.trans (k.mono (by simp))) (fun x hx => ?_)).then k2 (fun x hx => ?_)
          · simp only [List.mem_cons] at hx
            rcases hx with rfl | hx
            · have := ZW.out; exact .inl (by omega)
            · rw [hR0.out] at hx; exact .inr hx
          · simp at hx
            rcases hx with rfl | rfl
            · have := N8.out.2.2.2; have := ZW.out; exact .inl (by omega)
            · exact .inl LW.out.2
        · intro x hx
          rcases GG4.out.1 x hx with h | h
          · rw [hR0.out] at h; exact .inl h
          · have := ZW.out; exact .inr (by omega))
      have PL : Hid ((⟨tn.kind, tn.key, tn.found, tn.val, 0⟩ : Trn) = tt) := Lib.hid (by
        obtain ⟨o, e1, e2, e3⟩ := E8.out
        rw [HE.out] at e1
        injection e1 with e1
        injection e1 with e1 e1'
        subst e1; subst e1'
        rw [HFIN.out, ← htn.out] at e3
        exact e3)
      have OWN4 := Lib.hid (OWN.out w4 KK4.out)
      have nbt : b8 ≠ tb := by have := N8.out.2.2.2; have := LB.out.2; have := ZW.out.2.1; omega
      clear E8 hk1
      by_cases hgt : (M : Int) + 13 < (vi : Int)
      · have hgt2 : decide ((M : Int) + 13 < (vi : Int)) = true := by simpa using hgt
        refine wp_regionG (fun w' => w'.cell? ⟨rb, 0, none⟩ = some (.pointer (some ⟨db, 0, none⟩)) ∧ w'.cell? ⟨b8, 0, none⟩ = some (.int .i64 tn.kind)) 16 (by kernel_rfl) ⟨y0, v0⟩ (fun hF => ?_)
        refine wpAnyG_takeY (i := 0) (v := ?_) rfl (by kernel_rfl) (by decide +kernel) (by decide +kernel) (by decide +kernel) (fun _ _ _ h => h) (by kernel_rfl) ?_ (by assumption) ?_
        rotate_left
        · (intro wz; go_simp; with_reducible rfl)
        try simp only [Act.put, List.setIfInBounds_toArray, List.set_cons_zero, List.set_cons_succ]
        refine wpAnyG_takeY (i := 2) (v := ?_) rfl (by kernel_rfl) (by decide +kernel) (by decide +kernel) (by decide +kernel) (fun _ _ _ h => h) (by kernel_rfl) ?_ (by assumption) ?_
        rotate_left
        · (intro wz; go_simp; with_reducible rfl)
        try simp only [Act.put, List.setIfInBounds_toArray, List.set_cons_zero, List.set_cons_succ]
        refine wpAnyG_takeY (i := 3) (v := ?_) rfl (by kernel_rfl) (by decide +kernel) (by decide +kernel) (by decide +kernel) (fun _ _ _ h => h) (by kernel_rfl) ?_ (by assumption) ?_
        rotate_left
        · (intro wz; go_simp; with_reducible rfl)
        try simp only [Act.put, List.setIfInBounds_toArray, List.set_cons_zero, List.set_cons_succ]
        refine wpAnyG_takeY (i := 4) (v := ?_) rfl (by kernel_rfl) (by decide +kernel) (by decide +kernel) (by decide +kernel) (fun _ _ _ h => h) (by kernel_rfl) ?_ (by assumption) ?_
        rotate_left
        · (intro wz; go_simp; with_reducible rfl)
        try simp only [Act.put, List.setIfInBounds_toArray, List.set_cons_zero, List.set_cons_succ]
        refine wpAnyG_take (i := 5) (v := ?_) rfl (by kernel_rfl) (by decide +kernel) (by decide +kernel) (by decide +kernel) (by decide +kernel) (by rfl) (fun _ _ _ h => h) (by kernel_rfl) ?_ (by assumption) ?_
        rotate_left
        · (intro wz hSw; (try dsimp only at hSw); go_simp; with_reducible rfl)
        try simp only [Act.put, List.setIfInBounds_toArray, List.set_cons_zero, List.set_cons_succ]
        refine wpAnyG_one (i := 1) rfl (by kernel_rfl) (by kernel_rfl) (fun K hK => ?_)
        have HK := Lib.hid hK
        clear hK
        go_simp
        refine (scan_any mb sb3 db t qn w4.drew (M4.out.keeps (Keeps.refl [] w4).drew (by simp) (by simp)).a).mono ?_
        rintro r w5 ⟨rfl, rfl⟩
        rw [← hvi.out]
        refine HK.out _ _ hF ?_
        clear HK K
        try simp only [Act.put, List.setIfInBounds_toArray, List.set_cons_zero, List.set_cons_succ]
        refine wpAnyG_one (i := 6) rfl (by kernel_rfl) (by kernel_rfl) (fun K hK => ?_)
        have HK := Lib.hid hK
        clear hK
        go_simp
        refine (dsight_any db t w0.heap.size S3 (mV none) dn w4.drew (R4.out.d.keeps (Keeps.refl [] w4).drew (by simp) (by simp)) ZL.out ZF.out ZE.out).mono ?_
        rintro r w6 ⟨ca, cc, ea, ec, rfl, _, _, b6⟩
        have hF6 := And.intro ((Below.keeps b6 []).cell hF.1 (by simp)) ((Below.keeps b6 []).cell hF.2 (by simp))
        have K6 := Lib.hid (show Keeps [] w4 w6 from ((Keeps.refl [] w4).drew).trans (Below.keeps b6 []))
        clear b6
        unfold sightAgg
        rw [← hM0.out]
        refine HK.out _ _ hF6 ?_
        clear HK K hF
        try simp only [Act.put, List.setIfInBounds_toArray, List.set_cons_zero, List.set_cons_succ]
        refine wpAnyG_takeY (i := 7) (v := ?_) rfl (by kernel_rfl) (by decide +kernel) (by decide +kernel) (by decide +kernel) (fun _ _ _ h => h) (by kernel_rfl) ?_ (by assumption) ?_
        rotate_left
        · (intro wz; go_simp; with_reducible rfl)
        try simp only [Act.put, List.getElem_toArray, List.getElem_cons_succ, List.getElem_cons_zero, List.setIfInBounds_toArray, List.set_cons_zero, List.set_cons_succ]
        refine wpAnyG_takeY (i := 8) (v := ?_) rfl (by kernel_rfl) (by decide +kernel) (by decide +kernel) (by decide +kernel) (fun _ _ _ h => h) (by kernel_rfl) ?_ (by assumption) ?_
        rotate_left
        · (intro wz; go_simp; with_reducible rfl)
        try simp only [Act.put, List.getElem_toArray, List.getElem_cons_succ, List.getElem_cons_zero, List.setIfInBounds_toArray, List.set_cons_zero, List.set_cons_succ]
        refine wpAnyG_takeY (i := 9) (v := ?_) rfl (by kernel_rfl) (by decide +kernel) (by decide +kernel) (by decide +kernel) (fun _ _ _ h => h) (by kernel_rfl) ?_ (by assumption) ?_
        rotate_left
        · (intro wz; go_simp; with_reducible rfl)
        try simp only [Act.put, List.getElem_toArray, List.getElem_cons_succ, List.getElem_cons_zero, List.setIfInBounds_toArray, List.set_cons_zero, List.set_cons_succ]
        refine wpAnyG_takeY (i := 10) (v := ?_) rfl (by kernel_rfl) (by decide +kernel) (by decide +kernel) (by decide +kernel) (fun _ _ _ h => h) (by kernel_rfl) ?_ (by assumption) ?_
        rotate_left
        · (intro wz; go_simp; with_reducible rfl)
        try simp only [Act.put, List.getElem_toArray, List.getElem_cons_succ, List.getElem_cons_zero, List.setIfInBounds_toArray, List.set_cons_zero, List.set_cons_succ]
        try rw [hgt2]
        refine wpAnyG_takeY (i := 11) (v := ?_) rfl (by kernel_rfl) (by decide +kernel) (by decide +kernel) (by decide +kernel) (fun _ _ _ h => h) (by kernel_rfl) ?_ (by assumption) ?_
        rotate_left
        · (intro wz; go_simp; with_reducible rfl)
        try simp only [Act.put, List.getElem_toArray, List.getElem_cons_succ, List.getElem_cons_zero, List.setIfInBounds_toArray, List.set_cons_zero, List.set_cons_succ]
        refine wpAnyG_takeY (i := 12) (v := ?_) rfl (by kernel_rfl) (by decide +kernel) (by decide +kernel) (by decide +kernel) (fun _ _ _ h => h) (by kernel_rfl) ?_ (by assumption) ?_
        rotate_left
        · (intro wz; go_simp; with_reducible rfl)
        try simp only [Act.put, List.getElem_toArray, List.getElem_cons_succ, List.getElem_cons_zero, List.setIfInBounds_toArray, List.set_cons_zero, List.set_cons_succ]
        refine wpAnyG_take (i := 13) (v := ?_) rfl (by kernel_rfl) (by decide +kernel) (by decide +kernel) (by decide +kernel) (by decide +kernel) (by rfl) (fun _ _ _ h => h) (by kernel_rfl) ?_ (by assumption) ?_
        rotate_left
        · (intro wz hSw; (try dsimp only at hSw); go_simp; with_reducible rfl)
        try simp only [Act.put, List.getElem_toArray, List.getElem_cons_succ, List.getElem_cons_zero, List.setIfInBounds_toArray, List.set_cons_zero, List.set_cons_succ]
        refine wpAnyG_takeY (i := 14) (v := ?_) rfl (by kernel_rfl) (by decide +kernel) (by decide +kernel) (by decide +kernel) (fun _ _ _ h => h) (by kernel_rfl) ?_ (by assumption) ?_
        rotate_left
        · (intro wz; go_simp; with_reducible rfl)
        try simp only [Act.put, List.getElem_toArray, List.getElem_cons_succ, List.getElem_cons_zero, List.setIfInBounds_toArray, List.set_cons_zero, List.set_cons_succ]
        refine wpAnyG_takeY (i := 15) (v := ?_) rfl (by kernel_rfl) (by decide +kernel) (by decide +kernel) (by decide +kernel) (fun _ _ _ h => h) (by kernel_rfl) ?_ (by assumption) ?_
        rotate_left
        · (intro wz; go_simp; with_reducible rfl)
        try simp only [Act.put, List.getElem_toArray, List.getElem_cons_succ, List.getElem_cons_zero, List.setIfInBounds_toArray, List.set_cons_zero, List.set_cons_succ]
        refine wpAnyG_done (by kernel_rfl) ?_ _
        have b6 := K6.out.has B4.out (by simp)
        have B6 := Lib.hid b6
        have T6 := Lib.hid (K6.out.has OWN4.out.2 (by simp))
        obtain ⟨u0, u1, u2, u3, u4⟩ := trn_cells b6
        have f4 := free_of_has b6 4
        clear y0 v0 hF6 b6
        go_upto_region 12 with (fail)
        refine wp_gen (fun V => V.heap[b8]? = some (trnO ⟨tn.kind, tn.key, tn.found, tn.val, 0⟩) ∧ Keeps [b8] w6 V) ⟨by simpa [trnO] using has_setCell B6.out 4 (.int .i64 0), (Keeps.refl _ _).setCell (.inr (by simp)) _⟩ ?_
        rintro w7 ⟨b7, k7⟩
        have T7 := Lib.hid (k7.has T6.out (by simp; exact fun e => nbt e.symm))
        have K7 := Lib.hid k7
        clear u0 u1 u2 u3 u4 f4 k7
        rw [PL.out] at b7
        obtain ⟨u0, u1, u2, u3, u4⟩ := trn_cells b7
        obtain ⟨t0, t1', t2, t3, t4⟩ := trn_cells T7.out
        obtain ⟨f0, f1, f2, f3, f4⟩ := trn_free T7.out
        unfold noTrn at t0 t1' t2 t3 t4
        clear b7
        go_wp2_with fail
        obtain ⟨zz1, zz2⟩ := trn_store noTrn tt T7.out
        have rc := cell_of_has zz1
        exact bodyPost_ret (v := .tuple #[Trn.agg tt, .bool true]) (by simp [results, Try.results29, go_sem, Trn.agg, rc]) rfl ⟨rfl, END.out w6 K6.out _ ((K7.out.mono (by simp)).trans (zz2.mono (by simp)))⟩
      · have hgt2 : decide ((M : Int) + 13 < (vi : Int)) = false := by simpa using hgt
        refine wp_regionG (fun w' => w'.cell? ⟨rb, 0, none⟩ = some (.pointer (some ⟨db, 0, none⟩)) ∧ w'.cell? ⟨b8, 0, none⟩ = some (.int .i64 tn.kind)) 16 (by kernel_rfl) ⟨y0, v0⟩ (fun hF => ?_)
        refine wpAnyG_takeY (i := 0) (v := ?_) rfl (by kernel_rfl) (by decide +kernel) (by decide +kernel) (by decide +kernel) (fun _ _ _ h => h) (by kernel_rfl) ?_ (by assumption) ?_
        rotate_left
        · (intro wz; go_simp; with_reducible rfl)
        try simp only [Act.put, List.setIfInBounds_toArray, List.set_cons_zero, List.set_cons_succ]
        refine wpAnyG_takeY (i := 2) (v := ?_) rfl (by kernel_rfl) (by decide +kernel) (by decide +kernel) (by decide +kernel) (fun _ _ _ h => h) (by kernel_rfl) ?_ (by assumption) ?_
        rotate_left
        · (intro wz; go_simp; with_reducible rfl)
        try simp only [Act.put, List.setIfInBounds_toArray, List.set_cons_zero, List.set_cons_succ]
        refine wpAnyG_takeY (i := 3) (v := ?_) rfl (by kernel_rfl) (by decide +kernel) (by decide +kernel) (by decide +kernel) (fun _ _ _ h => h) (by kernel_rfl) ?_ (by assumption) ?_
        rotate_left
        · (intro wz; go_simp; with_reducible rfl)
        try simp only [Act.put, List.setIfInBounds_toArray, List.set_cons_zero, List.set_cons_succ]
        refine wpAnyG_takeY (i := 4) (v := ?_) rfl (by kernel_rfl) (by decide +kernel) (by decide +kernel) (by decide +kernel) (fun _ _ _ h => h) (by kernel_rfl) ?_ (by assumption) ?_
        rotate_left
        · (intro wz; go_simp; with_reducible rfl)
        try simp only [Act.put, List.setIfInBounds_toArray, List.set_cons_zero, List.set_cons_succ]
        refine wpAnyG_take (i := 5) (v := ?_) rfl (by kernel_rfl) (by decide +kernel) (by decide +kernel) (by decide +kernel) (by decide +kernel) (by rfl) (fun _ _ _ h => h) (by kernel_rfl) ?_ (by assumption) ?_
        rotate_left
        · (intro wz hSw; (try dsimp only at hSw); go_simp; with_reducible rfl)
        try simp only [Act.put, List.setIfInBounds_toArray, List.set_cons_zero, List.set_cons_succ]
        refine wpAnyG_one (i := 1) rfl (by kernel_rfl) (by kernel_rfl) (fun K hK => ?_)
        have HK := Lib.hid hK
        clear hK
        go_simp
        refine (scan_any mb sb3 db t qn w4.drew (M4.out.keeps (Keeps.refl [] w4).drew (by simp) (by simp)).a).mono ?_
        rintro r w5 ⟨rfl, rfl⟩
        rw [← hvi.out]
        refine HK.out _ _ hF ?_
        clear HK K
        try simp only [Act.put, List.setIfInBounds_toArray, List.set_cons_zero, List.set_cons_succ]
        refine wpAnyG_one (i := 6) rfl (by kernel_rfl) (by kernel_rfl) (fun K hK => ?_)
        have HK := Lib.hid hK
        clear hK
        go_simp
        refine (dsight_any db t w0.heap.size S3 (mV none) dn w4.drew (R4.out.d.keeps (Keeps.refl [] w4).drew (by simp) (by simp)) ZL.out ZF.out ZE.out).mono ?_
        rintro r w6 ⟨ca, cc, ea, ec, rfl, _, _, b6⟩
        have hF6 := And.intro ((Below.keeps b6 []).cell hF.1 (by simp)) ((Below.keeps b6 []).cell hF.2 (by simp))
        have K6 := Lib.hid (show Keeps [] w4 w6 from ((Keeps.refl [] w4).drew).trans (Below.keeps b6 []))
        clear b6
        unfold sightAgg
        rw [← hM0.out]
        refine HK.out _ _ hF6 ?_
        clear HK K hF
        try simp only [Act.put, List.setIfInBounds_toArray, List.set_cons_zero, List.set_cons_succ]
        refine wpAnyG_takeY (i := 7) (v := ?_) rfl (by kernel_rfl) (by decide +kernel) (by decide +kernel) (by decide +kernel) (fun _ _ _ h => h) (by kernel_rfl) ?_ (by assumption) ?_
        rotate_left
        · (intro wz; go_simp; with_reducible rfl)
        try simp only [Act.put, List.getElem_toArray, List.getElem_cons_succ, List.getElem_cons_zero, List.setIfInBounds_toArray, List.set_cons_zero, List.set_cons_succ]
        refine wpAnyG_takeY (i := 8) (v := ?_) rfl (by kernel_rfl) (by decide +kernel) (by decide +kernel) (by decide +kernel) (fun _ _ _ h => h) (by kernel_rfl) ?_ (by assumption) ?_
        rotate_left
        · (intro wz; go_simp; with_reducible rfl)
        try simp only [Act.put, List.getElem_toArray, List.getElem_cons_succ, List.getElem_cons_zero, List.setIfInBounds_toArray, List.set_cons_zero, List.set_cons_succ]
        refine wpAnyG_takeY (i := 9) (v := ?_) rfl (by kernel_rfl) (by decide +kernel) (by decide +kernel) (by decide +kernel) (fun _ _ _ h => h) (by kernel_rfl) ?_ (by assumption) ?_
        rotate_left
        · (intro wz; go_simp; with_reducible rfl)
        try simp only [Act.put, List.getElem_toArray, List.getElem_cons_succ, List.getElem_cons_zero, List.setIfInBounds_toArray, List.set_cons_zero, List.set_cons_succ]
        refine wpAnyG_takeY (i := 10) (v := ?_) rfl (by kernel_rfl) (by decide +kernel) (by decide +kernel) (by decide +kernel) (fun _ _ _ h => h) (by kernel_rfl) ?_ (by assumption) ?_
        rotate_left
        · (intro wz; go_simp; with_reducible rfl)
        try simp only [Act.put, List.getElem_toArray, List.getElem_cons_succ, List.getElem_cons_zero, List.setIfInBounds_toArray, List.set_cons_zero, List.set_cons_succ]
        try rw [hgt2]
        refine wpAnyG_takeY (i := 11) (v := ?_) rfl (by kernel_rfl) (by decide +kernel) (by decide +kernel) (by decide +kernel) (fun _ _ _ h => h) (by kernel_rfl) ?_ (by assumption) ?_
        rotate_left
        · (intro wz; go_simp; with_reducible rfl)
        try simp only [Act.put, List.getElem_toArray, List.getElem_cons_succ, List.getElem_cons_zero, List.setIfInBounds_toArray, List.set_cons_zero, List.set_cons_succ]
        refine wpAnyG_takeU (i := 12) rfl (by kernel_rfl) (by decide +kernel) (by decide +kernel) (by decide +kernel) (fun _ _ _ h => h) (by kernel_rfl) (by assumption) ?_
        try simp only [Act.put, List.getElem_toArray, List.getElem_cons_succ, List.getElem_cons_zero, List.setIfInBounds_toArray, List.set_cons_zero, List.set_cons_succ]
        refine wpAnyG_takeU (i := 13) rfl (by kernel_rfl) (by decide +kernel) (by decide +kernel) (by decide +kernel) (fun _ _ _ h => h) (by kernel_rfl) (by assumption) ?_
        try simp only [Act.put, List.getElem_toArray, List.getElem_cons_succ, List.getElem_cons_zero, List.setIfInBounds_toArray, List.set_cons_zero, List.set_cons_succ]
        refine wpAnyG_takeU (i := 14) rfl (by kernel_rfl) (by decide +kernel) (by decide +kernel) (by decide +kernel) (fun _ _ _ h => h) (by kernel_rfl) (by assumption) ?_
        try simp only [Act.put, List.getElem_toArray, List.getElem_cons_succ, List.getElem_cons_zero, List.setIfInBounds_toArray, List.set_cons_zero, List.set_cons_succ]
        refine wpAnyG_takeY (i := 15) (v := ?_) rfl (by kernel_rfl) (by decide +kernel) (by decide +kernel) (by decide +kernel) (fun _ _ _ h => h) (by kernel_rfl) ?_ (by assumption) ?_
        rotate_left
        · (intro wz; go_simp; with_reducible rfl)
        try simp only [Act.put, List.getElem_toArray, List.getElem_cons_succ, List.getElem_cons_zero, List.setIfInBounds_toArray, List.set_cons_zero, List.set_cons_succ]
        refine wpAnyG_done (by kernel_rfl) ?_ _
        have b6 := K6.out.has B4.out (by simp)
        have B6 := Lib.hid b6
        have T6 := Lib.hid (K6.out.has OWN4.out.2 (by simp))
        obtain ⟨u0, u1, u2, u3, u4⟩ := trn_cells b6
        have f4 := free_of_has b6 4
        clear y0 v0 hF6 b6
        go_upto_region 12 with (fail)
        refine wp_gen (fun V => V.heap[b8]? = some (trnO ⟨tn.kind, tn.key, tn.found, tn.val, 0⟩) ∧ Keeps [b8] w6 V) ⟨by simpa [trnO] using has_setCell B6.out 4 (.int .i64 0), (Keeps.refl _ _).setCell (.inr (by simp)) _⟩ ?_
        rintro w7 ⟨b7, k7⟩
        have T7 := Lib.hid (k7.has T6.out (by simp; exact fun e => nbt e.symm))
        have K7 := Lib.hid k7
        clear u0 u1 u2 u3 u4 f4 k7
        rw [PL.out] at b7
        obtain ⟨u0, u1, u2, u3, u4⟩ := trn_cells b7
        obtain ⟨t0, t1', t2, t3, t4⟩ := trn_cells T7.out
        obtain ⟨f0, f1, f2, f3, f4⟩ := trn_free T7.out
        unfold noTrn at t0 t1' t2 t3 t4
        clear b7
        go_wp2_with fail
        obtain ⟨zz1, zz2⟩ := trn_store noTrn tt T7.out
        have rc := cell_of_has zz1
        exact bodyPost_ret (v := .tuple #[Trn.agg tt, .bool true]) (by simp [results, Try.results29, go_sem, Trn.agg, rc]) rfl ⟨rfl, END.out w6 K6.out _ ((K7.out.mono (by simp)).trans (zz2.mono (by simp)))⟩
end Go.Proofs.Ytcakdmapnmneoaa
