/- Next, of a Seeker that goes on (chapter 7). -/
import Derived.Test.YtcakdmapnmneoaaB5
namespace Go.Proofs.Ytcakdmapnmneoaa
open Go.RowKit
set_option linter.unusedVariables false
set_option linter.unusedSimpArgs false

def Sk.at (s : Sk) (j v : Nat) : Sk := { s with i := s.i + j, vis := s.vis + v }
theorem mtr_ne {m : Option Nat} {c : C4} {sb : Nat} {w : World} {cs : Array Value} (hM : MtrAt m c w) (h : w.heap[sb]? = some (.cells cs 126 (0, 0))) : sb ∉ mS m := by
  intro hx
  cases m with
  | none => simp [mS] at hx
  | some b =>
    simp [mS] at hx
    subst hx
    have h1 := hM _ rfl
    rw [h] at h1
    simp [mtr] at h1
set_option maxRecDepth 100000 in
set_option maxHeartbeats 4000000 in
theorem next_live (k : Nat) (hk : k ≤ 1000) (sb t lo : Nat) (S : List Nat) (m : Option Nat) (c : C4) (T : Tab) (s : Sk) (w : World) (H : TabAt t lo S (mV m) T w) (hM : MtrAt m c w) (hm : ∀ b, m = some b → b < lo) (hI : TInv k T) (hs : SkAt sb t s w) (hsb : sb ∉ S) (hok : SkOk T s) (ho : s.over = false) (ht : s.tu = T.turns) :
    Calls Try.prog 41 #[.pointer (some ⟨sb, 0, none⟩)] w (NextP sb t m c T s w) := by
  have HH := Lib.hid H
  have HM := Lib.hid hM
  have HI := Lib.hid hI
  have HO := Lib.hid hok
  have HOV := Lib.hid ho
  have HT := Lib.hid ht
  obtain ⟨c1, p1, hb, hcp⟩ := hs
  obtain ⟨rfl, rfl⟩ := hcp ho
  have hmS : sb ∉ mS m := mtr_ne hM hb
  have hSm : ∀ x, x ∈ S → x ∉ sb :: mS m := by
    intro x hx hx2
    simp at hx2
    rcases hx2 with rfl | hx2
    · exact hsb hx
    · cases m with
      | none => simp [mS] at hx2
      | some b => simp [mS] at hx2; subst hx2; have := hm _ rfl; have := (H.foot _ hx).1; omega
  obtain ⟨a, cc, cb, cr, h1, h2, h3, h4, h5, h6, h7, h8⟩ := H
  have htb : t ≠ sb := fun e => hsb (e ▸ h4)
  have hcb : cb ≠ sb := fun e => hsb (e ▸ h5)
  have hcr : cr ≠ sb := fun e => hsb (e ▸ h6)
  have hnow := hok.now ho ht
  have hfar := hI.far_le ho ht hok
  have hfe := hI.fe_lt s.h
  have hL12 := hI.l12
  have h2L : 2 ^ T.L ≤ 4096 := Nat.pow_le_pow_right (n := 2) (by omega) hL12
  have hvis := hok.v1 ho
  have hB1 := Lib.hid h1
  have HE := Lib.hid h2
  have HC := Lib.hid h3
  have HSM := Lib.hid (show t ∉ sb :: mS m ∧ cb ∉ sb :: mS m ∧ cr ∉ sb :: mS m ∧ ∀ x, x ∈ blk a → x ∉ sb :: mS m from ⟨hSm _ h4, hSm _ h5, hSm _ h6, fun x hx => hSm _ (h7 x hx)⟩)
  have HMB := Lib.hid (show ∀ b, m = some b → b ∉ [sb] from fun b hb2 hx => by simp at hx; subst hx; exact hmS (by rw [hb2]; simp [mS]))
  have e0 : w.cell? ⟨sb, 0, none⟩ = some (.pointer (some ⟨t, 0, none⟩)) := cell_has hb (i := 0) rfl
  have e4 : w.cell? ⟨sb, 4, none⟩ = some (.int .i64 s.tu) := cell_has hb (i := 4) rfl
  have e7 : w.cell? ⟨sb, 7, none⟩ = some (.bool false) := by rw [← ho]; exact cell_has hb (i := 7) rfl
  have y6 : w.cell? ⟨t, 6, none⟩ = some (.int .i64 T.turns) := cell_has h1 (i := 6) rfl
  have f7 : w.frozen? ⟨sb, 7, none⟩ = false := free_of_has hb 7
  have hteq : ((s.tu : Int) != (T.turns : Int)) = false := by simp; omega
  have HB := Lib.hid hb
  obtain ⟨p, hp⟩ : ∃ p : Option Addr, Hid (mV m = .pointer p) := ⟨_, Lib.hid rfl⟩
  clear hb h1 h2 h3 h4 h5 h6 h7 h8 hM hI hok hcp hSm hm hsb
  go_enter Try.func41, Try.ntmps41
  go_wp2_with fail
  refine wp_regionG (fun w' => w'.cell? ⟨sb, 0, none⟩ = some (.pointer (some ⟨t, 0, none⟩)) ∧ w'.cell? ⟨sb, 4, none⟩ = some (.int .i64 s.tu) ∧ w'.cell? ⟨sb, 7, none⟩ = some (.bool false) ∧ w'.cell? ⟨t, 6, none⟩ = some (.int .i64 T.turns)) 21 (by kernel_rfl) ⟨e0, e4, e7, y6⟩ (fun hF => ?_)
  refine wpAnyG_takeY (i := 0) (v := ?_) rfl (by kernel_rfl) (by decide +kernel) (by decide +kernel) (by decide +kernel) (fun _ _ _ h => h) (by kernel_rfl) ?_ (by assumption) ?_
  rotate_left
  · (intro wz; go_simp; with_reducible rfl)
  try simp only [Act.put, List.setIfInBounds_toArray, List.set_cons_zero, List.set_cons_succ]
  refine wpAnyG_takeY (i := 1) (v := ?_) rfl (by kernel_rfl) (by decide +kernel) (by decide +kernel) (by decide +kernel) (fun _ _ _ h => h) (by kernel_rfl) ?_ (by assumption) ?_
  rotate_left
  · (intro wz; go_simp; with_reducible rfl)
  try simp only [Act.put, List.setIfInBounds_toArray, List.set_cons_zero, List.set_cons_succ]
  refine wpAnyG_takeY (i := 2) (v := ?_) rfl (by kernel_rfl) (by decide +kernel) (by decide +kernel) (by decide +kernel) (fun _ _ _ h => h) (by kernel_rfl) ?_ (by assumption) ?_
  rotate_left
  · (intro wz; go_simp; with_reducible rfl)
  try simp only [Act.put, List.setIfInBounds_toArray, List.set_cons_zero, List.set_cons_succ]
  refine wpAnyG_takeY (i := 3) (v := ?_) rfl (by kernel_rfl) (by decide +kernel) (by decide +kernel) (by decide +kernel) (fun _ _ _ h => h) (by kernel_rfl) ?_ (by assumption) ?_
  rotate_left
  · (intro wz; go_simp; with_reducible rfl)
  try simp only [Act.put, List.setIfInBounds_toArray, List.set_cons_zero, List.set_cons_succ]
  refine wpAnyG_take (i := 4) (v := ?_) rfl (by kernel_rfl) (by decide +kernel) (by decide +kernel) (by decide +kernel) (by decide +kernel) (by rfl) (fun _ _ _ h => h) (by kernel_rfl) ?_ (by assumption) ?_
  rotate_left
  · (intro wz hSw; (try dsimp only at hSw); go_simp; with_reducible rfl)
  try simp only [Act.put, List.setIfInBounds_toArray, List.set_cons_zero, List.set_cons_succ]
  refine wpAnyG_takeY (i := 5) (v := ?_) rfl (by kernel_rfl) (by decide +kernel) (by decide +kernel) (by decide +kernel) (fun _ _ _ h => h) (by kernel_rfl) ?_ (by assumption) ?_
  rotate_left
  · (intro wz; go_simp; with_reducible rfl)
  try simp only [Act.put, List.setIfInBounds_toArray, List.set_cons_zero, List.set_cons_succ]
  refine wpAnyG_takeY (i := 6) (v := ?_) rfl (by kernel_rfl) (by decide +kernel) (by decide +kernel) (by decide +kernel) (fun _ _ _ h => h) (by kernel_rfl) ?_ (by assumption) ?_
  rotate_left
  · (intro wz; go_simp; with_reducible rfl)
  try simp only [Act.put, List.setIfInBounds_toArray, List.set_cons_zero, List.set_cons_succ]
  refine wpAnyG_takeY (i := 7) (v := ?_) rfl (by kernel_rfl) (by decide +kernel) (by decide +kernel) (by decide +kernel) (fun _ _ _ h => h) (by kernel_rfl) ?_ (by assumption) ?_
  rotate_left
  · (intro wz; go_simp; with_reducible rfl)
  try simp only [Act.put, List.setIfInBounds_toArray, List.set_cons_zero, List.set_cons_succ]
  refine wpAnyG_takeY (i := 8) (v := ?_) rfl (by kernel_rfl) (by decide +kernel) (by decide +kernel) (by decide +kernel) (fun _ _ _ h => h) (by kernel_rfl) ?_ (by assumption) ?_
  rotate_left
  · (intro wz; go_simp; with_reducible rfl)
  try simp only [Act.put, List.setIfInBounds_toArray, List.set_cons_zero, List.set_cons_succ]
  refine wpAnyG_take (i := 9) (v := ?_) rfl (by kernel_rfl) (by decide +kernel) (by decide +kernel) (by decide +kernel) (by decide +kernel) (by rfl) (fun _ _ _ h => h) (by kernel_rfl) ?_ (by assumption) ?_
  rotate_left
  · (intro wz hSw; (try dsimp only at hSw); go_simp; with_reducible rfl)
  try simp only [Act.put, List.setIfInBounds_toArray, List.set_cons_zero, List.set_cons_succ]
  refine wpAnyG_takeY (i := 10) (v := ?_) rfl (by kernel_rfl) (by decide +kernel) (by decide +kernel) (by decide +kernel) (fun _ _ _ h => h) (by kernel_rfl) ?_ (by assumption) ?_
  rotate_left
  · (intro wz; go_simp; with_reducible rfl)
  try simp only [Act.put, List.setIfInBounds_toArray, List.set_cons_zero, List.set_cons_succ]
  refine wpAnyG_takeY (i := 11) (v := ?_) rfl (by kernel_rfl) (by decide +kernel) (by decide +kernel) (by decide +kernel) (fun _ _ _ h => h) (by kernel_rfl) ?_ (by assumption) ?_
  rotate_left
  · (intro wz; go_simp; with_reducible rfl)
  try simp only [Act.put, List.setIfInBounds_toArray, List.set_cons_zero, List.set_cons_succ]
  refine wpAnyG_takeY (i := 12) (v := ?_) rfl (by kernel_rfl) (by decide +kernel) (by decide +kernel) (by decide +kernel) (fun _ _ _ h => h) (by kernel_rfl) ?_ (by assumption) ?_
  rotate_left
  · (intro wz; go_simp; with_reducible rfl)
  try simp only [Act.put, List.setIfInBounds_toArray, List.set_cons_zero, List.set_cons_succ]
  refine wpAnyG_take (i := 13) (v := ?_) rfl (by kernel_rfl) (by decide +kernel) (by decide +kernel) (by decide +kernel) (by decide +kernel) (by rfl) (fun _ _ _ h => h) (by kernel_rfl) ?_ (by assumption) ?_
  rotate_left
  · (intro wz hSw; (try dsimp only at hSw); go_simp; with_reducible rfl)
  try simp only [Act.put, List.setIfInBounds_toArray, List.set_cons_zero, List.set_cons_succ]
  refine wpAnyG_takeY (i := 14) (v := ?_) rfl (by kernel_rfl) (by decide +kernel) (by decide +kernel) (by decide +kernel) (fun _ _ _ h => h) (by kernel_rfl) ?_ (by assumption) ?_
  rotate_left
  · (intro wz; go_simp; with_reducible rfl)
  try simp only [Act.put, List.setIfInBounds_toArray, List.set_cons_zero, List.set_cons_succ]
  refine wpAnyG_takeY (i := 15) (v := ?_) rfl (by kernel_rfl) (by decide +kernel) (by decide +kernel) (by decide +kernel) (fun _ _ _ h => h) (by kernel_rfl) ?_ (by assumption) ?_
  rotate_left
  · (intro wz; go_simp; with_reducible rfl)
  try simp only [Act.put, List.setIfInBounds_toArray, List.set_cons_zero, List.set_cons_succ]
  refine wpAnyG_take (i := 16) (v := ?_) rfl (by kernel_rfl) (by decide +kernel) (by decide +kernel) (by decide +kernel) (by decide +kernel) (by rfl) (fun _ _ _ h => h) (by kernel_rfl) ?_ (by assumption) ?_
  rotate_left
  · (intro wz hSw; (try dsimp only at hSw); go_simp; with_reducible rfl)
  try simp only [Act.put, List.setIfInBounds_toArray, List.set_cons_zero, List.set_cons_succ]
  refine wpAnyG_takeY (i := 17) (v := ?_) rfl (by kernel_rfl) (by decide +kernel) (by decide +kernel) (by decide +kernel) (fun _ _ _ h => h) (by kernel_rfl) ?_ (by assumption) ?_
  rotate_left
  · (intro wz; go_simp; with_reducible rfl)
  try simp only [Act.put, List.setIfInBounds_toArray, List.set_cons_zero, List.set_cons_succ]
  refine wpAnyG_takeY (i := 18) (v := ?_) rfl (by kernel_rfl) (by decide +kernel) (by decide +kernel) (by decide +kernel) (fun _ _ _ h => h) (by kernel_rfl) ?_ (by assumption) ?_
  rotate_left
  · (intro wz; go_simp; with_reducible rfl)
  try simp only [Act.put, List.setIfInBounds_toArray, List.set_cons_zero, List.set_cons_succ]
  refine wpAnyG_takeY (i := 19) (v := ?_) rfl (by kernel_rfl) (by decide +kernel) (by decide +kernel) (by decide +kernel) (fun _ _ _ h => h) (by kernel_rfl) ?_ (by assumption) ?_
  rotate_left
  · (intro wz; go_simp; with_reducible rfl)
  try simp only [Act.put, List.setIfInBounds_toArray, List.set_cons_zero, List.set_cons_succ]
  refine wpAnyG_takeY (i := 20) (v := ?_) rfl (by kernel_rfl) (by decide +kernel) (by decide +kernel) (by decide +kernel) (fun _ _ _ h => h) (by kernel_rfl) ?_ (by assumption) ?_
  rotate_left
  · (intro wz; go_simp; with_reducible rfl)
  try simp only [Act.put, List.setIfInBounds_toArray, List.set_cons_zero, List.set_cons_succ]
  refine wpAnyG_last rfl (by kernel_rfl) (by rfl) (by rfl) (fun K hK => ?_)
  have HK := Lib.hid hK
  clear hK
  go_simp
  refine HK.out _ _ ?_
  clear HK K
  refine wpAnyG_done (by kernel_rfl) ?_ _
  obtain ⟨W3, hW3⟩ : ∃ W3, (w.setCell ⟨sb, 7, none⟩ (.bool false)).drew = W3 := ⟨_, rfl⟩
  have k3 : Keeps [sb] w W3 := by rw [← hW3]; exact ((Keeps.refl _ _).setCell (.inr (by simp)) _).drew
  have b3 : W3.heap[sb]? = some (skO t (s.at 0 0) (skC (s.at 0 0)) (skP (s.at 0 0))) := by
    rw [← hW3]
    have h9 := has_setCell HB.out 7 (.bool false)
    have e9 : skO t (s.at 0 0) (skC (s.at 0 0)) (skP (s.at 0 0)) = skO t s (skC s) (skP s) := rfl
    rw [e9]
    refine Eq.trans (show _ = _ from h9) ?_
    simp [skO, ← HOV.out]
  rw [hW3]
  have B3 := Lib.hid b3
  have K3 := Lib.hid k3
  clear hW3 e0 e4 e7 y6 f7 hF k3 b3 hteq HB
  go_wp2_with fail
  go_loopg [36] (T.far s) (fun gk x wr => ∃ j : Nat, gk = T.far s - j ∧ j ≤ T.far s ∧ wr.heap[sb]? = some (skO t (s.at j j) (skC (s.at j j)) (skP (s.at j j))) ∧ MtrAt m (c.visN j) wr ∧ Keeps (sb :: mS m) w wr)
  case atStart => exact ⟨0, rfl, Nat.zero_le _, B3.out, HM.out.keeps K3.out HMB.out, K3.out.mono (by simp)⟩
  case round =>
    obtain ⟨j, rfl, hj, hb, hmt, hkw⟩ := hrel
    have x0 : wr.cell? ⟨sb, 0, none⟩ = some (.pointer (some ⟨t, 0, none⟩)) := cell_has hb (i := 0) rfl
    have x7 : wr.cell? ⟨sb, 7, none⟩ = some (.bool false) := by rw [← HOV.out]; exact cell_has hb (i := 7) rfl
    obtain ⟨cN, hcN⟩ := ex_hid (trC T.L (uh s.h) (s.i + j))
    obtain ⟨n2, hn2⟩ := ex_hid (2 ^ T.L)
    obtain ⟨vN, hvN⟩ := ex_hid (s.vis + j)
    have hsc : skC (s.at j j) = cN := by rw [hcN.out, ← hnow.1]; rfl
    have x2 : wr.cell? ⟨sb, 2, none⟩ = some (.int .i64 cN) := by rw [← hsc]; exact cell_has hb (i := 2) rfl
    have x5 : wr.cell? ⟨sb, 5, none⟩ = some (.int .i64 vN) := by rw [hvN.out]; exact cell_has hb (i := 5) rfl
    have f5 : wr.frozen? ⟨sb, 5, none⟩ = false := free_of_has hb 5
    have y2 : wr.cell? ⟨t, 2, none⟩ = some (.pointer (some ⟨cb, 0, none⟩)) := hkw.cell (cell_has hB1.out (i := 2) rfl) HSM.out.1
    have hc2 : cN < n2 := by rw [hcN.out, hn2.out]; exact trC_lt _ _ _
    have hn1 : n2 ≤ 1048576 := by rw [hn2.out]; omega
    have hk0 : (0 : Int) ≤ (cN : Int) := by omega
    have hk1 : (cN : Int) < (n2 : Int) := by omega
    have HB := Lib.hid hb
    have HMT := Lib.hid hmt
    have HKW := Lib.hid hkw
    have HF : Hid (Fits n2 T.V) := Lib.hid (by rw [hn2.out]; exact HI.out.ft)
    have HCw : Hid (CellsAt cb cr T.L n2 T.V wr) := Lib.hid (by rw [hn2.out]; exact HC.out.keeps hkw HSM.out.2.1 HSM.out.2.2.1)
    clear hb hmt hkw
    go_wp2_with fail
    go_region_held3 (fun w' => w'.cell? ⟨sb, 0, none⟩ = some (.pointer (some ⟨t, 0, none⟩)) ∧ w'.cell? ⟨sb, 2, none⟩ = some (.int .i64 cN) ∧ w'.cell? ⟨t, 2, none⟩ = some (.pointer (some ⟨cb, 0, none⟩))) (go_keep)
      (first | (go_at_call 77; refine (getc_in cb cr T.L n2 T.V cN _ (HCw.out.keeps (Keeps.refl [] wr).drew (by simp) (by simp)) HF.out hn1 hk0 hk1).mono ?_; rintro r w5 ⟨rfl, b5⟩; have q5 := Below.keeps b5 []; have q0 := q5.cell (w := wr.drew) x0 (by simp); have q2 := q5.cell (w := wr.drew) x2 (by simp); have q3 := q5.cell (w := wr.drew) y2 (by simp); have K5 := Lib.hid ((Keeps.refl [] wr).drew.trans q5); clear b5 q5))
    have b5 := K5.out.has HB.out (by simp)
    have s5 : w5.cell? ⟨sb, 5, none⟩ = some (.int .i64 vN) := by rw [hvN.out]; exact cell_has b5 (i := 5) rfl
    have g5 : w5.frozen? ⟨sb, 5, none⟩ = false := free_of_has b5 5
    have m0 : w5.cell? ⟨t, 0, none⟩ = some (.pointer p) := by rw [← hp.out]; exact cell_has ((HKW.out.trans (K5.out.mono (by simp))).has hB1.out HSM.out.1) (i := 0) rfl
    have hv2 : (vN : Int) ≤ 10000 := by have := hvN.out; omega
    have hv1 : (0 : Int) ≤ (vN : Int) := by omega
    have B5 := Lib.hid b5
    clear x0 x2 x5 x7 f5 y2 b5
    go_wp2_with fail
    rw [← hp.out]
    have k6 : Keeps [sb] w5 (w5.setCell ⟨sb, 5, none⟩ (.int .i64 ((vN : Int) + 1))) := (Keeps.refl _ _).setCell (.inr (by simp)) _
    have b6 : (w5.setCell ⟨sb, 5, none⟩ (.int .i64 ((vN : Int) + 1))).heap[sb]? = some (skO t (s.at j (j + 1)) (skC (s.at j j)) (skP (s.at j j))) := by
      refine (has_setCell B5.out 5 _).trans ?_
      simp [skO, Sk.at, hvN.out]
      omega
    have B6 := Lib.hid b6
    have K6 := Lib.hid ((K5.out.mono (T := [sb]) (by simp)).trans k6)
    clear b6 k6 q0 q2 q3 s5 g5 m0
    refine (mvisit_any m (c.visN j) _ (HMT.out.keeps K6.out HMB.out)).mono ?_
    rintro r w7 ⟨rfl, k7, m7⟩
    have B7 := Lib.hid (k7.has B6.out hmS)
    have K7 := Lib.hid ((HKW.out.trans (K6.out.mono (by simp))).trans (k7.mono (by intro x hx; simp [hx])))
    have M7 : Hid (MtrAt m (c.visN (j + 1)) w7) := Lib.hid m7
    clear k7 m7
    by_cases hv : T.V cN = -1
    · have f7 : w7.frozen? ⟨sb, 7, none⟩ = false := free_of_has B7.out 7
      have x7 : w7.cell? ⟨sb, 7, none⟩ = some (.bool s.over) := cell_has B7.out (i := 7) rfl
      rw [hv]
      go_wp2_with fail
      go_ret2
      have hstop : stopP T s (s.i + j) = true := by unfold stopP; rw [← hcN.out, hv]; rfl
      have hjf : j = T.far s := far_eq hj (by omega) hstop
      have hca : T.cellAt s = -1 := by unfold Tab.cellAt; rw [← hjf, ← hcN.out]; exact hv
      have hns : T.spent s = false := by unfold Tab.spent; rw [HOV.out, HT.out]; simp
      have e1 : T.next s = { s with i := s.i + j, vis := s.vis + j + 1, over := true } := by
        unfold Tab.next; rw [if_neg (by rw [hns]; simp), if_pos hca, ← hjf]
      have e2 : T.walks s = j + 1 := by unfold Tab.walks; rw [if_neg (by rw [hns]; simp), ← hjf]
      unfold NextP
      rw [e1, e2]
      have kz : Keeps [sb] w7 (w7.setCell ⟨sb, 7, none⟩ (.bool true)) := (Keeps.refl _ _).setCell (.inr (by simp)) _
      refine ⟨rfl, ⟨_, _, has_setCell B7.out 7 (.bool true), fun h => by cases h⟩, M7.out.keeps kz HMB.out, K7.out.trans (kz.mono (by simp))⟩
    · have hvb : (T.V cN == -1) = false := by simpa using hv
      go_wp2_with fail
      refine (on_any sb t cb cr T.L T.V (skC (s.at j j)) (skP (s.at j j)) _ _ _ _ _ w7 B7.out (K7.out.cell (cell_has hB1.out (i := 2) rfl) HSM.out.1) (HC.out.keeps K7.out HSM.out.2.1 HSM.out.2.2.1) htb hcb hcr (by omega) (by rw [hsc, ← hn2.out]; exact hc2) (skP_lt _)).mono ?_
      rintro r w8 ⟨rfl, b8, k8⟩
      have b8' : w8.heap[sb]? = some (skO t (s.at (j + 1) (j + 1)) (skC (s.at (j + 1) (j + 1))) (skP (s.at (j + 1) (j + 1)))) := by
        rw [b8]
        have ec : nxtC T.L (skC (s.at j j)) (skP (s.at j j)) = skC (s.at (j + 1) (j + 1)) := by rw [← hnow.1]; rfl
        have ep : skP (s.at j j) / 32 = skP (s.at (j + 1) (j + 1)) := (div_pow_succ _ _).symm
        rw [ec, ep]; rfl
      have B8 := Lib.hid b8'
      have K8 := Lib.hid (K7.out.trans (k8.mono (by simp)))
      have M8 := Lib.hid (M7.out.keeps k8 HMB.out)
      have x0 : w8.cell? ⟨sb, 0, none⟩ = some (.pointer (some ⟨t, 0, none⟩)) := cell_has b8' (i := 0) rfl
      have x1 : w8.cell? ⟨sb, 1, none⟩ = some (.int .i64 s.h) := cell_has b8' (i := 1) rfl
      have x6 : w8.cell? ⟨sb, 6, none⟩ = some (.int .i64 s.told) := cell_has b8' (i := 6) rfl
      have f6 : w8.frozen? ⟨sb, 6, none⟩ = false := free_of_has b8' 6
      clear b8 b8' k8
      have again : stopP T s (s.i + j) = false → (s.at (j + 1) (j + 1)) = s.at (j + 1) (j + 1) ∧ j + 1 ≤ T.far s := fun h => ⟨rfl, far_succ HI.out HOV.out HT.out HO.out hj h⟩
      by_cases htl : s.told < T.V cN
      · obtain ⟨e, x, he, hx, hlv⟩ := HI.out.live_at (c := cN) (by rw [← hn2.out]; exact hc2) HO.out.low htl
        obtain ⟨g, rfl⟩ := HE.out.shape (by have := (List.getElem?_eq_some_iff.1 hx).1; omega)
        have hE8 := HE.out.keeps K8.out HSM.out.2.2.2
        have y1 : w8.cell? ⟨t, 1, none⟩ = some (.slice (some ⟨g, 0, none⟩) T.E.length cc) := cell_has (K8.out.has hB1.out HSM.out.1) (i := 1) rfl
        have q1 : w8.cell? ⟨g, e * 5 + 1, none⟩ = some (.int .i64 x.hash) := hE8.cell hx 1 (by omega)
        obtain ⟨n, hn⟩ := ex_hid T.E.length
        rw [← hn.out] at y1
        have hen : (e : Int) < (n : Int) := by have := (List.getElem?_eq_some_iff.1 hx).1; rw [hn.out]; omega
        have he0 : (0 : Int) ≤ (e : Int) := by omega
        rw [he] at htl hvb ⊢
        have hd1 : decide ((s.told : Int) < (e : Int)) = true := by simpa using htl
        have hgd : (T.E.getD e noE).hash = x.hash := by simp [List.getD, hx]
        have HGD := Lib.hid hgd
        clear hE8 hgd
        cases hxh : ((x.hash : Int) == s.h)
        · have hx1 := hxh
          go_wp2_with fail
          refine wp_regionG (fun w' => w'.cell? ⟨sb, 0, none⟩ = some (.pointer (some ⟨t, 0, none⟩)) ∧ w'.cell? ⟨sb, 6, none⟩ = some (.int .i64 s.told) ∧ w'.cell? ⟨sb, 1, none⟩ = some (.int .i64 s.h) ∧ w'.cell? ⟨t, 1, none⟩ = some (.slice (some ⟨g, 0, none⟩) n cc) ∧ w'.cell? ⟨g, e * 5 + 1, none⟩ = some (.int .i64 x.hash)) 24 (by kernel_rfl) ⟨x0, x6, x1, y1, q1⟩ (fun hF => ?_)
          refine wpAnyG_takeY (i := 0) (v := ?_) rfl (by kernel_rfl) (by decide +kernel) (by decide +kernel) (by decide +kernel) (fun _ _ _ h => h) (by kernel_rfl) ?_ (by assumption) ?_
          rotate_left
          · (intro wz; go_simp; with_reducible rfl)
          try simp only [Act.put, List.setIfInBounds_toArray, List.set_cons_zero, List.set_cons_succ]
          refine wpAnyG_takeY (i := 1) (v := ?_) rfl (by kernel_rfl) (by decide +kernel) (by decide +kernel) (by decide +kernel) (fun _ _ _ h => h) (by kernel_rfl) ?_ (by assumption) ?_
          rotate_left
          · (intro wz; go_simp; with_reducible rfl)
          try simp only [Act.put, List.setIfInBounds_toArray, List.set_cons_zero, List.set_cons_succ]
          refine wpAnyG_takeY (i := 2) (v := ?_) rfl (by kernel_rfl) (by decide +kernel) (by decide +kernel) (by decide +kernel) (fun _ _ _ h => h) (by kernel_rfl) ?_ (by assumption) ?_
          rotate_left
          · (intro wz; go_simp; with_reducible rfl)
          try simp only [Act.put, List.setIfInBounds_toArray, List.set_cons_zero, List.set_cons_succ]
          refine wpAnyG_takeY (i := 3) (v := ?_) rfl (by kernel_rfl) (by decide +kernel) (by decide +kernel) (by decide +kernel) (fun _ _ _ h => h) (by kernel_rfl) ?_ (by assumption) ?_
          rotate_left
          · (intro wz; go_simp; with_reducible rfl)
          try simp only [Act.put, List.setIfInBounds_toArray, List.set_cons_zero, List.set_cons_succ]
          refine wpAnyG_take (i := 4) (v := ?_) rfl (by kernel_rfl) (by decide +kernel) (by decide +kernel) (by decide +kernel) (by decide +kernel) (by rfl) (fun _ _ _ h => h) (by kernel_rfl) ?_ (by assumption) ?_
          rotate_left
          · (intro wz hSw; (try dsimp only at hSw); go_simp; with_reducible rfl)
          try simp only [Act.put, List.setIfInBounds_toArray, List.set_cons_zero, List.set_cons_succ]
          refine wpAnyG_takeY (i := 5) (v := ?_) rfl (by kernel_rfl) (by decide +kernel) (by decide +kernel) (by decide +kernel) (fun _ _ _ h => h) (by kernel_rfl) ?_ (by assumption) ?_
          rotate_left
          · (intro wz; go_simp; with_reducible rfl)
          try simp only [Act.put, List.setIfInBounds_toArray, List.set_cons_zero, List.set_cons_succ]
          refine wpAnyG_takeY (i := 6) (v := ?_) rfl (by kernel_rfl) (by decide +kernel) (by decide +kernel) (by decide +kernel) (fun _ _ _ h => h) (by kernel_rfl) ?_ (by assumption) ?_
          rotate_left
          · (intro wz; go_simp; with_reducible rfl)
          try simp only [Act.put, List.setIfInBounds_toArray, List.set_cons_zero, List.set_cons_succ]
          refine wpAnyG_takeY (i := 7) (v := ?_) rfl (by kernel_rfl) (by decide +kernel) (by decide +kernel) (by decide +kernel) (fun _ _ _ h => h) (by kernel_rfl) ?_ (by assumption) ?_
          rotate_left
          · (intro wz; go_simp; with_reducible rfl)
          try simp only [Act.put, List.setIfInBounds_toArray, List.set_cons_zero, List.set_cons_succ]
          refine wpAnyG_takeY (i := 8) (v := ?_) rfl (by kernel_rfl) (by decide +kernel) (by decide +kernel) (by decide +kernel) (fun _ _ _ h => h) (by kernel_rfl) ?_ (by assumption) ?_
          rotate_left
          · (intro wz; go_simp; with_reducible rfl)
          try simp only [Act.put, List.setIfInBounds_toArray, List.set_cons_zero, List.set_cons_succ]
          refine wpAnyG_takeY (i := 9) (v := ?_) rfl (by kernel_rfl) (by decide +kernel) (by decide +kernel) (by decide +kernel) (fun _ _ _ h => h) (by kernel_rfl) ?_ (by assumption) ?_
          rotate_left
          · (intro wz; go_simp; with_reducible rfl)
          try simp only [Act.put, List.setIfInBounds_toArray, List.set_cons_zero, List.set_cons_succ]
          refine wpAnyG_take (i := 10) (v := ?_) rfl (by kernel_rfl) (by decide +kernel) (by decide +kernel) (by decide +kernel) (by decide +kernel) (by rfl) (fun _ _ _ h => h) (by kernel_rfl) ?_ (by assumption) ?_
          rotate_left
          · (intro wz hSw; (try dsimp only at hSw); go_simp; with_reducible rfl)
          try simp only [Act.put, List.setIfInBounds_toArray, List.set_cons_zero, List.set_cons_succ]
          refine wpAnyG_takeY (i := 11) (v := ?_) rfl (by kernel_rfl) (by decide +kernel) (by decide +kernel) (by decide +kernel) (fun _ _ _ h => h) (by kernel_rfl) ?_ (by assumption) ?_
          rotate_left
          · (intro wz; go_simp; with_reducible rfl)
          try simp only [Act.put, List.setIfInBounds_toArray, List.set_cons_zero, List.set_cons_succ]
          refine wpAnyG_takeY (i := 12) (v := ?_) rfl (by kernel_rfl) (by decide +kernel) (by decide +kernel) (by decide +kernel) (fun _ _ _ h => h) (by kernel_rfl) ?_ (by assumption) ?_
          rotate_left
          · (intro wz; go_simp; with_reducible rfl)
          try simp only [Act.put, List.setIfInBounds_toArray, List.set_cons_zero, List.set_cons_succ]
          refine wpAnyG_take (i := 13) (v := ?_) rfl (by kernel_rfl) (by decide +kernel) (by decide +kernel) (by decide +kernel) (by decide +kernel) (by rfl) (fun _ _ _ h => h) (by kernel_rfl) ?_ (by assumption) ?_
          rotate_left
          · (intro wz hSw; (try dsimp only at hSw); go_simp; with_reducible rfl)
          try simp only [Act.put, List.setIfInBounds_toArray, List.set_cons_zero, List.set_cons_succ]
          refine wpAnyG_takeY (i := 14) (v := ?_) rfl (by kernel_rfl) (by decide +kernel) (by decide +kernel) (by decide +kernel) (fun _ _ _ h => h) (by kernel_rfl) ?_ (by assumption) ?_
          rotate_left
          · (intro wz; go_simp; with_reducible rfl)
          try simp only [Act.put, List.setIfInBounds_toArray, List.set_cons_zero, List.set_cons_succ]
          refine wpAnyG_takeY (i := 15) (v := ?_) rfl (by kernel_rfl) (by decide +kernel) (by decide +kernel) (by decide +kernel) (fun _ _ _ h => h) (by kernel_rfl) ?_ (by assumption) ?_
          rotate_left
          · (intro wz; go_simp; with_reducible rfl)
          try simp only [Act.put, List.setIfInBounds_toArray, List.set_cons_zero, List.set_cons_succ]
          refine wpAnyG_takeY (i := 16) (v := ?_) rfl (by kernel_rfl) (by decide +kernel) (by decide +kernel) (by decide +kernel) (fun _ _ _ h => h) (by kernel_rfl) ?_ (by assumption) ?_
          rotate_left
          · (intro wz; go_simp; with_reducible rfl)
          try simp only [Act.put, List.setIfInBounds_toArray, List.set_cons_zero, List.set_cons_succ]
          refine wpAnyG_take (i := 17) (v := ?_) rfl (by kernel_rfl) (by decide +kernel) (by decide +kernel) (by decide +kernel) (by decide +kernel) (by rfl) (fun _ _ _ h => h) (by kernel_rfl) ?_ (by assumption) ?_
          rotate_left
          · (intro wz hSw; (try dsimp only at hSw); go_simp; with_reducible rfl)
          try simp only [Act.put, List.setIfInBounds_toArray, List.set_cons_zero, List.set_cons_succ]
          refine wpAnyG_takeY (i := 18) (v := ?_) rfl (by kernel_rfl) (by decide +kernel) (by decide +kernel) (by decide +kernel) (fun _ _ _ h => h) (by kernel_rfl) ?_ (by assumption) ?_
          rotate_left
          · (intro wz; go_simp; with_reducible rfl)
          try simp only [Act.put, List.setIfInBounds_toArray, List.set_cons_zero, List.set_cons_succ]
          refine wpAnyG_takeY (i := 19) (v := ?_) rfl (by kernel_rfl) (by decide +kernel) (by decide +kernel) (by decide +kernel) (fun _ _ _ h => h) (by kernel_rfl) ?_ (by assumption) ?_
          rotate_left
          · (intro wz; go_simp; with_reducible rfl)
          try simp only [Act.put, List.setIfInBounds_toArray, List.set_cons_zero, List.set_cons_succ]
          refine wpAnyG_takeY (i := 20) (v := ?_) rfl (by kernel_rfl) (by decide +kernel) (by decide +kernel) (by decide +kernel) (fun _ _ _ h => h) (by kernel_rfl) ?_ (by assumption) ?_
          rotate_left
          · (intro wz; go_simp; with_reducible rfl)
          try simp only [Act.put, List.setIfInBounds_toArray, List.set_cons_zero, List.set_cons_succ]
          refine wpAnyG_take (i := 21) (v := ?_) rfl (by kernel_rfl) (by decide +kernel) (by decide +kernel) (by decide +kernel) (by decide +kernel) (by rfl) (fun _ _ _ h => h) (by kernel_rfl) ?_ (by assumption) ?_
          rotate_left
          · (intro wz hSw; (try dsimp only at hSw); go_simp; with_reducible rfl)
          try simp only [Act.put, List.setIfInBounds_toArray, List.set_cons_zero, List.set_cons_succ]
          refine wpAnyG_takeY (i := 22) (v := ?_) rfl (by kernel_rfl) (by decide +kernel) (by decide +kernel) (by decide +kernel) (fun _ _ _ h => h) (by kernel_rfl) ?_ (by assumption) ?_
          rotate_left
          · (intro wz; go_simp; with_reducible rfl)
          try simp only [Act.put, List.setIfInBounds_toArray, List.set_cons_zero, List.set_cons_succ]
          refine wpAnyG_takeY (i := 23) (v := ?_) rfl (by kernel_rfl) (by decide +kernel) (by decide +kernel) (by decide +kernel) (fun _ _ _ h => h) (by kernel_rfl) ?_ (by assumption) ?_
          rotate_left
          · (intro wz; go_simp; with_reducible rfl)
          try simp only [Act.put, List.setIfInBounds_toArray, List.set_cons_zero, List.set_cons_succ]
          refine wpAnyG_done (by kernel_rfl) ?_ _
          go_simp
          go_wp2_with fail
          have hst : stopP T s (s.i + j) = false := by
            unfold stopP fitE
            rw [← hcN.out, he]
            simp only [Int.toNat_natCast, HGD.out]
            have h9 : ¬ x.hash = s.h := by simpa using hx1
            simp [h9]
          go_roundg (T.far s - (j + 1))
          case measure => have := (again hst).2; omega
          case rel => exact ⟨j + 1, rfl, (again hst).2, B8.out, M8.out, K8.out.drew⟩
        · have hx1 := hxh
          go_wp2_with fail
          refine wp_regionG (fun w' => w'.cell? ⟨sb, 0, none⟩ = some (.pointer (some ⟨t, 0, none⟩)) ∧ w'.cell? ⟨sb, 6, none⟩ = some (.int .i64 s.told) ∧ w'.cell? ⟨sb, 1, none⟩ = some (.int .i64 s.h) ∧ w'.cell? ⟨t, 1, none⟩ = some (.slice (some ⟨g, 0, none⟩) n cc) ∧ w'.cell? ⟨g, e * 5 + 1, none⟩ = some (.int .i64 x.hash)) 24 (by kernel_rfl) ⟨x0, x6, x1, y1, q1⟩ (fun hF => ?_)
          refine wpAnyG_takeY (i := 0) (v := ?_) rfl (by kernel_rfl) (by decide +kernel) (by decide +kernel) (by decide +kernel) (fun _ _ _ h => h) (by kernel_rfl) ?_ (by assumption) ?_
          rotate_left
          · (intro wz; go_simp; with_reducible rfl)
          try simp only [Act.put, List.setIfInBounds_toArray, List.set_cons_zero, List.set_cons_succ]
          refine wpAnyG_takeY (i := 1) (v := ?_) rfl (by kernel_rfl) (by decide +kernel) (by decide +kernel) (by decide +kernel) (fun _ _ _ h => h) (by kernel_rfl) ?_ (by assumption) ?_
          rotate_left
          · (intro wz; go_simp; with_reducible rfl)
          try simp only [Act.put, List.setIfInBounds_toArray, List.set_cons_zero, List.set_cons_succ]
          refine wpAnyG_takeY (i := 2) (v := ?_) rfl (by kernel_rfl) (by decide +kernel) (by decide +kernel) (by decide +kernel) (fun _ _ _ h => h) (by kernel_rfl) ?_ (by assumption) ?_
          rotate_left
          · (intro wz; go_simp; with_reducible rfl)
          try simp only [Act.put, List.setIfInBounds_toArray, List.set_cons_zero, List.set_cons_succ]
          refine wpAnyG_takeY (i := 3) (v := ?_) rfl (by kernel_rfl) (by decide +kernel) (by decide +kernel) (by decide +kernel) (fun _ _ _ h => h) (by kernel_rfl) ?_ (by assumption) ?_
          rotate_left
          · (intro wz; go_simp; with_reducible rfl)
          try simp only [Act.put, List.setIfInBounds_toArray, List.set_cons_zero, List.set_cons_succ]
          refine wpAnyG_take (i := 4) (v := ?_) rfl (by kernel_rfl) (by decide +kernel) (by decide +kernel) (by decide +kernel) (by decide +kernel) (by rfl) (fun _ _ _ h => h) (by kernel_rfl) ?_ (by assumption) ?_
          rotate_left
          · (intro wz hSw; (try dsimp only at hSw); go_simp; with_reducible rfl)
          try simp only [Act.put, List.setIfInBounds_toArray, List.set_cons_zero, List.set_cons_succ]
          refine wpAnyG_takeY (i := 5) (v := ?_) rfl (by kernel_rfl) (by decide +kernel) (by decide +kernel) (by decide +kernel) (fun _ _ _ h => h) (by kernel_rfl) ?_ (by assumption) ?_
          rotate_left
          · (intro wz; go_simp; with_reducible rfl)
          try simp only [Act.put, List.setIfInBounds_toArray, List.set_cons_zero, List.set_cons_succ]
          refine wpAnyG_takeY (i := 6) (v := ?_) rfl (by kernel_rfl) (by decide +kernel) (by decide +kernel) (by decide +kernel) (fun _ _ _ h => h) (by kernel_rfl) ?_ (by assumption) ?_
          rotate_left
          · (intro wz; go_simp; with_reducible rfl)
          try simp only [Act.put, List.setIfInBounds_toArray, List.set_cons_zero, List.set_cons_succ]
          refine wpAnyG_takeY (i := 7) (v := ?_) rfl (by kernel_rfl) (by decide +kernel) (by decide +kernel) (by decide +kernel) (fun _ _ _ h => h) (by kernel_rfl) ?_ (by assumption) ?_
          rotate_left
          · (intro wz; go_simp; with_reducible rfl)
          try simp only [Act.put, List.setIfInBounds_toArray, List.set_cons_zero, List.set_cons_succ]
          refine wpAnyG_takeY (i := 8) (v := ?_) rfl (by kernel_rfl) (by decide +kernel) (by decide +kernel) (by decide +kernel) (fun _ _ _ h => h) (by kernel_rfl) ?_ (by assumption) ?_
          rotate_left
          · (intro wz; go_simp; with_reducible rfl)
          try simp only [Act.put, List.setIfInBounds_toArray, List.set_cons_zero, List.set_cons_succ]
          refine wpAnyG_takeY (i := 9) (v := ?_) rfl (by kernel_rfl) (by decide +kernel) (by decide +kernel) (by decide +kernel) (fun _ _ _ h => h) (by kernel_rfl) ?_ (by assumption) ?_
          rotate_left
          · (intro wz; go_simp; with_reducible rfl)
          try simp only [Act.put, List.setIfInBounds_toArray, List.set_cons_zero, List.set_cons_succ]
          refine wpAnyG_take (i := 10) (v := ?_) rfl (by kernel_rfl) (by decide +kernel) (by decide +kernel) (by decide +kernel) (by decide +kernel) (by rfl) (fun _ _ _ h => h) (by kernel_rfl) ?_ (by assumption) ?_
          rotate_left
          · (intro wz hSw; (try dsimp only at hSw); go_simp; with_reducible rfl)
          try simp only [Act.put, List.setIfInBounds_toArray, List.set_cons_zero, List.set_cons_succ]
          refine wpAnyG_takeY (i := 11) (v := ?_) rfl (by kernel_rfl) (by decide +kernel) (by decide +kernel) (by decide +kernel) (fun _ _ _ h => h) (by kernel_rfl) ?_ (by assumption) ?_
          rotate_left
          · (intro wz; go_simp; with_reducible rfl)
          try simp only [Act.put, List.setIfInBounds_toArray, List.set_cons_zero, List.set_cons_succ]
          refine wpAnyG_takeY (i := 12) (v := ?_) rfl (by kernel_rfl) (by decide +kernel) (by decide +kernel) (by decide +kernel) (fun _ _ _ h => h) (by kernel_rfl) ?_ (by assumption) ?_
          rotate_left
          · (intro wz; go_simp; with_reducible rfl)
          try simp only [Act.put, List.setIfInBounds_toArray, List.set_cons_zero, List.set_cons_succ]
          refine wpAnyG_take (i := 13) (v := ?_) rfl (by kernel_rfl) (by decide +kernel) (by decide +kernel) (by decide +kernel) (by decide +kernel) (by rfl) (fun _ _ _ h => h) (by kernel_rfl) ?_ (by assumption) ?_
          rotate_left
          · (intro wz hSw; (try dsimp only at hSw); go_simp; with_reducible rfl)
          try simp only [Act.put, List.setIfInBounds_toArray, List.set_cons_zero, List.set_cons_succ]
          refine wpAnyG_takeY (i := 14) (v := ?_) rfl (by kernel_rfl) (by decide +kernel) (by decide +kernel) (by decide +kernel) (fun _ _ _ h => h) (by kernel_rfl) ?_ (by assumption) ?_
          rotate_left
          · (intro wz; go_simp; with_reducible rfl)
          try simp only [Act.put, List.setIfInBounds_toArray, List.set_cons_zero, List.set_cons_succ]
          refine wpAnyG_takeY (i := 15) (v := ?_) rfl (by kernel_rfl) (by decide +kernel) (by decide +kernel) (by decide +kernel) (fun _ _ _ h => h) (by kernel_rfl) ?_ (by assumption) ?_
          rotate_left
          · (intro wz; go_simp; with_reducible rfl)
          try simp only [Act.put, List.setIfInBounds_toArray, List.set_cons_zero, List.set_cons_succ]
          refine wpAnyG_takeY (i := 16) (v := ?_) rfl (by kernel_rfl) (by decide +kernel) (by decide +kernel) (by decide +kernel) (fun _ _ _ h => h) (by kernel_rfl) ?_ (by assumption) ?_
          rotate_left
          · (intro wz; go_simp; with_reducible rfl)
          try simp only [Act.put, List.setIfInBounds_toArray, List.set_cons_zero, List.set_cons_succ]
          refine wpAnyG_take (i := 17) (v := ?_) rfl (by kernel_rfl) (by decide +kernel) (by decide +kernel) (by decide +kernel) (by decide +kernel) (by rfl) (fun _ _ _ h => h) (by kernel_rfl) ?_ (by assumption) ?_
          rotate_left
          · (intro wz hSw; (try dsimp only at hSw); go_simp; with_reducible rfl)
          try simp only [Act.put, List.setIfInBounds_toArray, List.set_cons_zero, List.set_cons_succ]
          refine wpAnyG_takeY (i := 18) (v := ?_) rfl (by kernel_rfl) (by decide +kernel) (by decide +kernel) (by decide +kernel) (fun _ _ _ h => h) (by kernel_rfl) ?_ (by assumption) ?_
          rotate_left
          · (intro wz; go_simp; with_reducible rfl)
          try simp only [Act.put, List.setIfInBounds_toArray, List.set_cons_zero, List.set_cons_succ]
          refine wpAnyG_takeY (i := 19) (v := ?_) rfl (by kernel_rfl) (by decide +kernel) (by decide +kernel) (by decide +kernel) (fun _ _ _ h => h) (by kernel_rfl) ?_ (by assumption) ?_
          rotate_left
          · (intro wz; go_simp; with_reducible rfl)
          try simp only [Act.put, List.setIfInBounds_toArray, List.set_cons_zero, List.set_cons_succ]
          refine wpAnyG_takeY (i := 20) (v := ?_) rfl (by kernel_rfl) (by decide +kernel) (by decide +kernel) (by decide +kernel) (fun _ _ _ h => h) (by kernel_rfl) ?_ (by assumption) ?_
          rotate_left
          · (intro wz; go_simp; with_reducible rfl)
          try simp only [Act.put, List.setIfInBounds_toArray, List.set_cons_zero, List.set_cons_succ]
          refine wpAnyG_take (i := 21) (v := ?_) rfl (by kernel_rfl) (by decide +kernel) (by decide +kernel) (by decide +kernel) (by decide +kernel) (by rfl) (fun _ _ _ h => h) (by kernel_rfl) ?_ (by assumption) ?_
          rotate_left
          · (intro wz hSw; (try dsimp only at hSw); go_simp; with_reducible rfl)
          try simp only [Act.put, List.setIfInBounds_toArray, List.set_cons_zero, List.set_cons_succ]
          refine wpAnyG_takeY (i := 22) (v := ?_) rfl (by kernel_rfl) (by decide +kernel) (by decide +kernel) (by decide +kernel) (fun _ _ _ h => h) (by kernel_rfl) ?_ (by assumption) ?_
          rotate_left
          · (intro wz; go_simp; with_reducible rfl)
          try simp only [Act.put, List.setIfInBounds_toArray, List.set_cons_zero, List.set_cons_succ]
          refine wpAnyG_takeY (i := 23) (v := ?_) rfl (by kernel_rfl) (by decide +kernel) (by decide +kernel) (by decide +kernel) (fun _ _ _ h => h) (by kernel_rfl) ?_ (by assumption) ?_
          rotate_left
          · (intro wz; go_simp; with_reducible rfl)
          try simp only [Act.put, List.setIfInBounds_toArray, List.set_cons_zero, List.set_cons_succ]
          refine wpAnyG_done (by kernel_rfl) ?_ _
          go_simp
          go_wp2_with fail
          go_ret2
          have h9 : x.hash = s.h := by simpa using hx1
          have hst : stopP T s (s.i + j) = true := by
            unfold stopP fitE
            rw [← hcN.out, he]
            simp only [Int.toNat_natCast, HGD.out]
            simp [h9]
            exact htl
          have hjf : j = T.far s := far_eq hj (by omega) hst
          have hca : T.cellAt s = e := by unfold Tab.cellAt; rw [← hjf, ← hcN.out]; exact he
          have hns : T.spent s = false := by unfold Tab.spent; rw [HOV.out, HT.out]; simp
          have e1 : T.next s = { s with i := s.i + j + 1, vis := s.vis + j + 1, told := e } := by
            unfold Tab.next; rw [if_neg (by rw [hns]; simp), if_neg (by rw [hca]; omega), ← hjf, hca]
          have e2 : T.walks s = j + 1 := by unfold Tab.walks; rw [if_neg (by rw [hns]; simp), ← hjf]
          unfold NextP
          rw [e1, e2]
          have kz : Keeps [sb] w8 ((w8.setCell ⟨sb, 6, none⟩ (.int .i64 e)).drew) := ((Keeps.refl _ _).setCell (.inr (by simp)) _).drew
          refine ⟨by simp [Sk.says, HOV.out], ⟨skC (s.at (j + 1) (j + 1)), skP (s.at (j + 1) (j + 1)), ?_, fun _ => ⟨rfl, rfl⟩⟩, M8.out.keeps kz HMB.out, K8.out.trans (kz.mono (by simp))⟩
          exact has_setCell B8.out 6 (.int .i64 e)
      · have hd1 : decide ((s.told : Int) < T.V cN) = false := by simpa using htl
        go_wp2_with fail
        refine wp_regionG (fun w' => w'.cell? ⟨sb, 6, none⟩ = some (.int .i64 s.told)) 24 (by kernel_rfl) x6 (fun hF => ?_)
        refine wpAnyG_takeY (i := 0) (v := ?_) rfl (by kernel_rfl) (by decide +kernel) (by decide +kernel) (by decide +kernel) (fun _ _ _ h => h) (by kernel_rfl) ?_ (by assumption) ?_
        rotate_left
        · (intro wz; go_simp; with_reducible rfl)
        try simp only [Act.put, List.setIfInBounds_toArray, List.set_cons_zero, List.set_cons_succ]
        refine wpAnyG_takeY (i := 1) (v := ?_) rfl (by kernel_rfl) (by decide +kernel) (by decide +kernel) (by decide +kernel) (fun _ _ _ h => h) (by kernel_rfl) ?_ (by assumption) ?_
        rotate_left
        · (intro wz; go_simp; with_reducible rfl)
        try simp only [Act.put, List.setIfInBounds_toArray, List.set_cons_zero, List.set_cons_succ]
        refine wpAnyG_takeY (i := 2) (v := ?_) rfl (by kernel_rfl) (by decide +kernel) (by decide +kernel) (by decide +kernel) (fun _ _ _ h => h) (by kernel_rfl) ?_ (by assumption) ?_
        rotate_left
        · (intro wz; go_simp; with_reducible rfl)
        try simp only [Act.put, List.setIfInBounds_toArray, List.set_cons_zero, List.set_cons_succ]
        refine wpAnyG_takeY (i := 3) (v := ?_) rfl (by kernel_rfl) (by decide +kernel) (by decide +kernel) (by decide +kernel) (fun _ _ _ h => h) (by kernel_rfl) ?_ (by assumption) ?_
        rotate_left
        · (intro wz; go_simp; with_reducible rfl)
        try simp only [Act.put, List.setIfInBounds_toArray, List.set_cons_zero, List.set_cons_succ]
        refine wpAnyG_take (i := 4) (v := ?_) rfl (by kernel_rfl) (by decide +kernel) (by decide +kernel) (by decide +kernel) (by decide +kernel) (by rfl) (fun _ _ _ h => h) (by kernel_rfl) ?_ (by assumption) ?_
        rotate_left
        · (intro wz hSw; (try dsimp only at hSw); go_simp; with_reducible rfl)
        try simp only [Act.put, List.setIfInBounds_toArray, List.set_cons_zero, List.set_cons_succ]
        refine wpAnyG_takeY (i := 5) (v := ?_) rfl (by kernel_rfl) (by decide +kernel) (by decide +kernel) (by decide +kernel) (fun _ _ _ h => h) (by kernel_rfl) ?_ (by assumption) ?_
        rotate_left
        · (intro wz; go_simp; with_reducible rfl)
        try simp only [Act.put, List.setIfInBounds_toArray, List.set_cons_zero, List.set_cons_succ]
        refine wpAnyG_takeY (i := 6) (v := ?_) rfl (by kernel_rfl) (by decide +kernel) (by decide +kernel) (by decide +kernel) (fun _ _ _ h => h) (by kernel_rfl) ?_ (by assumption) ?_
        rotate_left
        · (intro wz; go_simp; with_reducible rfl)
        try simp only [Act.put, List.setIfInBounds_toArray, List.set_cons_zero, List.set_cons_succ]
        refine wpAnyG_takeU (i := 7) rfl (by kernel_rfl) (by decide +kernel) (by decide +kernel) (by decide +kernel) (fun _ _ _ h => h) (by kernel_rfl) (by assumption) ?_
        try simp only [Act.put, List.setIfInBounds_toArray, List.set_cons_zero, List.set_cons_succ]
        refine wpAnyG_takeU (i := 8) rfl (by kernel_rfl) (by decide +kernel) (by decide +kernel) (by decide +kernel) (fun _ _ _ h => h) (by kernel_rfl) (by assumption) ?_
        try simp only [Act.put, List.setIfInBounds_toArray, List.set_cons_zero, List.set_cons_succ]
        refine wpAnyG_takeU (i := 9) rfl (by kernel_rfl) (by decide +kernel) (by decide +kernel) (by decide +kernel) (fun _ _ _ h => h) (by kernel_rfl) (by assumption) ?_
        try simp only [Act.put, List.setIfInBounds_toArray, List.set_cons_zero, List.set_cons_succ]
        refine wpAnyG_takeU (i := 10) rfl (by kernel_rfl) (by decide +kernel) (by decide +kernel) (by decide +kernel) (fun _ _ _ h => h) (by kernel_rfl) (by assumption) ?_
        try simp only [Act.put, List.setIfInBounds_toArray, List.set_cons_zero, List.set_cons_succ]
        refine wpAnyG_takeU (i := 11) rfl (by kernel_rfl) (by decide +kernel) (by decide +kernel) (by decide +kernel) (fun _ _ _ h => h) (by kernel_rfl) (by assumption) ?_
        try simp only [Act.put, List.setIfInBounds_toArray, List.set_cons_zero, List.set_cons_succ]
        refine wpAnyG_takeU (i := 12) rfl (by kernel_rfl) (by decide +kernel) (by decide +kernel) (by decide +kernel) (fun _ _ _ h => h) (by kernel_rfl) (by assumption) ?_
        try simp only [Act.put, List.setIfInBounds_toArray, List.set_cons_zero, List.set_cons_succ]
        refine wpAnyG_takeU (i := 13) rfl (by kernel_rfl) (by decide +kernel) (by decide +kernel) (by decide +kernel) (fun _ _ _ h => h) (by kernel_rfl) (by assumption) ?_
        try simp only [Act.put, List.setIfInBounds_toArray, List.set_cons_zero, List.set_cons_succ]
        refine wpAnyG_takeU (i := 14) rfl (by kernel_rfl) (by decide +kernel) (by decide +kernel) (by decide +kernel) (fun _ _ _ h => h) (by kernel_rfl) (by assumption) ?_
        try simp only [Act.put, List.setIfInBounds_toArray, List.set_cons_zero, List.set_cons_succ]
        refine wpAnyG_takeU (i := 15) rfl (by kernel_rfl) (by decide +kernel) (by decide +kernel) (by decide +kernel) (fun _ _ _ h => h) (by kernel_rfl) (by assumption) ?_
        try simp only [Act.put, List.setIfInBounds_toArray, List.set_cons_zero, List.set_cons_succ]
        refine wpAnyG_takeU (i := 16) rfl (by kernel_rfl) (by decide +kernel) (by decide +kernel) (by decide +kernel) (fun _ _ _ h => h) (by kernel_rfl) (by assumption) ?_
        try simp only [Act.put, List.setIfInBounds_toArray, List.set_cons_zero, List.set_cons_succ]
        refine wpAnyG_takeU (i := 17) rfl (by kernel_rfl) (by decide +kernel) (by decide +kernel) (by decide +kernel) (fun _ _ _ h => h) (by kernel_rfl) (by assumption) ?_
        try simp only [Act.put, List.setIfInBounds_toArray, List.set_cons_zero, List.set_cons_succ]
        refine wpAnyG_takeU (i := 18) rfl (by kernel_rfl) (by decide +kernel) (by decide +kernel) (by decide +kernel) (fun _ _ _ h => h) (by kernel_rfl) (by assumption) ?_
        try simp only [Act.put, List.setIfInBounds_toArray, List.set_cons_zero, List.set_cons_succ]
        refine wpAnyG_takeU (i := 19) rfl (by kernel_rfl) (by decide +kernel) (by decide +kernel) (by decide +kernel) (fun _ _ _ h => h) (by kernel_rfl) (by assumption) ?_
        try simp only [Act.put, List.setIfInBounds_toArray, List.set_cons_zero, List.set_cons_succ]
        refine wpAnyG_takeU (i := 20) rfl (by kernel_rfl) (by decide +kernel) (by decide +kernel) (by decide +kernel) (fun _ _ _ h => h) (by kernel_rfl) (by assumption) ?_
        try simp only [Act.put, List.setIfInBounds_toArray, List.set_cons_zero, List.set_cons_succ]
        refine wpAnyG_takeU (i := 21) rfl (by kernel_rfl) (by decide +kernel) (by decide +kernel) (by decide +kernel) (fun _ _ _ h => h) (by kernel_rfl) (by assumption) ?_
        try simp only [Act.put, List.setIfInBounds_toArray, List.set_cons_zero, List.set_cons_succ]
        refine wpAnyG_takeU (i := 22) rfl (by kernel_rfl) (by decide +kernel) (by decide +kernel) (by decide +kernel) (fun _ _ _ h => h) (by kernel_rfl) (by assumption) ?_
        try simp only [Act.put, List.setIfInBounds_toArray, List.set_cons_zero, List.set_cons_succ]
        refine wpAnyG_takeY (i := 23) (v := ?_) rfl (by kernel_rfl) (by decide +kernel) (by decide +kernel) (by decide +kernel) (fun _ _ _ h => h) (by kernel_rfl) ?_ (by assumption) ?_
        rotate_left
        · (intro wz; go_simp; with_reducible rfl)
        try simp only [Act.put, List.setIfInBounds_toArray, List.set_cons_zero, List.set_cons_succ]
        refine wpAnyG_done (by kernel_rfl) ?_ _
        go_simp
        go_wp2_with fail
        have hst : stopP T s (s.i + j) = false := by
          unfold stopP fitE
          rw [← hcN.out]
          simp [hv, htl]
          omega
        go_roundg (T.far s - (j + 1))
        case measure => have := (again hst).2; omega
        case rel => exact ⟨j + 1, rfl, (again hst).2, B8.out, M8.out, K8.out.drew⟩
theorem next_any (k : Nat) (hk : k ≤ 1000) (sb t lo : Nat) (S : List Nat) (m : Option Nat) (c : C4) (T : Tab) (s : Sk) (w : World) (H : TabAt t lo S (mV m) T w) (hM : MtrAt m c w) (hm : ∀ b, m = some b → b < lo) (hI : TInv k T) (hs : SkAt sb t s w) (hsb : sb ∉ S) (hok : SkOk T s) :
    Calls Try.prog 41 #[.pointer (some ⟨sb, 0, none⟩)] w (NextP sb t m c T s w) := by
  by_cases hsp : T.spent s = true
  · obtain ⟨a, cc, cb, cr, h1, h2, h3, h4, _⟩ := id H
    refine next_spent sb t lo S m c T s w H hM hs (fun e => hsb (e ▸ h4)) (fun b hb e => ?_) hsp
    obtain ⟨c1, p1, h9, _⟩ := hs
    exact mtr_ne hM h9 (by rw [hb]; simp [mS, e])
  · unfold Tab.spent at hsp
    simp only [Bool.not_eq_true, Bool.or_eq_false_iff, bne_eq_false_iff_eq] at hsp
    exact next_live k hk sb t lo S m c T s w H hM hm hI hs hsb hok hsp.1 hsp.2
end Go.Proofs.Ytcakdmapnmneoaa
