/- SweepMarks, walked (chapter 12). -/
import Derived.Test.YtompihlckpjbkaaSweepAwake
import Derived.Test.YtompihlckpjbkaaRowArgs
import Derived.Deep.DeepMust
namespace Go.Proofs.Ytompihlckpjbkaa
open Go.RowKit
set_option linter.unusedVariables false

/-- Is that more than is looked at? -/
def tooLarge (n rn : Nat) (LL : Nat → List Int) : Prop := 200 < n ∨ (n ≤ 200 ∧ 200 < rn) ∨ (n ≤ 200 ∧ rn ≤ 200 ∧ ∃ i, i < n ∧ 60 < (LL i).length)
theorem not_large {n rn : Nat} {LL : Nat → List Int} (h : ¬ tooLarge n rn LL) : n ≤ 200 ∧ rn ≤ 200 ∧ ∀ i, i < n → (LL i).length ≤ 60 := by
  unfold tooLarge at h
  refine ⟨by omega, by omega, fun i hi => ?_⟩
  rcases Nat.lt_or_ge 60 (LL i).length with h1 | h1
  · exact absurd (.inr (.inr ⟨by omega, by omega, i, hi, h1⟩)) h
  · omega

theorem sweepMarks_early (la fa ra : Option Addr) (n lc n2 fc rn rc : Nat) (V0 : Nat → Value) (LL : Nat → List Int) (w : World) (hl : RowsAt w la n V0 LL) (h : tooLarge n rn LL) :
    Calls Try.prog 7 #[.slice la n lc, .slice fa n2 fc, .slice ra rn rc] w fun e w' => e = .returned (.bool true) ∧ Keeps [] w w' := by
  have HL := Lib.hid hl
  have HH := Lib.hid h
  clear hl h
  go_enter Try.func7, Try.ntmps7
  go_wp2_with fail
  refine (large_yes la n lc V0 LL ra rn rc _ HL.out HH.out).mono ?_
  rintro e w1 ⟨rfl, rfl⟩
  go_wp2_with fail
  refine (awake12 _).mono ?_
  rintro e w2 ⟨rfl, k2⟩
  go_wp2_with fail
  go_ret
  exact ⟨rfl, k2⟩

set_option maxRecDepth 100000 in
set_option maxHeartbeats 4000000 in
theorem sweepMarks_main (la fa ra : Option Addr) (n lc n2 fc rn rc : Nat) (V0 : Nat → Value) (LL : Nat → List Int) (F2 F3 : Nat → Int) (w : World) (hl : RowsAt w la n V0 LL) (h : ¬ tooLarge n rn LL) (hf : IntAt w fa n2 F2) (hr : IntAt w ra rn F3) (hnil : ra = none → rn = 0 ∧ rc = 0) :
    Calls Try.prog 7 #[.slice la n lc, .slice fa n2 fc, .slice ra rn rc] w fun e w' => e = .returned (.bool true) ∧ Keeps [] w w' := by
  obtain ⟨j0, hi, hz0, hz1, hz2⟩ := info_parts infoI
  have HJ := Lib.hid (And.intro hi (And.intro hz0 (And.intro hz1 hz2)))
  clear hi hz0 hz1 hz2
  obtain ⟨hn, hrn, hLL⟩ := not_large h
  have HL := Lib.hid hl
  have HLL := Lib.hid hLL
  have HF := Lib.hid hf
  have HR := Lib.hid hr
  have HN := Lib.hid hnil
  have rn' : (rn : Int) ≤ 200 := by omega
  have rn0 : (0 : Int) ≤ (rn : Int) := by omega
  clear hl h hf hr hnil hLL
  go_enter Try.func7, Try.ntmps7
  go_wp2_with fail
  refine (large_no la n lc V0 LL ra rn rc _ HL.out hn hrn HLL.out).mono ?_
  rintro e w0 ⟨rfl, rfl⟩
  go_wp2_with fail
  refine (laid_any la n lc V0 LL fa n2 fc F2 _ HL.out hn HLL.out HF.out).mono ?_
  rintro e w1 ⟨sb, wb, S, R, V, U, T, rfl, hS, hK, -⟩
  obtain ⟨Q, hQ⟩ := rch_ex n T LL (listOf rn F3)
  have HQ := Lib.hid hQ
  have HS := Lib.hid hS
  have HK := Lib.hid hK
  have HR1 := Lib.hid (HR.out.keeps hK)
  have q3 : rn + 1 ≤ maxLen := by unfold maxLen; omega
  have q4 : (rn + 1) * 8 ≤ 140737488355328 := by omega
  have q5 : rn ≤ maxLen := by unfold maxLen; omega
  have q6 : rn * 8 ≤ 140737488355328 := by omega
  have G := Lib.hid (And.intro q3 (And.intro q4 (And.intro q5 q6)))
  clear hQ hS hK q3 q4 q5 q6
  go_wp2_with (first
    | (at_builtin; refine wpList_append_src rfl _ _ 22 rfl w1.heap.size 3 j0 (.int .i64 0) 8 Try.underlying22 HJ.out.1 HJ.out.2.1 HJ.out.2.2.1 HJ.out.2.2.2 rfl rfl ra rn rc (fun j => .int .i64 (F3 j)) rfl HN.out HR1.out (fun k hk => rfl) G.out.2.2.1 G.out.2.2.2 (Nat.le_refl _) ?_; intro xa xc w2 row1 k1; have ROW := Lib.hid row1; have K2 := Lib.hid k1; have z2 := k1.size; clear row1 k1)
    | (at_builtin; refine wpList_append_lies _ rfl _ _ 22 rfl w1.heap.size 3 j0 (.int .i64 0) 1 8 Try.underlying22 HJ.out.1 HJ.out.2.1 HJ.out.2.2.1 HJ.out.2.2.2 rfl (by decide) _ rn (valR rn (fun j => .int .i64 (F3 j))) rfl (World.ownsRow.alloc ROW.out _) ⟨w2.heap.size, 0, none⟩ 1 1 [_] rfl rfl (cell_one_new _ _ _) (by intro u hu; simp at hu; subst hu; rfl) (by decide) G.out.1 G.out.2.1 (by simp <;> omega) (w2.heap.size + 1) (by simp) ?_; intro g cap1 w3 hown hgrow hat hlt1; have kk := grown_keeps hgrow; have K3 := Lib.hid (K2.out.then kk (fun x hx => .inl (ROW.out.blk_lt x hx).1)); have ROW3 := Lib.hid (ValRow.of_append hown); have hcp := ROW3.out.cap_le; unfold maxLen at hcp; obtain ⟨hcp1, hcp2⟩ := hcp; have hcp3 : rn ≤ cap1 := (by omega); clear hgrow hown hat kk hcp1 hcp2))
  have xcell : ∀ k, k < rn → w3.cell? ⟨g, k, none⟩ = some (.int .i64 (F3 k)) := fun k hk => by rw [ROW3.out.cell (by omega)]; simp [putV, show k ≠ rn by omega]
  have xlast : w3.cell? ⟨g, rn, none⟩ = some (.int .i64 77) := by rw [ROW3.out.cell (by omega)]; simp [putV]
  have RX := Lib.hid (show IntAt w3 (some ⟨g, 0, none⟩) rn F3 from fun k hk => ⟨g, 0, rfl, by rw [Nat.zero_add]; exact xcell k hk⟩)
  have XL := Lib.hid xlast
  have SW3 := Lib.hid (HS.out.keeps K3.out)
  have HM := mark_any (.func (.func 28) #[] #[]) LL LL (.inl ⟨rfl, rfl⟩) sb _ n S V T (listOf rn F3) (some ⟨g, 0, none⟩) cap1 Q HQ.out w3 SW3.out.st hn SW3.out.lv.at (by rw [listOf_len]; exact RX.out.rowL) (by rw [listOf_len]; omega)
  rw [listOf_len] at HM
  have HMM := Lib.hid HM
  obtain ⟨N, hN⟩ := ex_hid (cntT Q n)
  have hN2 : (N : Int) ≤ 9223372036854775806 := by have := cntT_le Q n; have := hN.out; omega
  clear HM xcell xlast
  go_wp2_with fail
  refine HMM.out.mono ?_
  rintro e w4 ⟨a4, cap4, rfl, hown4, k4⟩
  have RN4 := Lib.hid (rowN_of hown4 (idxL_len Q n))
  have K4 := Lib.hid k4
  have SW4 := Lib.hid (SW3.out.keeps k4)
  have HR4 := Lib.hid (HR1.out.keeps (K3.out.trans k4))
  have HM5 := refMark_any LL wb _ n R U T (listOf rn F3) ra rc Q HQ.out w4 SW4.out.rf hn SW4.out.lu.at (by rw [listOf_len]; exact HR4.out.rowL) (by rw [listOf_len]; omega)
  rw [listOf_len] at HM5
  have HMM5 := Lib.hid HM5
  rw [← hN.out]
  clear HM5 hown4 k4 HMM
  go_wp2_with fail
  refine HMM5.out.mono ?_
  rintro e w5 ⟨a5, cap5, rfl, hown5, k5⟩
  have RN5 := Lib.hid (rowN_of hown5 (idxL_len Q n))
  have K5 := Lib.hid k5
  rw [← hN.out]
  clear hown5 k5 HMM5
  go_wp2_with fail
  refine (same_eq _ a4 a5 N cap4 cap5 _ ((RN4.out.keeps K5.out).reads (by rw [idxL_len]; exact hN.out)) (RN5.out.reads (by rw [idxL_len]; exact hN.out)) hN2).mono ?_
  rintro e w6 ⟨rfl, hb6⟩
  have K6 := Lib.hid ((K4.out.trans K5.out).trans (Below.keeps hb6 []))
  clear hb6
  go_wp2_with fail
  refine (taken_any _ _ _ _ _ _ _ _ _ _ _ (SW3.out.keeps K6.out) hn).mono ?_
  rintro e w7 ⟨rfl, k7⟩
  have K7 := Lib.hid (K6.out.trans k7)
  have RX7 := Lib.hid (RX.out.keeps K7.out)
  have HR7 := Lib.hid ((HR1.out.keeps K3.out).keeps K7.out)
  clear k7
  go_wp2_with fail
  refine (same_eq (fun k => .int .i64 ((listOf rn F3).getD k 0)) _ _ rn cap1 rc _ ((RX7.out.rowL (c := cap1)).reads) ((HR7.out.rowL (c := rc)).reads) (by omega)).mono ?_
  rintro e w8 ⟨rfl, hb8⟩
  have K8 := Lib.hid (K7.out.trans (Below.keeps hb8 []))
  have x8 := K8.out.cell XL.out (by simp)
  clear hb8
  go_wp2_with fail
  refine (awake12 _).mono ?_
  rintro e w9 ⟨rfl, k9⟩
  have K9 := Lib.hid ((HK.out.trans K3.out).trans (K8.out.trans k9))
  clear k9
  go_wp2_with fail
  go_ret
  exact ⟨rfl, K9.out⟩

theorem sweepMarks_walk (la : Option Addr) (n lc : Nat) (V0 : Nat → Value) (LL : Nat → List Int) (fa : Option Addr) (n2 fc : Nat) (F2 : Nat → Int) (ra : Option Addr) (rn rc : Nat) (F3 : Nat → Int) (w : World) (hl : RowsAt w la n V0 LL) (hf : IntRow .i64 1 w fa n2 F2) (hr : IntRow .i64 1 w ra rn F3) (hnil : ra = none → rn = 0 ∧ rc = 0) :
    Calls Try.prog 7 #[.slice la n lc, .slice fa n2 fc, .slice ra rn rc] w fun e w' => e = .returned (.bool true) ∧ Below w.heap.size w w' := by
  have key : Calls Try.prog 7 #[.slice la n lc, .slice fa n2 fc, .slice ra rn rc] w fun e w' => e = .returned (.bool true) ∧ Keeps [] w w' := by
    by_cases h : tooLarge n rn LL
    · exact sweepMarks_early la fa ra n lc n2 fc rn rc V0 LL w hl h
    · exact sweepMarks_main la fa ra n lc n2 fc rn rc V0 LL F2 F3 w hl h (intAt_of hf) (intAt_of hr) hnil
  exact key.mono fun e w' ⟨he, hk⟩ => ⟨he, hk.below (Nat.le_refl _) (by simp)⟩
end Go.Proofs.Ytompihlckpjbkaa
