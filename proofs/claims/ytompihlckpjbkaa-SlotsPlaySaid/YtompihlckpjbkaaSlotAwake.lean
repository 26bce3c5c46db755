/- The law's own closed call (chapter 11). -/
import Derived.Test.YtompihlckpjbkaaSlotOpsDI
import Derived.Outline
namespace Go.Proofs.Ytompihlckpjbkaa
open Go.RowKit
open SI
set_option linter.unusedVariables false

theorem SI.st_below {sb lo : Nat} {S : List Nat} {m : Nat} {V : Nat → Value} {T : Nat → Bool} {w W W' : World} (h : SI.SlotSt sb lo S m V T W) (b : Below lo w W) (hl : lo ≤ w.heap.size) (k : Keeps S W W') : Below lo w W' :=
  b.trans (k.below (Nat.le_trans hl b.size) (fun x hx => (h.foot x hx).1))

set_option maxRecDepth 100000 in
theorem awake11 (w : World) : Calls Try.prog 12 #[] w fun e w' => e = .returned (.bool true) ∧ Below w.heap.size w w' := by
  go_enter Try.func12, Try.ntmps12
  go_wp2_with fail
  refine (new_any _).mono ?_
  rintro e w0 ⟨rfl, rfl⟩
  have H0 := Lib.hid (st_new w w.heap.size (Nat.le_refl _) (fun _ => .int .i64 0) (fun _ => false))
  have B0 := Lib.hid ((Below.refl w.heap.size w).alloc (Nat.le_refl _) (.cells #[.slice none 0 0, .slice none 0 0, .slice none 0 0] 34))
  go_wp2_with fail
  refine (add_st_new _ _ _ _ _ _ _ _ H0.out (by omega) (by intro j hj; omega)).mono ?_
  rintro e w1 ⟨rfl, S1, h1, k1, f1⟩
  have H1 := Lib.hid h1
  have B1 := Lib.hid (st_below H0.out B0.out (Nat.le_refl _) k1)
  clear h1 k1 f1
  go_wp2_with fail
  refine (add_st_new _ _ _ _ _ _ _ _ H1.out (by omega) (fun j hj => by rw [show j = 0 by omega]; rfl)).mono ?_
  rintro e w2 ⟨rfl, S2, h2, k2, f2⟩
  have H2 := Lib.hid h2
  have B2 := Lib.hid (st_below H1.out B1.out (Nat.le_refl _) k2)
  clear h2 k2 f2
  go_wp2_with fail
  refine (free_st_in _ _ _ _ _ _ 0 _ rfl _ H2.out (by rfl) (by omega)).mono ?_
  rintro e w3 ⟨rfl, S3, h3, k3, f3⟩
  have H3 := Lib.hid h3
  have B3 := Lib.hid (st_below H2.out B2.out (Nat.le_refl _) k3)
  clear h3 k3 f3
  go_wp2_with fail
  refine (add_st_old _ _ _ _ _ _ 0 _ _ H3.out (by omega) (by intro j hj; omega) (by omega) (by rfl)).mono ?_
  rintro e w4 ⟨rfl, S4, h4, k4, f4⟩
  have H4 := Lib.hid h4
  have B4 := Lib.hid (st_below H3.out B3.out (Nat.le_refl _) k4)
  clear h4 k4 f4
  go_wp2_with fail
  refine (len_st _ _ _ _ _ _ _ H4.out (by omega)).mono ?_
  rintro e w5 ⟨rfl, k5⟩
  rw [show (cntT (putB (putB (putB (putB (fun _ => false) 0 true) (0 + 1) true) 0 false) 0 true) (0 + 1 + 1)) = 2 by rfl]
  have H5 := Lib.hid (H4.out.keeps k5 (by simp))
  have B5 := Lib.hid (B4.out.trans (k5.below B4.out.size (by simp)))
  clear k5
  go_wp2_with fail
  refine (high_st _ _ _ _ _ _ _ H5.out).mono ?_
  rintro e w6 ⟨rfl, rfl⟩
  go_wp2_with fail
  go_ret
  exact ⟨rfl, B5.out⟩
end Go.Proofs.Ytompihlckpjbkaa
