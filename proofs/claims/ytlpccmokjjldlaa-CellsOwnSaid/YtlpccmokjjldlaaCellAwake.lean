/- The law's own closed call (chapter 6). -/
import Derived.Test.YtlpccmokjjldlaaCellSet
namespace Go.Proofs.Ytlpccmokjjldlaa
open Go.RowKit
set_option linter.unusedVariables false

theorem awake6 (w : World) : Calls Try.prog 30 #[] w fun e w' => e = .returned (.bool true) ∧ Below w.heap.size w w' := by
  go_enter Try.func30, Try.ntmps30
  go_wp2_with fail
  refine (new_any 3 8 3 rfl (by omega) (by omega) (by decide) _).mono ?_
  rintro e w1 ⟨c, r, rfl, h1, z1, z2, b1⟩
  have H1 := Lib.hid h1
  have B1 := Lib.hid b1
  clear h1 b1
  go_wp2_with fail
  refine (size_any c r 3 8 _ _ H1.out).mono ?_
  rintro e w2 ⟨rfl, b2⟩
  have H2 := Lib.hid (H1.out.below b2)
  have B2 := Lib.hid (B1.out.trans (b2.mono B1.out.size))
  clear b2
  go_wp2_with fail
  refine (room_any c r 3 8 _ _ H2.out (by omega)).mono ?_
  rintro e w3 ⟨rfl, b3⟩
  have H3 := Lib.hid (H2.out.below b3)
  have B3 := Lib.hid (B2.out.trans (b3.mono B2.out.size))
  clear b3
  go_wp2_with fail
  refine (setc_any c r 3 8 _ 0 4 _ H3.out (by omega) (by decide)).mono ?_
  rintro e w4 ⟨rfl, k4, h4⟩
  rw [show setE 8 0 4 = 0 from by decide]
  have H4 := Lib.hid h4
  have B4 := Lib.hid (B3.out.trans (k4.below B3.out.size (by simpa using z2)))
  clear h4 k4
  go_wp2_with fail
  refine (setc_any c r 3 8 _ 0 5 _ H4.out (by omega) (by decide)).mono ?_
  rintro e w5 ⟨rfl, k5, h5⟩
  rw [show setE 8 0 5 = 1 from by decide]
  have B5 := Lib.hid (B4.out.trans (k5.below B4.out.size (by simpa using z2)))
  clear h5 k5
  go_wp2_with fail
  go_ret
  exact ⟨rfl, B5.out⟩
end Go.Proofs.Ytlpccmokjjldlaa
