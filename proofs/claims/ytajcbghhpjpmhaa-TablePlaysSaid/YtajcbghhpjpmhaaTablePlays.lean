/- TablePlays, walked (chapter 7). -/
import Derived.Test.YtajcbghhpjpmhaaTabPlaysZ
import Derived.Test.YtajcbghhpjpmhaaTableTwo
namespace Go.Proofs.Ytajcbghhpjpmhaa
open Go.RowKit
set_option linter.unusedVariables false
set_option linter.unusedSimpArgs false

theorem tablePlays_early (z : Bool) (a1 : Option Addr) (n1 c1 : Nat) (w : World) (h : 400 < n1) :
    Calls Try.prog 8 #[.bool z, .slice a1 n1 c1] w fun e w' => e = .returned (.bool true) ∧ Below w.heap.size w w' := by
  have d1 : decide ((400 : Int) < (n1 : Int)) = true := by simp; omega
  go_enter Try.func8, Try.ntmps8
  go_wp2_with (go_at_call 13; refine (awake7 _).mono ?_; rintro e w' ⟨rfl, hb⟩)
  go_ret
  exact ⟨rfl, hb⟩
theorem plays_both (z : Bool) (la : Option Addr) (ln lc : Nat) (FF : Nat → Int) (w : World) (hr : IntRow .i64 5 w la ln FF) (hl : ln ≤ 400) :
    Calls Try.prog 26 #[.bool z, .slice la ln lc, .pointer none, .pointer none] w (PlaysP none none w) := by
  cases z
  · exact plays_any la ln lc FF none none ⟨0, 0, 0, 0⟩ w hr hl (mtrNone _ _) (ctrNone _ _) (by simp) (by simp [mS])
  · exact plays_zero la ln lc FF none none rfl ⟨0, 0, 0, 0⟩ w hr hl (mtrNone _ _) (ctrNone _ _) (by simp) (by simp [mS])
theorem tablePlays_main (z : Bool) (a1 : Option Addr) (n1 c1 : Nat) (F1 : Nat → Int) (w : World) (h1 : n1 ≤ 400) (s1 : IntRow .i64 5 w a1 n1 F1) :
    Calls Try.prog 8 #[.bool z, .slice a1 n1 c1] w fun e w' => e = .returned (.bool true) ∧ Below w.heap.size w w' := by
  have d1 : decide ((400 : Int) < (n1 : Int)) = false := by simp; omega
  have Z1 := Lib.hid s1
  clear s1
  go_enter Try.func8, Try.ntmps8
  go_wp2_with fail
  refine (plays_both z a1 n1 c1 F1 _ Z1.out h1).mono ?_
  rintro r w1 ⟨xb, F, c, T, so, rfl, t9, _, k9⟩
  have K9 := Lib.hid (show Keeps [] w w1 from k9.mono (by simp [mS]))
  clear t9 k9
  go_wp2_with (go_at_call 13; refine (awake7 _).mono ?_; rintro e w2 ⟨rfl, hb⟩)
  go_ret
  exact ⟨rfl, (K9.out.trans (Below.keeps hb [])).below (Nat.le_refl _) (by simp)⟩
theorem tablePlays_walk (a0 : Bool) (a1 : Option Addr) (len1 cap1 : Nat) (F1 : Nat → Int) (w : World) (w1 : IntRow .i64 5 w a1 len1 F1) :
    Calls Try.prog 8 #[.bool a0, .slice a1 len1 cap1] w fun e w' => e = .returned (.bool true) ∧ Below w.heap.size w w' := by
  by_cases h : 400 < len1
  · exact tablePlays_early a0 a1 len1 cap1 w h
  · exact tablePlays_main a0 a1 len1 cap1 F1 w (by omega) w1
end Go.Proofs.Ytajcbghhpjpmhaa
