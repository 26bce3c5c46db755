/- SlotsPlay, walked (chapter 11): joined. -/
import Derived.Test.YtompihlckpjbkaaSlotsPlayA
import Derived.Test.YtompihlckpjbkaaSlotsPlayB
namespace Go.Proofs.Ytompihlckpjbkaa
open Go.RowKit
open SI
set_option linter.unusedVariables false
attribute [local go_sem ↓] Go.wp_at_zero Go.wp_at_succ

theorem slotsPlay_early (z : Bool) (a : Option Addr) (n c : Nat) (s : Int) (w : World) (h : 400 < n) :
    Calls Try.prog 4 #[.bool z, .slice a n c, .int .i64 s] w fun e w' => e = .returned (.bool true) ∧ Below w.heap.size w w' := by
  have d1 : decide ((400 : Int) < (n : Int)) = true := by simp; omega
  go_enter Try.func4, Try.ntmps4
  go_wp2_with (go_at_call 12; refine (awake11 _).mono ?_; rintro e w' ⟨rfl, hb⟩)
  go_ret
  exact ⟨rfl, hb⟩

theorem slotsPlay_walk (z : Bool) (a : Option Addr) (n c : Nat) (F : Nat → Int) (s : Int) (w : World) (hr : IntRow .i64 3 w a n F) (_ : (Lit.int .i64 s).wf = true) :
    Calls Try.prog 4 #[.bool z, .slice a n c, .int .i64 s] w fun e w' => e = .returned (.bool true) ∧ Below w.heap.size w w' := by
  by_cases h : 400 < n
  · exact slotsPlay_early z a n c s w h
  · cases z with
    | true => exact slotsPlay_true a n c F s w (by omega) (script_of hr)
    | false => exact slotsPlay_false a n c F s w (by omega) (script_of hr)
end Go.Proofs.Ytompihlckpjbkaa
