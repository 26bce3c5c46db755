/- sweep.Plan: one that is zero (chapter 12). -/
import Derived.Test.YtompihlckpjbkaaSweepPlan4
import Derived.Deep.RegionWith
set_option maxHeartbeats 2000000
namespace Go.Proofs.Ytompihlckpjbkaa
open Go.RowKit Go.Maps Go.ChangeMaps
set_option linter.unusedVariables false

theorem look_none (x : Int) (w : World) : (Instr.lookup 65 (.map none) (.int .i64 x) false).run Try.prog w = .ok (.int .i64 0) w := by kernel_rfl
theorem tick_zero (p : Nat) (k : Int) (w : World) (h : w.heap[p]? = some (.cells #[.map none, .int .i64 k] 67 (0, 0))) (h0 : 0 ≤ k) (h1 : k ≤ 1000) :
    Calls Try.prog 37 #[.pointer (some ⟨p, 0, none⟩)] w fun e w' => e = .returned (.bool false) ∧ w'.heap[p]? = some (.cells #[.map none, .int .i64 (k + 1)] 67 (0, 0)) ∧ Keeps [p] w w' := by
  have c1 := cell_has h (i := 1) rfl
  have f1 := free_of_has h 1
  have K1 := (Keeps.refl [p] w).setCell (p := ⟨p, 1, none⟩) (.inr (by simp)) (.int .i64 (k + 1))
  have B1 := has_setCell h 1 (.int .i64 (k + 1))
  have e0 := cell_has B1 (i := 0) rfl
  have e1 := cell_has B1 (i := 1) rfl
  have hl := fun w => look_none (k + 1) w
  have HK := Lib.hid K1
  have HB := Lib.hid B1
  clear K1 B1 h
  go_enter Try.func37, Try.ntmps37
  go_wp2_with fail
  go_region_with fail
  all_goals
    go_wp2_with fail
    go_ret
    exact ⟨rfl, HB.out, HK.out.drew⟩
end Go.Proofs.Ytompihlckpjbkaa
