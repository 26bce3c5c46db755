/- sweep.Plan: Tick (chapter 12). -/
import Derived.Test.YtompihlckpjbkaaSweepPlan2
import Derived.Deep.RegionWith
set_option maxHeartbeats 2000000
namespace Go.Proofs.Ytompihlckpjbkaa
open Go.RowKit Go.Maps Go.ChangeMaps
set_option linter.unusedVariables false

theorem MapOf.made (w : World) : MapOf (w.alloc (.map #[] 0)) w.heap.size 0 (fun _ => 0) :=
  ⟨_, World.ownsMap_made w _ _ _, fun x => by simp [DataW.atKey]⟩

/-- A plan: how often each count was named, and how far it is. -/
structure PlanAt (p b n : Nat) (f : Int → Int) (k : Int) (w : World) : Prop where
  box : w.heap[p]? = some (.cells #[.map (some b), .int .i64 k] 67 (0, 0))
  map : MapOf w b n f
  ne : b ≠ p
theorem PlanAt.keeps {p b n : Nat} {f : Int → Int} {k : Int} {S : List Nat} {w w' : World} (h : PlanAt p b n f k w) (hk : Keeps S w w') (hp : p ∉ S) (hb : b ∉ S) : PlanAt p b n f k w' := ⟨hk.has h.box hp, h.map.keeps hk hb, h.ne⟩

theorem tick_some (p b n : Nat) (f : Int → Int) (k : Int) (w : World) (h : PlanAt p b n f k w) (h0 : 0 ≤ k) (h1 : k ≤ 1000) :
    Calls Try.prog 37 #[.pointer (some ⟨p, 0, none⟩)] w fun e w' => e = .returned (.bool (decide (0 < f (k + 1)))) ∧ PlanAt p b n f (k + 1) w' ∧ Keeps [p] w w' := by
  have c1 := cell_has h.box (i := 1) rfl
  have f1 := free_of_has h.box 1
  have K1 := (Keeps.refl [p] w).setCell (p := ⟨p, 1, none⟩) (.inr (by simp)) (.int .i64 (k + 1))
  have B1 := has_setCell h.box 1 (.int .i64 (k + 1))
  have M1 := h.map.keeps K1 (by simp; exact h.ne)
  have hw : (Lit.int .i64 (k + 1)).wf = true := by simp [Lit.wf, IntKind.min, IntKind.max, IntKind.signed, IntKind.bits]; omega
  have e0 := cell_has B1 (i := 0) rfl
  have e1 := cell_has B1 (i := 1) rfl
  have hl := (M1.keeps (Keeps.refl [] _).drew (by simp)).lookup (k + 1) hw
  have HH := Lib.hid (PlanAt.mk B1 M1 h.ne)
  have HK := Lib.hid K1
  clear K1 B1 M1 h
  go_enter Try.func37, Try.ntmps37
  go_wp2_with fail
  go_region_with fail
  all_goals
    go_wp2_with fail
    go_ret
    exact ⟨rfl, HH.out.keeps (Keeps.refl [] _).drew (by simp) (by simp), HK.out.drew⟩
end Go.Proofs.Ytompihlckpjbkaa
