/- sweep.Plan: Tick with a map of counts (chapter 12). -/
import Derived.Test.YtompihlckpjbkaaSweepPlan
import Derived.Maps.Own
import Derived.Maps.Views
namespace Go.Proofs.Ytompihlckpjbkaa
open Go.RowKit Go.Maps Go.ChangeMaps
set_option linter.unusedVariables false

/-- Block b is a map of counts: f. -/
def MapOf (w : World) (b n : Nat) (f : Int → Int) : Prop :=
  ∃ D : DataW Unit, w.ownsMap Try.prog 3 (plainElem Try.prog 3) b n D ∧ ∀ x, D.atKey (.int .i64 x) (.lit (.int .i64 0)) = .lit (.int .i64 (f x))
theorem MapOf.keeps {w w' : World} {b n : Nat} {f : Int → Int} {S : List Nat} (h : MapOf w b n f) (k : Keeps S w w') (hb : b ∉ S) : MapOf w' b n f := by
  obtain ⟨D, ⟨es, clock, h1, h2, h3, h4⟩, h5⟩ := h
  exact ⟨D, ⟨es, clock, k.has h1 hb, h2, h3, h4⟩, h5⟩
theorem zero_int (w : World) : (zeroValue 3).run Try.prog w = .ok (.int .i64 0) w := by kernel_rfl
theorem MapOf.lookup {w : World} {b n : Nat} {f : Int → Int} (h : MapOf w b n f) (x : Int) (hx : (Lit.int .i64 x).wf = true) : (Instr.lookup 65 (.map (some b)) (.int .i64 x) false).run Try.prog w = .ok (.int .i64 (f x)) w := by
  obtain ⟨D, h1, h2⟩ := h
  obtain ⟨c, hc, he, _⟩ := h1.lookup_int (int_keyed Try.underlying3) Try.underlying65 Try.underlying3 (zero_int w) (keyOf_int_mk Try.underlying3 hx)
  rw [h2] at he
  simp at he
  rw [he]; exact hc
end Go.Proofs.Ytompihlckpjbkaa
