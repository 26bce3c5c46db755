/- A zero table, and how a table begins (chapter 7). -/
import Derived.Test.YtcakdmapnmneoaaB4
namespace Go.Proofs.Ytcakdmapnmneoaa
open Go.RowKit
set_option linter.unusedVariables false

/-- Behind begin: the table has begun; Q: what was turned. -/
def BegP (t lo : Nat) (S Q : List Nat) (m : Value) (T : Tab) (w : World) (r : Ending) (w' : World) : Prop :=
  r = .returned (.tuple #[]) ∧ ∃ S', TabAt t lo S' m T w' ∧ Keeps Q w w' ∧ Grew S w S'
theorem begin_beg (t lo : Nat) (S : List Nat) (m : Value) (T : Tab) (w : World) (H : TabAt t lo S m T w) :
    Calls Try.prog 74 #[.pointer (some ⟨t, 0, none⟩)] w (BegP t lo S [] m T w) := by
  refine (begin_any t lo S m T.E T.V T.L (liveN T.E) T.births T.made T.turns w H).mono ?_
  rintro r w' ⟨rfl, rfl⟩
  exact ⟨rfl, S, H, Keeps.refl _ _, Grew.refl _ _⟩
/-- A zero table's block. -/
def zeroO : Obj := tabO (.pointer none) (.slice none 0 0) (.pointer none) (.int .i64 0) (.int .i64 0) (.int .i64 0) (.int .i64 0)
theorem begin_zero (t lo : Nat) (w : World) (h : w.heap[t]? = some zeroO) (hl : lo ≤ t) :
    Calls Try.prog 74 #[.pointer (some ⟨t, 0, none⟩)] w (BegP t lo [t] [t] (.pointer none) newT w) := by
  have H := Lib.hid h
  have e1 : w.cell? ⟨t, 2, none⟩ = some (.pointer none) := cell_has h (i := 2) rfl
  have lt := lt_of_block h
  clear h
  go_enter Try.func74, Try.ntmps74
  go_wp2_with fail
  refine (index_any t 3 3 rfl none ⟨0, 0, 0, 0⟩ (.slice none 0 0) (.pointer none) (.int .i64 0) (.int .i64 0) (.int .i64 0) 0 w H.out (by intro b hb; simp at hb) (by simp) (by omega) (by omega) (by omega) (by omega)).mono ?_
  rintro e w1 ⟨rfl, cb, cr, h1, h2, h3, h4, h5, k⟩
  have H1 := Lib.hid h1
  have H2 := Lib.hid h2
  have K := Lib.hid k
  have z := k.size
  clear h1 h2 h5 k
  go_wp2_with fail
  go_end0
  refine ⟨rfl, [t, cb, cr], ⟨none, 0, cb, cr, H1.out, EntRow.nil _ _, H2.out, by simp, by simp, by simp, by simp [blk], ?_⟩, K.out.mono (by simp [mS]), ?_⟩
  · have l1 := lt_of_block H2.out.ho
    have l2 := lt_of_block H2.out.hr
    intro x hx
    simp at hx
    rcases hx with rfl | rfl | rfl <;> omega
  · intro x hx
    simp at hx
    rcases hx with rfl | rfl | rfl
    · exact .inl (by simp)
    · exact .inr h3
    · exact .inr h4
end Go.Proofs.Ytcakdmapnmneoaa
