/- A stroll in memory, its closures (chapter 9). -/
import Derived.Test.YtcakdmapnmneoaaGreatDictNil
namespace Go.Proofs.YtcakdmapnmneoaaGreat
open Go.RowKit
set_option linter.unusedVariables false
set_option linter.unusedSimpArgs false

/-- A stroll: its dictionary, its size, its version, its pairs, is it broken, its closures. -/
def strO (dp : Value) (size ver : Int) (prs : Value) (broken : Bool) (nx ps : Value) : Obj := .cells #[dp, .int .i64 size, .int .i64 ver, prs, .bool broken, nx, ps] 128 (0, 0)
/-- What was told last. -/
theorem spass_any (tb lb : Nat) (told : Bool) (last birth : Int) (w : World) (ht : w.heap[tb]? = some (.cells #[.bool told] 4 (0, 0))) (hl : w.heap[lb]? = some (.cells #[.int .i64 last] 3 (0, 0))) (hn : tb ≠ lb) :
    Calls Tryz.prog 53 #[.int .i64 birth, .pointer (some ⟨tb, 0, none⟩), .pointer (some ⟨lb, 0, none⟩)] w fun r w' => r = .returned (.tuple #[]) ∧ w'.heap[tb]? = some (.cells #[.bool true] 4 (0, 0)) ∧ w'.heap[lb]? = some (.cells #[.int .i64 birth] 3 (0, 0)) ∧ Keeps [tb, lb] w w' := by
  have HT := Lib.hid ht
  have HL := Lib.hid hl
  have c0 : w.cell? ⟨tb, 0, none⟩ = some (.bool told) := cell_has ht (i := 0) rfl
  have c1 : w.cell? ⟨lb, 0, none⟩ = some (.int .i64 last) := cell_has hl (i := 0) rfl
  have f0 := free_of_has ht 0
  have f1 := free_of_has hl 0
  have n2 : lb ≠ tb := fun e => hn e.symm
  clear ht hl
  go_enter Tryz.func53, Tryz.ntmps53
  go_wp2_with fail
  go_end0
  have k1 : Keeps [tb] w (w.setCell ⟨tb, 0, none⟩ (.bool true)) := (Keeps.refl _ _).setCell (.inr (by simp)) _
  have h1 := has_setCell HT.out 0 (.bool true)
  have h2 := has_setCell (k1.has HL.out (by simp; exact n2)) 0 (.int .i64 birth)
  have k2 : Keeps [lb] (w.setCell ⟨tb, 0, none⟩ (.bool true)) ((w.setCell ⟨tb, 0, none⟩ (.bool true)).setCell ⟨lb, 0, none⟩ (.int .i64 birth)) := (Keeps.refl _ _).setCell (.inr (by simp)) _
  exact ⟨rfl, by simpa using k2.has h1 (by simp; exact hn), by simpa using h2, (k1.mono (by simp)).trans (k2.mono (by simp))⟩
set_option maxRecDepth 100000 in
/-- A stroll that is none. -/
theorem snext_nil (w : World) : Calls Tryz.prog 21 #[.pointer none] w fun r w' => r = .returned (.tuple #[noE.agg, .int .i64 10]) ∧ Keeps [] w w' := by
  go_enter Tryz.func21, Tryz.ntmps21
  go_wp2_with fail
  exact bodyPost_ret (v := .tuple #[noE.agg, .int .i64 10]) (by simp [results, Tryz.results21, go_sem, noE, Ent.agg]) rfl ⟨rfl, (Keeps.refl [] w).alloc _⟩
set_option maxRecDepth 100000 in
/-- A stroll that has ended, or a zero one. -/
theorem snext_ended (sb : Nat) (size ver : Int) (prs : Value) (broken : Bool) (nx ps : Value) (w : World) (H : w.heap[sb]? = some (strO (.pointer none) size ver prs broken nx ps)) : Calls Tryz.prog 21 #[.pointer (some ⟨sb, 0, none⟩)] w fun r w' => r = .returned (.tuple #[noE.agg, .int .i64 10]) ∧ Keeps [] w w' := by
  have c0 : (w.alloc (.cells #[.bool false, .int .i64 0, .int .i64 0, .int .i64 0, .int .i64 0] 78)).cell? ⟨sb, 0, none⟩ = some (.pointer none) := cell_alloc (cell_has H (i := 0) rfl) _
  clear H
  go_enter Tryz.func21, Tryz.ntmps21
  go_wp2_with fail
  exact bodyPost_ret (v := .tuple #[noE.agg, .int .i64 10]) (by simp [results, Tryz.results21, go_sem, noE, Ent.agg]) rfl ⟨rfl, (Keeps.refl [] w).alloc _⟩
end Go.Proofs.YtcakdmapnmneoaaGreat
