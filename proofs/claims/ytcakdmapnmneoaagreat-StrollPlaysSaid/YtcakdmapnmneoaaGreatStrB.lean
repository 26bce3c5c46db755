/- A new stroll of no dictionary (chapter 9). -/
import Derived.Test.YtcakdmapnmneoaaGreatStrA
namespace Go.Proofs.YtcakdmapnmneoaaGreat
open Go.RowKit
set_option linter.unusedVariables false
set_option linter.unusedSimpArgs false

set_option maxRecDepth 100000 in
/-- A stroll of a nil dictionary has ended. -/
theorem snew_nil (back : Bool) (w : World) : Calls Tryz.prog 19 #[.pointer none, .bool back] w fun r w' => ∃ sb size ver prs nx ps, r = .returned (.pointer (some ⟨sb, 0, none⟩)) ∧ w'.heap[sb]? = some (strO (.pointer none) size ver prs false nx ps) ∧ w.heap.size ≤ sb ∧ Keeps [] w w' := by
  go_enter Tryz.func19, Tryz.ntmps19
  go_wp2_with fail
  refine (nlen _).mono ?_
  rintro r w1 ⟨rfl, k1⟩
  go_wp2_with fail
  refine (nver _).mono ?_
  rintro r w2 ⟨rfl, k2⟩
  go_wp2_with fail
  refine (npairs _).mono ?_
  rintro r w3 ⟨rfl, k3⟩
  have kk := (k1.trans k2).trans k3
  clear k1 k2 k3
  cases back
  all_goals
    go_wp2_with fail
    go_ret
    exact ⟨w3.heap.size, 0, 0, _, _, _, rfl, has_alloc (has_alloc (has_alloc (has_alloc (has_new _ _) _) _) _) _, kk.size, ((((kk.alloc _).alloc _).alloc _).alloc _).alloc _⟩
end Go.Proofs.YtcakdmapnmneoaaGreat
