/- A dictionary's version (chapter 8). -/
import Derived.Test.YtcakdmapnmneoaaDictO
namespace Go.Proofs.Ytcakdmapnmneoaa
open Go.RowKit
set_option linter.unusedVariables false
theorem dver8_any (db t lo : Nat) (S : List Nat) (mv : Value) (d : Dic) (w : World) (H : DicAt db t lo S mv d w) (hv : d.ver ≤ 1000000) :
    Calls Try.prog 17 #[.pointer (some ⟨db, 0, none⟩)] w fun r w' => r = .returned (.int .i64 d.ver) ∧ w = w' := by
  have c2 : w.cell? ⟨db, 2, none⟩ = some (.int .u64 d.ver) := cell_has H.b (i := 2) rfl
  obtain ⟨v, hvv⟩ := ex_hid d.ver
  rw [← hvv.out] at c2 hv ⊢
  have hq : wrap64 (v : Int) = (v : Int) := IntWalk.wrap64_in _ (by omega)
  have hq2 : IntKind.i64.wrap (v : Int) = (v : Int) := by rw [IntWalk.i64_left]; exact hq
  clear H
  go_enter Try.func17, Try.ntmps17
  go_wp2_with fail
  go_ret
  exact ⟨rfl, rfl⟩
end Go.Proofs.Ytcakdmapnmneoaa
