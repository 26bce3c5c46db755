/- A namespace that is none (nil or zero): every call; a family that is nil (chapter 10). -/
import Derived.Test.YtajmfenfajbakaaShOe
import Derived.Test.YtajmfenfajbakaaShO
namespace Go.Proofs.Ytajmfenfajbakaa
open Go.RowKit
set_option linter.unusedVariables false
set_option linter.unusedSimpArgs false

theorem slen_nil (w : World) :
    Calls Try.prog 16 #[.pointer none] w fun r w' => r = .returned (.int .i64 0) ∧ Keeps [] w w' := by
  go_enter Try.func16, Try.ntmps16
  go_wp2_with fail
  refine (snone_nil _).mono ?_
  rintro r w1 ⟨rfl, rfl⟩
  go_wp2_with fail
  go_ret
  exact ⟨rfl, Keeps.refl _ _⟩
theorem sget_nil (s : ByteArray) (w : World) :
    Calls Try.prog 26 #[.pointer none, .string s] w fun r w' => r = .returned (.tuple #[.int .i64 0, .bool false]) ∧ Keeps [] w w' := by
  go_enter Try.func26, Try.ntmps26
  go_wp2_with fail
  refine (snone_nil _).mono ?_
  rintro r w1 ⟨rfl, rfl⟩
  go_wp2_with fail
  go_ret2
  exact ⟨rfl, Keeps.refl _ _⟩
theorem sset_nil (s : ByteArray) (v : Int) (w : World) :
    Calls Try.prog 11 #[.pointer none, .string s, .int .i64 v] w fun r w' => r = .returned (.int .i64 1) ∧ Keeps [] w w' := by
  go_enter Try.func11, Try.ntmps11
  go_wp2_with fail
  refine (snone_nil _).mono ?_
  rintro r w1 ⟨rfl, rfl⟩
  go_wp2_with fail
  go_ret
  exact ⟨rfl, Keeps.refl _ _⟩
theorem sdel_nil (s : ByteArray) (w : World) :
    Calls Try.prog 24 #[.pointer none, .string s] w fun r w' => r = .returned (.int .i64 1) ∧ Keeps [] w w' := by
  go_enter Try.func24, Try.ntmps24
  go_wp2_with fail
  refine (snone_nil _).mono ?_
  rintro r w1 ⟨rfl, rfl⟩
  go_wp2_with fail
  go_ret
  exact ⟨rfl, Keeps.refl _ _⟩
theorem spairs_nil (w : World) :
    Calls Try.prog 17 #[.pointer none] w fun r w' => r = .returned (.slice none 0 0) ∧ Keeps [] w w' := by
  go_enter Try.func17, Try.ntmps17
  go_wp2_with fail
  refine (snone_nil _).mono ?_
  rintro r w1 ⟨rfl, rfl⟩
  go_wp2_with fail
  go_ret
  exact ⟨rfl, Keeps.refl _ _⟩
theorem sshared_nil (w : World) :
    Calls Try.prog 12 #[.pointer none] w fun r w' => r = .returned (.bool false) ∧ Keeps [] w w' := by
  go_enter Try.func12, Try.ntmps12
  go_wp2_with fail
  refine (snone_nil _).mono ?_
  rintro r w1 ⟨rfl, rfl⟩
  go_wp2_with fail
  go_ret
  exact ⟨rfl, Keeps.refl _ _⟩
set_option maxRecDepth 100000 in
theorem ssight_nil (w : World) :
    Calls Try.prog 27 #[.pointer none] w fun r w' => r = .returned noSight ∧ Keeps [] w w' := by
  go_enter Try.func27, Try.ntmps27
  go_wp2_with fail
  refine (snone_nil _).mono ?_
  rintro r w1 ⟨rfl, rfl⟩
  go_wp2_with fail
  exact bodyPost_ret (v := noSight) (by simp [results, Try.results27, go_sem, noSight]) rfl ⟨rfl, (Keeps.refl [] w).alloc _⟩
theorem slen_zero (sb : Nat) (w : World) (c0 : w.cell? ⟨sb, 0, none⟩ = some (.pointer none)) :
    Calls Try.prog 16 #[.pointer (some ⟨sb, 0, none⟩)] w fun r w' => r = .returned (.int .i64 0) ∧ Keeps [] w w' := by
  go_enter Try.func16, Try.ntmps16
  go_wp2_with fail
  refine (snone_zero sb _ c0).mono ?_
  rintro r w1 ⟨rfl, rfl⟩
  clear c0
  go_wp2_with fail
  go_ret
  exact ⟨rfl, Keeps.refl _ _⟩
theorem sget_zero (sb : Nat) (s : ByteArray) (w : World) (c0 : w.cell? ⟨sb, 0, none⟩ = some (.pointer none)) :
    Calls Try.prog 26 #[.pointer (some ⟨sb, 0, none⟩), .string s] w fun r w' => r = .returned (.tuple #[.int .i64 0, .bool false]) ∧ Keeps [] w w' := by
  go_enter Try.func26, Try.ntmps26
  go_wp2_with fail
  refine (snone_zero sb _ c0).mono ?_
  rintro r w1 ⟨rfl, rfl⟩
  clear c0
  go_wp2_with fail
  go_ret2
  exact ⟨rfl, Keeps.refl _ _⟩
theorem sset_zero (sb : Nat) (s : ByteArray) (v : Int) (w : World) (c0 : w.cell? ⟨sb, 0, none⟩ = some (.pointer none)) :
    Calls Try.prog 11 #[.pointer (some ⟨sb, 0, none⟩), .string s, .int .i64 v] w fun r w' => r = .returned (.int .i64 1) ∧ Keeps [] w w' := by
  go_enter Try.func11, Try.ntmps11
  go_wp2_with fail
  refine (snone_zero sb _ c0).mono ?_
  rintro r w1 ⟨rfl, rfl⟩
  clear c0
  go_wp2_with fail
  go_ret
  exact ⟨rfl, Keeps.refl _ _⟩
theorem sdel_zero (sb : Nat) (s : ByteArray) (w : World) (c0 : w.cell? ⟨sb, 0, none⟩ = some (.pointer none)) :
    Calls Try.prog 24 #[.pointer (some ⟨sb, 0, none⟩), .string s] w fun r w' => r = .returned (.int .i64 1) ∧ Keeps [] w w' := by
  go_enter Try.func24, Try.ntmps24
  go_wp2_with fail
  refine (snone_zero sb _ c0).mono ?_
  rintro r w1 ⟨rfl, rfl⟩
  clear c0
  go_wp2_with fail
  go_ret
  exact ⟨rfl, Keeps.refl _ _⟩
theorem spairs_zero (sb : Nat) (w : World) (c0 : w.cell? ⟨sb, 0, none⟩ = some (.pointer none)) :
    Calls Try.prog 17 #[.pointer (some ⟨sb, 0, none⟩)] w fun r w' => r = .returned (.slice none 0 0) ∧ Keeps [] w w' := by
  go_enter Try.func17, Try.ntmps17
  go_wp2_with fail
  refine (snone_zero sb _ c0).mono ?_
  rintro r w1 ⟨rfl, rfl⟩
  clear c0
  go_wp2_with fail
  go_ret
  exact ⟨rfl, Keeps.refl _ _⟩
theorem sshared_zero (sb : Nat) (w : World) (c0 : w.cell? ⟨sb, 0, none⟩ = some (.pointer none)) :
    Calls Try.prog 12 #[.pointer (some ⟨sb, 0, none⟩)] w fun r w' => r = .returned (.bool false) ∧ Keeps [] w w' := by
  go_enter Try.func12, Try.ntmps12
  go_wp2_with fail
  refine (snone_zero sb _ c0).mono ?_
  rintro r w1 ⟨rfl, rfl⟩
  clear c0
  go_wp2_with fail
  go_ret
  exact ⟨rfl, Keeps.refl _ _⟩
set_option maxRecDepth 100000 in
theorem ssight_zero (sb : Nat) (w : World) (c0 : w.cell? ⟨sb, 0, none⟩ = some (.pointer none)) :
    Calls Try.prog 27 #[.pointer (some ⟨sb, 0, none⟩)] w fun r w' => r = .returned noSight ∧ Keeps [] w w' := by
  go_enter Try.func27, Try.ntmps27
  go_wp2_with fail
  refine (snone_zero sb _ (cell_alloc c0 _)).mono ?_
  rintro r w1 ⟨rfl, rfl⟩
  clear c0
  go_wp2_with fail
  exact bodyPost_ret (v := noSight) (by simp [results, Try.results27, go_sem, noSight]) rfl ⟨rfl, (Keeps.refl [] w).alloc _⟩
theorem sver_nil (w : World) : Calls Try.prog 25 #[.pointer none] w fun r w' => r = .returned (.int .i64 0) ∧ Keeps [] w w' := by
  go_enter Try.func25, Try.ntmps25
  go_wp2_with fail
  go_ret
  exact ⟨rfl, Keeps.refl _ _⟩
set_option maxRecDepth 100000 in
theorem sver_zero (sb : Nat) (w : World) (c2 : w.cell? ⟨sb, 2, none⟩ = some (.int .u64 0)) : Calls Try.prog 25 #[.pointer (some ⟨sb, 0, none⟩)] w fun r w' => r = .returned (.int .i64 0) ∧ Keeps [] w w' := by
  go_enter Try.func25, Try.ntmps25
  go_wp2_with fail
  go_ret
  exact ⟨rfl, Keeps.refl _ _⟩
theorem fmake_nil (w : World) : Calls Try.prog 10 #[.pointer none] w fun r w' => r = .returned (.pointer none) ∧ Keeps [] w w' := by
  go_enter Try.func10, Try.ntmps10
  go_wp2_with fail
  go_ret
  exact ⟨rfl, Keeps.refl _ _⟩
set_option maxRecDepth 100000 in
theorem fsight_nil (w : World) : Calls Try.prog 18 #[.pointer none] w fun r w' => r = .returned noSight ∧ Keeps [] w w' := by
  go_enter Try.func18, Try.ntmps18
  go_wp2_with fail
  exact bodyPost_ret (v := noSight) (by simp [results, Try.results18, go_sem, noSight]) rfl ⟨rfl, (Keeps.refl [] w).alloc _⟩
end Go.Proofs.Ytajmfenfajbakaa
