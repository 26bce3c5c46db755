/- Dictionaries and machines that are none (chapter 8). -/
import Derived.Test.YtcakdmapnmneoaaGreatDictO
namespace Go.Proofs.YtcakdmapnmneoaaGreat
open Go.RowKit
set_option linter.unusedVariables false
set_option linter.unusedSimpArgs false

set_option maxRecDepth 100000 in
theorem nclear (w : World) : Calls Tryz.prog 25 #[.pointer none] w fun r w' => r = .returned (.tuple #[]) ∧ Keeps [] w w' := by
  go_enter Tryz.func25, Tryz.ntmps25
  go_wp2_with fail
  go_end0
  exact ⟨rfl, Keeps.refl _ _⟩
set_option maxRecDepth 100000 in
theorem nlen (w : World) : Calls Tryz.prog 40 #[.pointer none] w fun r w' => r = .returned (.int .i64 0) ∧ Keeps [] w w' := by
  go_enter Tryz.func40, Tryz.ntmps40
  go_wp2_with fail
  go_ret
  exact ⟨rfl, Keeps.refl _ _⟩
set_option maxRecDepth 100000 in
theorem nver (w : World) : Calls Tryz.prog 42 #[.pointer none] w fun r w' => r = .returned (.int .i64 0) ∧ Keeps [] w w' := by
  go_enter Tryz.func42, Tryz.ntmps42
  go_wp2_with fail
  go_ret
  exact ⟨rfl, Keeps.refl _ _⟩
set_option maxRecDepth 100000 in
theorem npairs (w : World) : Calls Tryz.prog 44 #[.pointer none] w fun r w' => r = .returned (.slice none 0 0) ∧ Keeps [] w w' := by
  go_enter Tryz.func44, Tryz.ntmps44
  go_wp2_with fail
  go_ret
  exact ⟨rfl, Keeps.refl _ _⟩
set_option maxRecDepth 100000 in
theorem ncopy (w : World) : Calls Tryz.prog 13 #[.pointer none] w fun r w' => r = .returned (.pointer none) ∧ Keeps [] w w' := by
  go_enter Tryz.func13, Tryz.ntmps13
  go_wp2_with fail
  go_ret
  exact ⟨rfl, Keeps.refl _ _⟩
set_option maxRecDepth 100000 in
theorem nfirst (w : World) : Calls Tryz.prog 38 #[.pointer none] w fun r w' => r = .returned (.tuple #[noE.agg, .int .i64 1]) ∧ Keeps [] w w' := by
  go_enter Tryz.func38, Tryz.ntmps38
  go_wp2_with fail
  exact bodyPost_ret (v := .tuple #[noE.agg, .int .i64 1]) (by simp [results, Tryz.results38, go_sem, noE, Ent.agg, noTrn, Trn.agg, noSight]) rfl ⟨rfl, (Keeps.refl [] w).alloc _⟩
set_option maxRecDepth 100000 in
theorem nlast (w : World) : Calls Tryz.prog 29 #[.pointer none] w fun r w' => r = .returned (.tuple #[noE.agg, .int .i64 1]) ∧ Keeps [] w w' := by
  go_enter Tryz.func29, Tryz.ntmps29
  go_wp2_with fail
  exact bodyPost_ret (v := .tuple #[noE.agg, .int .i64 1]) (by simp [results, Tryz.results29, go_sem, noE, Ent.agg, noTrn, Trn.agg, noSight]) rfl ⟨rfl, (Keeps.refl [] w).alloc _⟩
set_option maxRecDepth 100000 in
theorem nsight (w : World) : Calls Tryz.prog 47 #[.pointer none] w fun r w' => r = .returned (noSight) ∧ Keeps [] w w' := by
  go_enter Tryz.func47, Tryz.ntmps47
  go_wp2_with fail
  exact bodyPost_ret (v := noSight) (by simp [results, Tryz.results47, go_sem, noE, Ent.agg, noTrn, Trn.agg, noSight]) rfl ⟨rfl, (Keeps.refl [] w).alloc _⟩
set_option maxRecDepth 100000 in
theorem nstep (w : World) : Calls Tryz.prog 20 #[.pointer none] w fun r w' => r = .returned (noTrn.agg) ∧ Keeps [] w w' := by
  go_enter Tryz.func20, Tryz.ntmps20
  go_wp2_with fail
  exact bodyPost_ret (v := noTrn.agg) (by simp [results, Tryz.results20, go_sem, noE, Ent.agg, noTrn, Trn.agg, noSight]) rfl ⟨rfl, (Keeps.refl [] w).alloc _⟩
set_option maxRecDepth 100000 in
theorem ntell (b : Bool) (w : World) : Calls Tryz.prog 31 #[.pointer none, .bool b] w fun r w' => r = .returned (.int .i64 1) ∧ Keeps [] w w' := by
  go_enter Tryz.func31, Tryz.ntmps31
  go_wp2_with fail
  go_ret
  exact ⟨rfl, Keeps.refl _ _⟩
set_option maxRecDepth 100000 in
theorem nscan (w : World) : Calls Tryz.prog 81 #[.pointer none] w fun r w' => r = .returned (.int .i64 0) ∧ Keeps [] w w' := by
  go_enter Tryz.func81, Tryz.ntmps81
  go_wp2_with fail
  go_ret
  exact ⟨rfl, Keeps.refl _ _⟩
set_option maxRecDepth 100000 in
theorem nscans (w : World) : Calls Tryz.prog 83 #[.pointer none] w fun r w' => r = .returned (.int .i64 0) ∧ Keeps [] w w' := by
  go_enter Tryz.func83, Tryz.ntmps83
  go_wp2_with fail
  go_ret
  exact ⟨rfl, Keeps.refl _ _⟩
theorem rows_none (w : World) (b : Nat) (g : Int) (hg : ¬ (1 ≤ g ∧ g ≤ 4)) (hb : w.heap[b]? = some (rowsO 4)) :
    (Instr.lookup 120 (.map (some b)) (.int .i64 g) true).run Tryz.prog w = .ok (.tuple #[.agg #[.nilFunc, .nilFunc], .bool false]) w := by
  have hk := Tryz.underlying3
  have hc : (Instr.checkKey false 10000 3 (.int .i64 g)).run Tryz.prog w = .ok () w := MapKept.run_checkKey (k := .int .i64 g) hk (by simp [MapKept.IsKey]) false 9999
  have hf : Instr.findNow (.int .i64) (.int .i64 g) rowsE 0 = some none := by
    have h1 : ¬ g = 1 := by omega
    have h2 : ¬ g = 2 := by omega
    have h3 : ¬ g = 3 := by omega
    have h4 : ¬ g = 4 := by omega
    have b1 : (g == 1) = false := by simpa using h1
    have b2 : (g == 2) = false := by simpa using h2
    have b3 : (g == 3) = false := by simpa using h3
    have b4 : (g == 4) = false := by simpa using h4
    simp [Instr.findNow, Instr.sameNow, rowsE, b1, b2, b3, b4]
  have hb2 : w.heap[b]? = some (.map rowsE.toArray 4) := hb
  have hf2 := MapKept.run_findKey (w := w) hk hf
  have he : rowsE.toArray.isEmpty = false := rfl
  simp [Instr.lookup, run_underlying Tryz.underlying120, MapKept.run_getObj_map hb2, he, hc, hf2, Result.andThen]
set_option maxRecDepth 100000 in
theorem begin_bad (p : Option Addr) (g h k v : Int) (w : World) (hg : ¬ (1 ≤ g ∧ g ≤ 4)) :
    Calls Tryz.prog 18 #[.pointer p, .int .i64 g, .int .i64 h, .int .i64 k, .int .i64 v] w fun r w' => r = .returned (.pointer none) ∧ Keeps [] w w' := by
  go_enter Tryz.func18, Tryz.ntmps18
  go_wp2_with fail
  refine (rows_any w).mono ?_
  rintro r w1 ⟨rfl, b1, k1⟩
  have hget := rows_none w1 w.heap.size g hg b1
  have K1 := Lib.hid k1
  clear b1 k1
  cases p with
  | none =>
    go_wp2_with fail
    go_ret
    exact ⟨rfl, K1.out.alloc _⟩
  | some p =>
    go_wp2_with fail
    go_ret
    exact ⟨rfl, K1.out.alloc _⟩
set_option maxRecDepth 100000 in
theorem begin_nil (g : Nat) (h k v : Int) (w : World) (h1 : 1 ≤ g) (h4 : g ≤ 4) :
    Calls Tryz.prog 18 #[.pointer none, .int .i64 g, .int .i64 h, .int .i64 k, .int .i64 v] w fun r w' => r = .returned (.pointer none) ∧ Keeps [] w w' := by
  go_enter Tryz.func18, Tryz.ntmps18
  go_wp2_with fail
  refine (rows_any w).mono ?_
  rintro r w1 ⟨rfl, b1, k1⟩
  have hget := rows_get w1 w.heap.size g h1 h4 b1
  unfold rowV at hget
  obtain ⟨hf, hhf⟩ : ∃ hf, Hid (hf = hitF g) := ⟨_, Lib.hid rfl⟩
  obtain ⟨mf, hmf⟩ : ∃ mf, Hid (mf = missF g) := ⟨_, Lib.hid rfl⟩
  rw [← hhf.out, ← hmf.out] at hget
  have K1 := Lib.hid k1
  clear b1 k1
  go_wp2_with fail
  go_ret
  exact ⟨rfl, K1.out.alloc _⟩
theorem nbegin (g h k v : Int) (w : World) :
    Calls Tryz.prog 18 #[.pointer none, .int .i64 g, .int .i64 h, .int .i64 k, .int .i64 v] w fun r w' => r = .returned (.pointer none) ∧ Keeps [] w w' := by
  by_cases hg : 1 ≤ g ∧ g ≤ 4
  · obtain ⟨n, rfl⟩ : ∃ n : Nat, g = (n : Int) := ⟨g.toNat, by omega⟩
    exact begin_nil n h k v w (by omega) (by omega)
  · exact begin_bad none g h k v w hg
end Go.Proofs.YtcakdmapnmneoaaGreat
