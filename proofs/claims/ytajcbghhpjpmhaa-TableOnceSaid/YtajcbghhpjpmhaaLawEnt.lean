/- Entries compared, counted, appended (chapter 7's laws). -/
import Derived.Test.YtajcbghhpjpmhaaTabSight
import Derived.Test.YtajcbghhpjpmhaaInRound
namespace Go.Proofs.Ytajcbghhpjpmhaa
open Go.RowKit
set_option linter.unusedVariables false
set_option linter.unusedSimpArgs false

theorem eql_ent (x y : Ent) (w : World) : (binOp .eql 32 x.agg y.agg).run Try.prog w = .ok (.bool (decide (x = y))) w := by
  obtain ⟨a, b, c, d, e⟩ := x
  obtain ⟨a', b', c', d', e'⟩ := y
  simp [go_sem, Ent.agg]
  repeat (split <;> try simp_all)
theorem neq_ent (x y : Ent) (w : World) : (binOp .neq 32 x.agg y.agg).run Try.prog w = .ok (.bool (!decide (x = y))) w := by
  obtain ⟨a, b, c, d, e⟩ := x
  obtain ⟨a', b', c', d', e'⟩ := y
  simp [go_sem, Ent.agg]
  repeat (split <;> try simp_all)
theorem EntRow.five {lo g c : Nat} {E : List Ent} {W : World} (h : EntRow lo (some ⟨g, 0, none⟩) c E W) {k : Nat} {x : Ent} (hp : E[k]? = some x) :
    W.cell? ⟨g, k * 5, none⟩ = some (.bool x.live) ∧ W.cell? ⟨g, k * 5 + 1, none⟩ = some (.int .i64 x.hash) ∧ W.cell? ⟨g, k * 5 + 2, none⟩ = some (.int .i64 x.key) ∧ W.cell? ⟨g, k * 5 + 3, none⟩ = some (.int .i64 x.val) ∧ W.cell? ⟨g, k * 5 + 4, none⟩ = some (.int .i64 x.birth) :=
  ⟨h.cell hp 0 (by omega), h.cell hp 1 (by omega), h.cell hp 2 (by omega), h.cell hp 3 (by omega), h.cell hp 4 (by omega)⟩
set_option maxRecDepth 100000 in
set_option maxHeartbeats 2000000 in
theorem entries_same (lo1 lo2 c1 c2 : Nat) (a1 a2 : Option Addr) (E : List Ent) (w : World) (h1 : EntRow lo1 a1 c1 E w) (h2 : EntRow lo2 a2 c2 E w) (hl : E.length ≤ 1000000) :
    Calls Try.prog 18 #[.slice a1 E.length c1, .slice a2 E.length c2] w fun r w' => r = .returned (.bool true) ∧ Keeps [] w w' := by
  have H1 := Lib.hid h1
  have H2 := Lib.hid h2
  obtain ⟨n, hn⟩ := ex_hid E.length
  rw [← hn.out] at hl ⊢
  clear h1 h2
  go_enter Try.func18, Try.ntmps18
  go_wp2_with fail
  go_loopw [5] (fun i wr => ∃ k : Nat, k ≤ n ∧ i = .int .i64 k ∧ Keeps [] w wr) (fun i _ => n - (intOf i).toNat)
  case atStart => exact ⟨0, by omega, rfl, Keeps.refl _ _⟩
  case round =>
    obtain ⟨k, hk, rfl, hK⟩ := hrel
    have hk0 : (0 : Int) ≤ (k : Int) := by omega
    have HK := Lib.hid hK
    by_cases hlt : k < n
    · have hlt' : (k : Int) < (n : Int) := by omega
      obtain ⟨x, hx⟩ : ∃ x, E[k]? = some x := ⟨_, List.getElem?_eq_getElem (by rw [← hn.out]; exact hlt)⟩
      obtain ⟨g1, rfl⟩ := H1.out.shape (by rw [← hn.out]; omega)
      obtain ⟨g2, rfl⟩ := H2.out.shape (by rw [← hn.out]; omega)
      obtain ⟨p0, p1, p2, p3, p4⟩ := (H1.out.keeps hK (by simp)).five hx
      obtain ⟨q0, q1, q2, q3, q4⟩ := (H2.out.keeps hK (by simp)).five hx
      have hq := fun w => neq_ent x x w
      simp only [decide_true, Bool.not_true, Ent.agg] at hq
      clear hK hx
      go_wp2_with fail
      go_region_held3 (fun w' => w'.cell? ⟨g1, k * 5, none⟩ = some (.bool x.live) ∧ w'.cell? ⟨g1, k * 5 + 1, none⟩ = some (.int .i64 x.hash) ∧ w'.cell? ⟨g1, k * 5 + 2, none⟩ = some (.int .i64 x.key) ∧ w'.cell? ⟨g1, k * 5 + 3, none⟩ = some (.int .i64 x.val) ∧ w'.cell? ⟨g1, k * 5 + 4, none⟩ = some (.int .i64 x.birth) ∧ w'.cell? ⟨g2, k * 5, none⟩ = some (.bool x.live) ∧ w'.cell? ⟨g2, k * 5 + 1, none⟩ = some (.int .i64 x.hash) ∧ w'.cell? ⟨g2, k * 5 + 2, none⟩ = some (.int .i64 x.key) ∧ w'.cell? ⟨g2, k * 5 + 3, none⟩ = some (.int .i64 x.val) ∧ w'.cell? ⟨g2, k * 5 + 4, none⟩ = some (.int .i64 x.birth)) (go_keep) (fail)
      go_wp2_with fail
      go_roundw
      case rel => exact ⟨k + 1, by omega, by go_num, HK.out.drew⟩
      case measure => simp [intOf]; omega
    · obtain rfl : k = n := by omega
      have hge : ¬ (k : Int) < (k : Int) := by omega
      clear hK
      go_wp2_with fail
      go_ret
      exact ⟨rfl, HK.out⟩
/-- Entries of another row are appended; none, too. -/
theorem ent_append_src (lo c cc : Nat) (a : Option Addr) (E F : List Ent) (ad : Option Addr) (W : World) (h : EntRow lo a c E W) (hs : F = [] ∨ ∃ p, ad = some p ∧ ∀ (j : Nat) u, (flatE F)[j]? = some u → W.cell? (p.add j) = some u) (hl : E.length + F.length ≤ 1000000) (hlo : lo ≤ W.heap.size) :
    ∃ a' c' w', (Builtin.append_ #[25, 25] 25 #[.slice a E.length c, .slice ad F.length cc]).run Try.prog W = .ok (.slice a' (E.length + F.length) c') w' ∧ EntRow lo a' c' (E ++ F) w' ∧ Keeps (blk a) W w' ∧ (∀ x, x ∈ blk a' → x ∈ blk a ∨ x = W.heap.size) := by
  obtain ⟨j0, hi, hz0, hz1, hz2⟩ := info_parts infoEnt5
  by_cases hF : F = []
  · subst hF
    have hc := h.cap_le.1
    refine ⟨a, c, W, ?_, by simpa using h, Keeps.refl _ _, fun x hx => .inl hx⟩
    simp only [List.length_nil, Nat.add_zero]
    have hl0 : ∀ p : Addr, (loadCells p 0).run Try.prog W = .ok #[] W := fun p => by
      have := run_loadCells_list (P := Try.prog) W p [] (fun j v hv => by simp at hv)
      simpa using this
    cases ad with
    | none => cases a with
      | none => simp [Builtin.append_, run_underlying Try.underlying25, sizeOf, typeInfo, hi, Builtin.lenOf, Builtin.firstCells, hc, storeCells]
      | some q => simp [Builtin.append_, run_underlying Try.underlying25, sizeOf, typeInfo, hi, Builtin.lenOf, Builtin.firstCells, hc, storeCells]
    | some p => cases a with
      | none => simp [Builtin.append_, run_underlying Try.underlying25, sizeOf, typeInfo, hi, Builtin.lenOf, Builtin.firstCells, hc, hl0, storeCells]
      | some q => simp [Builtin.append_, run_underlying Try.underlying25, sizeOf, typeInfo, hi, Builtin.lenOf, Builtin.firstCells, hc, hl0, storeCells]
  · obtain ⟨p, rfl, hp⟩ := hs.resolve_left hF
    have hFl : 0 < F.length := by cases F with | nil => exact absurd rfl hF | cons x F => simp
    obtain ⟨g, cap, w', r1, r2, r3, r4, r5⟩ := run_append_lies (P := Try.prog) W 25 25 lo 32 j0 noE.agg 5 40 Try.underlying25 hi hz0 hz1 hz2 rfl (by decide) _ E.length (flatE E) h p F.length cc (flatE F) (flatE_len F) hp
      (by intro v hv; simp only [flatE, List.mem_flatMap] at hv; obtain ⟨y, _, hy⟩ := hv; exact y.one v hy) hFl (by unfold maxLen; omega) (by omega) hlo _ rfl
    refine ⟨some ⟨g, 0, none⟩, cap, w', r1, ?_, ?_, fun x hx => ?_⟩
    · unfold EntRow
      rw [flatE_app, List.length_append]
      exact r2
    · exact ⟨r3.os, r3.tape, r3.output, r3.size, fun k hk hn => r3.block k hk (fun e => hn (blk_own a _ _ k e.symm))⟩
    · simp [blk] at hx
      subst hx
      rcases r4 with r4 | r4
      · exact .inl (blk_own a _ _ _ r4)
      · exact .inr r4
/-- A part of a row, read. -/
theorem EntRow.part {lo g c : Nat} {E : List Ent} {W : World} (h : EntRow lo (some ⟨g, 0, none⟩) c E W) (o : Nat) : ∀ (j : Nat) u, (flatE (E.drop o))[j]? = some u → W.cell? ((⟨g, o * 5, none⟩ : Addr).add j) = some u := by
  intro j u hj
  rw [show (⟨g, o * 5, none⟩ : Addr).add j = ⟨g, o * 5 + j, none⟩ by unfold Addr.add; split <;> simp_all]
  rw [← flatE_drop, List.getElem?_drop] at hj
  have hlt := (List.getElem?_eq_some_iff.1 hj).1
  rw [flatE_len] at hlt
  rw [World.ownsRow.cellAt h (o * 5 + j) hlt]
  exact hj
theorem EntRow.front {lo g c : Nat} {E : List Ent} {W : World} (h : EntRow lo (some ⟨g, 0, none⟩) c E W) (n : Nat) : ∀ (j : Nat) u, (flatE (E.take n))[j]? = some u → W.cell? ((⟨g, 0, none⟩ : Addr).add j) = some u := by
  intro j u hj
  rw [show (⟨g, 0, none⟩ : Addr).add j = ⟨g, j, none⟩ by unfold Addr.add; split <;> simp_all]
  rw [← flatE_take] at hj
  have hj2 : (flatE E)[j]? = some u := by
    rw [List.getElem?_take] at hj
    split at hj
    · exact hj
    · cases hj
  have hlt := (List.getElem?_eq_some_iff.1 hj2).1
  rw [flatE_len] at hlt
  rw [World.ownsRow.cellAt h j hlt]
  exact hj2
end Go.Proofs.Ytajcbghhpjpmhaa
