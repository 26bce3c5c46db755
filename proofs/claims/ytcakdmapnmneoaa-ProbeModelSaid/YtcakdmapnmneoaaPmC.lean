/- ProbeModel: rows of pairs and of asks in memory (chapter 8's laws). -/
import Derived.Test.YtcakdmapnmneoaaPmA
namespace Go.Proofs.Ytcakdmapnmneoaa
open Go.RowKit
set_option linter.unusedVariables false
set_option linter.unusedSimpArgs false

section
variable {E : TypeId} {sz lo n c : Nat} {a : Option Addr} {xs : List Value} {w w' : World}
theorem own_lt8 (h : w.ownsRow lo E sz (.slice a n c) n xs) : ∀ x, x ∈ blk a → lo ≤ x ∧ x < w.heap.size := by
  intro x hx
  cases a with
  | none => simp [blk] at hx
  | some p => simp [blk] at hx; subst hx; exact h.lt p.block (by simp [Value.ownBlock])
theorem own_keeps8 {S : List Nat} (h : w.ownsRow lo E sz (.slice a n c) n xs) (k : Keeps S w w') (hd : ∀ x, x ∈ blk a → x ∉ S) : w'.ownsRow lo E sz (.slice a n c) n xs := by
  obtain ⟨h1, h2⟩ := h
  refine ⟨h1, ?_⟩
  rcases h2 with h2 | ⟨g, cap, cur, a1, a2, a3, a4⟩
  · exact .inl h2
  · refine .inr ⟨g, cap, cur, a1, a2, k.has a3 (hd g ?_), a4⟩
    simp at a1
    simp [a1.1, blk]
theorem own_shape8 (h : w.ownsRow lo E sz (.slice a n c) n xs) (hm : 0 < n) : ∃ g, a = some ⟨g, 0, none⟩ := by
  rcases h.2 with ⟨_, h2⟩ | ⟨g, cap, cur, a1, _⟩
  · omega
  · simp at a1; exact ⟨g, a1.1⟩
theorem own_cap8 (h : w.ownsRow lo E sz (.slice a n c) n xs) : n ≤ c ∧ c ≤ maxLen := by
  rcases h.2 with ⟨h1, h2⟩ | ⟨g, cap, cur, a1, a2, a3, a4, a5, _⟩
  · simp at h1; unfold maxLen; omega
  · simp at a1
    obtain ⟨_, rfl⟩ := a1
    exact ⟨a4, a5⟩
theorem own_notin8 {TY : TypeId} {b : Nat} {cs : Array Value} {f : Nat × Nat} (h : w.ownsRow lo E sz (.slice a n c) n xs) (hb : w.heap[b]? = some (.cells cs TY f)) (he : E ≠ TY) : b ∉ blk a := by
  intro hx
  rcases h.2 with ⟨q, _⟩ | ⟨g1, cap, cur, a1, a2, a3, _⟩
  · simp at q; rw [q.1] at hx; simp [blk] at hx
  · simp at a1; rw [a1.1] at hx; simp [blk] at hx; rw [← hx, hb] at a3; simp at a3; exact he a3.2.1.symm
theorem own_disj8 {E' : TypeId} {sz' lo' n' c' : Nat} {a' : Option Addr} {xs' : List Value} (h : w.ownsRow lo E sz (.slice a n c) n xs) (h' : w.ownsRow lo' E' sz' (.slice a' n' c') n' xs') (he : E ≠ E') : ∀ x, x ∈ blk a → x ∉ blk a' := by
  intro x hx
  rcases h.2 with ⟨q, _⟩ | ⟨g1, cap, cur, a1, a2, a3, _⟩
  · simp at q; rw [q.1] at hx; simp [blk] at hx
  · simp at a1; rw [a1.1] at hx; simp [blk] at hx; subst hx; exact own_notin8 h' a3 (fun e => he e.symm)
theorem own_lift8 {lo' : Nat} (h : w.ownsRow lo E sz (.slice a n c) n xs) (hl : ∀ x, x ∈ blk a → lo' ≤ x) : w.ownsRow lo' E sz (.slice a n c) n xs := by
  obtain ⟨h1, h2⟩ := h
  refine ⟨h1, ?_⟩
  rcases h2 with h2 | ⟨g, cap, cur, a1, a2, a3⟩
  · exact .inl h2
  · refine .inr ⟨g, cap, cur, a1, hl g ?_, a3⟩
    simp at a1; simp [a1.1, blk]
end
def Pr8.cs (p : Pr8) : List Value := [.int .i64 p.h, .int .i64 p.k, .int .i64 p.v]
def Pr8.c (p : Pr8) : Nat → Value
  | 0 => .int .i64 p.h
  | 1 => .int .i64 p.k
  | _ => .int .i64 p.v
def flat8 (P : List Pr8) : List Value := P.flatMap Pr8.cs
theorem flat8_cons (x : Pr8) (P : List Pr8) : flat8 (x :: P) = Pr8.cs x ++ flat8 P := rfl
theorem flat8_len (P : List Pr8) : (flat8 P).length = P.length * 3 := by
  induction P with
  | nil => rfl
  | cons x P ih => rw [flat8_cons, List.length_append, ih]; simp [Pr8.cs]; omega
theorem flat8_app (E F : List Pr8) : flat8 (E ++ F) = flat8 E ++ flat8 F := by simp [flat8]
theorem flat8_one (E : List Pr8) : ∀ v, v ∈ flat8 E → v.oneCell' = true := by
  intro v hv
  simp only [flat8, List.mem_flatMap] at hv
  obtain ⟨y, _, hy⟩ := hv
  simp [Pr8.cs] at hy; rcases hy with rfl | rfl | rfl <;> rfl
theorem flat8_get (P : List Pr8) : ∀ (i : Nat) (x : Pr8), P[i]? = some x → ∀ j, j < 3 → (flat8 P)[i * 3 + j]? = some (Pr8.c x j) := by
  induction P with
  | nil => intro i x h; simp at h
  | cons y P ih =>
    intro i x h j hj
    rw [flat8_cons]
    cases i with
    | zero =>
      simp at h; subst h
      rw [List.getElem?_append_left (by simp [Pr8.cs]; omega)]
      match j, hj with
      | 0, _ | 1, _ | 2, _ => simp [Pr8.cs, Pr8.c]
    | succ i =>
      rw [List.getElem?_append_right (by simp [Pr8.cs]; omega)]
      rw [show (i + 1) * 3 + j - (Pr8.cs y).length = i * 3 + j by simp [Pr8.cs]; omega]
      exact ih i x (by simpa using h) j hj
theorem flat8_take (E : List Pr8) : ∀ n, (flat8 E).take (n * 3) = flat8 (E.take n) := by
  induction E with
  | nil => intro n; simp [flat8]
  | cons x E ih =>
    intro n
    cases n with
    | zero => simp [flat8]
    | succ n =>
      rw [List.take_succ_cons, flat8_cons, flat8_cons, ← ih n, List.take_append, List.take_of_length_le (by simp [Pr8.cs] <;> omega)]
      congr 2
      simp [Pr8.cs] <;> omega
theorem flat8_drop (E : List Pr8) (n : Nat) : (flat8 E).drop (n * 3) = flat8 (E.drop n) := by
  have h : flat8 E = flat8 (E.take n) ++ flat8 (E.drop n) := by rw [← flat8_app, List.take_append_drop]
  by_cases hn : n ≤ E.length
  · rw [h, List.drop_append_of_le_length (by rw [flat8_len]; simp; omega), List.drop_eq_nil_of_le (by rw [flat8_len]; simp; omega)]; simp
  · rw [List.drop_eq_nil_of_le (by rw [flat8_len]; omega), List.drop_eq_nil_of_le (by omega)]; rfl
theorem flat8_set (P : List Pr8) : ∀ (n : Nat) (x : Pr8) (v : Int), P[n]? = some x → (flat8 P).set (n * 3 + 2) (.int .i64 v) = flat8 (P.set n ⟨x.h, x.k, v⟩) := by
  induction P with
  | nil => intro n x v h; simp at h
  | cons y P ih =>
    intro n x v h
    cases n with
    | zero => simp at h; subst h; simp [flat8_cons, Pr8.cs]
    | succ n =>
      rw [flat8_cons, List.set_cons_succ, flat8_cons, ← ih n x v (by simpa using h), List.set_append_right _ _ (by simp [Pr8.cs]; omega)]
      congr 2
      simp [Pr8.cs]; omega
/-- A row of pairs in a block of its own. -/
def P8Row (lo : Nat) (a : Option Addr) (c : Nat) (P : List Pr8) (w : World) : Prop := w.ownsRow lo 113 3 (.slice a P.length c) P.length (flat8 P)
/-- A row of asks. -/
def A8Row (lo : Nat) (a : Option Addr) (c : Nat) (A : List Int) (w : World) : Prop := w.ownsRow lo 3 1 (.slice a A.length c) A.length (A.map (Value.int .i64))
section
variable {lo c g : Nat} {a : Option Addr} {P : List Pr8} {A : List Int} {w w' : World}
theorem P8Row.nil (lo : Nat) (w : World) : P8Row lo none 0 [] w := World.ownsRow_nil _ _ _ _
theorem A8Row.nil (lo : Nat) (w : World) : A8Row lo none 0 [] w := World.ownsRow_nil _ _ _ _
theorem P8Row.cell (h : P8Row lo (some ⟨g, 0, none⟩) c P w) {i : Nat} {x : Pr8} (hx : P[i]? = some x) (j : Nat) (hj : j < 3) : w.cell? ⟨g, i * 3 + j, none⟩ = some (Pr8.c x j) := by
  have hi := (List.getElem?_eq_some_iff.1 hx).1
  rw [World.ownsRow.cellAt h (i * 3 + j) (by omega)]
  exact flat8_get P i x hx j hj
theorem P8Row.free (h : P8Row lo (some ⟨g, 0, none⟩) c P w) (j : Nat) : w.frozen? ⟨g, j, none⟩ = false := World.ownsRow.frozenAt h j
theorem A8Row.cell (h : A8Row lo (some ⟨g, 0, none⟩) c A w) {i : Nat} (hi : i < A.length) : w.cell? ⟨g, i, none⟩ = some (.int .i64 (A.getD i 0)) := by
  rw [World.ownsRow.cellAt h i (by omega), List.getElem?_map, List.getElem?_eq_getElem hi]
  simp [List.getD, hi]
theorem P8Row.put (h : P8Row lo (some ⟨g, 0, none⟩) c P w) {n : Nat} {x : Pr8} (hx : P[n]? = some x) (v : Int) : P8Row lo (some ⟨g, 0, none⟩) c (P.set n ⟨x.h, x.k, v⟩) (w.setCell ⟨g, n * 3 + 2, none⟩ (.int .i64 v)) := by
  have h1 := (World.ownsRow.stored h (n * 3 + 2) (.int .i64 v)).1
  rw [flat8_set P n x v hx] at h1
  unfold P8Row; rw [List.length_set]; exact h1
theorem P8Row.part {o : Nat} (h : P8Row lo (some ⟨g, 0, none⟩) c P w) (o : Nat) : ∀ (j : Nat) u, (flat8 (P.drop o))[j]? = some u → w.cell? ((⟨g, o * 3, none⟩ : Addr).add j) = some u := by
  intro j u hj
  rw [show (⟨g, o * 3, none⟩ : Addr).add j = ⟨g, o * 3 + j, none⟩ by unfold Addr.add; split <;> simp_all]
  rw [← flat8_drop, List.getElem?_drop] at hj
  have hlt := (List.getElem?_eq_some_iff.1 hj).1
  rw [flat8_len] at hlt
  rw [World.ownsRow.cellAt h (o * 3 + j) hlt]
  exact hj
theorem P8Row.front (h : P8Row lo (some ⟨g, 0, none⟩) c P w) (n : Nat) : ∀ (j : Nat) u, (flat8 (P.take n))[j]? = some u → w.cell? ((⟨g, 0, none⟩ : Addr).add j) = some u := by
  intro j u hj
  rw [show (⟨g, 0, none⟩ : Addr).add j = ⟨g, j, none⟩ by unfold Addr.add; split <;> simp_all]
  rw [← flat8_take] at hj
  have hj2 : (flat8 P)[j]? = some u := by
    rw [List.getElem?_take] at hj
    split at hj
    · exact hj
    · cases hj
  have hlt := (List.getElem?_eq_some_iff.1 hj2).1
  rw [flat8_len] at hlt
  rw [World.ownsRow.cellAt h j hlt]
  exact hj2
end
theorem infoPr8 : (Try.prog.info? 113).map (fun i => (i.zero, i.size, i.bytes)) = some (some (.agg #[.int .i64 0, .int .i64 0, .int .i64 0]), 3, 24) := by kernel_rfl
theorem infoI64 : (Try.prog.info? 3).map (fun i => (i.zero, i.size, i.bytes)) = some (some (.int .i64 0), 1, 8) := by kernel_rfl
theorem p8_append (lo : Nat) (a : Option Addr) (c : Nat) (P : List Pr8) (x : Pr8) (W : World) (B : Nat) (h : P8Row lo a c P W) (hB : W.heap[B]? = some (.cells #[.int .i64 x.h, .int .i64 x.k, .int .i64 x.v] 113 (0, 0))) (hl : P.length ≤ 1000000) (hlo : lo ≤ W.heap.size) :
    ∃ g cap w', (Builtin.append_ #[67, 67] 67 #[.slice a P.length c, .slice (some ⟨B, 0, none⟩) 1 1]).run Try.prog W = .ok (.slice (some ⟨g, 0, none⟩) (P.length + 1) cap) w' ∧ P8Row lo (some ⟨g, 0, none⟩) cap (P ++ [x]) w' ∧ Keeps (blk a) W w' ∧ (g ∈ blk a ∨ g = W.heap.size) ∧ g < w'.heap.size := by
  obtain ⟨j0, hi, hz0, hz1, hz2⟩ := info_parts infoPr8
  obtain ⟨g, cap, w', r1, r2, r3, r4, r5⟩ := run_append_lies (P := Try.prog) W 67 67 lo 113 j0 (.agg #[.int .i64 0, .int .i64 0, .int .i64 0]) 3 24 Try.underlying67 hi hz0 hz1 hz2 rfl (by decide) _ P.length (flat8 P) h ⟨B, 0, none⟩ 1 1 (Pr8.cs x) rfl
    (fun j u hj => by
      have hlt : j < 3 := by have := (List.getElem?_eq_some_iff.1 hj).1; simpa [Pr8.cs] using this
      rw [show (⟨B, 0, none⟩ : Addr).add j = ⟨B, j, none⟩ by unfold Addr.add; split <;> simp_all, cell_of_has hB]
      match j, hlt with
      | 0, _ | 1, _ | 2, _ => simpa [Pr8.cs] using hj) (by intro u hu; simp [Pr8.cs] at hu; rcases hu with rfl | rfl | rfl <;> rfl) (by decide) (by unfold maxLen; omega) (by omega) hlo _ rfl
  refine ⟨g, cap, w', r1, ?_, ?_, ?_, r5⟩
  · unfold P8Row
    rw [flat8_app, List.length_append]
    exact r2
  · exact ⟨r3.os, r3.tape, r3.output, r3.size, fun k hk hn => r3.block k hk (fun e => hn (blk_own a _ _ k e.symm))⟩
  · rcases r4 with r4 | r4
    · exact .inl (blk_own a _ _ g r4)
    · exact .inr r4
theorem a8_append (lo : Nat) (a : Option Addr) (c : Nat) (A : List Int) (x : Int) (W : World) (B : Nat) (f : Nat × Nat) (h : A8Row lo a c A W) (hB : W.heap[B]? = some (.cells #[.int .i64 x] 3 f)) (hl : A.length ≤ 1000000) (hlo : lo ≤ W.heap.size) :
    ∃ g cap w', (Builtin.append_ #[22, 22] 22 #[.slice a A.length c, .slice (some ⟨B, 0, none⟩) 1 1]).run Try.prog W = .ok (.slice (some ⟨g, 0, none⟩) (A.length + 1) cap) w' ∧ A8Row lo (some ⟨g, 0, none⟩) cap (A ++ [x]) w' ∧ Keeps (blk a) W w' ∧ (g ∈ blk a ∨ g = W.heap.size) ∧ g < w'.heap.size := by
  obtain ⟨j0, hi, hz0, hz1, hz2⟩ := info_parts infoI64
  obtain ⟨g, cap, w', r1, r2, r3, r4, r5⟩ := run_append_lies (P := Try.prog) W 22 22 lo 3 j0 (.int .i64 0) 1 8 Try.underlying22 hi hz0 hz1 hz2 rfl (by decide) _ A.length (A.map (Value.int .i64)) h ⟨B, 0, none⟩ 1 1 [.int .i64 x] rfl
    (fun j u hj => by
      have hlt : j < 1 := by have := (List.getElem?_eq_some_iff.1 hj).1; simpa using this
      rw [show (⟨B, 0, none⟩ : Addr).add j = ⟨B, j, none⟩ by unfold Addr.add; split <;> simp_all, cell_of_has hB]
      match j, hlt with
      | 0, _ => simpa using hj) (by intro u hu; simp at hu; rcases hu with rfl; rfl) (by decide) (by unfold maxLen; omega) (by omega) hlo _ rfl
  refine ⟨g, cap, w', r1, ?_, ?_, ?_, r5⟩
  · unfold A8Row
    rw [List.map_append, List.length_append]
    exact r2
  · exact ⟨r3.os, r3.tape, r3.output, r3.size, fun k hk hn => r3.block k hk (fun e => hn (blk_own a _ _ k e.symm))⟩
  · rcases r4 with r4 | r4
    · exact .inl (blk_own a _ _ g r4)
    · exact .inr r4
theorem p8_append_src (lo c cc : Nat) (a : Option Addr) (E F : List Pr8) (ad : Option Addr) (W : World) (h : P8Row lo a c E W) (hs : F = [] ∨ ∃ p, ad = some p ∧ ∀ (j : Nat) u, (flat8 F)[j]? = some u → W.cell? (p.add j) = some u) (hl : E.length + F.length ≤ 1000000) (hlo : lo ≤ W.heap.size) :
    ∃ a' c' w', (Builtin.append_ #[67, 67] 67 #[.slice a E.length c, .slice ad F.length cc]).run Try.prog W = .ok (.slice a' (E.length + F.length) c') w' ∧ P8Row lo a' c' (E ++ F) w' ∧ Keeps (blk a) W w' ∧ (∀ x, x ∈ blk a' → x ∈ blk a ∨ x = W.heap.size) := by
  obtain ⟨j0, hi, hz0, hz1, hz2⟩ := info_parts infoPr8
  by_cases hF : F = []
  · subst hF
    have hc := (own_cap8 h).1
    refine ⟨a, c, W, ?_, by simpa using h, Keeps.refl _ _, fun x hx => .inl hx⟩
    simp only [List.length_nil, Nat.add_zero]
    have hl0 : ∀ p : Addr, (loadCells p 0).run Try.prog W = .ok #[] W := fun p => by
      have := run_loadCells_list (P := Try.prog) W p [] (fun j v hv => by simp at hv)
      simpa using this
    cases ad with
    | none => cases a with
      | none => simp [Builtin.append_, run_underlying Try.underlying67, sizeOf, typeInfo, hi, Builtin.lenOf, Builtin.firstCells, hc, storeCells]
      | some q => simp [Builtin.append_, run_underlying Try.underlying67, sizeOf, typeInfo, hi, Builtin.lenOf, Builtin.firstCells, hc, storeCells]
    | some p => cases a with
      | none => simp [Builtin.append_, run_underlying Try.underlying67, sizeOf, typeInfo, hi, Builtin.lenOf, Builtin.firstCells, hc, hl0, storeCells]
      | some q => simp [Builtin.append_, run_underlying Try.underlying67, sizeOf, typeInfo, hi, Builtin.lenOf, Builtin.firstCells, hc, hl0, storeCells]
  · obtain ⟨p, rfl, hp⟩ := hs.resolve_left hF
    have hFl : 0 < F.length := by cases F with | nil => exact absurd rfl hF | cons x F => simp
    obtain ⟨g, cap, w', r1, r2, r3, r4, r5⟩ := run_append_lies (P := Try.prog) W 67 67 lo 113 j0 (.agg #[.int .i64 0, .int .i64 0, .int .i64 0]) 3 24 Try.underlying67 hi hz0 hz1 hz2 rfl (by decide) _ E.length (flat8 E) h p F.length cc (flat8 F) (flat8_len F) hp
      (flat8_one F) hFl (by unfold maxLen; omega) (by omega) hlo _ rfl
    refine ⟨some ⟨g, 0, none⟩, cap, w', r1, ?_, ?_, fun x hx => ?_⟩
    · unfold P8Row
      rw [flat8_app, List.length_append]
      exact r2
    · exact ⟨r3.os, r3.tape, r3.output, r3.size, fun k hk hn => r3.block k hk (fun e => hn (blk_own a _ _ k e.symm))⟩
    · simp [blk] at hx
      subst hx
      rcases r4 with r4 | r4
      · exact .inl (blk_own a _ _ _ r4)
      · exact .inr r4
end Go.Proofs.Ytcakdmapnmneoaa
