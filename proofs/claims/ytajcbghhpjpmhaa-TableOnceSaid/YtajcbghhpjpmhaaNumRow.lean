/- Live entries and their numbers: a row of its own (chapter 7). -/
import Derived.Test.YtajcbghhpjpmhaaTabAddH
import Derived.Laws.MakeOwn
namespace Go.Proofs.Ytajcbghhpjpmhaa
open Go.RowKit
set_option linter.unusedVariables false

/-- The live entries and their numbers, i being the number of the first. -/
def numL : List Ent → Nat → List (Nat × Ent)
  | [], _ => []
  | x :: E, i => if x.live then (i, x) :: numL E (i + 1) else numL E (i + 1)
theorem numL_app (E F : List Ent) : ∀ i, numL (E ++ F) i = numL E i ++ numL F (i + E.length) := by
  induction E with
  | nil => intro i; simp [numL]
  | cons x E ih =>
    intro i
    simp only [List.cons_append, numL, ih]
    rw [show i + 1 + E.length = i + (x :: E).length by simp; omega]
    split <;> simp
theorem numL_succ {E : List Ent} {k : Nat} {x : Ent} (h : E[k]? = some x) : numL (E.take (k + 1)) 0 = numL (E.take k) 0 ++ if x.live then [(k, x)] else [] := by
  have hk := (List.getElem?_eq_some_iff.1 h).1
  rw [List.take_add_one, h, Option.toList_some, numL_app]
  simp [numL, List.length_take, Nat.min_eq_left (Nat.le_of_lt hk)]
theorem numL_snd (E : List Ent) : ∀ i, (numL E i).map (·.2) = liveL E := by
  induction E with
  | nil => intro i; rfl
  | cons x E ih =>
    intro i
    simp only [numL, liveL, List.filter_cons]
    split
    · simp only [List.map_cons]
      congr 1
      exact ih (i + 1)
    · exact ih (i + 1)
theorem numL_len (E : List Ent) (i : Nat) : (numL E i).length = liveN E := by
  rw [← liveL_len, ← numL_snd E i, List.length_map]
theorem numL_get {E : List Ent} {i k : Nat} {p : Nat × Ent} (h : (numL E i)[k]? = some p) : (liveL E)[k]? = some p.2 := by
  rw [← numL_snd E i, List.getElem?_map, h]; rfl
theorem numL_mem {E : List Ent} : ∀ {i : Nat} {p : Nat × Ent}, p ∈ numL E i → i ≤ p.1 ∧ p.1 < i + E.length ∧ E[p.1 - i]? = some p.2 ∧ p.2.live = true := by
  induction E with
  | nil => intro i p h; simp [numL] at h
  | cons x E ih =>
    intro i p h
    unfold numL at h
    have key : p ∈ numL E (i + 1) → i ≤ p.1 ∧ p.1 < i + (x :: E).length ∧ (x :: E)[p.1 - i]? = some p.2 ∧ p.2.live = true := fun h => by
      obtain ⟨h1, h2, h3, h4⟩ := ih h
      refine ⟨by omega, by simp; omega, ?_, h4⟩
      rw [show p.1 - i = (p.1 - (i + 1)) + 1 by omega]
      simpa using h3
    split at h
    · rcases List.mem_cons.1 h with rfl | h
      · rename_i hx; exact ⟨Nat.le_refl _, by simp, by simp, hx⟩
      · exact key h
    · exact key h

def cells6 (p : Nat × Ent) : List Value := .int .i64 p.1 :: p.2.cells
def flatN (N : List (Nat × Ent)) : List Value := N.flatMap cells6
theorem flatN_nil : flatN [] = [] := rfl
theorem flatN_cons (p : Nat × Ent) (N : List (Nat × Ent)) : flatN (p :: N) = cells6 p ++ flatN N := rfl
theorem flatN_len (N : List (Nat × Ent)) : (flatN N).length = N.length * 6 := by
  induction N with
  | nil => rfl
  | cons x E ih => rw [flatN_cons, List.length_append, ih]; simp [cells6, Ent.cells]; omega
theorem flatN_snoc (N : List (Nat × Ent)) (x : Nat × Ent) : flatN (N ++ [x]) = flatN N ++ cells6 x := by simp [flatN]
theorem flatN_get (N : List (Nat × Ent)) : ∀ (i : Nat) (p : Nat × Ent), N[i]? = some p → ∀ j, j < 6 → (flatN N)[i * 6 + j]? = (cells6 p)[j]? := by
  induction N with
  | nil => intro i x h; simp at h
  | cons y N ih =>
    intro i x h j hj
    rw [flatN_cons]
    cases i with
    | zero =>
      simp at h; subst h
      rw [List.getElem?_append_left (by simp [cells6, Ent.cells]; omega)]
      simp
    | succ i =>
      rw [List.getElem?_append_right (by simp [cells6, Ent.cells]; omega)]
      rw [show (i + 1) * 6 + j - (cells6 y).length = i * 6 + j by simp [cells6, Ent.cells]; omega]
      exact ih i x (by simpa using h) j hj
theorem cells6_one (p : Nat × Ent) : ∀ v ∈ cells6 p, v.oneCell' = true := by intro v hv; simp [cells6, Ent.cells] at hv; rcases hv with rfl | rfl | rfl | rfl | rfl | rfl <;> rfl

/-- A row of numbered entries in a block of its own. -/
def NumRow (lo : Nat) (a : Option Addr) (c : Nat) (N : List (Nat × Ent)) (w : World) : Prop := w.ownsRow lo 125 6 (.slice a N.length c) N.length (flatN N)
section
variable {lo : Nat} {a : Option Addr} {c : Nat} {N : List (Nat × Ent)} {w w' : World}
theorem NumRow.nil (lo : Nat) (w : World) : NumRow lo none 0 [] w := World.ownsRow_nil _ _ _ _
theorem NumRow.blk_lt (h : NumRow lo a c N w) : ∀ x, x ∈ blk a → lo ≤ x ∧ x < w.heap.size := by
  intro x hx
  cases a with
  | none => simp [blk] at hx
  | some p => simp [blk] at hx; subst hx; exact h.lt p.block (by simp [Value.ownBlock])
theorem NumRow.keeps {S : List Nat} (h : NumRow lo a c N w) (k : Keeps S w w') (hd : ∀ x, x ∈ blk a → x ∉ S) : NumRow lo a c N w' := by
  obtain ⟨h1, h2⟩ := h
  refine ⟨h1, ?_⟩
  rcases h2 with h2 | ⟨g, cap, cur, a1, a2, a3, a4⟩
  · exact .inl h2
  · refine .inr ⟨g, cap, cur, a1, a2, k.has a3 (hd g ?_), a4⟩
    simp at a1
    simp [a1.1, blk]
theorem NumRow.shape (h : NumRow lo a c N w) (hm : 0 < N.length) : ∃ g, a = some ⟨g, 0, none⟩ := by
  rcases h.2 with ⟨_, h2⟩ | ⟨g, cap, cur, a1, _⟩
  · omega
  · simp at a1; exact ⟨g, a1.1⟩
theorem NumRow.cell {g : Nat} (h : NumRow lo (some ⟨g, 0, none⟩) c N w) {i : Nat} {p : Nat × Ent} (hx : N[i]? = some p) (j : Nat) (hj : j < 6) : w.cell? ⟨g, i * 6 + j, none⟩ = (cells6 p)[j]? := by
  have hi := (List.getElem?_eq_some_iff.1 hx).1
  rw [World.ownsRow.cellAt h (i * 6 + j) (by omega)]
  exact flatN_get N i p hx j hj
theorem NumRow.lift {lo' : Nat} (h : NumRow lo a c N w) (hl : ∀ x, x ∈ blk a → lo' ≤ x) : NumRow lo' a c N w := by
  obtain ⟨h1, h2⟩ := h
  refine ⟨h1, ?_⟩
  rcases h2 with h2 | ⟨g, cap, cur, a1, a2, a3⟩
  · exact .inl h2
  · refine .inr ⟨g, cap, cur, a1, hl g ?_, a3⟩
    simp at a1; simp [a1.1, blk]
end
theorem _root_.Go.wpList_append_run {P : Program} {ops : Array Oper} {rest : List Oper} {o : Oper} {a : Act} {w : World} {Q : Exit → Act → World → Prop} (hgd : o.guard = none) (s x : Operand) (t : TypeId)
    (ho : o.op = .call { callee := .builtin .append, args := #[s, x], argTypes := #[t, t] }) (v1 v2 : Value) (hs : a.eval s = v1) (hx : a.eval x = v2) (r : Value) (w' : World) (hrun : (Builtin.append_ #[t, t] o.type #[v1, v2]).run P w = .ok r w')
    (h : wpList P ops Q rest (a.put o.dst r) w') : wpList P ops Q (o :: rest) a w := by
  refine wpList_plain hgd fun K hK => ?_
  unfold Oper.wp execOp
  simp only [ho, resolve, invoke, builtin, Sem.run_bind, Sem.run_pure, Result.andThen_ok, List.map_toArray, List.map_cons, List.map_nil, hs, hx, hrun]
  exact hK _ _ h
def noN : Value := .agg #[.int .i64 0, .bool false, .int .i64 0, .int .i64 0, .int .i64 0, .int .i64 0]
theorem infoNum : (Try.prog.info? 125).map (fun i => (i.zero, i.size, i.bytes)) = some (some noN, 6, 48) := by kernel_rfl
/-- A new row of none, with room. -/
theorem make_num (W : World) (n : Nat) (hn : n ≤ 1000000) :
    ∃ w', (Instr.makeSlice 121 (.int .i64 0) (.int .i64 (n : Int))).run Try.prog W = .ok (.slice (some ⟨W.heap.size, 0, none⟩) 0 n) w' ∧ NumRow W.heap.size (some ⟨W.heap.size, 0, none⟩) n [] w' ∧ Keeps [] W w' := by
  obtain ⟨j0, hi, hz0, hz1, hz2⟩ := info_parts infoNum
  obtain ⟨w', h1, h2, h3⟩ := run_make_own (P := Try.prog) W W.heap.size 121 125 j0 noN 6 Try.underlying121 hi hz0 hz1 .i64 .i64 n (by rw [hz2]; omega) (by unfold maxLen; omega) (Nat.le_refl _)
  exact ⟨w', h1, h2, ⟨h3.os, h3.tape, h3.output, h3.size, fun k hk _ => h3.block k hk (by simp)⟩⟩
theorem num_append (lo : Nat) (a : Option Addr) (c : Nat) (N : List (Nat × Ent)) (x : Nat × Ent) (W : World) (B : Nat) (h : NumRow lo a c N W) (hB : W.heap[B]? = some (.cells #[.int .i64 x.1, .bool x.2.live, .int .i64 x.2.hash, .int .i64 x.2.key, .int .i64 x.2.val, .int .i64 x.2.birth] 125 (0, 0))) (hl : N.length ≤ 1000000) (hlo : lo ≤ W.heap.size) :
    ∃ g cap w', (Builtin.append_ #[121, 121] 121 #[.slice a N.length c, .slice (some ⟨B, 0, none⟩) 1 1]).run Try.prog W = .ok (.slice (some ⟨g, 0, none⟩) (N.length + 1) cap) w' ∧ NumRow lo (some ⟨g, 0, none⟩) cap (N ++ [x]) w' ∧ Keeps (blk a) W w' ∧ (g ∈ blk a ∨ g = W.heap.size) ∧ g < w'.heap.size := by
  obtain ⟨j0, hi, hz0, hz1, hz2⟩ := info_parts infoNum
  obtain ⟨g, cap, w', r1, r2, r3, r4, r5⟩ := run_append_lies (P := Try.prog) W 121 121 lo 125 j0 noN 6 48 Try.underlying121 hi hz0 hz1 hz2 rfl (by decide) _ N.length (flatN N) h ⟨B, 0, none⟩ 1 1 (cells6 x) rfl
    (fun j u hj => by
      have hlt : j < 6 := by have := (List.getElem?_eq_some_iff.1 hj).1; simpa [cells6, Ent.cells] using this
      rw [show (⟨B, 0, none⟩ : Addr).add j = ⟨B, j, none⟩ by unfold Addr.add; split <;> simp_all, cell_of_has hB]
      match j, hlt with
      | 0, _ | 1, _ | 2, _ | 3, _ | 4, _ | 5, _ => simpa [cells6, Ent.cells] using hj) (cells6_one x) (by decide) (by unfold maxLen; omega) (by omega) hlo _ rfl
  refine ⟨g, cap, w', r1, ?_, ?_, ?_, r5⟩
  · unfold NumRow
    rw [flatN_snoc, List.length_append]
    exact r2
  · exact ⟨r3.os, r3.tape, r3.output, r3.size, fun k hk hn => r3.block k hk (fun e => hn (blk_own a _ _ k e.symm))⟩
  · rcases r4 with r4 | r4
    · exact .inl (blk_own a _ _ g r4)
    · exact .inr r4
end Go.Proofs.Ytajcbghhpjpmhaa
