/- Rows of values of the program's own, which grow. No program in sight. -/
import Derived.Test.YtajcbghhpjpmhaaMem
import Derived.Deep.Onto
namespace Go.Proofs.Ytajcbghhpjpmhaa
set_option linter.unusedVariables false

/-- The blocks that a slice stands on. -/
def blk : Option Addr → List Nat
  | some p => [p.block]
  | none => []
theorem blk_own (a : Option Addr) (m c : Nat) (x : Nat) (h : (Value.slice a m c).ownBlock = some x) : x ∈ blk a := by
  cases a with
  | none => simp [Value.ownBlock] at h
  | some p => simp [Value.ownBlock] at h; simp [blk, h]

/-- The first m values of V. -/
def valR (m : Nat) (V : Nat → Value) : List Value := (List.range m).map V
theorem valR_get {m : Nat} {V : Nat → Value} {k : Nat} (h : k < m) : (valR m V)[k]? = some (V k) := by simp [valR, h]
theorem valR_len (m : Nat) (V : Nat → Value) : (valR m V).length = m := by simp [valR]
theorem valR_congr {m : Nat} {V U : Nat → Value} (h : ∀ k, k < m → V k = U k) : valR m V = valR m U := by
  unfold valR
  exact List.map_congr_left fun v hv => h v (List.mem_range.1 hv)
/-- One value laid anew. -/
def putV (V : Nat → Value) (i : Nat) (x : Value) : Nat → Value := fun k => if k = i then x else V k
theorem valR_snoc (m : Nat) (V : Nat → Value) (x : Value) : valR m V ++ [x] = valR (m + 1) (putV V m x) := by
  simp only [valR, List.range_succ, List.map_append, List.map_cons, List.map_nil]
  congr 1
  · exact List.map_congr_left fun v hv => by have := List.mem_range.1 hv; simp [putV, show v ≠ m by omega]
  · simp [putV]
theorem valR_set (m : Nat) (V : Nat → Value) (i : Nat) (x : Value) : (valR m V).set i x = valR m (putV V i x) := by
  apply List.ext_getElem?
  intro k
  rw [List.getElem?_set]
  by_cases h : k < m
  · rw [valR_get (V := putV V i x) h]
    by_cases e : i = k
    · subst e; simp [valR_len, h, putV]
    · rw [if_neg e, valR_get h]; simp [putV, show ¬ k = i by omega]
  · have h1 : ∀ U : Nat → Value, (valR m U)[k]? = none := fun U => by simp [valR]; omega
    rw [h1, h1]
    split
    · rename_i e; subst e; rw [valR_len, if_neg h]
    · rfl

/-- A row of m values of one cell each, in a block of its own. -/
def ValRow (E : TypeId) (lo : Nat) (a : Option Addr) (m c : Nat) (V : Nat → Value) (w : World) : Prop := w.ownsRow lo E 1 (.slice a m c) m (valR m V)
section
variable {E : TypeId} {lo : Nat} {a : Option Addr} {m c : Nat} {V U : Nat → Value} {w w' : World}
theorem ValRow.nil (E : TypeId) (lo : Nat) (V : Nat → Value) (w : World) : ValRow E lo none 0 0 V w := World.ownsRow_nil _ _ _ _
theorem ValRow.blk_lt (h : ValRow E lo a m c V w) : ∀ x, x ∈ blk a → lo ≤ x ∧ x < w.heap.size := by
  intro x hx
  cases a with
  | none => simp [blk] at hx
  | some p =>
    simp [blk] at hx
    subst hx
    exact h.lt p.block (by simp [Value.ownBlock])
theorem ValRow.keeps {S : List Nat} (h : ValRow E lo a m c V w) (k : Keeps S w w') (hd : ∀ x, x ∈ blk a → x ∉ S) : ValRow E lo a m c V w' := by
  obtain ⟨h1, h2⟩ := h
  refine ⟨h1, ?_⟩
  rcases h2 with h2 | ⟨g, cap, cur, a1, a2, a3, a4⟩
  · exact .inl h2
  · refine .inr ⟨g, cap, cur, a1, a2, k.has a3 (hd g ?_), a4⟩
    simp at a1
    simp [a1.1, blk]
theorem ValRow.shape (h : ValRow E lo a m c V w) (hm : 0 < m) : ∃ g, a = some ⟨g, 0, none⟩ := by
  rcases h.2 with ⟨_, h2⟩ | ⟨g, cap, cur, a1, _⟩
  · omega
  · simp at a1; exact ⟨g, a1.1⟩
theorem ValRow.congr (h : ValRow E lo a m c V w) (hU : ∀ k, k < m → V k = U k) : ValRow E lo a m c U w := by
  unfold ValRow at h ⊢
  rw [← valR_congr hU]; exact h
theorem ValRow.cell {g : Nat} (h : ValRow E lo (some ⟨g, 0, none⟩) m c V w) {k : Nat} (hk : k < m) : w.cell? ⟨g, k, none⟩ = some (V k) := by
  have := World.ownsRow.cells h (g := g) (by simp [Value.ownBlock]) k (V k) (valR_get hk)
  have e : (⟨g, 0, none⟩ : Addr).add k = ⟨g, k, none⟩ := by unfold Addr.add; split <;> simp_all
  rwa [e] at this
theorem ValRow.free {g : Nat} (h : ValRow E lo (some ⟨g, 0, none⟩) m c V w) (k : Nat) : w.frozen? ⟨g, k, none⟩ = false := by
  rcases h.2 with ⟨h1, _⟩ | ⟨g', cap, cur, a1, a2, a3, _⟩
  · simp at h1
  · simp at a1
    obtain ⟨rfl, rfl⟩ := a1
    exact free_of_has a3 k
theorem ValRow.put {g : Nat} (h : ValRow E lo (some ⟨g, 0, none⟩) m c V w) (i : Nat) (x : Value) : ValRow E lo (some ⟨g, 0, none⟩) m c (putV V i x) (w.setCell ⟨g, i, none⟩ x) := by
  obtain ⟨h1, h2⟩ := h
  refine ⟨by simp [valR], ?_⟩
  rcases h2 with ⟨h2, _⟩ | ⟨g', cap, cur, a1, a2, a3, a4, a5, a6, a7⟩
  · simp at h2
  · simp at a1
    obtain ⟨rfl, rfl⟩ := a1
    refine .inr ⟨g, c, _, rfl, a2, has_setCell a3 i x, a4, a5, by simpa using a6, ?_⟩
    rw [← valR_set, ← a7]
    simp [List.take_set]
theorem ValRow.drew (h : ValRow E lo a m c V w) : ValRow E lo a m c V w.drew := h
theorem ValRow.drewN (h : ValRow E lo a m c V w) (n : Nat) : ValRow E lo a m c V (w.drewN n) := h
theorem ValRow.cut {g : Nat} (h : ValRow E lo (some ⟨g, 0, none⟩) m c V w) {n : Nat} (hn : n ≤ m) : ValRow E lo (some ⟨g, 0, none⟩) n c V w := by
  obtain ⟨h1, h2⟩ := h
  refine ⟨by simp [valR], ?_⟩
  rcases h2 with ⟨h2, _⟩ | ⟨g', cap, cur, a1, a2, a3, a4, a5, a6, a7⟩
  · simp at h2
  · refine .inr ⟨g', cap, cur, ?_, a2, a3, by omega, a5, a6, ?_⟩
    · simp at a1 ⊢; exact a1
    · have e : (cur.toList.take (m * 1)).take n = cur.toList.take (n * 1) := by rw [List.take_take]; congr 1; omega
      rw [← e, a7]
      simp only [valR, ← List.map_take, List.take_range, Nat.min_eq_left hn]
theorem ValRow.cap_le (h : ValRow E lo a m c V w) : m ≤ c ∧ c ≤ maxLen := by
  rcases h.2 with ⟨h1, h2⟩ | ⟨g, cap, cur, a1, a2, a3, a4, a5, _⟩
  · simp at h1; unfold maxLen; omega
  · simp at a1
    obtain ⟨_, rfl⟩ := a1
    exact ⟨a4, a5⟩
theorem ValRow.mono {lo' : Nat} (h : ValRow E lo a m c V w) (hl : lo' ≤ lo) : ValRow E lo' a m c V w := ownsRow_base h hl
theorem ValRow.lift {lo' : Nat} (h : ValRow E lo a m c V w) (hl : ∀ x, x ∈ blk a → lo' ≤ x) : ValRow E lo' a m c V w := by
  obtain ⟨h1, h2⟩ := h
  refine ⟨h1, ?_⟩
  rcases h2 with h2 | ⟨g, cap, cur, a1, a2, a3⟩
  · exact .inl h2
  · refine .inr ⟨g, cap, cur, a1, hl g ?_, a3⟩
    simp at a1; simp [a1.1, blk]
theorem ValRow.of_append {g cap : Nat} {x : Value} (h : w.ownsRow lo E 1 (.slice (some ⟨g, 0, none⟩) (m + 1) cap) (m + 1) (valR m V ++ [x])) : ValRow E lo (some ⟨g, 0, none⟩) (m + 1) cap (putV V m x) w := by
  unfold ValRow; rw [← valR_snoc]; exact h
end
/-- Two rows of unlike types lie in unlike blocks. -/
theorem ValRow.unlike {E E' : TypeId} {lo lo' : Nat} {g g' : Nat} {m m' c c' : Nat} {V V' : Nat → Value} {w : World} (h : ValRow E lo (some ⟨g, 0, none⟩) m c V w) (h' : ValRow E' lo' (some ⟨g', 0, none⟩) m' c' V' w) (he : E ≠ E') : g ≠ g' := by
  rcases h.2 with ⟨h2, _⟩ | ⟨g1, cap, cur, a1, a2, a3, _⟩
  · simp at h2
  · rcases h'.2 with ⟨h2', _⟩ | ⟨g2, cap', cur', b1, b2, b3, _⟩
    · simp at h2'
    · simp at a1 b1
      obtain ⟨rfl, _⟩ := a1
      obtain ⟨rfl, _⟩ := b1
      intro e
      subst e
      rw [a3] at b3
      simp at b3
      exact he b3.2
/-- A block of another type is none of the row's. -/
theorem ValRow.notin {E TY : TypeId} {lo : Nat} {a : Option Addr} {m c : Nat} {V : Nat → Value} {w : World} {b : Nat} {cs : Array Value} {f : Nat × Nat} (h : ValRow E lo a m c V w) (hb : w.heap[b]? = some (.cells cs TY f)) (he : E ≠ TY) : b ∉ blk a := by
  intro hx
  rcases h.2 with ⟨q, _⟩ | ⟨g1, cap, cur, a1, a2, a3, _⟩
  · simp at q; rw [q.1] at hx; simp [blk] at hx
  · simp at a1; rw [a1.1] at hx; simp [blk] at hx; rw [← hx, hb] at a3; simp at a3; exact he a3.2.1.symm
theorem ValRow.disj {E E' : TypeId} {lo lo' : Nat} {a a' : Option Addr} {m m' c c' : Nat} {V V' : Nat → Value} {w : World} (h : ValRow E lo a m c V w) (h' : ValRow E' lo' a' m' c' V' w) (he : E ≠ E') : ∀ x, x ∈ blk a → x ∉ blk a' := by
  intro x hx
  rcases h.2 with ⟨q, _⟩ | ⟨g1, cap, cur, a1, a2, a3, _⟩
  · simp at q; rw [q.1] at hx; simp [blk] at hx
  · simp at a1; rw [a1.1] at hx; simp [blk] at hx; subst hx; exact h'.notin a3 (fun e => he e.symm)
end Go.Proofs.Ytajcbghhpjpmhaa
