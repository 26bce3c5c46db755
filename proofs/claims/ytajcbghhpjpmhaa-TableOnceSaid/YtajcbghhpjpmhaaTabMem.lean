/- A table in memory (chapter 7). -/
import Derived.Test.YtajcbghhpjpmhaaMeterT
import Derived.Test.YtajcbghhpjpmhaaValRow
import Derived.Test.YtajcbghhpjpmhaaTabOps
import Derived.Test.YtajcbghhpjpmhaaCellSetT
import Derived.Laws.OwnMore
namespace Go.Proofs.Ytajcbghhpjpmhaa
open Go.RowKit
set_option linter.unusedVariables false

def Ent.cell (x : Ent) : Nat → Value
  | 0 => .bool x.live
  | 1 => .int .i64 x.hash
  | 2 => .int .i64 x.key
  | 3 => .int .i64 x.val
  | _ => .int .i64 x.birth
def Ent.cells (x : Ent) : List Value := [.bool x.live, .int .i64 x.hash, .int .i64 x.key, .int .i64 x.val, .int .i64 x.birth]
def Ent.agg (x : Ent) : Value := .agg #[.bool x.live, .int .i64 x.hash, .int .i64 x.key, .int .i64 x.val, .int .i64 x.birth]
def flatE (E : List Ent) : List Value := E.flatMap Ent.cells
theorem flatE_nil : flatE [] = [] := rfl
theorem flatE_cons (x : Ent) (E : List Ent) : flatE (x :: E) = x.cells ++ flatE E := rfl
theorem flatE_len (E : List Ent) : (flatE E).length = E.length * 5 := by
  induction E with
  | nil => rfl
  | cons x E ih => rw [flatE_cons, List.length_append, ih]; simp [Ent.cells]; omega
theorem flatE_app (E F : List Ent) : flatE (E ++ F) = flatE E ++ flatE F := by simp [flatE]
theorem flatE_snoc (E : List Ent) (x : Ent) : flatE (E ++ [x]) = flatE E ++ x.cells := by simp [flatE]
theorem flatE_get (E : List Ent) : ∀ (i : Nat) (x : Ent), E[i]? = some x → ∀ j, j < 5 → (flatE E)[i * 5 + j]? = some (x.cell j) := by
  induction E with
  | nil => intro i x h; simp at h
  | cons y E ih =>
    intro i x h j hj
    rw [flatE_cons]
    cases i with
    | zero =>
      simp at h; subst h
      rw [List.getElem?_append_left (by simp [Ent.cells]; omega)]
      match j, hj with
      | 0, _ | 1, _ | 2, _ | 3, _ | 4, _ => simp [Ent.cells, Ent.cell]
    | succ i =>
      rw [List.getElem?_append_right (by simp [Ent.cells]; omega)]
      rw [show (i + 1) * 5 + j - y.cells.length = i * 5 + j by simp [Ent.cells]; omega]
      exact ih i x (by simpa using h) j hj
theorem flatE_take (E : List Ent) : ∀ n, (flatE E).take (n * 5) = flatE (E.take n) := by
  induction E with
  | nil => intro n; simp [flatE]
  | cons x E ih =>
    intro n
    cases n with
    | zero => simp [flatE]
    | succ n =>
      rw [List.take_succ_cons, flatE_cons, flatE_cons, ← ih n, List.take_append, List.take_of_length_le (by simp [Ent.cells]; omega)]
      congr 2
      simp [Ent.cells]; omega
theorem flatE_drop (E : List Ent) (n : Nat) : (flatE E).drop (n * 5) = flatE (E.drop n) := by
  have h : flatE E = flatE (E.take n) ++ flatE (E.drop n) := by rw [← flatE_app, List.take_append_drop]
  by_cases hn : n ≤ E.length
  · rw [h, List.drop_append_of_le_length (by rw [flatE_len]; simp; omega), List.drop_eq_nil_of_le (by rw [flatE_len]; simp; omega)]; simp
  · rw [List.drop_eq_nil_of_le (by rw [flatE_len]; omega), List.drop_eq_nil_of_le (by omega)]; rfl

/-- A row of entries in a block of its own. -/
def EntRow (lo : Nat) (a : Option Addr) (c : Nat) (E : List Ent) (w : World) : Prop := w.ownsRow lo 32 5 (.slice a E.length c) E.length (flatE E)
section
variable {lo : Nat} {a : Option Addr} {c : Nat} {E : List Ent} {w w' : World}
theorem EntRow.nil (lo : Nat) (w : World) : EntRow lo none 0 [] w := World.ownsRow_nil _ _ _ _
theorem EntRow.blk_lt (h : EntRow lo a c E w) : ∀ x, x ∈ blk a → lo ≤ x ∧ x < w.heap.size := by
  intro x hx
  cases a with
  | none => simp [blk] at hx
  | some p => simp [blk] at hx; subst hx; exact h.lt p.block (by simp [Value.ownBlock])
theorem EntRow.keeps {S : List Nat} (h : EntRow lo a c E w) (k : Keeps S w w') (hd : ∀ x, x ∈ blk a → x ∉ S) : EntRow lo a c E w' := by
  obtain ⟨h1, h2⟩ := h
  refine ⟨h1, ?_⟩
  rcases h2 with h2 | ⟨g, cap, cur, a1, a2, a3, a4⟩
  · exact .inl h2
  · refine .inr ⟨g, cap, cur, a1, a2, k.has a3 (hd g ?_), a4⟩
    simp at a1
    simp [a1.1, blk]
theorem EntRow.shape (h : EntRow lo a c E w) (hm : 0 < E.length) : ∃ g, a = some ⟨g, 0, none⟩ := by
  rcases h.2 with ⟨_, h2⟩ | ⟨g, cap, cur, a1, _⟩
  · omega
  · simp at a1; exact ⟨g, a1.1⟩
theorem EntRow.cell {g : Nat} (h : EntRow lo (some ⟨g, 0, none⟩) c E w) {i : Nat} {x : Ent} (hx : E[i]? = some x) (j : Nat) (hj : j < 5) : w.cell? ⟨g, i * 5 + j, none⟩ = some (x.cell j) := by
  have hi := (List.getElem?_eq_some_iff.1 hx).1
  rw [World.ownsRow.cellAt h (i * 5 + j) (by omega)]
  exact flatE_get E i x hx j hj
theorem EntRow.free {g : Nat} (h : EntRow lo (some ⟨g, 0, none⟩) c E w) (j : Nat) : w.frozen? ⟨g, j, none⟩ = false := World.ownsRow.frozenAt h j
theorem EntRow.cap_le (h : EntRow lo a c E w) : E.length ≤ c ∧ c ≤ maxLen := by
  rcases h.2 with ⟨h1, h2⟩ | ⟨g, cap, cur, a1, a2, a3, a4, a5, _⟩
  · simp at h1; unfold maxLen; omega
  · simp at a1
    obtain ⟨_, rfl⟩ := a1
    exact ⟨a4, a5⟩
theorem EntRow.lift {lo' : Nat} (h : EntRow lo a c E w) (hl : ∀ x, x ∈ blk a → lo' ≤ x) : EntRow lo' a c E w := by
  obtain ⟨h1, h2⟩ := h
  refine ⟨h1, ?_⟩
  rcases h2 with h2 | ⟨g, cap, cur, a1, a2, a3⟩
  · exact .inl h2
  · refine .inr ⟨g, cap, cur, a1, hl g ?_, a3⟩
    simp at a1; simp [a1.1, blk]
theorem EntRow.notin {TY : TypeId} {b : Nat} {cs : Array Value} {f : Nat × Nat} (h : EntRow lo a c E w) (hb : w.heap[b]? = some (.cells cs TY f)) (he : 32 ≠ TY) : b ∉ blk a := by
  intro hx
  rcases h.2 with ⟨q, _⟩ | ⟨g1, cap, cur, a1, a2, a3, _⟩
  · simp at q; rw [q.1] at hx; simp [blk] at hx
  · simp at a1; rw [a1.1] at hx; simp [blk] at hx; rw [← hx, hb] at a3; simp at a3; exact he a3.2.1.symm
end

/-- A table, its parts named. -/
def TabC (t lo : Nat) (S : List Nat) (m : Value) (E : List Ent) (V : Nat → Int) (L : Nat) (lv bi ma tu : Nat) (w : World) : Prop :=
  ∃ a c cb cr, w.heap[t]? = some (.cells #[m, .slice a E.length c, .pointer (some ⟨cb, 0, none⟩), .int .i64 lv, .int .i64 bi, .int .i64 ma, .int .i64 tu] 97 (0, 0)) ∧
    EntRow lo a c E w ∧ CellsAt cb cr L (2 ^ L) V w ∧ t ∈ S ∧ cb ∈ S ∧ cr ∈ S ∧ (∀ x, x ∈ blk a → x ∈ S) ∧ ∀ x, x ∈ S → lo ≤ x ∧ x < w.heap.size
def TabAt (t lo : Nat) (S : List Nat) (m : Value) (T : Tab) (w : World) : Prop := TabC t lo S m T.E T.V T.L (liveN T.E) T.births T.made T.turns w
/-- What a footprint may become. -/
def Grew (S : List Nat) (w : World) (S' : List Nat) : Prop := ∀ x, x ∈ S' → x ∈ S ∨ w.heap.size ≤ x
theorem Grew.refl (S : List Nat) (w : World) : Grew S w S := fun x hx => .inl hx
theorem Grew.trans {S S' S'' : List Nat} {w w' : World} (h : Grew S w S') (h' : Grew S' w' S'') (hs : w.heap.size ≤ w'.heap.size) : Grew S w S'' := fun x hx => by
  rcases h' x hx with h1 | h1
  · exact h x h1
  · exact .inr (by omega)
theorem TabC.keeps {t lo : Nat} {S R : List Nat} {m : Value} {E : List Ent} {V : Nat → Int} {L lv bi ma tu : Nat} {w w' : World} (h : TabC t lo S m E V L lv bi ma tu w) (k : Keeps R w w') (hd : ∀ x, x ∈ S → x ∉ R) : TabC t lo S m E V L lv bi ma tu w' := by
  obtain ⟨a, c, cb, cr, h1, h2, h3, h4, h5, h6, h7, h8⟩ := h
  exact ⟨a, c, cb, cr, k.has h1 (hd _ h4), h2.keeps k (fun x hx => hd _ (h7 x hx)), h3.keeps k (hd _ h5) (hd _ h6), h4, h5, h6, h7, fun x hx => ⟨(h8 x hx).1, Nat.lt_of_lt_of_le (h8 x hx).2 k.size⟩⟩
theorem TabC.foot {t lo : Nat} {S : List Nat} {m : Value} {E : List Ent} {V : Nat → Int} {L lv bi ma tu : Nat} {w : World} (h : TabC t lo S m E V L lv bi ma tu w) : ∀ x, x ∈ S → lo ≤ x ∧ x < w.heap.size := by
  obtain ⟨a, c, cb, cr, h1, h2, h3, h4, h5, h6, h7, h8⟩ := h
  exact h8
theorem TabAt.keeps {t lo : Nat} {S R : List Nat} {m : Value} {T : Tab} {w w' : World} (h : TabAt t lo S m T w) (k : Keeps R w w') (hd : ∀ x, x ∈ S → x ∉ R) : TabAt t lo S m T w' := TabC.keeps h k hd
theorem TabAt.foot {t lo : Nat} {S : List Nat} {m : Value} {T : Tab} {w : World} (h : TabAt t lo S m T w) : ∀ x, x ∈ S → lo ≤ x ∧ x < w.heap.size := TabC.foot h
/-- A block of a table's type is none of its cells. -/
theorem CellsAt.other {c r L n : Nat} {V : Nat → Int} {w : World} (h : CellsAt c r L n V w) {b : Nat} {cs : Array Value} {f : Nat × Nat} (hb : w.heap[b]? = some (.cells cs 97 f)) : c ≠ b ∧ r ≠ b := by
  refine ⟨fun e => ?_, fun e => ?_⟩
  · have h1 := h.ho
    rw [e, hb] at h1
    simp only [Option.some.injEq, Obj.cells.injEq] at h1
    have h2 := h1.2.1
    revert h2; decide
  · have h1 := h.hr
    rw [e, hb] at h1
    simp only [Option.some.injEq, Obj.cells.injEq] at h1
    have h2 := h1.2.1
    unfold elOf at h2
    by_cases a : L ≤ 7
    · rw [if_pos a] at h2; revert h2; decide
    · rw [if_neg a] at h2
      by_cases b : L ≤ 15
      · rw [if_pos b] at h2; revert h2; decide
      · rw [if_neg b] at h2; revert h2; decide
theorem CellsAt.noent {c r L n : Nat} {V : Nat → Int} {w : World} (h : CellsAt c r L n V w) {lo' : Nat} {a : Option Addr} {cc : Nat} {E : List Ent} (hE : EntRow lo' a cc E w) : c ∉ blk a ∧ r ∉ blk a := by
  refine ⟨hE.notin h.ho (by decide), hE.notin h.hr ?_⟩
  unfold elOf
  by_cases a : L ≤ 7
  · rw [if_pos a]; decide
  · rw [if_neg a]
    by_cases b : L ≤ 15
    · rw [if_pos b]; decide
    · rw [if_neg b]; decide
end Go.Proofs.Ytajcbghhpjpmhaa
