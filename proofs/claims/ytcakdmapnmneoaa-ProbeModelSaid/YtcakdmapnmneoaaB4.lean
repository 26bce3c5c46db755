/- A table in memory (chapter 7). Rows of entries: an entry laid anew, copied, cleared (chapter 7). The dead entries are left out (chapter 7). A new table (chapter 7). An entry is laid into the cells (chapter 7). All entries laid anew; begin; the least logarithm (chapter 7). An entry is added (chapter 7). wrong, Put, At (chapter 7). -/
import Derived.Test.YtcakdmapnmneoaaB1
import Derived.Test.YtcakdmapnmneoaaB3
import Derived.Test.YtcakdmapnmneoaaB2
import Derived.Laws.OwnMore
import Derived.Laws.IdiomCopy
import Derived.Laws.CopyOwn
import Derived.Deep.RegionHeld3
import Derived.Deep.DeepMust
import Derived.WalkMore
import Derived.BigQuiet
import Derived.Deep.QuietTactic
import Derived.Deep.AppendLies
import Derived.Deep.RegionLaw
import Derived.Deep.Cut
import Derived.Deep.CutRange
section
namespace Go.Proofs.Ytcakdmapnmneoaa
open Go.RowKit
set_option linter.unusedVariables false

def Ent.cell (x : Ent) : Nat → Value
  | 0 => .bool x.live
  | 1 => .int .i64 x.hash
  | 2 => .int .i64 x.key
  | 3 => .int .i64 x.val
  | _ => .int .i64 x.birth
def Ent.cells (x : Ent) : List Value := [.bool x.live, .int .i64 x.hash, .int .i64 x.key, .int .i64 x.val, .int .i64 x.birth]
def Ent.agg (x : Ent) : Value := .agg #[.bool x.live, .int .i64 x.hash, .int .i64 x.key, .int .i64 x.val, .int .i64 x.birth]
def flatE (E : List Ent) : List Value := E.flatMap Ent.cells
theorem flatE_nil : flatE [] = [] := rfl
theorem flatE_cons (x : Ent) (E : List Ent) : flatE (x :: E) = x.cells ++ flatE E := rfl
theorem flatE_len (E : List Ent) : (flatE E).length = E.length * 5 := by
  induction E with
  | nil => rfl
  | cons x E ih => rw [flatE_cons, List.length_append, ih]; simp [Ent.cells]; omega
theorem flatE_app (E F : List Ent) : flatE (E ++ F) = flatE E ++ flatE F := by simp [flatE]
theorem flatE_snoc (E : List Ent) (x : Ent) : flatE (E ++ [x]) = flatE E ++ x.cells := by simp [flatE]
theorem flatE_get (E : List Ent) : ∀ (i : Nat) (x : Ent), E[i]? = some x → ∀ j, j < 5 → (flatE E)[i * 5 + j]? = some (x.cell j) := by
  induction E with
  | nil => intro i x h; simp at h
  | cons y E ih =>
    intro i x h j hj
    rw [flatE_cons]
    cases i with
    | zero =>
      simp at h; subst h
      rw [List.getElem?_append_left (by simp [Ent.cells]; omega)]
      match j, hj with
      | 0, _ | 1, _ | 2, _ | 3, _ | 4, _ => simp [Ent.cells, Ent.cell]
    | succ i =>
      rw [List.getElem?_append_right (by simp [Ent.cells]; omega)]
      rw [show (i + 1) * 5 + j - y.cells.length = i * 5 + j by simp [Ent.cells]; omega]
      exact ih i x (by simpa using h) j hj
theorem flatE_take (E : List Ent) : ∀ n, (flatE E).take (n * 5) = flatE (E.take n) := by
  induction E with
  | nil => intro n; simp [flatE]
  | cons x E ih =>
    intro n
    cases n with
    | zero => simp [flatE]
    | succ n =>
      rw [List.take_succ_cons, flatE_cons, flatE_cons, ← ih n, List.take_append, List.take_of_length_le (by simp [Ent.cells]; omega)]
      congr 2
      simp [Ent.cells]; omega
theorem flatE_drop (E : List Ent) (n : Nat) : (flatE E).drop (n * 5) = flatE (E.drop n) := by
  have h : flatE E = flatE (E.take n) ++ flatE (E.drop n) := by rw [← flatE_app, List.take_append_drop]
  by_cases hn : n ≤ E.length
  · rw [h, List.drop_append_of_le_length (by rw [flatE_len]; simp; omega), List.drop_eq_nil_of_le (by rw [flatE_len]; simp; omega)]; simp
  · rw [List.drop_eq_nil_of_le (by rw [flatE_len]; omega), List.drop_eq_nil_of_le (by omega)]; rfl

/-- A row of entries in a block of its own. -/
def EntRow (lo : Nat) (a : Option Addr) (c : Nat) (E : List Ent) (w : World) : Prop := w.ownsRow lo 36 5 (.slice a E.length c) E.length (flatE E)
section
variable {lo : Nat} {a : Option Addr} {c : Nat} {E : List Ent} {w w' : World}
theorem EntRow.nil (lo : Nat) (w : World) : EntRow lo none 0 [] w := World.ownsRow_nil _ _ _ _
theorem EntRow.blk_lt (h : EntRow lo a c E w) : ∀ x, x ∈ blk a → lo ≤ x ∧ x < w.heap.size := by
  intro x hx
  cases a with
  | none => simp [blk] at hx
  | some p => simp [blk] at hx; subst hx; exact h.lt p.block (by simp [Value.ownBlock])
theorem EntRow.keeps {S : List Nat} (h : EntRow lo a c E w) (k : Keeps S w w') (hd : ∀ x, x ∈ blk a → x ∉ S) : EntRow lo a c E w' := by
  obtain ⟨h1, h2⟩ := h
  refine ⟨h1, ?_⟩
  rcases h2 with h2 | ⟨g, cap, cur, a1, a2, a3, a4⟩
  · exact .inl h2
  · refine .inr ⟨g, cap, cur, a1, a2, k.has a3 (hd g ?_), a4⟩
    simp at a1
    simp [a1.1, blk]
theorem EntRow.shape (h : EntRow lo a c E w) (hm : 0 < E.length) : ∃ g, a = some ⟨g, 0, none⟩ := by
  rcases h.2 with ⟨_, h2⟩ | ⟨g, cap, cur, a1, _⟩
  · omega
  · simp at a1; exact ⟨g, a1.1⟩
theorem EntRow.cell {g : Nat} (h : EntRow lo (some ⟨g, 0, none⟩) c E w) {i : Nat} {x : Ent} (hx : E[i]? = some x) (j : Nat) (hj : j < 5) : w.cell? ⟨g, i * 5 + j, none⟩ = some (x.cell j) := by
  have hi := (List.getElem?_eq_some_iff.1 hx).1
  rw [World.ownsRow.cellAt h (i * 5 + j) (by omega)]
  exact flatE_get E i x hx j hj
theorem EntRow.free {g : Nat} (h : EntRow lo (some ⟨g, 0, none⟩) c E w) (j : Nat) : w.frozen? ⟨g, j, none⟩ = false := World.ownsRow.frozenAt h j
theorem EntRow.cap_le (h : EntRow lo a c E w) : E.length ≤ c ∧ c ≤ maxLen := by
  rcases h.2 with ⟨h1, h2⟩ | ⟨g, cap, cur, a1, a2, a3, a4, a5, _⟩
  · simp at h1; unfold maxLen; omega
  · simp at a1
    obtain ⟨_, rfl⟩ := a1
    exact ⟨a4, a5⟩
theorem EntRow.lift {lo' : Nat} (h : EntRow lo a c E w) (hl : ∀ x, x ∈ blk a → lo' ≤ x) : EntRow lo' a c E w := by
  obtain ⟨h1, h2⟩ := h
  refine ⟨h1, ?_⟩
  rcases h2 with h2 | ⟨g, cap, cur, a1, a2, a3⟩
  · exact .inl h2
  · refine .inr ⟨g, cap, cur, a1, hl g ?_, a3⟩
    simp at a1; simp [a1.1, blk]
theorem EntRow.notin {TY : TypeId} {b : Nat} {cs : Array Value} {f : Nat × Nat} (h : EntRow lo a c E w) (hb : w.heap[b]? = some (.cells cs TY f)) (he : 36 ≠ TY) : b ∉ blk a := by
  intro hx
  rcases h.2 with ⟨q, _⟩ | ⟨g1, cap, cur, a1, a2, a3, _⟩
  · simp at q; rw [q.1] at hx; simp [blk] at hx
  · simp at a1; rw [a1.1] at hx; simp [blk] at hx; rw [← hx, hb] at a3; simp at a3; exact he a3.2.1.symm
end

/-- A table, its parts named. -/
def TabC (t lo : Nat) (S : List Nat) (m : Value) (E : List Ent) (V : Nat → Int) (L : Nat) (lv bi ma tu : Nat) (w : World) : Prop :=
  ∃ a c cb cr, w.heap[t]? = some (.cells #[m, .slice a E.length c, .pointer (some ⟨cb, 0, none⟩), .int .i64 lv, .int .i64 bi, .int .i64 ma, .int .i64 tu] 119 (0, 0)) ∧
    EntRow lo a c E w ∧ CellsAt cb cr L (2 ^ L) V w ∧ t ∈ S ∧ cb ∈ S ∧ cr ∈ S ∧ (∀ x, x ∈ blk a → x ∈ S) ∧ ∀ x, x ∈ S → lo ≤ x ∧ x < w.heap.size
def TabAt (t lo : Nat) (S : List Nat) (m : Value) (T : Tab) (w : World) : Prop := TabC t lo S m T.E T.V T.L (liveN T.E) T.births T.made T.turns w
/-- What a footprint may become. -/
def Grew (S : List Nat) (w : World) (S' : List Nat) : Prop := ∀ x, x ∈ S' → x ∈ S ∨ w.heap.size ≤ x
theorem Grew.refl (S : List Nat) (w : World) : Grew S w S := fun x hx => .inl hx
theorem Grew.trans {S S' S'' : List Nat} {w w' : World} (h : Grew S w S') (h' : Grew S' w' S'') (hs : w.heap.size ≤ w'.heap.size) : Grew S w S'' := fun x hx => by
  rcases h' x hx with h1 | h1
  · exact h x h1
  · exact .inr (by omega)
theorem TabC.keeps {t lo : Nat} {S R : List Nat} {m : Value} {E : List Ent} {V : Nat → Int} {L lv bi ma tu : Nat} {w w' : World} (h : TabC t lo S m E V L lv bi ma tu w) (k : Keeps R w w') (hd : ∀ x, x ∈ S → x ∉ R) : TabC t lo S m E V L lv bi ma tu w' := by
  obtain ⟨a, c, cb, cr, h1, h2, h3, h4, h5, h6, h7, h8⟩ := h
  exact ⟨a, c, cb, cr, k.has h1 (hd _ h4), h2.keeps k (fun x hx => hd _ (h7 x hx)), h3.keeps k (hd _ h5) (hd _ h6), h4, h5, h6, h7, fun x hx => ⟨(h8 x hx).1, Nat.lt_of_lt_of_le (h8 x hx).2 k.size⟩⟩
theorem TabC.foot {t lo : Nat} {S : List Nat} {m : Value} {E : List Ent} {V : Nat → Int} {L lv bi ma tu : Nat} {w : World} (h : TabC t lo S m E V L lv bi ma tu w) : ∀ x, x ∈ S → lo ≤ x ∧ x < w.heap.size := by
  obtain ⟨a, c, cb, cr, h1, h2, h3, h4, h5, h6, h7, h8⟩ := h
  exact h8
theorem TabAt.keeps {t lo : Nat} {S R : List Nat} {m : Value} {T : Tab} {w w' : World} (h : TabAt t lo S m T w) (k : Keeps R w w') (hd : ∀ x, x ∈ S → x ∉ R) : TabAt t lo S m T w' := TabC.keeps h k hd
theorem TabAt.foot {t lo : Nat} {S : List Nat} {m : Value} {T : Tab} {w : World} (h : TabAt t lo S m T w) : ∀ x, x ∈ S → lo ≤ x ∧ x < w.heap.size := TabC.foot h
/-- A block of a table's type is none of its cells. -/
theorem CellsAt.other {c r L n : Nat} {V : Nat → Int} {w : World} (h : CellsAt c r L n V w) {b : Nat} {cs : Array Value} {f : Nat × Nat} (hb : w.heap[b]? = some (.cells cs 119 f)) : c ≠ b ∧ r ≠ b := by
  refine ⟨fun e => ?_, fun e => ?_⟩
  · have h1 := h.ho
    rw [e, hb] at h1
    simp only [Option.some.injEq, Obj.cells.injEq] at h1
    have h2 := h1.2.1
    revert h2; decide
  · have h1 := h.hr
    rw [e, hb] at h1
    simp only [Option.some.injEq, Obj.cells.injEq] at h1
    have h2 := h1.2.1
    unfold elOf at h2
    by_cases a : L ≤ 7
    · rw [if_pos a] at h2; revert h2; decide
    · rw [if_neg a] at h2
      by_cases b : L ≤ 15
      · rw [if_pos b] at h2; revert h2; decide
      · rw [if_neg b] at h2; revert h2; decide
theorem CellsAt.noent {c r L n : Nat} {V : Nat → Int} {w : World} (h : CellsAt c r L n V w) {lo' : Nat} {a : Option Addr} {cc : Nat} {E : List Ent} (hE : EntRow lo' a cc E w) : c ∉ blk a ∧ r ∉ blk a := by
  refine ⟨hE.notin h.ho (by decide), hE.notin h.hr ?_⟩
  unfold elOf
  by_cases a : L ≤ 7
  · rw [if_pos a]; decide
  · rw [if_neg a]
    by_cases b : L ≤ 15
    · rw [if_pos b]; decide
    · rw [if_neg b]; decide
end Go.Proofs.Ytcakdmapnmneoaa
end

section
namespace Go
theorem run_copy_cellsS {P : Program} (w : World) (dT sT ty elem : TypeId) (b o dLen dCap : Nat) (a : Addr) (sLen sCap sz : Nat) (cs : List Value) (hu : P.underlying dT = some (.slice elem)) (hs : (P.info? elem).map (·.size) = some sz)
    (hn : cs.length = Nat.min sLen dLen * sz) (hsrc : ∀ j v, cs[j]? = some v → w.cell? (a.add j) = some v) (hc : ∀ j, j < cs.length → (w.cell? ⟨b, o + j, none⟩).isSome = true) (hf : ∀ j, j < cs.length → w.frozen? ⟨b, o + j, none⟩ = false) (h1 : ∀ v ∈ cs, v.oneCell' = true) :
    (Builtin.copy_ #[dT, sT] ty #[.slice (some ⟨b, o, none⟩) dLen dCap, .slice (some a) sLen sCap]).run P w = .ok (goInt (Nat.min sLen dLen)) (w.setCells b o cs) := by
  have hl := run_loadCells_list (P := P) w a cs hsrc
  have hst := run_storeCells_cells (P := P) b o cs 0 w (by simpa using hc) (by simpa using hf) h1
  simp only [Nat.add_zero] at hst
  cases hq : P.info? elem with
  | none => simp [hq] at hs
  | some i =>
    have hi : i.size = sz := by simpa [hq] using hs
    simp [Builtin.copy_, run_underlying hu, Builtin.lenOf, Builtin.firstCells, sizeOf, typeInfo, hq, hi, ← hn, hl, hst]
theorem step_copyS {P : Program} {ops : Array Oper} {o : Oper} {a : Act} {w : World} {K : Act → World → Prop} {Q : Exit → Act → World → Prop} {E : Prop} (hgd : o.guard = none) (d s : Operand) (dT sT : TypeId)
    (ho : o.op = .call { callee := .builtin .copy, args := #[d, s], argTypes := #[dT, sT] }) (elem : TypeId) (sz : Nat) (hu : P.underlying dT = some (.slice elem)) (hsz : (P.info? elem).map (·.size) = some sz)
    (b off dLen dCap : Nat) (ad : Addr) (sLen sCap : Nat) (hd : a.eval d = .slice (some ⟨b, off, none⟩) dLen dCap) (hs : a.eval s = .slice (some ad) sLen sCap) (cs : List Value) (n : Nat) (hnn : Nat.min sLen dLen = n) (hn : cs.length = n * sz)
    (hsrc : ∀ j v, cs[j]? = some v → w.cell? (ad.add j) = some v) (hc : ∀ j, j < cs.length → (w.cell? ⟨b, off + j, none⟩).isSome = true) (hf : ∀ j, j < cs.length → w.frozen? ⟨b, off + j, none⟩ = false) (h1 : ∀ v ∈ cs, v.oneCell' = true)
    (h : ∀ w', w.setCells b off cs = w' → K (a.put o.dst (goInt n)) w') :
    if Region.wanted o (yielded ops a.tmps) = true then Oper.wp P o a w K Q else E := by
  have hw : Region.wanted o (yielded ops a.tmps) = true := by simp [Region.wanted, hgd]
  rw [if_pos hw]
  have hrun := run_copy_cellsS (P := P) w dT sT o.type elem b off dLen dCap ad sLen sCap sz cs hu hsz (by rw [hnn]; exact hn) hsrc hc hf h1
  rw [hnn] at hrun
  unfold Oper.wp
  simp [execOp, ho, resolve, invoke, builtin, hd, hs, hrun, Result.andThen]
  exact h _ rfl
theorem run_clear_cellsS {P : Program} (w : World) (t e ty : TypeId) (z : Value) (cs : List Value) (ht : P.underlying t = some (.slice e)) (hv : ∀ w, (zeroValue e).run P w = .ok z w) (b o n c : Nat) (hn : 0 < n) (hz : (Builtin.zeroCells z.cells n).toList = cs)
    (h1 : ∀ v ∈ cs, v.oneCell' = true) (hc : ∀ j, j < cs.length → (w.cell? ⟨b, o + j, none⟩).isSome = true) (hf : ∀ j, j < cs.length → w.frozen? ⟨b, o + j, none⟩ = false) :
    (Builtin.clear_ #[t] ty #[.slice (some ⟨b, o, none⟩) n c]).run P w = .ok (.tuple #[]) (w.setCells b o cs) := by
  have hst := run_storeCells_cells (P := P) b o cs 0 w (by simpa using hc) (by simpa using hf) h1
  simp only [Nat.add_zero] at hst
  obtain ⟨m, rfl⟩ : ∃ m, n = m + 1 := ⟨n - 1, by omega⟩
  simp [Builtin.clear_, run_underlying ht, hv, hz, hst]
theorem run_clear_zero {P : Program} (w : World) (t e ty : TypeId) (a : Option Addr) (c : Nat) (ht : P.underlying t = some (.slice e)) : (Builtin.clear_ #[t] ty #[.slice a 0 c]).run P w = .ok (.tuple #[]) w := by
  cases a <;> simp [Builtin.clear_, run_underlying ht]
end Go
namespace Go.Proofs.Ytcakdmapnmneoaa
open Go.RowKit
set_option linter.unusedVariables false

def setL (xs : List Value) (o : Nat) : List Value → List Value
  | [] => xs
  | v :: r => setL (xs.set o v) (o + 1) r
theorem setL_len (cs : List Value) : ∀ (xs : List Value) (o : Nat), (setL xs o cs).length = xs.length := by
  induction cs with
  | nil => intro xs o; rfl
  | cons v r ih => intro xs o; show (setL (xs.set o v) (o + 1) r).length = _; rw [ih]; simp
theorem setL_out (cs : List Value) : ∀ (xs : List Value) (o : Nat), xs.length ≤ o → setL xs o cs = xs := by
  induction cs with
  | nil => intro xs o _; rfl
  | cons v r ih => intro xs o h; show setL (xs.set o v) (o + 1) r = _; rw [List.set_eq_of_length_le h, ih xs (o + 1) (by omega)]
theorem setL_app (cs : List Value) : ∀ (A B : List Value) (o : Nat), setL (A ++ B) (A.length + o) cs = A ++ setL B o cs := by
  induction cs with
  | nil => intro A B o; rfl
  | cons v r ih =>
    intro A B o
    show setL ((A ++ B).set (A.length + o) v) (A.length + o + 1) r = A ++ setL (B.set o v) (o + 1) r
    rw [List.set_append_right _ _ (by omega), Nat.add_sub_cancel_left, Nat.add_assoc, ih]
theorem flatE_set (E : List Ent) : ∀ (n : Nat) (x : Ent), n < E.length → setL (flatE E) (n * 5) x.cells = flatE (E.set n x) := by
  induction E with
  | nil => intro n x h; simp at h
  | cons y E ih =>
    intro n x h
    cases n with
    | zero => simp [flatE_cons, Ent.cells, setL]
    | succ n =>
      rw [flatE_cons, List.set_cons_succ, flatE_cons, ← ih n x (by simpa using h), ← setL_app]
      congr 1
      simp [Ent.cells]; omega
theorem flatE_set3 (E : List Ent) : ∀ (n : Nat) (x : Ent) (v : Int), E[n]? = some x → (flatE E).set (n * 5 + 3) (.int .i64 v) = flatE (E.set n { x with val := v }) := by
  induction E with
  | nil => intro n x v h; simp at h
  | cons y E ih =>
    intro n x v h
    cases n with
    | zero => simp at h; subst h; simp [flatE_cons, Ent.cells]
    | succ n =>
      rw [flatE_cons, List.set_cons_succ, flatE_cons, ← ih n x v (by simpa using h), List.set_append_right _ _ (by simp [Ent.cells]; omega)]
      congr 2
      simp [Ent.cells]; omega

theorem own_setCells {e : TypeId} {base size g n cap : Nat} (cs : List Value) : ∀ (xs : List Value) (o : Nat) (w : World), w.ownsRow base e size (.slice (some ⟨g, 0, none⟩) n cap) n xs → (w.setCells g o cs).ownsRow base e size (.slice (some ⟨g, 0, none⟩) n cap) n (setL xs o cs) ∧ Keeps [g] w (w.setCells g o cs) := by
  induction cs with
  | nil => intro xs o w h; exact ⟨h, Keeps.refl _ _⟩
  | cons v r ih =>
    intro xs o w h
    obtain ⟨h1, h2⟩ := ih (xs.set o v) (o + 1) _ (h.stored o v).1
    exact ⟨h1, ((Keeps.refl [g] w).setCell (.inr (by simp)) v).trans h2⟩
section
variable {lo : Nat} {c g : Nat} {E : List Ent} {w w' : World}
/-- An entry laid anew. -/
theorem EntRow.lay (h : EntRow lo (some ⟨g, 0, none⟩) c E w) {n : Nat} (hn : n < E.length) (x : Ent) : EntRow lo (some ⟨g, 0, none⟩) c (E.set n x) (w.setCells g (n * 5) x.cells) ∧ Keeps [g] w (w.setCells g (n * 5) x.cells) := by
  obtain ⟨h1, h2⟩ := own_setCells x.cells _ (n * 5) w h
  rw [flatE_set E n x hn] at h1
  exact ⟨by unfold EntRow; rw [List.length_set]; exact h1, h2⟩
theorem EntRow.put (h : EntRow lo (some ⟨g, 0, none⟩) c E w) {n : Nat} {x : Ent} (hx : E[n]? = some x) (v : Int) : EntRow lo (some ⟨g, 0, none⟩) c (E.set n { x with val := v }) (w.setCell ⟨g, n * 5 + 3, none⟩ (.int .i64 v)) := by
  have h1 := (World.ownsRow.stored h (n * 5 + 3) (.int .i64 v)).1
  rw [flatE_set3 E n x v hx] at h1
  unfold EntRow; rw [List.length_set]; exact h1
/-- The first ones alone. -/
theorem EntRow.cut (h : EntRow lo (some ⟨g, 0, none⟩) c E w) {n : Nat} (hn : n ≤ E.length) : EntRow lo (some ⟨g, 0, none⟩) c (E.take n) w := by
  obtain ⟨h1, h2⟩ := h
  have hl : (E.take n).length = n := by simp; omega
  unfold EntRow
  rw [hl]
  refine ⟨by rw [flatE_len, hl], ?_⟩
  rcases h2 with ⟨h2, _⟩ | ⟨g', cap, cur, a1, a2, a3, a4, a5, a6, a7⟩
  · simp at h2
  · simp at a1
    obtain ⟨rfl, rfl⟩ := a1
    refine .inr ⟨g, c, cur, rfl, a2, a3, by omega, a5, a6, ?_⟩
    have e : (cur.toList.take (E.length * 5)).take (n * 5) = cur.toList.take (n * 5) := by rw [List.take_take]; congr 1; omega
    rw [← e, a7, flatE_take]
/-- Cells behind the row turned. -/
theorem EntRow.beyond (h : EntRow lo (some ⟨g, 0, none⟩) c E w) {o : Nat} (ho : E.length * 5 ≤ o) (cs : List Value) : EntRow lo (some ⟨g, 0, none⟩) c E (w.setCells g o cs) ∧ Keeps [g] w (w.setCells g o cs) := by
  obtain ⟨h1, h2⟩ := own_setCells cs _ o w h
  rw [setL_out cs _ o (by rw [flatE_len]; exact ho)] at h1
  exact ⟨h1, h2⟩
theorem EntRow.some_cells (h : EntRow lo (some ⟨g, 0, none⟩) c E w) {n : Nat} (hn : n < E.length) : ∀ j, j < 5 → (w.cell? ⟨g, n * 5 + j, none⟩).isSome = true := by
  intro j hj
  rw [h.cell (List.getElem?_eq_getElem hn) j hj]; rfl
theorem EntRow.all_cells (h : EntRow lo (some ⟨g, 0, none⟩) c E w) {n : Nat} {x : Ent} (hx : E[n]? = some x) : ∀ j v, x.cells[j]? = some v → w.cell? ⟨g, n * 5 + j, none⟩ = some v := by
  intro j v hv
  have hj : j < 5 := by have := (List.getElem?_eq_some_iff.1 hv).1; simpa [Ent.cells] using this
  rw [h.cell hx j hj]
  match j, hj with
  | 0, _ | 1, _ | 2, _ | 3, _ | 4, _ => simp [Ent.cells] at hv; simp [Ent.cell, hv]
end
theorem Ent.one (x : Ent) : ∀ v ∈ x.cells, v.oneCell' = true := by intro v hv; simp [Ent.cells] at hv; rcases hv with rfl | rfl | rfl | rfl | rfl <;> rfl
theorem zero_cells (n : Nat) : (Builtin.zeroCells noE.agg.cells n).toList = flatE (List.replicate n noE) := by
  have e : noE.agg.cells = #[.bool false, .int .i64 0, .int .i64 0, .int .i64 0, .int .i64 0] := rfl
  rw [e]
  apply List.ext_getElem?
  intro i
  by_cases hi : i < n * 5
  · have h1 := flatE_get (List.replicate n noE) (i / 5) noE (by rw [List.getElem?_replicate, if_pos (by omega)]) (i % 5) (Nat.mod_lt _ (by omega))
    rw [Nat.div_add_mod' i 5] at h1
    rw [h1]
    simp [Builtin.zeroCells, hi]
    have hm : i % 5 < 5 := Nat.mod_lt _ (by omega)
    generalize i % 5 = j at *
    match j, hm with
    | 0, _ | 1, _ | 2, _ | 3, _ | 4, _ => rfl
  · have h1 : (flatE (List.replicate n noE))[i]? = none := List.getElem?_eq_none (by rw [flatE_len]; simp; omega)
    rw [h1]
    simp [Builtin.zeroCells]; omega
end Go.Proofs.Ytcakdmapnmneoaa
end

section
namespace Go.Proofs.Ytcakdmapnmneoaa
open Go.RowKit
set_option linter.unusedVariables false

theorem infoEnt : (Try.prog.info? 36).map (·.size) = some 5 := by kernel_rfl
theorem zeroEnt : ∀ w, (zeroValue 36).run Try.prog w = .ok noE.agg w := fun w => by kernel_rfl

theorem EntRow.drew {lo c : Nat} {a : Option Addr} {E : List Ent} {w : World} (h : EntRow lo a c E w) : EntRow lo a c E w.drew := h
theorem liveL_succ {E : List Ent} {k : Nat} {x : Ent} (h : E[k]? = some x) : liveL (E.take (k + 1)) = liveL (E.take k) ++ if x.live then [x] else [] := by
  rw [List.take_add_one, h]
  simp only [liveL, List.filter_append, Option.toList_some]
  cases hx : x.live <;> simp [hx]
structure DropI (E R : List Ent) (k n : Nat) : Prop where
  len : R.length = E.length
  tk : R.take n = liveL (E.take k)
  rest : ∀ j, k ≤ j → R[j]? = E[j]?
  nk : n ≤ k
theorem DropI.start (E : List Ent) : DropI E E 0 0 := ⟨rfl, by simp [liveL], fun _ _ => rfl, Nat.le_refl _⟩
theorem DropI.live {E R : List Ent} {k n : Nat} (h : DropI E R k n) {x : Ent} (hx : E[k]? = some x) (hl : x.live = true) : DropI E (R.set n x) (k + 1) (n + 1) := by
  have hk := (List.getElem?_eq_some_iff.1 hx).1
  have hnk := h.nk
  have hlen := h.len
  refine ⟨by simp [h.len], ?_, fun j hj => ?_, by omega⟩
  · rw [liveL_succ hx, hl, ← h.tk, List.take_add_one, List.getElem?_set_self (by omega)]
    simp only [List.take_set]
    rw [List.set_eq_of_length_le (by simp; omega)]; rfl
  · rw [List.getElem?_set_ne (by omega)]; exact h.rest j (by omega)
theorem DropI.dead {E R : List Ent} {k n : Nat} (h : DropI E R k n) {x : Ent} (hx : E[k]? = some x) (hl : x.live = false) : DropI E R (k + 1) n := by
  have := h.nk
  exact ⟨h.len, by rw [liveL_succ hx, hl, h.tk]; simp, fun j hj => h.rest j (by omega), by omega⟩

set_option maxRecDepth 100000 in
set_option maxHeartbeats 2000000 in
theorem drop_any (t lo : Nat) (S : List Nat) (m : Value) (E : List Ent) (V : Nat → Int) (L lv bi ma tu : Nat) (w : World) (H : TabC t lo S m E V L lv bi ma tu w) (h0 : 0 < E.length) (hE1 : E.length ≤ 1000000) :
    Calls Try.prog 97 #[.pointer (some ⟨t, 0, none⟩)] w fun r w' => r = .returned (.tuple #[]) ∧ TabC t lo S m (liveL E) V L lv bi ma tu w' ∧ Keeps S w w' := by
  obtain ⟨a, c, cb, cr, h1, h2, h3', h4, h5, h6, h7, h8⟩ := H
  obtain ⟨g, rfl⟩ := h2.shape h0
  have e1 : w.cell? ⟨t, 1, none⟩ = some (.slice (some ⟨g, 0, none⟩) E.length c) := cell_has h1 (i := 1) rfl
  have hcap := h2.cap_le
  obtain ⟨n, hn⟩ := ex_hid E.length
  rw [← hn.out] at e1 hE1 hcap h0
  have hcap2 : (c : Int) ≤ 9223372036854775807 := by have := hcap.2; unfold maxLen at this; omega
  have gt : t ≠ g := by have := h2.notin h1 (by decide); simpa [blk] using this
  have HC := Lib.hid h3'
  have HE := Lib.hid h2
  have HB := Lib.hid h1
  have HS := Lib.hid (show t ∈ S ∧ cb ∈ S ∧ cr ∈ S ∧ g ∈ S ∧ ∀ y, y ∈ S → lo ≤ y ∧ y < w.heap.size from ⟨h4, h5, h6, h7 g (by simp [blk]), h8⟩)
  clear h1 h2 h3' h4 h5 h6 h7 h8
  go_enter Try.func97, Try.ntmps97
  go_wp2_with fail
  go_loopw [2, 10] (fun u i wr => ∃ k q R, k ≤ n ∧ i = .int .i64 (k : Nat) ∧ u = .int .i64 (q : Nat) ∧ DropI E R k q ∧ EntRow lo (some ⟨g, 0, none⟩) c R wr ∧ Keeps [g] w wr) (fun _ i _ => n - (intOf i).toNat)
  case atStart => exact ⟨0, 0, E, by omega, rfl, rfl, DropI.start E, HE.out, Keeps.refl _ _⟩
  case round =>
    obtain ⟨k, q, R, hk, rfl, rfl, hD, hR, hK⟩ := hrel
    have hk0 : (0 : Int) ≤ (k : Int) := by omega
    have hq0 : (0 : Int) ≤ (q : Int) := by omega
    have hqk := hD.nk
    have HD := Lib.hid hD
    have HR := Lib.hid hR
    have HK := Lib.hid hK
    by_cases hlt : k < n
    · have hlt' : (k : Int) < (n : Int) := by omega
      have hx : E[k]? = some E[k] := List.getElem?_eq_getElem (by rw [← hn.out]; exact hlt)
      obtain ⟨x, hxx⟩ : ∃ x, E[k]? = some x := ⟨_, hx⟩
      have hxR : R[k]? = some x := (hD.rest k (Nat.le_refl _)).trans hxx
      have q0 : wr.cell? ⟨g, k * 5, none⟩ = some (.bool x.live) := hR.cell hxR 0 (by omega)
      have q1 : wr.cell? ⟨g, k * 5 + 1, none⟩ = some (.int .i64 x.hash) := hR.cell hxR 1 (by omega)
      have q2 : wr.cell? ⟨g, k * 5 + 2, none⟩ = some (.int .i64 x.key) := hR.cell hxR 2 (by omega)
      have q3 : wr.cell? ⟨g, k * 5 + 3, none⟩ = some (.int .i64 x.val) := hR.cell hxR 3 (by omega)
      have q4 : wr.cell? ⟨g, k * 5 + 4, none⟩ = some (.int .i64 x.birth) := hR.cell hxR 4 (by omega)
      have y1 : wr.cell? ⟨t, 1, none⟩ = some (.slice (some ⟨g, 0, none⟩) n c) := hK.cell e1 (by simpa using gt)
      have HX := Lib.hid (And.intro hxx hxR)
      clear hx hxx hxR hD hR hK
      cases hlv : x.live
      · rw [hlv] at q0
        go_wp2_with fail
        go_roundw
        case rel => exact ⟨k + 1, q, R, by omega, by go_num, rfl, HD.out.dead HX.out.1 hlv, HR.out.keeps ((Keeps.refl [] wr).alloc _) (by simp), HK.out.alloc _⟩
        case measure => simp [intOf]; omega
      · rw [hlv] at q0
        have hc1 : (q : Int) + 1 ≤ (c : Int) := by omega
        have hc2 : (k : Int) + 1 ≤ (c : Int) := by omega
        have hc3 : (c : Int) ≤ 9223372036854775807 := hcap2
        have hw1 : IntKind.i64.wrap ((q : Int) + 1) = (q : Int) + 1 := by rw [IntKind.wrap_i64]; omega
        have hw2 : IntKind.i64.wrap ((k : Int) + 1) = (k : Int) + 1 := by rw [IntKind.wrap_i64]; omega
        have hl1 : (q : Int) ≤ (q : Int) + 1 := by omega
        have hl2 : (k : Int) ≤ (k : Int) + 1 := by omega
        go_wp2_with fail
        obtain ⟨W, hW⟩ : ∃ W, wr.alloc (.cells #[.bool true, .int .i64 x.hash, .int .i64 x.key, .int .i64 x.val, .int .i64 x.birth] 36) = W := ⟨_, rfl⟩
        have kW : Keeps [] wr W := by rw [← hW]; exact (Keeps.refl [] wr).alloc _
        rw [hW]
        have R2 := Lib.hid (HR.out.keeps kW (by simp))
        have K2 := Lib.hid (HK.out.then kW (by simp))
        have yW := kW.cell y1 (by simp)
        have hqR : q < R.length := by have := HD.out.len; have := hn.out; omega
        clear hW q0 q1 q2 q3 q4 y1 kW
        have hrun := run_copy_cellsS (P := Try.prog) W.drew 33 33 3 36 g (q * 5) 1 (c - q) ⟨g, k * 5, none⟩ 1 (c - k) 5 x.cells Try.underlying33 infoEnt rfl (fun j v hj => by have := R2.out.all_cells HX.out.2 j v hj; rw [show (⟨g, k * 5, none⟩ : Addr).add j = ⟨g, k * 5 + j, none⟩ by unfold Addr.add; split <;> simp_all]; exact this) (fun j hj => R2.out.some_cells hqR j hj) (fun j _ => R2.out.free _) x.one
        have L3 := EntRow.lay R2.out.drew hqR x
        obtain ⟨w3, hw3⟩ : ∃ w3, W.drew.setCells g (q * 5) x.cells = w3 := ⟨_, rfl⟩
        rw [hw3] at hrun L3
        have y3 := L3.2.cell (w := W.drew) yW (by simpa using gt)
        have R3 := Lib.hid L3.1
        have K3 := Lib.hid (K2.out.drew.trans L3.2)
        rw [show goInt (Nat.min 1 1) = Value.int .i64 1 from rfl] at hrun
        clear hw3 L3
        go_region_held3 (fun w' => w'.cell? ⟨t, 1, none⟩ = some (.slice (some ⟨g, 0, none⟩) n c)) (go_keep) (fail)
        go_wp2_with fail
        go_roundw
        case rel => exact ⟨k + 1, q + 1, R.set q x, by omega, by go_num, by go_num, HD.out.live HX.out.1 hlv, R3.out, K3.out⟩
        case measure => simp [intOf]; omega
    · obtain rfl : k = n := by omega
      have hge : ¬ (k : Int) < (k : Int) := by omega
      have y1 : wr.cell? ⟨t, 1, none⟩ = some (.slice (some ⟨g, 0, none⟩) k c) := hK.cell e1 (by simpa using gt)
      have htk : R.take q = liveL E := by have := hD.tk; rw [hn.out, List.take_length] at this; exact this
      have TK := Lib.hid htk
      have hlR : R.length = k := by rw [hD.len, hn.out]
      have hc1 : (q : Int) ≤ (k : Int) := by omega
      have hc2 : (q : Int) ≤ (c : Int) := by omega
      have h1 := hK.has HB.out (by simpa using gt)
      have f1 := free_of_has h1 1
      have H1 := Lib.hid h1
      clear htk hD hR hK h1
      have hlt2 : (R.take q).length = q := by simp; omega
      have fin : ∀ W, EntRow lo (some ⟨g, 0, none⟩) c (R.take q) W → Keeps [g] wr W → TabC t lo S m (liveL E) V L lv bi ma tu (W.setCell ⟨t, 1, none⟩ (.slice (some ⟨g, 0, none⟩) q c)) ∧ Keeps S w (W.setCell ⟨t, 1, none⟩ (.slice (some ⟨g, 0, none⟩) q c)) := by
        intro W hE hk
        obtain ⟨s1, s2, s3, s4, s5⟩ := HS.out
        have kk : Keeps [g] w W := HK.out.trans hk
        have kt : Keeps [t, g] w (W.setCell ⟨t, 1, none⟩ (.slice (some ⟨g, 0, none⟩) q c)) := (kk.mono (by simp)).setCell (.inr (by simp)) _
        have hot := HC.out.other HB.out
        have hne := HC.out.noent HE.out
        simp [blk] at hne
        have kt2 : Keeps [t] W (W.setCell ⟨t, 1, none⟩ (.slice (some ⟨g, 0, none⟩) q c)) := (Keeps.refl _ _).setCell (.inr (by simp)) _
        refine ⟨⟨some ⟨g, 0, none⟩, c, cb, cr, ?_, ?_, HC.out.keeps kt (by simp; exact ⟨hot.1, hne.1⟩) (by simp; exact ⟨hot.2, hne.2⟩), s1, s2, s3, by simpa [blk] using s4, fun y hy => ⟨(s5 y hy).1, Nat.lt_of_lt_of_le (s5 y hy).2 kt.size⟩⟩, kt.mono (by intro y hy; simp at hy; rcases hy with rfl | rfl <;> assumption)⟩
        · have h := has_setCell (kk.has HB.out (by simpa using gt)) 1 (.slice (some ⟨g, 0, none⟩) q c)
          rw [← TK.out, hlt2]
          exact h
        · rw [← TK.out]
          exact hE.keeps kt2 (by simp [blk]; exact fun h => gt h.symm)
      have FIN := Lib.hid fin
      have hz : ∀ (a : Option Addr) (cc : Nat), (Builtin.clear_ #[33] 0 #[.slice a 0 cc]).run Try.prog wr = .ok (.tuple #[]) wr := fun a cc => run_clear_zero wr _ _ _ a cc Try.underlying33
      clear fin
      by_cases hqk2 : q < k
      · have hc0 : q < c := by omega
        have hsome : ∀ j, j < (flatE (List.replicate (k - q) noE)).length → (wr.cell? ⟨g, q * 5 + j, none⟩).isSome = true := by
          intro j hj
          rw [flatE_len, List.length_replicate] at hj
          rw [World.ownsRow.cellAt HR.out (q * 5 + j) (by rw [hlR]; omega), List.getElem?_eq_getElem (by rw [flatE_len, hlR]; omega)]
          rfl
        have hone : ∀ v ∈ flatE (List.replicate (k - q) noE), v.oneCell' = true := by
          intro v hv
          simp only [flatE, List.mem_flatMap] at hv
          obtain ⟨x, _, hx2⟩ := hv
          exact x.one v hx2
        have hrun := run_clear_cellsS (P := Try.prog) wr 33 36 0 noE.agg (flatE (List.replicate (k - q) noE)) Try.underlying33 zeroEnt g (q * 5) (k - q) (c - q) (by omega) (zero_cells _) hone hsome (fun j _ => HR.out.free _)
        have hb := EntRow.beyond (HR.out.cut (n := q) (by omega)) (o := q * 5) (by rw [hlt2]; omega) (flatE (List.replicate (k - q) noE))
        obtain ⟨w3, hw3⟩ : ∃ w3, wr.setCells g (q * 5) (flatE (List.replicate (k - q) noE)) = w3 := ⟨_, rfl⟩
        rw [hw3] at hrun hb
        have hf := Lib.hid (FIN.out w3 hb.1 hb.2)
        have y3 := hb.2.cell y1 (by simpa using gt)
        have f3 : w3.frozen? ⟨t, 1, none⟩ = false := free_of_has (hb.2.has H1.out (by simpa using gt)) 1
        clear hz hb hw3 hsome hone
        go_wp2_with fail
        go_end0
        exact ⟨rfl, hf.out⟩
      · obtain rfl : q = k := by omega
        have hf := Lib.hid (FIN.out wr (HR.out.cut (n := q) (by omega)) (Keeps.refl _ _))
        by_cases hcq : c = q
        · subst hcq
          go_wp2_with fail
          go_end0
          exact ⟨rfl, hf.out⟩
        · have hc0 : q < c := by omega
          go_wp2_with fail
          go_end0
          exact ⟨rfl, hf.out⟩
end Go.Proofs.Ytcakdmapnmneoaa
end

section
namespace Go.Proofs.Ytcakdmapnmneoaa
open Go.RowKit
set_option linter.unusedVariables false

/-- The block of a table. -/
def tabO (m ev cp lv bi ma tu : Value) : Obj := .cells #[m, ev, cp, lv, bi, ma, tu] 119 (0, 0)
/-- Behind index. -/
def Idx (t L : Nat) (m : Option Nat) (c : C4) (ev lv bi tu : Value) (ma : Int) (w : World) (e : Ending) (w' : World) : Prop :=
  e = .returned (.tuple #[]) ∧ ∃ cb cr, w'.heap[t]? = some (tabO (mV m) ev (.pointer (some ⟨cb, 0, none⟩)) lv bi (.int .i64 (ma + 1)) tu) ∧ CellsAt cb cr L (2 ^ L) (begun (2 ^ L)) w' ∧ w.heap.size ≤ cb ∧ w.heap.size ≤ cr ∧ MtrAt m c.tab w' ∧ Keeps (t :: mS m) w w'
theorem index_any (t L : Nat) (l : Int) (hl : l = (L : Int)) (m : Option Nat) (c : C4) (ev cp lv bi tu : Value) (ma : Int) (w : World) (h : w.heap[t]? = some (tabO (mV m) ev cp lv bi (.int .i64 ma) tu)) (hm : MtrAt m c w)
    (hmt : ∀ b, m = some b → b ≠ t) (h3 : 3 ≤ L) (hL : L ≤ 20) (hma0 : 0 ≤ ma) (hma : ma ≤ 1000000) :
    Calls Try.prog 64 #[.pointer (some ⟨t, 0, none⟩), .int .i64 l] w (Idx t L m c ev lv bi tu ma w) := by
  subst hl
  have H := Lib.hid h
  have HM := Lib.hid hm
  have HT := Lib.hid hmt
  have HS : Hid (∀ x, x ∈ mS m → x ≠ t) := Lib.hid (by intro x hx; cases m with | none => simp [mS] at hx | some b => simp [mS] at hx; subst hx; exact hmt _ rfl)
  clear h hm hmt
  go_enter Try.func64, Try.ntmps64
  go_wp2_with fail
  refine (new_any L (2 ^ L) _ rfl h3 hL rfl _).mono ?_
  rintro e w1 ⟨cb, cr, rfl, hc, z1, z2, b1⟩
  have K1 := Lib.hid (Below.keeps b1 [])
  have h1 := (Below.keeps b1 []).has H.out (by simp)
  have HC := Lib.hid hc
  have f0 := free_of_has h1 2
  have f5 := free_of_has h1 5
  have c2 := cell_has h1 (i := 2) rfl
  have c5 := cell_has h1 (i := 5) rfl
  have c0 := cell_has h1 (i := 0) rfl
  have H1 := Lib.hid h1
  obtain ⟨mv, hmv⟩ := ex_hid (mV m)
  rw [← hmv.out] at c0
  clear b1 hc h1
  go_wp2_with fail
  have k2 : Keeps [t] w1 ((w1.setCell ⟨t, 2, none⟩ (.pointer (some ⟨cb, 0, none⟩))).setCell ⟨t, 5, none⟩ (.int .i64 (ma + 1))) := ((Keeps.refl _ _).setCell (.inr (by simp)) _).setCell (.inr (by simp)) _
  have K2 := Lib.hid k2
  rw [hmv.out]
  have hm2 : MtrAt m c ((w1.setCell ⟨t, 2, none⟩ (.pointer (some ⟨cb, 0, none⟩))).setCell ⟨t, 5, none⟩ (.int .i64 (ma + 1))) := (HM.out.keeps K1.out (fun b hb => by simp)).keeps k2 (fun b hb => by have := HT.out b hb; simp; omega)
  refine (mtable_any m c _ hm2).mono ?_
  rintro e w3 ⟨rfl, k3, m3⟩
  have K3 := Lib.hid k3
  have M3 := Lib.hid m3
  clear k2 hm2 k3 m3
  go_wp2_with fail
  go_end0
  have ht := Lib.hid (lt_of_block H.out)
  have h2 := has_setCell (has_setCell H1.out 2 (.pointer (some ⟨cb, 0, none⟩))) 5 (.int .i64 (ma + 1))
  have hot := HC.out.other H1.out
  have hsub : ∀ x, x ∈ mS m → x < w.heap.size := fun x hx => by cases m with | none => simp [mS] at hx | some b => simp [mS] at hx; subst hx; exact lt_of_block (HM.out _ rfl)
  refine ⟨rfl, cb, cr, K3.out.has h2 (fun hx => HS.out _ hx rfl), (HC.out.keeps K2.out (by simp; exact hot.1) (by simp; exact hot.2)).keeps K3.out (fun hx => by have := hsub _ hx; omega) (fun hx => by have := hsub _ hx; omega), z1, z2, M3.out, ?_⟩
  exact ((K1.out.mono (by simp)).trans (K2.out.mono (by simp))).trans (K3.out.mono (by intro x hx; simp; exact .inr hx))

/-- A new table. -/
def NewT (m : Option Nat) (c : C4) (w : World) (e : Ending) (w' : World) : Prop :=
  ∃ t S, e = .returned (.pointer (some ⟨t, 0, none⟩)) ∧ TabAt t w.heap.size S (mV m) newT w' ∧ MtrAt m c.tab w' ∧ Keeps (mS m) w w'
theorem newt_any (m : Option Nat) (c : C4) (w : World) (hm : MtrAt m c w) : Calls Try.prog 36 #[mV m] w (NewT m c w) := by
  have HM := Lib.hid hm
  have hsub : ∀ b, m = some b → b < w.heap.size := fun b hb => lt_of_block (hm b hb)
  have HS := Lib.hid hsub
  obtain ⟨p, hp⟩ : ∃ p : Option Addr, Hid (mV m = .pointer p) := ⟨_, Lib.hid rfl⟩
  rw [hp.out]
  clear hm hsub
  go_enter Try.func36, Try.ntmps36
  go_wp2_with fail
  rw [← hp.out]
  refine (index_any w.heap.size 3 3 rfl m c (.slice none 0 0) (.pointer none) (.int .i64 0) (.int .i64 0) (.int .i64 0) 0 _ (has_new _ _) (HM.out.keeps ((Keeps.refl [] _).alloc _) (by simp)) (fun b hb => by have := HS.out b hb; omega) (by omega) (by omega) (by omega) (by omega)).mono ?_
  rintro e w1 ⟨rfl, cb, cr, h1, h2, h3, h4, h5, k⟩
  have z := k.size
  have H1 := Lib.hid h1
  have H2 := Lib.hid h2
  have H5 := Lib.hid h5
  have K := Lib.hid k
  simp only [World.size_alloc] at z h3 h4
  clear h1 h2 h5 k
  go_wp2_with fail
  go_ret
  refine ⟨w.heap.size, [w.heap.size, cb, cr], rfl, ⟨none, 0, cb, cr, H1.out, EntRow.nil _ _, H2.out, by simp, by simp, by simp, by simp [blk], ?_⟩, H5.out, ?_⟩
  · have l1 := lt_of_block H2.out.ho
    have l2 := lt_of_block H2.out.hr
    intro x hx
    simp at hx
    rcases hx with rfl | rfl | rfl <;> omega
  · refine ((Keeps.refl (mS m) w).alloc _).then K.out (fun x hx => ?_)
    simp at hx
    rcases hx with rfl | hx
    · exact .inl (Nat.le_refl _)
    · exact .inr hx
end Go.Proofs.Ytcakdmapnmneoaa
end

section
namespace Go.Proofs.Ytcakdmapnmneoaa
open Go.RowKit Go.Shelf
set_option linter.unusedVariables false
attribute [local go_sem] Oper.semAt_some

theorem fe_eq {L h : Nat} {V : Nat → Int} {i : Nat} (h1 : i ≤ fe L h V) (h2 : i < 2 ^ L + 13) (h3 : V (trC L h i) = -1) : i = fe L h V := by
  rcases Nat.lt_or_ge i (fe L h V) with h4 | h4
  · exact absurd h3 (fe_before h4)
  · omega
theorem fe_succ {L h : Nat} {V : Nat → Int} {i : Nat} (h1 : i ≤ fe L h V) (h2 : i < 2 ^ L + 13) (h3 : V (trC L h i) ≠ -1) : i + 1 ≤ fe L h V := by
  rcases Nat.lt_or_ge i (fe L h V) with h4 | h4
  · omega
  · have h5 : fe L h V = i := by omega
    unfold fe at h5
    have h6 := fi_is (p := isE L h V) (n := 2 ^ L + 13) (by omega)
    rw [h5] at h6
    unfold isE at h6
    simp only [beq_iff_eq] at h6
    exact absurd h6 h3
theorem layV_full {L h : Nat} {V : Nat → Int} {e : Int} (h1 : 2 ^ L + 13 ≤ fe L h V) : layV L h V e = V := by unfold layV; rw [if_neg (by omega)]
theorem layV_hit {L h : Nat} {V : Nat → Int} {e : Int} (h1 : fe L h V < 2 ^ L + 13) : layV L h V e = putN V (trC L h (fe L h V)) e := by unfold layV; rw [if_pos h1]

set_option maxRecDepth 100000 in
set_option maxHeartbeats 2000000 in
theorem lay_any (t lo : Nat) (S : List Nat) (m : Value) (E : List Ent) (V : Nat → Int) (L lv bi ma tu : Nat) (w : World) (H : TabC t lo S m E V L lv bi ma tu w) (h3 : 3 ≤ L) (hL : L ≤ 20) (hF : Fits (2 ^ L) V)
    (e : Nat) (x : Ent) (hx : E[e]? = some x) (he : mayB (2 ^ L) e = true) :
    Calls Try.prog 98 #[.pointer (some ⟨t, 0, none⟩), .int .i64 e] w fun r w' => r = .returned (.tuple #[]) ∧ TabC t lo S m E (layV L (uh x.hash) V e) L lv bi ma tu w' ∧ Keeps S w w' := by
  obtain ⟨a, c, cb, cr, h1, h2, h3', h4, h5, h6, h7, h8⟩ := H
  have hel := (List.getElem?_eq_some_iff.1 hx).1
  obtain ⟨g, rfl⟩ := h2.shape (by omega)
  have HC := Lib.hid h3'
  have HE := Lib.hid h2
  have HB := Lib.hid h1
  have HF := Lib.hid hF
  have HM := Lib.hid he
  have HS := Lib.hid (show t ∈ S ∧ cb ∈ S ∧ cr ∈ S ∧ (∀ y, y ∈ blk (some (⟨g, 0, none⟩ : Addr)) → y ∈ S) ∧ ∀ y, y ∈ S → lo ≤ y ∧ y < w.heap.size from ⟨h4, h5, h6, h7, h8⟩)
  have e1 : w.cell? ⟨t, 1, none⟩ = some (.slice (some ⟨g, 0, none⟩) E.length c) := cell_has h1 (i := 1) rfl
  have e2 : w.cell? ⟨t, 2, none⟩ = some (.pointer (some ⟨cb, 0, none⟩)) := cell_has h1 (i := 2) rfl
  have q1 : w.cell? ⟨g, e * 5 + 1, none⟩ = some (.int .i64 x.hash) := h2.cell hx 1 (by omega)
  obtain ⟨n, hn⟩ := ex_hid E.length
  rw [← hn.out] at e1 hel
  have hel' : (e : Int) < (n : Int) := by omega
  clear h1 h2 h3' h4 h5 h6 h7 h8 hx hF he
  refine calls_of_wp_ranges Try.func98 rfl ?_
  simp only [Try.ntmps98, List.size_toArray, List.length_cons, List.length_nil, Nat.reduceAdd, Nat.reduceSub, Array.replicate_succ, Array.replicate_zero, List.push_toArray, List.append_toArray, List.nil_append, List.cons_append]
  go_wp2_with fail
  apply wp_scope_straight
  go_wp2_with fail
  apply wp_label
  go_wp2_with fail
  refine wp_gen (fun W => W.heap[w.heap.size]? = some (.cells #[.pointer (some ⟨t, 0, none⟩)] 77 (0, 0)) ∧ W.heap[w.heap.size + 1]? = some (.cells #[.int .i64 e] 3 (0, 0)) ∧ Keeps [] w W ∧ W.heap.size = w.heap.size + 2) ⟨has_alloc (has_new _ _) _, has_new' _ _ (by simp), ((Keeps.refl [] w).alloc _).alloc _, by simp⟩ ?_
  rintro W ⟨b0, b1, k0, zW⟩
  have K0 := Lib.hid k0
  have B01 := Lib.hid (And.intro b0 b1)
  have x0 := cell_has b0 (i := 0) rfl
  have x1 := cell_has b1 (i := 0) rfl
  have y1 := k0.cell e1 (by simp)
  have y2 := k0.cell e2 (by simp)
  have y3 := k0.cell q1 (by simp)
  have D := Lib.hid (show W.drew.cell? ⟨w.heap.size, 0, none⟩ = _ ∧ W.drew.cell? ⟨w.heap.size + 1, 0, none⟩ = _ ∧ W.drew.cell? ⟨t, 1, none⟩ = _ ∧ W.drew.cell? ⟨t, 2, none⟩ = _ ∧ W.drew.cell? ⟨g, e * 5 + 1, none⟩ = _ from ⟨x0, x1, y1, y2, y3⟩)
  clear e1 e2 q1 b0 b1 k0
  go_region_held3 (fun w' => w'.cell? ⟨w.heap.size, 0, none⟩ = some (.pointer (some ⟨t, 0, none⟩)) ∧ w'.cell? ⟨w.heap.size + 1, 0, none⟩ = some (.int .i64 e) ∧ w'.cell? ⟨g, e * 5 + 1, none⟩ = some (.int .i64 x.hash) ∧ w'.cell? ⟨t, 1, none⟩ = some (.slice (some ⟨g, 0, none⟩) n c) ∧ w'.cell? ⟨t, 2, none⟩ = some (.pointer (some ⟨cb, 0, none⟩))) (go_keep)
    (first
      | (go_at_call 76; refine (log_any cb cr L (2 ^ L) V _ (HC.out.keeps K0.out.drew (by simp) (by simp))).mono ?_; rintro r1 w1 ⟨rfl, rfl⟩)
      | (go_at_call 93; refine (trail_all _ _ _).mono ?_; rintro r1 w1 ⟨rfl, hw1⟩; have kw := Lib.hid ((((Keeps.refl [] W.drew).alloc (.cells #[.int .i64 x.hash] 3)).alloc (.cells #[.int .i64 (L : Int)] 3))); rw [hw1] at kw; have HW := Lib.hid hw1; have p0 := kw.out.cell D.out.1 (by simp); have p1 := kw.out.cell D.out.2.1 (by simp); have p2 := kw.out.cell D.out.2.2.1 (by simp); have p3 := kw.out.cell D.out.2.2.2.1 (by simp); have p4 := kw.out.cell D.out.2.2.2.2 (by simp); clear hw1))
  have B1 := Lib.hid (And.intro (kw.out.has (has_drew B01.out.1) (by simp)) (kw.out.has (has_drew B01.out.2) (by simp)))
  have K1 := Lib.hid (K0.out.drew.trans kw.out)
  have P1 : Hid (TrPriv (w.heap.size + 2 + 1) (w.heap.size + 2) L x.hash w1) := Lib.hid (by
    have hw := HW.out
    have zd : W.drew.heap.size = w.heap.size + 2 := zW
    rw [← hw, ← zd]
    exact ⟨cell_has (has_new' _ _ (by simp)) (i := 0) rfl, cell_has (has_alloc (has_new _ _) _) (i := 0) rfl⟩)
  clear HW kw p0 p1 p2 p3 p4 D x0 x1 y1 y2 y3 K0 B01
  go_wp2_with fail
  refine wp_rangeN (gf := 105) (lb := #[.pointer (some ⟨w.heap.size + 2 + 1, 0, none⟩), .pointer (some ⟨w.heap.size + 2, 0, none⟩)]) rfl enters_trail (trIter (w.heap.size + 2 + 1) (w.heap.size + 2) L hL x.hash) (fun _ => rfl)
    (fun i W => Keeps [] w1 W ∧ i ≤ fe L (uh x.hash) V) (fun c i W => c = .exit 0 ∧ i = fe L (uh x.hash) V ∧ Keeps [cr] w1 W ∧ CellsAt cb cr L (2 ^ L) (putN V (trC L (uh x.hash) i) e) W)
    (fun i A B h k => ⟨h.1.then k (by intro y hy; simp at hy; left; omega), h.2⟩) (fun c i A B h k => ⟨h.1, h.2.1, h.2.2.1.then k (by intro y hy; simp at hy; left; omega), h.2.2.2.keeps k (by have := lt_of_block HC.out.ho; have := K1.out.size; simp; omega) (by have := lt_of_block HC.out.hr; have := K1.out.size; simp; omega)⟩) ?priv ⟨Keeps.refl _ _, Nat.zero_le _⟩ ?round ?done ?stop
  case priv => intro i A h; exact ⟨h.1.cell P1.out.1 (by simp), h.1.cell P1.out.2 (by simp)⟩
  case round =>
    intro l i W2 K hi hW hsz hK
    gi_wp2
    refine hK _ _ (fun _ => True) (fun _ _ h _ => h) trivial (Keeps.refl _ _) ?_
    clear hK hW hsz
    intro W2 hW _ hsz
    obtain ⟨hk2, hie⟩ := hW
    have hc2 := trC_lt L (uh x.hash) i
    have KW := Lib.hid (K1.out.trans hk2)
    have HC2 := Lib.hid (HC.out.keeps KW.out (by simp) (by simp))
    have x0 : W2.cell? ⟨w.heap.size, 0, none⟩ = some (.pointer (some ⟨t, 0, none⟩)) := hk2.cell (cell_has B1.out.1 (i := 0) rfl) (by simp)
    have y2 : W2.cell? ⟨t, 2, none⟩ = some (.pointer (some ⟨cb, 0, none⟩)) := KW.out.cell (cell_has HB.out (i := 2) rfl) (by simp)
    have HK2 := Lib.hid hk2
    have hn1 : 2 ^ L ≤ 1048576 := pow_le hL
    obtain ⟨n2, hn2⟩ := ex_hid (2 ^ L)
    obtain ⟨k, hk⟩ := ex_hid (trC L (uh x.hash) i)
    rw [← hk.out, ← hn2.out] at hc2
    rw [← hn2.out] at hn1
    rw [← hk.out]
    have HF2 := HF
    rw [← hn2.out] at HC2 HF2
    have hk0 : (0 : Int) ≤ (k : Int) := by omega
    have hk1 : (k : Int) < (n2 : Int) := by omega
    clear hk2
    gi_wp2
    refine ⟨trivial, (CallsIn.inRound l (callsIn_wide.2 (getc_in cb cr L n2 V k _ HC2.out HF2.out hn1 hk0 hk1))).mono ?_⟩
    rintro r w5 ⟨rfl, b5⟩
    have K5 := Below.keeps b5 []
    have HC5 := Lib.hid (HC2.out.keeps K5 (by simp) (by simp))
    have x5 := K5.cell x0 (by simp)
    have y5 := K5.cell y2 (by simp)
    have x6 : w5.cell? ⟨w.heap.size + 1, 0, none⟩ = some (.int .i64 e) := K5.cell (HK2.out.cell (cell_has B1.out.2 (i := 0) rfl) (by simp)) (by simp)
    have KK := Lib.hid K5
    clear b5 K5 x0 y2
    by_cases hv : V k = -1
    · rw [show V (k : Int).toNat = -1 by simpa using hv]
      have HM2 : Hid (mayB n2 e = true) := by rw [hn2.out]; exact HM
      gi_wp2
      gi_region_with (refine ⟨trivial, (CallsIn.inRound l (callsIn_wide.2 (setc_in cb cr L n2 V k e w5.drew ⟨HC5.out.ho, HC5.out.hr⟩ hL hn2.out hk0 hk1 HM2.out))).mono ?_⟩; rintro r w6 ⟨rfl, k6, h6⟩)
      all_goals gi_wp2
      all_goals
        have hq : i = fe L (uh x.hash) V := fe_eq hie hi (by rw [← hk.out]; exact hv)
        have z1 := lt_of_block HC.out.hr
        have z2 := K1.out.size
        have z3 := KK.out.size
        refine ⟨⟨rfl, hq, (((HK2.out.trans KK.out).drew).mono (by simp)).trans k6, ?_⟩, (k6.block _ (by show w1.heap.size < w5.heap.size; omega) (by simp; omega)).trans (KK.out.block _ (by omega) (by simp)), (k6.block _ (by show w1.heap.size + 1 < w5.heap.size; omega) (by simp; omega)).trans (KK.out.block _ (by omega) (by simp))⟩
        rw [← hk.out, ← hn2.out]
        exact h6
    · have hv' : (V (k : Int).toNat == -1) = false := by simpa using hv
      gi_wp2
      have z3 := KK.out.size
      exact ⟨⟨HK2.out.trans KK.out, fe_succ hie hi (by rw [← hk.out]; exact hv)⟩, KK.out.block _ (by omega) (by simp), KK.out.block _ (by omega) (by simp)⟩
  case done =>
    intro W2 hW hD
    obtain ⟨hk2, hie⟩ := hW
    have HD := Lib.hid hD
    have HK2 := Lib.hid (K1.out.trans hk2)
    have HL := Lib.hid hie
    clear hk2 hie hD
    go_wp2_with fail
    obtain ⟨s1, s2, s3, s4, s5⟩ := HS.out
    have zD := K1.out.size
    refine bodyPostR_end1 (D := w1.heap.size) (fun w => results_none rfl _ _ _) rfl HD.out fun w' kD => ?_
    have kk : Keeps [] w w' := HK2.out.then kD (by intro y hy; simp at hy; left; omega)
    refine ⟨rfl, ?_, kk.mono (by simp)⟩
    rw [layV_full HL.out]
    exact ⟨_, c, cb, cr, kk.has HB.out (by simp), HE.out.keeps kk (by simp), HC.out.keeps kk (by simp) (by simp), s1, s2, s3, s4, fun y hy => ⟨(s5 y hy).1, Nat.lt_of_lt_of_le (s5 y hy).2 kk.size⟩⟩
  case stop =>
    rintro c' i W2 hi ⟨rfl, rfl, hk2, hc2⟩ hD
    have HD := Lib.hid hD
    have HK2 := Lib.hid ((K1.out.mono (by simp)).trans hk2)
    have HC2 := Lib.hid hc2
    have HI := Lib.hid hi
    clear hk2 hc2 hD hi
    go_wp2_with fail
    obtain ⟨s1, s2, s3, s4, s5⟩ := HS.out
    have zD := K1.out.size
    refine bodyPostR_end1 (D := w1.heap.size) (fun w => results_none rfl _ _ _) rfl HD.out fun w' kD => ?_
    have kk : Keeps [cr] w w' := HK2.out.then kD (by intro y hy; simp at hy; left; omega)
    have hot := HC.out.other HB.out
    have hne := HC.out.noent HE.out
    have zc := lt_of_block HC.out.ho
    have zr := lt_of_block HC.out.hr
    refine ⟨rfl, ?_, kk.mono (by intro y hy; simp at hy; rw [hy]; exact s3)⟩
    rw [layV_hit HI.out]
    exact ⟨_, c, cb, cr, kk.has HB.out (by simp; exact fun h => hot.2 h.symm), HE.out.keeps kk (by intro y hy hy2; simp at hy2; subst hy2; exact hne.2 hy), HC2.out.keeps kD (by simp; omega) (by simp; omega), s1, s2, s3, s4, fun y hy => ⟨(s5 y hy).1, Nat.lt_of_lt_of_le (s5 y hy).2 kk.size⟩⟩
end Go.Proofs.Ytcakdmapnmneoaa
end

section
namespace Go.Proofs.Ytcakdmapnmneoaa
open Go.RowKit
set_option linter.unusedVariables false

set_option maxRecDepth 100000 in
theorem layAll_any (t lo : Nat) (S : List Nat) (m : Value) (E : List Ent) (L lv bi ma tu : Nat) (w : World) (H : TabC t lo S m E (begun (2 ^ L)) L lv bi ma tu w) (h3 : 3 ≤ L) (hL : L ≤ 20) (hE : E.length ≤ 2 * 2 ^ L / 3) (hE1 : E.length ≤ 1000000) :
    Calls Try.prog 90 #[.pointer (some ⟨t, 0, none⟩)] w fun r w' => r = .returned (.tuple #[]) ∧ TabC t lo S m E (layN L E E.length) L lv bi ma tu w' ∧ Keeps S w w' := by
  have HH := Lib.hid H
  obtain ⟨a, c, cb, cr, h1, _⟩ := H
  have e1 : w.cell? ⟨t, 1, none⟩ = some (.slice a E.length c) := cell_has h1 (i := 1) rfl
  obtain ⟨n, hn⟩ := ex_hid E.length
  rw [← hn.out] at e1 hE1
  have HE := Lib.hid hE
  clear h1 hE
  go_enter Try.func90, Try.ntmps90
  go_wp2_with fail
  clear e1
  go_loopw [8] (fun i wr => ∃ k : Nat, k ≤ n ∧ i = .int .i64 k ∧ TabC t lo S m E (layN L E k) L lv bi ma tu wr ∧ Keeps S w wr) (fun i _ => n - (intOf i).toNat)
  case atStart => exact ⟨0, by omega, rfl, by rw [layN_zero]; exact HH.out, Keeps.refl _ _⟩
  case round =>
    obtain ⟨k, hk, rfl, hT, hK⟩ := hrel
    have hk0 : (0 : Int) ≤ (k : Int) := by omega
    have HT := Lib.hid hT
    have HK := Lib.hid hK
    clear hT hK
    by_cases hlt : k < n
    · have hlt' : (k : Int) < (n : Int) := by omega
      have hx : E[k]? = some E[k] := List.getElem?_eq_getElem (by rw [← hn.out]; exact hlt)
      have HX := Lib.hid hx
      have hkE : k < 2 * 2 ^ L / 3 := by have := HE.out; have := hn.out; omega
      have HM := Lib.hid (may_of hkE)
      have HF := Lib.hid (layN_fits L E k (by omega))
      clear hx hkE
      go_wp2_with fail
      refine (lay_any t lo S m E (layN L E k) L lv bi ma tu wr HT.out h3 hL HF.out k _ HX.out HM.out).mono ?_
      rintro r w1 ⟨rfl, t1, k1⟩
      have T1 := Lib.hid t1
      have K1 := Lib.hid (HK.out.trans k1)
      clear t1 k1
      go_wp2_with fail
      go_roundw
      case rel =>
        refine ⟨k + 1, by omega, by go_num, ?_, K1.out⟩
        rw [layN_succ, List.getD_eq_getElem?_getD, HX.out]
        exact T1.out
      case measure => simp [intOf]; omega
    · obtain rfl : k = n := by omega
      have hge : ¬ (k : Int) < (k : Int) := by omega
      go_wp2_with fail
      go_end0
      exact ⟨rfl, by rw [← hn.out]; exact HT.out, HK.out⟩

/-- begin, where the table has begun. -/
theorem begin_any (t lo : Nat) (S : List Nat) (m : Value) (E : List Ent) (V : Nat → Int) (L lv bi ma tu : Nat) (w : World) (H : TabC t lo S m E V L lv bi ma tu w) :
    Calls Try.prog 74 #[.pointer (some ⟨t, 0, none⟩)] w fun r w' => r = .returned (.tuple #[]) ∧ w = w' := by
  obtain ⟨a, c, cb, cr, h1, _⟩ := H
  have e1 : w.cell? ⟨t, 2, none⟩ = some (.pointer (some ⟨cb, 0, none⟩)) := cell_has h1 (i := 2) rfl
  clear h1
  go_enter Try.func74, Try.ntmps74
  go_wp2_with fail
  go_end0
  exact ⟨rfl, rfl⟩

/-- The test of Add. -/
theorem addf_any (bt t : Nat) (l : Int) (L lv : Nat) (hl : l = (L : Int)) (hL : L ≤ 20) (hlv : lv ≤ 1000000) (m ev cp bi ma tu : Value) (w : World) (hb : w.cell? ⟨bt, 0, none⟩ = some (.pointer (some ⟨t, 0, none⟩))) (h : w.heap[t]? = some (tabO m ev cp (.int .i64 lv) bi ma tu)) :
    Calls Try.prog 96 #[.int .i64 l, .pointer (some ⟨bt, 0, none⟩)] w fun r w' => r = .returned (.bool (decide (3 * lv ≤ 2 ^ L))) ∧ Keeps [] w w' := by
  subst hl
  have e1 : w.cell? ⟨t, 3, none⟩ = some (.int .i64 lv) := cell_has h (i := 3) rfl
  obtain ⟨M, hM⟩ := ex_hid (2 ^ L)
  have e2 : wrap64 ((2 : Int) ^ L) = (M : Int) := by rw [hM.out]; rw [← IntWalk.i64_left]; exact i64_pow L hL
  have m1 : 0 < (M : Int) := by have := pow_pos L; rw [hM.out]; omega
  have m2 : (M : Int) ≤ 1048576 := by have := pow_le hL; rw [hM.out]; omega
  have l0 : (0 : Int) ≤ (L : Int) := by omega
  have l1 : (L : Int) ≤ 20 := by omega
  rw [← hM.out]
  have hd : decide (3 * (lv : Int) ≤ (M : Int)) = decide (3 * lv ≤ M) := by rw [decide_eq_decide]; omega
  have HD := Lib.hid hd
  clear h hd
  go_enter Try.func96, Try.ntmps96
  go_wp2_with fail
  go_quiet (fail)
  go_wp2_with fail
  go_ret
  exact ⟨ret_boo HD.out, (Keeps.refl _ _).drewN _⟩
theorem copyf_any (bt t : Nat) (l : Int) (L lv : Nat) (hl : l = (L : Int)) (hL : L ≤ 20) (hlv : lv ≤ 1000000) (m ev cp bi ma tu : Value) (w : World) (hb : w.cell? ⟨bt, 0, none⟩ = some (.pointer (some ⟨t, 0, none⟩))) (h : w.heap[t]? = some (tabO m ev cp (.int .i64 lv) bi ma tu)) :
    Calls Try.prog 89 #[.int .i64 l, .pointer (some ⟨bt, 0, none⟩)] w fun r w' => r = .returned (.bool (decide (lv ≤ 2 * 2 ^ L / 3))) ∧ Keeps [] w w' := by
  subst hl
  have e1 : w.cell? ⟨t, 3, none⟩ = some (.int .i64 lv) := cell_has h (i := 3) rfl
  have l0 : (0 : Int) ≤ (L : Int) := by omega
  have l1 : (L : Int) ≤ 20 := by omega
  have hv : (wrap64 ((wrap64 (2 * 2 ^ L)).tdiv 3)) = ((2 * 2 ^ L / 3 : Nat) : Int) := by
    have hn1 : 2 ^ L ≤ 1048576 := pow_le hL
    have e : (2 : Int) ^ L = ((2 ^ L : Nat) : Int) := by simp
    rw [e]
    generalize 2 ^ L = M at *
    rw [IntWalk.wrap64_in (2 * (M : Int)) (by omega), Int.tdiv_eq_ediv_of_nonneg (by omega), IntWalk.wrap64_in _ (by omega)]
    omega
  have HV := Lib.hid hv
  clear h hv
  go_enter Try.func89, Try.ntmps89
  go_wp2_with fail
  go_quiet (fail)
  go_wp2_with fail
  go_ret
  refine ⟨ret_boo ?_, (Keeps.refl _ _).drewN _⟩
  rw [HV.out, decide_eq_decide]
  omega

theorem least_step {p : Nat → Bool} {l : Nat} (h3 : 3 ≤ l) (hl : l ≤ leastL p) (h20 : l ≤ 20) (hp : p l = false) : l + 1 ≤ leastL p := by
  rcases Nat.lt_or_ge l (leastL p) with h | h
  · omega
  · have h1 : leastL p = l := by omega
    have := leastL_is (p := p) (by omega)
    rw [h1, hp] at this; cases this
theorem least_hit {p : Nat → Bool} {l : Nat} (h3 : 3 ≤ l) (hl : l ≤ leastL p) (h20 : l ≤ 20) (hp : p l = true) : l = leastL p := by
  have := leastL_le h3 h20 hp
  omega
/-- least, of a test that turns nothing. -/
theorem least_any (f : FuncId) (caps : Array Value) (hf : EntersF Try.prog f) (p : Nat → Bool) (hp : leastL p ≤ 20) (w : World)
    (hc : ∀ (W : World) (l : Int) (L : Nat), Keeps [] w W → l = (L : Int) → L ≤ 20 → Calls Try.prog f (#[.int .i64 l] ++ caps) W fun r w' => r = .returned (.bool (p L)) ∧ Keeps [] W w') :
    Calls Try.prog 88 #[.func (.func f) #[] caps] w fun r w' => r = .returned (.int .i64 (leastL p : Nat)) ∧ Keeps [] w w' := by
  have HC := Lib.hid hc
  have HF := Lib.hid hf
  clear hc hf
  go_enter Try.func88, Try.ntmps88
  go_wp2_with fail
  go_loopw [3] (fun i wr => ∃ l : Nat, 3 ≤ l ∧ l ≤ leastL p ∧ i = .int .i64 l ∧ Keeps [] w wr) (fun i _ => 21 - (intOf i).toNat)
  case atStart => exact ⟨3, by omega, leastL_ge p, rfl, Keeps.refl _ _⟩
  case round =>
    obtain ⟨l, h3, hl, rfl, hK⟩ := hrel
    have HK := Lib.hid hK
    have l20 : (l : Int) ≤ 20 := by omega
    have hrun := fun args W => HF.out args W
    cases hpl : p l
    · have HS := Lib.hid (least_step h3 hl (by omega) hpl)
      have hC := HC.out wr l l hK rfl (by omega)
      rw [hpl] at hC
      have HC2 := Lib.hid hC
      clear hC hpl hK
      go_wp2_with fail
      refine HC2.out.mono ?_
      rintro r w1 ⟨rfl, k1⟩
      have K1 := Lib.hid (HK.out.trans k1)
      clear k1
      go_wp2_with fail
      go_roundw
      case rel => exact ⟨l + 1, by omega, HS.out, by go_num, K1.out⟩
      case measure => simp [intOf]; omega
    · have HS := Lib.hid (least_hit h3 hl (by omega) hpl)
      have hC := HC.out wr l l hK rfl (by omega)
      rw [hpl] at hC
      have HC2 := Lib.hid hC
      clear hC hpl hK
      go_wp2_with fail
      refine HC2.out.mono ?_
      rintro r w1 ⟨rfl, k1⟩
      have K1 := Lib.hid (HK.out.trans k1)
      clear k1
      go_wp2_with fail
      go_ret
      exact ⟨ret_num (by rw [← HS.out]), K1.out⟩
end Go.Proofs.Ytcakdmapnmneoaa
end

section
namespace Go.Proofs.Ytcakdmapnmneoaa
open Go.RowKit
set_option linter.unusedVariables false

theorem step_append_run {P : Program} {ops : Array Oper} {o : Oper} {a : Act} {w : World} {K : Act → World → Prop} {Q : Exit → Act → World → Prop} {E : Prop} (hgd : o.guard = none) (s x : Operand) (t : TypeId)
    (ho : o.op = .call { callee := .builtin .append, args := #[s, x], argTypes := #[t, t] }) (v1 v2 : Value) (hs : a.eval s = v1) (hx : a.eval x = v2) (r : Value) (w' : World) (hrun : (Builtin.append_ #[t, t] o.type #[v1, v2]).run P w = .ok r w')
    (h : K (a.put o.dst r) w') : if Region.wanted o (yielded ops a.tmps) = true then Oper.wp P o a w K Q else E := by
  have hw : Region.wanted o (yielded ops a.tmps) = true := by simp [Region.wanted, hgd]
  rw [if_pos hw]
  unfold Oper.wp execOp
  simp only [ho, resolve, invoke, builtin, Sem.run_bind, Sem.run_pure, Result.andThen_ok, List.map_toArray, List.map_cons, List.map_nil, hs, hx, hrun]
  exact h
theorem infoEnt5 : (Try.prog.info? 36).map (fun i => (i.zero, i.size, i.bytes)) = some (some noE.agg, 5, 40) := by kernel_rfl
theorem ent_append (lo : Nat) (a : Option Addr) (c : Nat) (E : List Ent) (x : Ent) (W : World) (B : Nat) (h : EntRow lo a c E W) (hB : W.heap[B]? = some (.cells #[.bool x.live, .int .i64 x.hash, .int .i64 x.key, .int .i64 x.val, .int .i64 x.birth] 36 (0, 0))) (hl : E.length ≤ 1000000) (hlo : lo ≤ W.heap.size) :
    ∃ g cap w', (Builtin.append_ #[33, 33] 33 #[.slice a E.length c, .slice (some ⟨B, 0, none⟩) 1 1]).run Try.prog W = .ok (.slice (some ⟨g, 0, none⟩) (E.length + 1) cap) w' ∧ EntRow lo (some ⟨g, 0, none⟩) cap (E ++ [x]) w' ∧ Keeps (blk a) W w' ∧ (g ∈ blk a ∨ g = W.heap.size) ∧ g < w'.heap.size := by
  obtain ⟨j0, hi, hz0, hz1, hz2⟩ := info_parts infoEnt5
  obtain ⟨g, cap, w', r1, r2, r3, r4, r5⟩ := run_append_lies (P := Try.prog) W 33 33 lo 36 j0 noE.agg 5 40 Try.underlying33 hi hz0 hz1 hz2 rfl (by decide) _ E.length (flatE E) h ⟨B, 0, none⟩ 1 1 x.cells rfl
    (fun j u hj => by
      have hlt : j < 5 := by have := (List.getElem?_eq_some_iff.1 hj).1; simpa [Ent.cells] using this
      rw [show (⟨B, 0, none⟩ : Addr).add j = ⟨B, j, none⟩ by unfold Addr.add; split <;> simp_all, cell_of_has hB]
      match j, hlt with
      | 0, _ | 1, _ | 2, _ | 3, _ | 4, _ => simpa [Ent.cells] using hj) x.one (by decide) (by unfold maxLen; omega) (by omega) hlo _ rfl
  refine ⟨g, cap, w', r1, ?_, ?_, ?_, r5⟩
  · unfold EntRow
    rw [flatE_snoc, List.length_append]
    exact r2
  · exact ⟨r3.os, r3.tape, r3.output, r3.size, fun k hk hn => r3.block k hk (fun e => hn (blk_own a _ _ k e.symm))⟩
  · rcases r4 with r4 | r4
    · exact .inl (blk_own a _ _ g r4)
    · exact .inr r4

/-- Behind an Add. -/
def AddP (t lo : Nat) (S : List Nat) (m : Option Nat) (c : C4) (R : Tab) (h ky v : Int) (w : World) (e : Ending) (w' : World) : Prop :=
  ∃ S', e = .returned (.tuple #[.int .i64 R.E.length, .int .i64 0]) ∧ TabAt t lo S' (mV m) (R.add1 h ky v) w' ∧ MtrAt m c w' ∧ Keeps (S ++ mS m) w w' ∧ Grew S w S'
/-- What the tail of Add wants. -/
def RdyF (k : Nat) (R : Tab) : Prop := 3 ≤ R.L ∧ R.L ≤ 12 ∧ R.E.length + 1 ≤ 2 * 2 ^ R.L / 3 ∧ CInv R.L R.V R.E ∧ Fits (2 ^ R.L) R.V ∧ R.E.length ≤ 1000 ∧ R.births ≤ 1000 ∧ R.turns ≤ 1000

end Go.Proofs.Ytcakdmapnmneoaa
end

section
namespace Go.Proofs.Ytcakdmapnmneoaa
open Go.RowKit
set_option linter.unusedVariables false

def entE (E : List Ent) (e : Int) : Option Ent := if 0 ≤ e then (E[e.toNat]?).filter (·.live) else none
theorem entE_T (T : Tab) (e : Int) : T.ent e = entE T.E e := rfl
theorem entE_some {E : List Ent} {e : Int} {x : Ent} (h : entE E e = some x) : 0 ≤ e ∧ E[e.toNat]? = some x ∧ x.live = true ∧ e < E.length := by
  obtain ⟨h1, h2, h3⟩ : 0 ≤ e ∧ E[e.toNat]? = some x ∧ x.live = true := ent_some (T := ⟨E, fun _ => 0, 0, 0, 0, 0⟩) h
  have := (List.getElem?_eq_some_iff.1 h2).1
  exact ⟨h1, h2, h3, by omega⟩
theorem entE_none {E : List Ent} {e : Int} (h : entE E e = none) (h0 : 0 ≤ e) (h1 : e < E.length) : ∃ x, E[e.toNat]? = some x ∧ x.live = false := by
  unfold entE at h
  rw [if_pos h0, List.getElem?_eq_getElem (show e.toNat < E.length by omega)] at h
  refine ⟨E[e.toNat], List.getElem?_eq_getElem (by omega), ?_⟩
  by_cases hl : E[e.toNat].live = true
  · simp [Option.filter, hl] at h
  · simpa using hl

set_option maxRecDepth 100000 in
theorem wrong_none (e : Int) (w : World) : Calls Try.prog 80 #[.pointer none, .int .i64 e] w fun r w' => r = .returned (.int .i64 1) ∧ w = w' := by
  go_enter Try.func80, Try.ntmps80
  go_wp2_with fail
  go_ret
  exact ⟨rfl, rfl⟩
set_option maxRecDepth 100000 in
theorem wrong_ok (t lo c : Nat) (a : Option Addr) (E : List Ent) (m cp lv bi ma tu : Value) (e : Int) (x : Ent) (w : World) (h1 : w.heap[t]? = some (tabO m (.slice a E.length c) cp lv bi ma tu)) (hE : EntRow lo a c E w) (hl : E.length ≤ 1000000) (hx : entE E e = some x) :
    Calls Try.prog 80 #[.pointer (some ⟨t, 0, none⟩), .int .i64 e] w fun r w' => r = .returned (.int .i64 0) ∧ w = w' := by
  obtain ⟨h0, h2, h3, h4⟩ := entE_some hx
  obtain ⟨g, rfl⟩ := hE.shape (by omega)
  have e1 : w.cell? ⟨t, 1, none⟩ = some (.slice (some ⟨g, 0, none⟩) E.length c) := cell_has h1 (i := 1) rfl
  obtain ⟨k, rfl⟩ : ∃ k : Nat, e = (k : Int) := ⟨e.toNat, by omega⟩
  have q0 : w.cell? ⟨g, k * 5, none⟩ = some (.bool true) := by
    have h := hE.cell (show E[k]? = some x from by simpa using h2) 0 (by omega)
    rw [show x.cell 0 = .bool x.live from rfl, h3] at h; exact h
  obtain ⟨n, hn⟩ := ex_hid E.length
  rw [← hn.out] at e1 h4 hl
  have d2 : decide ((n : Int) ≤ (k : Int)) = false := by simp; omega
  have d1 : decide ((k : Int) < 0) = false := by simp
  clear h1 hE hx h2 h3
  go_enter Try.func80, Try.ntmps80
  go_wp2_with fail
  go_ret
  exact ⟨rfl, rfl⟩
set_option maxRecDepth 100000 in
theorem wrong_no (t lo c : Nat) (a : Option Addr) (E : List Ent) (m cp lv bi ma tu : Value) (e : Int) (w : World) (h1 : w.heap[t]? = some (tabO m (.slice a E.length c) cp lv bi ma tu)) (hE : EntRow lo a c E w) (hl : E.length ≤ 1000000) (hx : entE E e = none) :
    Calls Try.prog 80 #[.pointer (some ⟨t, 0, none⟩), .int .i64 e] w fun r w' => r = .returned (.int .i64 7) ∧ w = w' := by
  have e1 : w.cell? ⟨t, 1, none⟩ = some (.slice a E.length c) := cell_has h1 (i := 1) rfl
  by_cases h0 : e < 0
  · have d1 : decide (e < 0) = true := by simpa using h0
    clear h1 hE
    go_enter Try.func80, Try.ntmps80
    go_wp2_with fail
    go_ret
    exact ⟨rfl, rfl⟩
  · have d1 : decide (e < 0) = false := by simpa using h0
    by_cases h4 : e < E.length
    · obtain ⟨x, h2, h3⟩ := entE_none hx (by omega) h4
      obtain ⟨g, rfl⟩ := hE.shape (by omega)
      obtain ⟨k, rfl⟩ : ∃ k : Nat, e = (k : Int) := ⟨e.toNat, by omega⟩
      have q0 : w.cell? ⟨g, k * 5, none⟩ = some (.bool false) := by
        have h := hE.cell (show E[k]? = some x from by simpa using h2) 0 (by omega)
        rw [show x.cell 0 = .bool x.live from rfl, h3] at h; exact h
      obtain ⟨n, hn⟩ := ex_hid E.length
      rw [← hn.out] at e1 h4 hl
      have d2 : decide ((n : Int) ≤ (k : Int)) = false := by simp; omega
      clear h1 hE hx h2 h3
      go_enter Try.func80, Try.ntmps80
      go_wp2_with fail
      go_ret
      exact ⟨rfl, rfl⟩
    · have d2 : decide (((E.length : Nat) : Int) ≤ e) = true := by simp; omega
      obtain ⟨n, hn⟩ := ex_hid E.length
      rw [← hn.out] at e1 h4 hl d2
      clear h1 hE hx
      go_enter Try.func80, Try.ntmps80
      go_wp2_with fail
      go_ret
      exact ⟨rfl, rfl⟩

/-- Behind At. -/
def atE (o : Option Ent) : Ent := o.getD noE
def okE (o : Option Ent) : Int := if o.isSome then 0 else 7
set_option maxRecDepth 100000 in
theorem at_any (t lo c : Nat) (a : Option Addr) (E : List Ent) (m cp lv bi ma tu : Value) (e : Int) (w : World) (h1 : w.heap[t]? = some (tabO m (.slice a E.length c) cp lv bi ma tu)) (hE : EntRow lo a c E w) (hl : E.length ≤ 1000000) :
    Calls Try.prog 43 #[.pointer (some ⟨t, 0, none⟩), .int .i64 e] w fun r w' => r = .returned (.tuple #[(atE (entE E e)).agg, .int .i64 (okE (entE E e))]) ∧ Below w.heap.size w w' := by
  have H1 := Lib.hid h1
  have HE := Lib.hid hE
  have k1 : Below w.heap.size w (w.alloc (.cells #[.bool false, .int .i64 0, .int .i64 0, .int .i64 0, .int .i64 0] 36)) := (Below.refl _ _).alloc (Nat.le_refl _) _
  have K1 := Lib.hid k1
  cases hx : entE E e with
  | none =>
    have HX := Lib.hid hx
    clear h1 hE hx k1
    go_enter Try.func43, Try.ntmps43
    go_wp2_with fail
    refine (wrong_no t lo c a E m cp lv bi ma tu e _ (has_alloc H1.out _) (HE.out.keeps (Below.keeps K1.out []) (by simp)) hl HX.out).mono ?_
    rintro r w1 ⟨rfl, rfl⟩
    go_wp2_with fail
    exact bodyPost_ret (v := .tuple #[noE.agg, .int .i64 7]) (by simp [results, Try.results43, go_sem, noE, Ent.agg]) rfl ⟨rfl, K1.out⟩
  | some x =>
    have HX := Lib.hid hx
    obtain ⟨h0, h2, h3, h4⟩ := entE_some hx
    obtain ⟨g, rfl⟩ := hE.shape (by omega)
    obtain ⟨k, rfl⟩ : ∃ k : Nat, e = (k : Int) := ⟨e.toNat, by omega⟩
    have hE2 := HE.out.keeps (Below.keeps K1.out []) (by simp)
    have hxk : E[k]? = some x := by simpa using h2
    have q0 : (w.alloc (.cells #[.bool false, .int .i64 0, .int .i64 0, .int .i64 0, .int .i64 0] 36)).cell? ⟨g, k * 5, none⟩ = some (.bool true) := by
      have h := hE2.cell hxk 0 (by omega)
      rw [show x.cell 0 = .bool x.live from rfl, h3] at h; exact h
    have q1 : (w.alloc (.cells #[.bool false, .int .i64 0, .int .i64 0, .int .i64 0, .int .i64 0] 36)).cell? ⟨g, k * 5 + 1, none⟩ = some (.int .i64 x.hash) := hE2.cell hxk 1 (by omega)
    have q2 : (w.alloc (.cells #[.bool false, .int .i64 0, .int .i64 0, .int .i64 0, .int .i64 0] 36)).cell? ⟨g, k * 5 + 2, none⟩ = some (.int .i64 x.key) := hE2.cell hxk 2 (by omega)
    have q3 : (w.alloc (.cells #[.bool false, .int .i64 0, .int .i64 0, .int .i64 0, .int .i64 0] 36)).cell? ⟨g, k * 5 + 3, none⟩ = some (.int .i64 x.val) := hE2.cell hxk 3 (by omega)
    have q4 : (w.alloc (.cells #[.bool false, .int .i64 0, .int .i64 0, .int .i64 0, .int .i64 0] 36)).cell? ⟨g, k * 5 + 4, none⟩ = some (.int .i64 x.birth) := hE2.cell hxk 4 (by omega)
    have e1 : (w.alloc (.cells #[.bool false, .int .i64 0, .int .i64 0, .int .i64 0, .int .i64 0] 36)).cell? ⟨t, 1, none⟩ = some (.slice (some ⟨g, 0, none⟩) E.length c) := cell_alloc (cell_has H1.out (i := 1) rfl) _
    obtain ⟨n, hn⟩ := ex_hid E.length
    rw [← hn.out] at e1 h4
    have k0 : (0 : Int) ≤ (k : Int) := by omega
    have hlive := Lib.hid h3
    clear h1 hE hx k1 h0 h2 h3 hE2 hxk
    go_enter Try.func43, Try.ntmps43
    go_wp2_with fail
    refine (wrong_ok t lo c _ E m cp lv bi ma tu k x _ (has_alloc H1.out _) (HE.out.keeps (Below.keeps K1.out []) (by simp)) hl HX.out).mono ?_
    rintro r w1 ⟨rfl, rfl⟩
    go_wp2_with fail
    exact bodyPost_ret (v := .tuple #[x.agg, .int .i64 0]) (by simp [results, Try.results43, go_sem, Ent.agg, hlive.out]) rfl ⟨rfl, (Below.refl _ _).alloc (Nat.le_refl _) _⟩
end Go.Proofs.Ytcakdmapnmneoaa
end
