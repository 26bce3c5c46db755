/- Rows of entries: an entry laid anew, copied, cleared (chapter 7). -/
import Derived.Test.YtajcbghhpjpmhaaTabMem
import Derived.Laws.IdiomCopy
import Derived.Laws.CopyOwn
namespace Go
theorem run_copy_cellsS {P : Program} (w : World) (dT sT ty elem : TypeId) (b o dLen dCap : Nat) (a : Addr) (sLen sCap sz : Nat) (cs : List Value) (hu : P.underlying dT = some (.slice elem)) (hs : (P.info? elem).map (·.size) = some sz)
    (hn : cs.length = Nat.min sLen dLen * sz) (hsrc : ∀ j v, cs[j]? = some v → w.cell? (a.add j) = some v) (hc : ∀ j, j < cs.length → (w.cell? ⟨b, o + j, none⟩).isSome = true) (hf : ∀ j, j < cs.length → w.frozen? ⟨b, o + j, none⟩ = false) (h1 : ∀ v ∈ cs, v.oneCell' = true) :
    (Builtin.copy_ #[dT, sT] ty #[.slice (some ⟨b, o, none⟩) dLen dCap, .slice (some a) sLen sCap]).run P w = .ok (goInt (Nat.min sLen dLen)) (w.setCells b o cs) := by
  have hl := run_loadCells_list (P := P) w a cs hsrc
  have hst := run_storeCells_cells (P := P) b o cs 0 w (by simpa using hc) (by simpa using hf) h1
  simp only [Nat.add_zero] at hst
  cases hq : P.info? elem with
  | none => simp [hq] at hs
  | some i =>
    have hi : i.size = sz := by simpa [hq] using hs
    simp [Builtin.copy_, run_underlying hu, Builtin.lenOf, Builtin.firstCells, sizeOf, typeInfo, hq, hi, ← hn, hl, hst]
theorem step_copyS {P : Program} {ops : Array Oper} {o : Oper} {a : Act} {w : World} {K : Act → World → Prop} {Q : Exit → Act → World → Prop} {E : Prop} (hgd : o.guard = none) (d s : Operand) (dT sT : TypeId)
    (ho : o.op = .call { callee := .builtin .copy, args := #[d, s], argTypes := #[dT, sT] }) (elem : TypeId) (sz : Nat) (hu : P.underlying dT = some (.slice elem)) (hsz : (P.info? elem).map (·.size) = some sz)
    (b off dLen dCap : Nat) (ad : Addr) (sLen sCap : Nat) (hd : a.eval d = .slice (some ⟨b, off, none⟩) dLen dCap) (hs : a.eval s = .slice (some ad) sLen sCap) (cs : List Value) (n : Nat) (hnn : Nat.min sLen dLen = n) (hn : cs.length = n * sz)
    (hsrc : ∀ j v, cs[j]? = some v → w.cell? (ad.add j) = some v) (hc : ∀ j, j < cs.length → (w.cell? ⟨b, off + j, none⟩).isSome = true) (hf : ∀ j, j < cs.length → w.frozen? ⟨b, off + j, none⟩ = false) (h1 : ∀ v ∈ cs, v.oneCell' = true)
    (h : ∀ w', w.setCells b off cs = w' → K (a.put o.dst (goInt n)) w') :
    if Region.wanted o (yielded ops a.tmps) = true then Oper.wp P o a w K Q else E := by
  have hw : Region.wanted o (yielded ops a.tmps) = true := by simp [Region.wanted, hgd]
  rw [if_pos hw]
  have hrun := run_copy_cellsS (P := P) w dT sT o.type elem b off dLen dCap ad sLen sCap sz cs hu hsz (by rw [hnn]; exact hn) hsrc hc hf h1
  rw [hnn] at hrun
  unfold Oper.wp
  simp [execOp, ho, resolve, invoke, builtin, hd, hs, hrun, Result.andThen]
  exact h _ rfl
theorem run_clear_cellsS {P : Program} (w : World) (t e ty : TypeId) (z : Value) (cs : List Value) (ht : P.underlying t = some (.slice e)) (hv : ∀ w, (zeroValue e).run P w = .ok z w) (b o n c : Nat) (hn : 0 < n) (hz : (Builtin.zeroCells z.cells n).toList = cs)
    (h1 : ∀ v ∈ cs, v.oneCell' = true) (hc : ∀ j, j < cs.length → (w.cell? ⟨b, o + j, none⟩).isSome = true) (hf : ∀ j, j < cs.length → w.frozen? ⟨b, o + j, none⟩ = false) :
    (Builtin.clear_ #[t] ty #[.slice (some ⟨b, o, none⟩) n c]).run P w = .ok (.tuple #[]) (w.setCells b o cs) := by
  have hst := run_storeCells_cells (P := P) b o cs 0 w (by simpa using hc) (by simpa using hf) h1
  simp only [Nat.add_zero] at hst
  obtain ⟨m, rfl⟩ : ∃ m, n = m + 1 := ⟨n - 1, by omega⟩
  simp [Builtin.clear_, run_underlying ht, hv, hz, hst]
theorem run_clear_zero {P : Program} (w : World) (t e ty : TypeId) (a : Option Addr) (c : Nat) (ht : P.underlying t = some (.slice e)) : (Builtin.clear_ #[t] ty #[.slice a 0 c]).run P w = .ok (.tuple #[]) w := by
  cases a <;> simp [Builtin.clear_, run_underlying ht]
end Go
namespace Go.Proofs.Ytajcbghhpjpmhaa
open Go.RowKit
set_option linter.unusedVariables false

def setL (xs : List Value) (o : Nat) : List Value → List Value
  | [] => xs
  | v :: r => setL (xs.set o v) (o + 1) r
theorem setL_len (cs : List Value) : ∀ (xs : List Value) (o : Nat), (setL xs o cs).length = xs.length := by
  induction cs with
  | nil => intro xs o; rfl
  | cons v r ih => intro xs o; show (setL (xs.set o v) (o + 1) r).length = _; rw [ih]; simp
theorem setL_out (cs : List Value) : ∀ (xs : List Value) (o : Nat), xs.length ≤ o → setL xs o cs = xs := by
  induction cs with
  | nil => intro xs o _; rfl
  | cons v r ih => intro xs o h; show setL (xs.set o v) (o + 1) r = _; rw [List.set_eq_of_length_le h, ih xs (o + 1) (by omega)]
theorem setL_app (cs : List Value) : ∀ (A B : List Value) (o : Nat), setL (A ++ B) (A.length + o) cs = A ++ setL B o cs := by
  induction cs with
  | nil => intro A B o; rfl
  | cons v r ih =>
    intro A B o
    show setL ((A ++ B).set (A.length + o) v) (A.length + o + 1) r = A ++ setL (B.set o v) (o + 1) r
    rw [List.set_append_right _ _ (by omega), Nat.add_sub_cancel_left, Nat.add_assoc, ih]
theorem flatE_set (E : List Ent) : ∀ (n : Nat) (x : Ent), n < E.length → setL (flatE E) (n * 5) x.cells = flatE (E.set n x) := by
  induction E with
  | nil => intro n x h; simp at h
  | cons y E ih =>
    intro n x h
    cases n with
    | zero => simp [flatE_cons, Ent.cells, setL]
    | succ n =>
      rw [flatE_cons, List.set_cons_succ, flatE_cons, ← ih n x (by simpa using h), ← setL_app]
      congr 1
      simp [Ent.cells]; omega
theorem flatE_set3 (E : List Ent) : ∀ (n : Nat) (x : Ent) (v : Int), E[n]? = some x → (flatE E).set (n * 5 + 3) (.int .i64 v) = flatE (E.set n { x with val := v }) := by
  induction E with
  | nil => intro n x v h; simp at h
  | cons y E ih =>
    intro n x v h
    cases n with
    | zero => simp at h; subst h; simp [flatE_cons, Ent.cells]
    | succ n =>
      rw [flatE_cons, List.set_cons_succ, flatE_cons, ← ih n x v (by simpa using h), List.set_append_right _ _ (by simp [Ent.cells]; omega)]
      congr 2
      simp [Ent.cells]; omega

theorem own_setCells {e : TypeId} {base size g n cap : Nat} (cs : List Value) : ∀ (xs : List Value) (o : Nat) (w : World), w.ownsRow base e size (.slice (some ⟨g, 0, none⟩) n cap) n xs → (w.setCells g o cs).ownsRow base e size (.slice (some ⟨g, 0, none⟩) n cap) n (setL xs o cs) ∧ Keeps [g] w (w.setCells g o cs) := by
  induction cs with
  | nil => intro xs o w h; exact ⟨h, Keeps.refl _ _⟩
  | cons v r ih =>
    intro xs o w h
    obtain ⟨h1, h2⟩ := ih (xs.set o v) (o + 1) _ (h.stored o v).1
    exact ⟨h1, ((Keeps.refl [g] w).setCell (.inr (by simp)) v).trans h2⟩
section
variable {lo : Nat} {c g : Nat} {E : List Ent} {w w' : World}
/-- An entry laid anew. -/
theorem EntRow.lay (h : EntRow lo (some ⟨g, 0, none⟩) c E w) {n : Nat} (hn : n < E.length) (x : Ent) : EntRow lo (some ⟨g, 0, none⟩) c (E.set n x) (w.setCells g (n * 5) x.cells) ∧ Keeps [g] w (w.setCells g (n * 5) x.cells) := by
  obtain ⟨h1, h2⟩ := own_setCells x.cells _ (n * 5) w h
  rw [flatE_set E n x hn] at h1
  exact ⟨by unfold EntRow; rw [List.length_set]; exact h1, h2⟩
theorem EntRow.put (h : EntRow lo (some ⟨g, 0, none⟩) c E w) {n : Nat} {x : Ent} (hx : E[n]? = some x) (v : Int) : EntRow lo (some ⟨g, 0, none⟩) c (E.set n { x with val := v }) (w.setCell ⟨g, n * 5 + 3, none⟩ (.int .i64 v)) := by
  have h1 := (World.ownsRow.stored h (n * 5 + 3) (.int .i64 v)).1
  rw [flatE_set3 E n x v hx] at h1
  unfold EntRow; rw [List.length_set]; exact h1
/-- The first ones alone. -/
theorem EntRow.cut (h : EntRow lo (some ⟨g, 0, none⟩) c E w) {n : Nat} (hn : n ≤ E.length) : EntRow lo (some ⟨g, 0, none⟩) c (E.take n) w := by
  obtain ⟨h1, h2⟩ := h
  have hl : (E.take n).length = n := by simp; omega
  unfold EntRow
  rw [hl]
  refine ⟨by rw [flatE_len, hl], ?_⟩
  rcases h2 with ⟨h2, _⟩ | ⟨g', cap, cur, a1, a2, a3, a4, a5, a6, a7⟩
  · simp at h2
  · simp at a1
    obtain ⟨rfl, rfl⟩ := a1
    refine .inr ⟨g, c, cur, rfl, a2, a3, by omega, a5, a6, ?_⟩
    have e : (cur.toList.take (E.length * 5)).take (n * 5) = cur.toList.take (n * 5) := by rw [List.take_take]; congr 1; omega
    rw [← e, a7, flatE_take]
/-- Cells behind the row turned. -/
theorem EntRow.beyond (h : EntRow lo (some ⟨g, 0, none⟩) c E w) {o : Nat} (ho : E.length * 5 ≤ o) (cs : List Value) : EntRow lo (some ⟨g, 0, none⟩) c E (w.setCells g o cs) ∧ Keeps [g] w (w.setCells g o cs) := by
  obtain ⟨h1, h2⟩ := own_setCells cs _ o w h
  rw [setL_out cs _ o (by rw [flatE_len]; exact ho)] at h1
  exact ⟨h1, h2⟩
theorem EntRow.some_cells (h : EntRow lo (some ⟨g, 0, none⟩) c E w) {n : Nat} (hn : n < E.length) : ∀ j, j < 5 → (w.cell? ⟨g, n * 5 + j, none⟩).isSome = true := by
  intro j hj
  rw [h.cell (List.getElem?_eq_getElem hn) j hj]; rfl
theorem EntRow.all_cells (h : EntRow lo (some ⟨g, 0, none⟩) c E w) {n : Nat} {x : Ent} (hx : E[n]? = some x) : ∀ j v, x.cells[j]? = some v → w.cell? ⟨g, n * 5 + j, none⟩ = some v := by
  intro j v hv
  have hj : j < 5 := by have := (List.getElem?_eq_some_iff.1 hv).1; simpa [Ent.cells] using this
  rw [h.cell hx j hj]
  match j, hj with
  | 0, _ | 1, _ | 2, _ | 3, _ | 4, _ => simp [Ent.cells] at hv; simp [Ent.cell, hv]
end
theorem Ent.one (x : Ent) : ∀ v ∈ x.cells, v.oneCell' = true := by intro v hv; simp [Ent.cells] at hv; rcases hv with rfl | rfl | rfl | rfl | rfl <;> rfl
theorem zero_cells (n : Nat) : (Builtin.zeroCells noE.agg.cells n).toList = flatE (List.replicate n noE) := by
  have e : noE.agg.cells = #[.bool false, .int .i64 0, .int .i64 0, .int .i64 0, .int .i64 0] := rfl
  rw [e]
  apply List.ext_getElem?
  intro i
  by_cases hi : i < n * 5
  · have h1 := flatE_get (List.replicate n noE) (i / 5) noE (by rw [List.getElem?_replicate, if_pos (by omega)]) (i % 5) (Nat.mod_lt _ (by omega))
    rw [Nat.div_add_mod' i 5] at h1
    rw [h1]
    simp [Builtin.zeroCells, hi]
    have hm : i % 5 < 5 := Nat.mod_lt _ (by omega)
    generalize i % 5 = j at *
    match j, hm with
    | 0, _ | 1, _ | 2, _ | 3, _ | 4, _ => rfl
  · have h1 : (flatE (List.replicate n noE))[i]? = none := List.getElem?_eq_none (by rw [flatE_len]; simp; omega)
    rw [h1]
    simp [Builtin.zeroCells]; omega
end Go.Proofs.Ytajcbghhpjpmhaa
