/- Where no entry was taken out and hashes meet nowhere, each stands in the first cell of its trail (chapter 7's laws). No program in sight. -/
import Derived.Test.YtajcbghhpjpmhaaSeeksM
import Derived.Test.YtajcbghhpjpmhaaRoomM
import Derived.Test.YtajcbghhpjpmhaaLaidM
namespace Go.Proofs.Ytajcbghhpjpmhaa
open Go.RowKit
set_option linter.unusedVariables false

/-- Ahead of each entry's cell there are earlier ones alone. -/
def Early (L : Nat) (V : Nat → Int) (E : List Ent) : Prop := ∀ (e : Nat) (x : Ent), E[e]? = some x → ∃ i, i < 2 ^ L + 13 ∧ V (trC L (uh x.hash) i) = e ∧ ∀ j, j < i → ∃ g : Nat, g < e ∧ V (trC L (uh x.hash) j) = g
theorem Early.nil (L : Nat) (V : Nat → Int) : Early L V [] := fun e x h => by simp at h
theorem Early.lay {L : Nat} {V : Nat → Int} {E : List Ent} (h : CInv L V E) (hv : ∀ x, x ∈ E → x.live = true) (hE : Early L V E) (hl : E.length < 2 ^ L) (x : Ent) : Early L (layV L (uh x.hash) V E.length) (E ++ [x]) := by
  rw [h.layV hl]
  have hq := h.fe_is hl x.hash
  have hn := h.fe_lt hl x.hash
  have hb : ∀ j, j < fe L (uh x.hash) V → V (trC L (uh x.hash) j) ≠ -1 := fun j hj => fe_before hj
  have hnd : ∀ c, c < 2 ^ L → V c ≠ -2 := fun c hc hd => by
    have h1 := h.gone
    have h2 : E.countP (fun x => !x.live) = 0 := by
      rw [List.countP_eq_zero]
      intro y hy
      simp [hv y hy]
    rw [h2] at h1
    have h3 := cntB_not (fun c => V c == -2) (2 ^ L)
    have h4 : cntB (fun d => !(V d == -2)) (2 ^ L) < 2 ^ L ∨ cntB (fun d => !(V d == -2)) (2 ^ L) = 2 ^ L := by have := cntB_le (fun d => !(V d == -2)) (2 ^ L); omega
    have h5 := cntB_put (p := fun d => decide (d = c) || (V d == -2)) (q := fun d => decide (d ≠ c) && (V d == -2)) (n := 2 ^ L) (c := c) hc (fun i hi => by simp [hi])
    have h6 : cntB (fun d => decide (d = c) || (V d == -2)) (2 ^ L) = cntB (fun d => V d == -2) (2 ^ L) := cntB_congr fun i hi => by
      by_cases e : i = c
      · subst e; simp [hd]
      · simp [e]
    rw [h6, h1] at h5
    simp at h5
  generalize hk : fe L (uh x.hash) V = k at *
  have hc := trC_lt L (uh x.hash) k
  generalize hcc : trC L (uh x.hash) k = c at *
  intro e y he
  by_cases h1 : e < E.length
  · rw [List.getElem?_append_left h1] at he
    obtain ⟨i, h2, h3, h4⟩ := hE e y he
    have hne : ∀ d, (∃ g : Nat, V d = g) → putN V c (E.length : Int) d = V d := fun d ⟨g, hg⟩ => by
      show (if d = c then _ else _) = _
      rw [if_neg]
      rintro rfl
      rw [hq] at hg; omega
    refine ⟨i, h2, by rw [hne _ ⟨e, h3⟩]; exact h3, fun j hj => ?_⟩
    obtain ⟨g, h5, h6⟩ := h4 j hj
    exact ⟨g, h5, by rw [hne _ ⟨g, h6⟩]; exact h6⟩
  · rw [List.getElem?_append_right (by omega)] at he
    obtain ⟨h3, h4⟩ := List.getElem?_eq_some_iff.1 he
    simp at h3 h4
    obtain rfl : e = E.length := by omega
    subst h4
    refine ⟨k, hn, by rw [hcc]; simp [putN], fun j hj => ?_⟩
    have h5 := hb j hj
    have h6 := trC_lt L (uh x.hash) j
    rcases h.rng _ h6 with h7 | h7 | ⟨g, h7, h8⟩
    · exact absurd h7 h5
    · exact absurd h7 (hnd _ h6)
    · refine ⟨g, h7, ?_⟩
      show (if trC L (uh x.hash) j = c then _ else _) = _
      rw [if_neg (fun e => h5 (by rw [e]; exact hq))]
      exact h8
theorem Early.layN (L : Nat) (E : List Ent) (hE : ∀ x, x ∈ E → x.live = true) (hl : E.length ≤ 2 ^ L) : ∀ k, k ≤ E.length → Early L (layN L E k) (E.take k) := by
  intro k
  induction k with
  | zero => intro _; simpa using Early.nil L _
  | succ k ih =>
    intro hk
    have h1 := ih (by omega)
    have h0 := layN_inv L E hE hl k (by omega)
    have e1 : E.getD k noE = E[k] := by simp [List.getD, List.getElem?_eq_getElem (show k < E.length by omega)]
    have e2 : E.take (k + 1) = E.take k ++ [E[k]] := by rw [List.take_add_one, List.getElem?_eq_getElem (by omega)]; rfl
    have h2 := Early.lay h0 (fun x hx => hE x (List.mem_of_mem_take hx)) h1 (by simp; omega) E[k]
    rw [e2, layN_succ, e1]
    rwa [show (E.take k).length = k by simp; omega] at h2
/-- A table without a kill. -/
def Whole (T : Tab) : Prop := (∀ x, x ∈ T.E → x.live = true) ∧ Early T.L T.V T.E
theorem Whole.new : Whole newT := ⟨fun x h => by simp [newT] at h, Early.nil _ _⟩
theorem liveL_all {E : List Ent} (h : ∀ x, x ∈ E → x.live = true) : liveL E = E := by
  unfold liveL
  rw [List.filter_eq_self]
  exact h
theorem Whole.ready {k : Nat} {T : Tab} (hI : TInv k T) (hk : k ≤ 1000) (h : Whole T) : Whole T.ready := by
  unfold Tab.ready
  split
  · refine ⟨liveL_live _, ?_⟩
    show Early (growL (liveN T.E)) (Go.Proofs.Ytajcbghhpjpmhaa.layN (growL (liveN T.E)) (liveL T.E) (liveN T.E)) (liveL T.E)
    have h4 := growL_is (n := liveN T.E) (by have := liveN_le T.E; have := hI.ek; omega)
    have := Early.layN (growL (liveN T.E)) (liveL T.E) (liveL_live _) (by rw [liveL_len]; omega) (liveL T.E).length (Nat.le_refl _)
    rwa [List.take_length, liveL_len] at this
  · exact h
theorem Whole.add {k : Nat} {T : Tab} (hI : TInv k T) (hk : k ≤ 1000) (h : Whole T) (a b c : Int) : Whole (T.add a b c) := by
  have hr := h.ready hI hk
  obtain ⟨h1, h2, h3, h4, h5, _⟩ := hI.ready hk
  have hp := two_ge h1
  unfold Tab.add
  refine ⟨fun x hx => ?_, ?_⟩
  · have hx' : x ∈ T.ready.E ++ [⟨true, a, b, c, T.ready.births⟩] := hx
    rcases List.mem_append.1 hx' with h | h
    · exact hr.1 x h
    · simp at h; rw [h]
  · exact Early.lay h4 hr.1 hr.2 (by omega) ⟨true, a, b, c, T.ready.births⟩
theorem laidT_whole (F K : Nat → Int) : ∀ i, i ≤ 400 → Whole (laidT F K 0 i)
  | 0, _ => Whole.new
  | i + 1, hi => by
    have h1 := laidT_whole F K i (by omega)
    have h2 := laidT_inv F K 0 i (by omega)
    have e : laidT F K 0 (i + 1) = (laidT F K 0 i).add (F i) i (3 * i) := rfl
    rw [e]
    exact h1.add h2.inv (by omega) _ _ _
/-- Firsts of any two are apart: then each stands in the first cell of its trail. -/
theorem once_at {k : Nat} {T : Tab} (hI : TInv k T) (h : Whole T) (hA : ∀ (i j : Nat) (x y : Ent), T.E[i]? = some x → T.E[j]? = some y → j < i → trC T.L (uh x.hash) 0 ≠ trC T.L (uh y.hash) 0) : ∀ (e : Nat) (x : Ent), T.E[e]? = some x → T.V (trC T.L (uh x.hash) 0) = e := by
  intro e
  induction e using Nat.strongRecOn with
  | ind e ih =>
    intro x hx
    obtain ⟨i, h1, h2, h3⟩ := h.2 e x hx
    cases i with
    | zero => exact h2
    | succ i =>
      obtain ⟨g, h4, h5⟩ := h3 0 (by omega)
      have he := (List.getElem?_eq_some_iff.1 hx).1
      obtain ⟨y, hy⟩ : ∃ y, T.E[g]? = some y := ⟨_, List.getElem?_eq_getElem (by omega)⟩
      have h6 := ih g h4 y hy
      have h7 := hI.ci.one _ _ g (trC_lt _ _ _) (trC_lt _ _ _) h5 h6
      exact absurd h7 (hA e g x y hx hy h4)
/-- A search for an entry that stands first on its trail. -/
theorem once_next {k : Nat} {T : Tab} (hI : TInv k T) {e : Nat} {x : Ent} (hx : T.E[e]? = some x) (h0 : T.V (trC T.L (uh x.hash) 0) = e) : (T.next (T.seek x.hash)).over = false ∧ (T.next (T.seek x.hash)).told = e ∧ (T.next (T.seek x.hash)).vis = 1 := by
  have hs : stopP T (T.seek x.hash) (0 + 0) = true := by
    simp only [stopP, Tab.seek, fitE, h0, Bool.or_eq_true, Bool.and_eq_true, decide_eq_true_eq, Nat.zero_add]
    refine .inr ⟨by omega, ?_⟩
    simp [List.getD, hx]
  have hf : T.far (T.seek x.hash) = 0 := by
    have := fi_at (p := fun j => stopP T (T.seek x.hash) ((T.seek x.hash).i + j)) (n := 2 ^ T.L + 13) (i := 0) (Nat.lt_of_lt_of_le (show 0 < 13 by decide) (Nat.le_add_left _ _)) hs
    unfold Tab.far; omega
  have hc : T.cellAt (T.seek x.hash) = e := by
    unfold Tab.cellAt
    rw [hf]
    exact h0
  have hsp : T.spent (T.seek x.hash) = false := by simp [Tab.spent, Tab.seek]
  unfold Tab.next
  rw [hsp]
  simp only [Bool.false_eq_true, if_false]
  rw [if_neg (by rw [hc]; omega), hf]
  exact ⟨rfl, hc, rfl⟩
end Go.Proofs.Ytajcbghhpjpmhaa
