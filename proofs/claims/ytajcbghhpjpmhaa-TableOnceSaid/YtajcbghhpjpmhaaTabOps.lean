/- What a table's calls come to, in plain numbers (chapter 7). No program in sight. -/
import Derived.Test.YtajcbghhpjpmhaaTabMath
namespace Go.Proofs.Ytajcbghhpjpmhaa
open Go.RowKit
set_option linter.unusedVariables false

/-- A table. -/
structure Tab where
  E : List Ent
  V : Nat → Int
  L : Nat
  births : Nat
  made : Nat
  turns : Nat
def liveN (E : List Ent) : Nat := E.countP (·.live)
def liveL (E : List Ent) : List Ent := E.filter (·.live)
theorem liveL_len (E : List Ent) : (liveL E).length = liveN E := by simp [liveL, liveN, List.countP_eq_length_filter]
theorem liveN_le (E : List Ent) : liveN E ≤ E.length := List.countP_le_length
/-- The cells when the first k entries are laid into new ones. -/
def layN (L : Nat) (E : List Ent) : Nat → (Nat → Int)
  | 0 => begun (2 ^ L)
  | k + 1 => layV L (uh (E.getD k noE).hash) (layN L E k) k
/-- The least logarithm from 3 on, up to 20, else 21. -/
def leastL (p : Nat → Bool) : Nat := 3 + fi (fun j => p (3 + j)) 18
def growL (n : Nat) : Nat := leastL fun l => decide (3 * n ≤ 2 ^ l)
def copyL (n : Nat) : Nat := leastL fun l => decide (n ≤ 2 * 2 ^ l / 3)
def newT : Tab := ⟨[], begun 8, 3, 0, 1, 0⟩
def Tab.room (T : Tab) : Nat := 2 * 2 ^ T.L / 3
def Tab.grow (T : Tab) : Tab := { T with E := liveL T.E, V := layN (growL (liveN T.E)) (liveL T.E) (liveN T.E), L := growL (liveN T.E), made := T.made + 1 }
def Tab.add1 (T : Tab) (h k v : Int) : Tab := { T with E := T.E ++ [⟨true, h, k, v, T.births⟩], V := layV T.L (uh h) T.V T.E.length, births := T.births + 1, turns := T.turns + 1 }
def Tab.ready (T : Tab) : Tab := if T.E.length = T.room then T.grow else T
def Tab.add (T : Tab) (h k v : Int) : Tab := T.ready.add1 h k v
/-- The live entry of a number. -/
def Tab.ent (T : Tab) (e : Int) : Option Ent := if 0 ≤ e then (T.E[e.toNat]?).filter (·.live) else none
def Tab.put (T : Tab) (e v : Int) : Tab := match T.ent e with
  | some x => { T with E := T.E.set e.toNat { x with val := v } }
  | none => T
/-- Where an entry stands on its trail. -/
def isV (L h : Nat) (V : Nat → Int) (e : Int) (i : Nat) : Bool := V (trC L h i) == e
def killV (L h : Nat) (V : Nat → Int) (e : Int) : Nat → Int := if fi (isV L h V e) (2 ^ L + 13) < 2 ^ L + 13 then putN V (trC L h (fi (isV L h V e) (2 ^ L + 13))) (-2) else V
def Tab.kill (T : Tab) (e : Int) : Tab := match T.ent e with
  | some x => { T with E := T.E.set e.toNat noE, V := killV T.L (uh x.hash) T.V e, turns := T.turns + 1 }
  | none => T
def Tab.clear (T : Tab) : Tab := { T with E := [], V := begun 8, L := 3, made := T.made + 1, turns := T.turns + 1 }
/-- Entries with new births. -/
def renum (E : List Ent) : List Ent := (List.range E.length).map fun i => { E.getD i noE with birth := i }
def Tab.copy (T : Tab) : Tab := ⟨renum (liveL T.E), layN (copyL (liveN T.E)) (renum (liveL T.E)) (liveN T.E), copyL (liveN T.E), liveN T.E, 1, 0⟩

/-- What holds of a table that at most k calls have turned. -/
structure TInv (k : Nat) (T : Tab) : Prop where
  l3 : 3 ≤ T.L
  l12 : T.L ≤ 12
  rm : T.E.length ≤ 2 * 2 ^ T.L / 3
  ci : CInv T.L T.V T.E
  ft : Fits (2 ^ T.L) T.V
  ek : T.E.length ≤ k
  bk : T.births ≤ k
  mdk : T.made ≤ 2 * k + 1
  tk : T.turns ≤ k
theorem TInv.mono {k m : Nat} {T : Tab} (h : TInv k T) (hm : k ≤ m) : TInv m T := ⟨h.l3, h.l12, h.rm, h.ci, h.ft, by have := h.ek; omega, by have := h.bk; omega, by have := h.mdk; omega, by have := h.tk; omega⟩
theorem TInv.new : TInv 0 newT := ⟨by decide, by decide, by simp [newT], CInv.start 3, begun_fits _ _, by simp [newT], by simp [newT], by simp [newT], by simp [newT]⟩

theorem leastL_ge (p : Nat → Bool) : 3 ≤ leastL p := by unfold leastL; omega
theorem leastL_le {p : Nat → Bool} {l : Nat} (h3 : 3 ≤ l) (hl : l ≤ 20) (hp : p l = true) : leastL p ≤ l := by
  have := fi_at (p := fun j => p (3 + j)) (n := 18) (i := l - 3) (by omega) (by show p (3 + (l - 3)) = true; rw [show 3 + (l - 3) = l by omega]; exact hp)
  unfold leastL; omega
theorem leastL_is {p : Nat → Bool} (h : leastL p ≤ 20) : p (leastL p) = true := fi_is (p := fun j => p (3 + j)) (n := 18) (by unfold leastL at h; omega)
theorem leastL_min {p : Nat → Bool} {l : Nat} (h3 : 3 ≤ l) (hl : l < leastL p) : p l = false := by
  have := fi_min (p := fun j => p (3 + j)) (n := 18) (j := l - 3) (by unfold leastL at hl; omega)
  rwa [show (3 + (l - 3)) = l by omega] at this
theorem growL_le {n : Nat} (hn : n ≤ 1000) : growL n ≤ 12 := leastL_le (l := 12) (by omega) (by omega) (by simp; omega)
theorem growL_is {n : Nat} (hn : n ≤ 1000) : 3 * n ≤ 2 ^ growL n := by
  have := leastL_is (p := fun l => decide (3 * n ≤ 2 ^ l)) (by have := growL_le hn; unfold growL at this; omega)
  simpa [growL] using this
theorem copyL_le {n : Nat} (hn : n ≤ 1000) : copyL n ≤ 12 := leastL_le (l := 12) (by omega) (by omega) (by simp; omega)
theorem copyL_is {n : Nat} (hn : n ≤ 1000) : n ≤ 2 * 2 ^ copyL n / 3 := by
  have := leastL_is (p := fun l => decide (n ≤ 2 * 2 ^ l / 3)) (by have := copyL_le hn; unfold copyL at this; omega)
  simpa [copyL] using this
theorem growL_ge (n : Nat) : 3 ≤ growL n := leastL_ge _
theorem copyL_ge (n : Nat) : 3 ≤ copyL n := leastL_ge _
theorem layN_succ (L : Nat) (E : List Ent) (k : Nat) : layN L E (k + 1) = layV L (uh (E.getD k noE).hash) (layN L E k) k := rfl
theorem layN_zero (L : Nat) (E : List Ent) : layN L E 0 = begun (2 ^ L) := rfl
theorem may_of {L e : Nat} (h : e < 2 * 2 ^ L / 3) : mayB (2 ^ L) (e : Int) = true := by
  unfold mayB
  exact decide_eq_true (.inr (.inr ⟨by omega, by omega⟩))
theorem layV_fits {L h e : Nat} {V : Nat → Int} (hF : Fits (2 ^ L) V) (he : e < 2 * 2 ^ L / 3) : Fits (2 ^ L) (layV L h V e) := by
  unfold layV
  split
  · exact hF.put _ (may_of he)
  · exact hF
theorem layN_fits (L : Nat) (E : List Ent) : ∀ k, k ≤ 2 * 2 ^ L / 3 → Fits (2 ^ L) (layN L E k) := by
  intro k
  induction k with
  | zero => intro _; exact begun_fits _ _
  | succ k ih => intro hk; exact layV_fits (ih (by omega)) (by omega)
theorem killV_fits {L h : Nat} {V : Nat → Int} {e : Int} (hF : Fits (2 ^ L) V) : Fits (2 ^ L) (killV L h V e) := by
  unfold killV
  split
  · exact hF.put _ (by unfold mayB; exact decide_eq_true (.inr (.inl rfl)))
  · exact hF
attribute [irreducible] killV isV layN leastL growL copyL
theorem two_ge {L : Nat} (h : 3 ≤ L) : 8 ≤ 2 ^ L := Nat.pow_le_pow_right (n := 2) (by omega) h

theorem layN_inv (L : Nat) (E : List Ent) (hE : ∀ x, x ∈ E → x.live = true) (hl : E.length ≤ 2 ^ L) : ∀ k, k ≤ E.length → CInv L (layN L E k) (E.take k) := by
  intro k
  induction k with
  | zero => intro _; simpa [layN_zero] using CInv.start L
  | succ k ih =>
    intro hk
    have h1 := ih (by omega)
    have e1 : E.getD k noE = E[k] := by simp [List.getD, List.getElem?_eq_getElem (show k < E.length by omega)]
    have e2 : E.take (k + 1) = E.take k ++ [E[k]] := by rw [List.take_add_one, List.getElem?_eq_getElem (by omega)]; rfl
    have h2 := h1.lay (by simp; omega) E[k] (hE _ (List.getElem_mem _))
    rw [e2]
    rw [layN_succ, e1]
    rwa [show (E.take k).length = k by simp; omega] at h2
theorem layN_all (L : Nat) (E : List Ent) (hE : ∀ x, x ∈ E → x.live = true) (hl : E.length ≤ 2 ^ L) : CInv L (layN L E E.length) E := by
  have := layN_inv L E hE hl E.length (Nat.le_refl _)
  rwa [List.take_length] at this

theorem liveL_live (E : List Ent) : ∀ x, x ∈ liveL E → x.live = true := fun x hx => (List.mem_filter.1 hx).2
theorem TInv.ready {k : Nat} {T : Tab} (h : TInv k T) (hk : k ≤ 1000) :
    3 ≤ T.ready.L ∧ T.ready.L ≤ 12 ∧ T.ready.E.length + 1 ≤ 2 * 2 ^ T.ready.L / 3 ∧ CInv T.ready.L T.ready.V T.ready.E ∧ Fits (2 ^ T.ready.L) T.ready.V ∧ T.ready.E.length ≤ k ∧ T.ready.births = T.births ∧ T.ready.made ≤ T.made + 1 ∧ T.ready.turns = T.turns := by
  have hn : liveN T.E ≤ 1000 := by have := liveN_le T.E; have := h.ek; omega
  have h3 := growL_ge (liveN T.E)
  have h4 := growL_is hn
  have h5 := growL_le hn
  have h6 := two_ge (L := growL (liveN T.E)) h3
  have h7 := liveN_le T.E
  have h8 := h.ek
  unfold Tab.ready
  by_cases e : T.E.length = T.room
  · rw [if_pos e]
    refine ⟨h3, h5, ?_, ?_, layN_fits _ _ _ (show liveN T.E ≤ 2 * 2 ^ growL (liveN T.E) / 3 by omega), ?_, rfl, Nat.le_refl _, rfl⟩
    · show (liveL T.E).length + 1 ≤ 2 * 2 ^ growL (liveN T.E) / 3
      rw [liveL_len]; omega
    · show CInv (growL (liveN T.E)) (layN (growL (liveN T.E)) (liveL T.E) (liveN T.E)) (liveL T.E)
      have := layN_all (growL (liveN T.E)) (liveL T.E) (liveL_live _) (by rw [liveL_len]; omega)
      rwa [liveL_len] at this
    · show (liveL T.E).length ≤ k
      rw [liveL_len]; omega
  · rw [if_neg e]
    have := h.rm
    unfold Tab.room at e
    exact ⟨h.l3, h.l12, by omega, h.ci, h.ft, h8, rfl, by omega, rfl⟩
theorem TInv.add1 {k : Nat} {R : Tab} (h1 : 3 ≤ R.L) (h2 : R.L ≤ 12) (h3 : R.E.length + 1 ≤ 2 * 2 ^ R.L / 3) (h4 : CInv R.L R.V R.E) (hf : Fits (2 ^ R.L) R.V) (h5 : R.E.length ≤ k) (h6 : R.births ≤ k) (h7 : R.made ≤ 2 * k + 3) (h8 : R.turns ≤ k) (a b c : Int) : TInv (k + 1) (R.add1 a b c) := by
  have hp := two_ge h1
  obtain ⟨E, V, L, bi, ma, tu⟩ := R
  refine ⟨h1, h2, ?_, ?_, layV_fits hf (show E.length < 2 * 2 ^ L / 3 by simp at h3; omega), ?_, ?_, ?_, ?_⟩
  · show (E ++ [_]).length ≤ 2 * 2 ^ L / 3
    simp at h3 ⊢; omega
  · show CInv L (layV L (uh a) V E.length) (E ++ [⟨true, a, b, c, bi⟩])
    have h9 : E.length < 2 ^ L := by simp at h3 hp; omega
    exact CInv.lay h4 h9 ⟨true, a, b, c, bi⟩ rfl
  · show (E ++ [_]).length ≤ _
    simp at h5 ⊢; omega
  · show bi + 1 ≤ _; simp at h6; omega
  · show ma ≤ _; simp at h7; omega
  · show tu + 1 ≤ _; simp at h8; omega
theorem TInv.add {k : Nat} {T : Tab} (h : TInv k T) (hk : k ≤ 1000) (a b c : Int) : TInv (k + 1) (T.add a b c) := by
  obtain ⟨h1, h2, h3, h4, hf, h5, h6, h7, h8⟩ := h.ready hk
  have g1 := h.bk
  have g2 := h.mdk
  have g3 := h.tk
  unfold Tab.add
  generalize T.ready = R at *
  exact TInv.add1 h1 h2 h3 h4 hf h5 (by omega) (by omega) (by omega) a b c

theorem CInv.congr {L : Nat} {V : Nat → Int} {E F : List Ent} (h : CInv L V E) (hl : F.length = E.length) (hF : ∀ (i : Nat) (y : Ent), F[i]? = some y → ∃ x, E[i]? = some x ∧ x.live = y.live ∧ x.hash = y.hash) : CInv L V F := by
  have back : ∀ (i : Nat) (x : Ent), E[i]? = some x → ∃ y, F[i]? = some y ∧ x.live = y.live ∧ x.hash = y.hash := fun i x hx => by
    have hi : i < F.length := by rw [hl]; exact (List.getElem?_eq_some_iff.1 hx).1
    obtain ⟨x', h1, h2⟩ := hF i F[i] (List.getElem?_eq_getElem hi)
    rw [hx] at h1
    exact ⟨F[i], List.getElem?_eq_getElem hi, by cases h1; exact h2⟩
  refine ⟨fun c hc => by rw [hl]; exact h.rng c hc, h.one, fun c e hc hv => ?_, fun e y hy hlv => ?_, fun e f x y hx hy hlx hly hxy hef i hi => ?_, by rw [hl]; exact h.cnt, ?_⟩
  · obtain ⟨x, h1, h2⟩ := h.dead c e hc hv
    obtain ⟨y, h3, h4, _⟩ := back e x h1
    exact ⟨y, h3, by rw [← h4]; exact h2⟩
  · obtain ⟨x, h1, h2, h3⟩ := hF e y hy
    rw [← h3]
    exact h.pos e x h1 (by rw [h2]; exact hlv)
  · obtain ⟨x', h1, h2, h3⟩ := hF e x hx
    obtain ⟨y', h4, h5, h6⟩ := hF f y hy
    rw [← h3] at hi ⊢
    exact h.ord e f x' y' h1 h4 (by rw [h2]; exact hlx) (by rw [h5]; exact hly) (by rw [h3, h6, hxy]) hef i hi
  · rw [h.gone]
    have : E.map (fun x => !x.live) = F.map (fun x => !x.live) := by
      apply List.ext_getElem?
      intro i
      rw [List.getElem?_map, List.getElem?_map]
      by_cases hi : i < E.length
      · obtain ⟨y, h1, h2, _⟩ := back i E[i] (List.getElem?_eq_getElem hi)
        rw [h1, List.getElem?_eq_getElem hi]
        simp [h2]
      · rw [List.getElem?_eq_none (by omega), List.getElem?_eq_none (by omega)]
    have key : ∀ l : List Ent, l.countP (fun x => !x.live) = (l.map (fun x => !x.live)).countP id := fun l => by rw [List.countP_map]; rfl
    rw [key, key, this]
theorem ent_some {T : Tab} {e : Int} {x : Ent} (h : T.ent e = some x) : 0 ≤ e ∧ T.E[e.toNat]? = some x ∧ x.live = true := by
  unfold Tab.ent at h
  split at h
  · rw [Option.filter_eq_some_iff] at h
    exact ⟨by assumption, h.1, h.2⟩
  · cases h
theorem TInv.put {k : Nat} {T : Tab} (h : TInv k T) (e v : Int) : TInv k (T.put e v) := by
  unfold Tab.put
  split
  · rename_i x hx
    obtain ⟨h0, h1, h2⟩ := ent_some hx
    refine ⟨h.l3, h.l12, by simpa using h.rm, h.ci.congr (by simp) fun i y hy => ?_, h.ft, by simpa using h.ek, h.bk, h.mdk, h.tk⟩
    by_cases he : e.toNat = i
    · subst he
      have hlt := (List.getElem?_eq_some_iff.1 h1).1
      rw [List.getElem?_set_self hlt] at hy
      simp at hy
      exact ⟨x, h1, by rw [← hy], by rw [← hy]⟩
    · rw [List.getElem?_set_ne he] at hy
      exact ⟨y, hy, rfl, rfl⟩
  · exact h
/-- A live entry stands on its trail. -/
theorem CInv.stand {L : Nat} {V : Nat → Int} {E : List Ent} (h : CInv L V E) {e : Nat} {x : Ent} (he : E[e]? = some x) (hx : x.live = true) : fi (isV L (uh x.hash) V e) (2 ^ L + 13) < 2 ^ L + 13 ∧ V (trC L (uh x.hash) (fi (isV L (uh x.hash) V e) (2 ^ L + 13))) = e := by
  obtain ⟨i, h1, h2, _⟩ := h.pos e x he hx
  have h3 := fi_at (p := isV L (uh x.hash) V e) h1 (by unfold isV; simp [h2])
  have h4 : fi (isV L (uh x.hash) V e) (2 ^ L + 13) < 2 ^ L + 13 := by omega
  exact ⟨h4, by have := fi_is h4; unfold isV at this ⊢; simpa only [beq_iff_eq] using this⟩
theorem CInv.killV {L : Nat} {V : Nat → Int} {E : List Ent} (h : CInv L V E) {e : Int} {x : Ent} (h0 : 0 ≤ e) (he : E[e.toNat]? = some x) (hx : x.live = true) : CInv L (Go.Proofs.Ytajcbghhpjpmhaa.killV L (uh x.hash) V e) (E.set e.toNat noE) := by
  obtain ⟨h3, h4⟩ := h.stand he hx
  rw [Int.toNat_of_nonneg h0] at h3 h4
  unfold Go.Proofs.Ytajcbghhpjpmhaa.killV
  rw [if_pos h3]
  generalize hc : trC L (uh x.hash) (fi (isV L (uh x.hash) V e) (2 ^ L + 13)) = c at *
  have h5 : c < 2 ^ L := by rw [← hc]; exact trC_lt _ _ _
  exact h.kill e.toNat x he hx c h5 (by rw [h4, Int.toNat_of_nonneg h0])
theorem TInv.kill {k : Nat} {T : Tab} (h : TInv k T) (e : Int) : TInv (k + 1) (T.kill e) := by
  unfold Tab.kill
  split
  · rename_i x hx
    obtain ⟨h0, h1, h2⟩ := ent_some hx
    have h3 := h.ci.killV h0 h1 h2
    obtain ⟨E, V, L, bi, ma, tu⟩ := T
    have h9 : (E.set e.toNat noE).length = E.length := by simp
    refine ⟨h.l3, h.l12, ?_, h3, killV_fits h.ft, ?_, ?_, ?_, ?_⟩
    · show (E.set e.toNat noE).length ≤ 2 * 2 ^ L / 3
      rw [h9]; exact h.rm
    · show (E.set e.toNat noE).length ≤ k + 1
      have := h.ek; simp at this; omega
    · have := h.bk; simp at this; show bi ≤ _; omega
    · have := h.mdk; simp at this; show ma ≤ _; omega
    · have := h.tk; simp at this; show tu + 1 ≤ _; omega
  · exact h.mono (by omega)
theorem TInv.clear {k : Nat} {T : Tab} (h : TInv k T) : TInv (k + 1) T.clear :=
  ⟨by simp [Tab.clear], by simp [Tab.clear], by simp [Tab.clear], CInv.start 3, begun_fits _ _, by simp [Tab.clear], by have := h.bk; show T.births ≤ _; omega, by have := h.mdk; show T.made + 1 ≤ _; omega, by have := h.tk; show T.turns + 1 ≤ _; omega⟩
theorem renum_len (E : List Ent) : (renum E).length = E.length := by simp [renum]
theorem renum_live {E : List Ent} (hE : ∀ x, x ∈ E → x.live = true) : ∀ x, x ∈ renum E → x.live = true := by
  intro x hx
  simp only [renum, List.mem_map, List.mem_range] at hx
  obtain ⟨i, hi, rfl⟩ := hx
  simp only [List.getD, List.getElem?_eq_getElem hi, Option.getD_some]
  exact hE _ (List.getElem_mem _)
theorem TInv.copy {k : Nat} {T : Tab} (h : TInv k T) (hk : k ≤ 1000) : TInv k T.copy := by
  have hn : liveN T.E ≤ 1000 := by have := liveN_le T.E; have := h.ek; omega
  have h3 := copyL_ge (liveN T.E)
  have h4 := copyL_is hn
  have h7 := liveN_le T.E
  have h8 := h.ek
  have e1 : (renum (liveL T.E)).length = liveN T.E := by rw [renum_len, liveL_len]
  refine ⟨h3, copyL_le hn, by show (renum (liveL T.E)).length ≤ 2 * 2 ^ copyL (liveN T.E) / 3; rw [e1]; exact h4, ?_, layN_fits _ _ _ h4, by show (renum (liveL T.E)).length ≤ k; omega, by show liveN T.E ≤ k; omega, by show 1 ≤ 2 * k + 1; omega, Nat.zero_le _⟩
  show CInv (copyL (liveN T.E)) (layN (copyL (liveN T.E)) (renum (liveL T.E)) (liveN T.E)) (renum (liveL T.E))
  have := layN_all (copyL (liveN T.E)) (renum (liveL T.E)) (renum_live (liveL_live _)) (by rw [e1]; generalize 2 ^ copyL (liveN T.E) = M at *; omega)
  rwa [e1] at this
end Go.Proofs.Ytajcbghhpjpmhaa
