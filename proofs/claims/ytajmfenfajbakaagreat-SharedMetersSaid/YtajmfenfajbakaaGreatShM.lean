/- What is sought in the key table of a family (chapter 10). No program in sight. -/
import Derived.Test.YtajmfenfajbakaaGreatShE
namespace Go.Proofs.YtajmfenfajbakaaGreat
open Go.RowKit
set_option linter.unusedVariables false
set_option linter.unusedSimpArgs false

theorem leastS {P : Nat → Prop} : ∀ n, P n → ∃ m, P m ∧ ∀ g, P g → m ≤ g := by
  intro n
  induction n using Nat.strongRecOn with
  | ind n ih =>
    intro h
    by_cases h2 : ∃ j, j < n ∧ P j
    · obtain ⟨j, h3, h4⟩ := h2; exact ih j h3 h4
    · exact ⟨n, h, fun g hg => Nat.le_of_not_lt fun h3 => h2 ⟨g, h3, hg⟩⟩
theorem entE_at {E : List Ent} {i : Nat} {x : Ent} (h : E[i]? = some x) (hl : x.live = true) : atE (entE E (i : Int)) = x := by
  unfold atE entE
  rw [if_pos (by omega)]
  simp [h, Option.filter, hl]
def KeyIs (T : Tab) (n : Int) (g : Nat) : Prop := (atE (entE T.E (g : Int))).key = n
instance (T : Tab) (n : Int) (g : Nat) : Decidable (KeyIs T n g) := by unfold KeyIs; infer_instance
theorem seekG_is {k : Nat} {T : Tab} (hI : TInv k T) {h n : Int} : ∀ (j : Nat) (s : Sk) (c : C4), Mid T h s → SkOk T s → (T.E.length : Int) ≤ s.told + 1 + j →
    (∀ x : Nat, Later T h s.told x → KeyIs T n x → (∀ g, Later T h s.told g → KeyIs T n g → x ≤ g) → (seekG T n (j + 1) s c).1 = (x : Int)) ∧ ((∀ g, Later T h s.told g → ¬ KeyIs T n g) → (seekG T n (j + 1) s c).1 = -1) := by
  intro j
  induction j with
  | zero =>
    intro s c m ok hj
    have hno : ∀ g, ¬ Later T h s.told g := fun g hg => by
      obtain ⟨h1, x, h2, _⟩ := hg
      have := (List.getElem?_eq_some_iff.1 h2).1
      omega
    have ho := (m.over hI ok hno).1
    refine ⟨fun x hx _ _ => absurd hx (hno x), fun _ => ?_⟩
    unfold seekG; rw [if_pos ho]
  | succ j ih =>
    intro s c m ok hj
    by_cases hl : ∃ f, Later T h s.told f
    · obtain ⟨f0, hf0⟩ := hl
      obtain ⟨f, hf, hmin⟩ := leastS (P := Later T h s.told) f0 hf0
      obtain ⟨m1, m2⟩ := m.next hI ok hf hmin
      have ok1 := SkOk.next hI ok
      have hft := hf.1
      have e0 : seekG T n (j + 1 + 1) s c = if KeyIs T n f then ((f : Int), c.visN (T.walks s)) else seekG T n (j + 1) (T.next s) (c.visN (T.walks s)) := by
        show (if (T.next s).over = true then _ else _) = _
        rw [m1.ov]
        simp only [Bool.false_eq_true, if_false, m2, KeyIs]
      rw [e0]
      have ih1 := ih (T.next s) (c.visN (T.walks s)) m1 ok1 (by rw [m2]; omega)
      rw [m2] at ih1
      have up : ∀ g, Later T h (f : Int) g → Later T h s.told g := fun g hg => ⟨by have := hg.1; omega, hg.2⟩
      refine ⟨fun x hx hk hm => ?_, fun hno => ?_⟩
      · by_cases hkf : KeyIs T n f
        · rw [if_pos hkf]
          have h1 := hmin x hx
          have h2 := hm f hf hkf
          show (f : Int) = x
          omega
        · rw [if_neg hkf]
          have h1 := hmin x hx
          have h2 : f ≠ x := fun e => hkf (e ▸ hk)
          exact ih1.1 x ⟨by omega, hx.2⟩ hk (fun g hg hkg => hm g (up g hg) hkg)
      · rw [if_neg (hno f hf)]
        exact ih1.2 (fun g hg => hno g (up g hg))
    · have hno : ∀ g, ¬ Later T h s.told g := fun g hg => hl ⟨g, hg⟩
      have ho := (m.over hI ok hno).1
      refine ⟨fun x hx _ _ => absurd hx (hno x), fun _ => ?_⟩
      show (if (T.next s).over = true then _ else _ : Int × C4).1 = -1
      rw [if_pos ho]
theorem seekR_some {k : Nat} {T : Tab} (hI : TInv k T) {h n : Int} {c : C4} {x : Nat} {y : Ent} (hx : T.E[x]? = some y) (hl : y.live = true) (hh : y.hash = h) (hk : y.key = n) (hm : ∀ g z, g < x → T.E[g]? = some z → z.live = true → z.hash = h → z.key ≠ n) : (seekR T n h c).1 = (x : Int) := by
  refine (seekG_is hI T.E.length (T.seek h) c (Mid.seek T h) (SkOk.seek hI h) (by show (T.E.length : Int) ≤ -1 + 1 + _; omega)).1 x ⟨by show (-1 : Int) < x; omega, y, hx, hl, hh⟩ (by unfold KeyIs; rw [entE_at hx hl]; exact hk) (fun g hg hkg => ?_)
  rcases Nat.lt_or_ge g x with h1 | h1
  · obtain ⟨_, z, h2, h3, h4⟩ := hg
    unfold KeyIs at hkg; rw [entE_at h2 h3] at hkg
    exact absurd hkg (hm g z h1 h2 h3 h4)
  · exact h1
theorem seekR_none {k : Nat} {T : Tab} (hI : TInv k T) {h n : Int} {c : C4} (hm : ∀ (g : Nat) z, T.E[g]? = some z → z.live = true → z.hash = h → z.key ≠ n) : (seekR T n h c).1 = -1 := by
  refine (seekG_is hI T.E.length (T.seek h) c (Mid.seek T h) (SkOk.seek hI h) (by show (T.E.length : Int) ≤ -1 + 1 + _; omega)).2 (fun g hg hkg => ?_)
  obtain ⟨_, z, h2, h3, h4⟩ := hg
  unfold KeyIs at hkg; rw [entE_at h2 h3] at hkg
  exact hm g z h2 h3 h4 hkg
theorem numFrom_some {s : ByteArray} : ∀ {l : List ByteArray} {i k : Nat}, numFrom i l s = some k → i ≤ k ∧ l[k - i]? = some s := by
  intro l
  induction l with
  | nil => intro i k h; simp [numFrom] at h
  | cons t l ih =>
    intro i k h
    unfold numFrom at h
    split at h
    · simp at h; subst h; rename_i he; simp [he]
    · obtain ⟨h1, h2⟩ := ih h
      refine ⟨by omega, ?_⟩
      rw [show k - i = (k - (i + 1)) + 1 by omega]; simpa using h2
theorem numFrom_none {s : ByteArray} : ∀ {l : List ByteArray} {i : Nat}, numFrom i l s = none → s ∉ l := by
  intro l
  induction l with
  | nil => intro i h; simp
  | cons t l ih =>
    intro i h
    unfold numFrom at h
    split at h
    · cases h
    · rename_i he; simp only [List.mem_cons, not_or]; exact ⟨he, ih h⟩
theorem numFrom_at {s : ByteArray} : ∀ {l : List ByteArray} {i k : Nat}, l.Nodup → l[k]? = some s → numFrom i l s = some (i + k) := by
  intro l
  induction l with
  | nil => intro i k _ h; simp at h
  | cons t l ih =>
    intro i k hn h
    unfold numFrom
    cases k with
    | zero => simp at h; simp [h]
    | succ k =>
      have h2 : l[k]? = some s := by simpa using h
      have : s ≠ t := fun e => (List.nodup_cons.1 hn).1 (e ▸ List.mem_of_getElem? h2)
      rw [if_neg this, ih (List.nodup_cons.1 hn).2 h2]; congr 1; omega
theorem numI_at {N : List ByteArray} {s : ByteArray} {k : Nat} (hn : N.Nodup) (h : N[k]? = some s) : numI N s = (k : Int) := by
  unfold numI numOf; rw [numFrom_at hn h]; simp
theorem numI_none {N : List ByteArray} {s : ByteArray} (h : s ∉ N) : numI N s = -1 := by
  unfold numI numOf
  cases hq : numFrom 0 N s with
  | none => rfl
  | some k => exact absurd (List.mem_of_getElem? (numFrom_some hq).2) h
theorem numI_nat {N : List ByteArray} {s : ByteArray} {k : Nat} (h : numI N s = (k : Int)) : N[k]? = some s := by
  unfold numI numOf at h
  cases hq : numFrom 0 N s with
  | none => rw [hq] at h; simp at h
  | some j => rw [hq] at h; simp only at h; obtain rfl : j = k := by omega
              simpa using (numFrom_some hq).2
theorem getD_at10 {N : List ByteArray} {n : Nat} (h : n < N.length) : N[n]? = some (N.getD n .empty) := by simp [List.getD, List.getElem?_eq_getElem h]
/-- A family whose key table holds the names ks, in this order. -/
structure FamOk (k : Nat) (f : Fam) (ks : List ByteArray) : Prop where
  t : TInv k f.K
  lv : ∀ (i : Nat) x, f.K.E[i]? = some x → x.live = true
  nn : f.N.Nodup
  ky : ∀ (i : Nat) x, f.K.E[i]? = some x → ∃ n, n < f.N.length ∧ x.key = (n : Int) ∧ x.hash = txtH (f.N.getD n .empty) ∧ ks[i]? = some (f.N.getD n .empty)
  kl : ks.length = f.K.E.length
  kn : ks.Nodup
theorem FamOk.seek {k : Nat} {f : Fam} {ks : List ByteArray} (h : FamOk k f ks) (s : ByteArray) (c : C4) : (seekR f.K (numI f.N s) (txtH s) c).1 = numI ks s := by
  by_cases hs : s ∈ ks
  · obtain ⟨i, hi⟩ := List.mem_iff_getElem?.1 hs
    have hlt := (List.getElem?_eq_some_iff.1 hi).1
    rw [numI_at h.kn hi]
    have hx := List.getElem?_eq_getElem (l := f.K.E) (i := i) (by rw [← h.kl]; exact hlt)
    obtain ⟨n, h1, h2, h3, h4⟩ := h.ky i _ hx
    rw [hi] at h4
    have h5 : f.N.getD n .empty = s := by simpa using h4.symm
    have h6 : numI f.N s = (n : Int) := numI_at h.nn (by rw [← h5]; exact getD_at10 h1)
    refine seekR_some h.t hx (h.lv i _ hx) (by rw [h3, h5]) (by rw [h2, h6]) (fun g z hg hz _ _ hk => ?_)
    obtain ⟨n', g1, g2, g3, g4⟩ := h.ky g z hz
    have : n' = n := by rw [g2, h6] at hk; omega
    subst this
    rw [h5] at g4
    have e1 := numI_at h.kn g4
    have e2 := numI_at h.kn hi
    omega
  · rw [numI_none hs]
    refine seekR_none h.t (fun g z hz _ _ hk => ?_)
    obtain ⟨n', g1, g2, g3, g4⟩ := h.ky g z hz
    have h6 := numI_nat (hk.symm.trans g2)
    rw [getD_at10 g1] at h6
    rw [show f.N.getD n' .empty = s from by simpa using h6] at g4
    exact hs (List.mem_of_getElem? g4)
theorem liveL_all {E : List Ent} (h : ∀ (i : Nat) x, E[i]? = some x → x.live = true) : liveL E = E ∧ liveN E = E.length := by
  have h1 : ∀ x ∈ E, x.live = true := fun x hx => by
    obtain ⟨i, hi⟩ := List.mem_iff_getElem?.1 hx
    exact h i x hi
  refine ⟨List.filter_eq_self.2 h1, ?_⟩
  rw [← liveL_len, show liveL E = E from List.filter_eq_self.2 h1]
theorem add_E {T : Tab} (hl : ∀ (i : Nat) x, T.E[i]? = some x → x.live = true) (h k v : Int) : ∃ b, (T.add h k v).E = T.E ++ [⟨true, h, k, v, b⟩] := by
  refine ⟨T.ready.births, ?_⟩
  show T.ready.E ++ _ = _
  have : T.ready.E = T.E := by
    unfold Tab.ready
    split
    · exact (liveL_all hl).1
    · rfl
  rw [this]
theorem giveN_at (N : List ByteArray) (s : ByteArray) (hn : N.Nodup) : (giveN N s).Nodup ∧ giveI N s < (giveN N s).length ∧ (giveN N s)[giveI N s]? = some s ∧ ∀ (i : Nat) x, N[i]? = some x → (giveN N s)[i]? = some x := by
  unfold giveN giveI
  cases hq : numOf N s with
  | some i =>
    have h1 := (numFrom_some (i := 0) hq).2
    simp only [Nat.sub_zero] at h1
    exact ⟨hn, (List.getElem?_eq_some_iff.1 h1).1, h1, fun _ _ h => h⟩
  | none =>
    have h1 := numFrom_none (i := 0) hq
    refine ⟨?_, by simp, by simp, fun i x h => ?_⟩
    · rw [List.nodup_append]
      exact ⟨hn, by simp, fun a ha b hb => by simp at hb; subst hb; exact fun e => h1 (e ▸ ha)⟩
    · rw [List.getElem?_append_left (List.getElem?_eq_some_iff.1 h).1]; exact h
theorem FamOk.add {k : Nat} {f : Fam} {ks : List ByteArray} (h : FamOk k f ks) (hk : k ≤ 1000) (s : ByteArray) (hs : s ∉ ks) :
    FamOk (k + 1) { f with N := giveN f.N s, K := f.K.add (txtH s) (giveI f.N s : Nat) 0 } (ks ++ [s]) := by
  obtain ⟨b, hb⟩ := add_E h.lv (txtH s) (giveI f.N s : Nat) 0
  obtain ⟨g1, g2, g3, g4⟩ := giveN_at f.N s h.nn
  have lk : ∀ (i : Nat) x, (f.K.E ++ [(⟨true, txtH s, (giveI f.N s : Nat), 0, b⟩ : Ent)])[i]? = some x → f.K.E[i]? = some x ∨ (i = f.K.E.length ∧ x = ⟨true, txtH s, (giveI f.N s : Nat), 0, b⟩) := by
    intro i x hx
    rcases Nat.lt_or_ge i f.K.E.length with h1 | h1
    · rw [List.getElem?_append_left h1] at hx; exact .inl hx
    · rw [List.getElem?_append_right h1] at hx
      have : i - f.K.E.length = 0 := by
        have := (List.getElem?_eq_some_iff.1 hx).1; simp at this; omega
      rw [this] at hx; simp at hx
      exact .inr ⟨by omega, hx.symm⟩
  refine ⟨h.t.add hk _ _ _, ?_, g1, ?_, ?_, ?_⟩
  · intro i x hx
    simp only [hb] at hx
    rcases lk i x hx with h1 | ⟨_, rfl⟩
    · exact h.lv i x h1
    · rfl
  · intro i x hx
    simp only [hb] at hx
    rcases lk i x hx with h1 | ⟨rfl, rfl⟩
    · obtain ⟨n, a1, a2, a3, a4⟩ := h.ky i x h1
      have a5 := g4 n _ (getD_at10 a1)
      have a6 : (giveN f.N s).getD n .empty = f.N.getD n .empty := by simp only [List.getD] at a5 ⊢; rw [a5]; rfl
      refine ⟨n, (List.getElem?_eq_some_iff.1 a5).1, a2, ?_, ?_⟩
      · rw [a3]; exact congrArg txtH a6.symm
      · rw [List.getElem?_append_left (List.getElem?_eq_some_iff.1 a4).1, a4]; exact congrArg some a6.symm
    · have a6 : (giveN f.N s).getD (giveI f.N s) .empty = s := by simp only [List.getD, g3, Option.getD_some]
      refine ⟨giveI f.N s, g2, rfl, ?_, ?_⟩
      · exact congrArg txtH a6.symm
      · rw [List.getElem?_append_right (by rw [h.kl]; exact Nat.le_refl _), h.kl]; simp; exact a6.symm
  · rw [hb]; simp [h.kl]
  · rw [List.nodup_append]
    exact ⟨h.kn, by simp, fun a ha b hb => by simp at hb; subst hb; exact fun e => hs (e ▸ ha)⟩
end Go.Proofs.YtajmfenfajbakaaGreat
