/- The entries of a hash, in the order in which a search tells them (chapter 7's laws). No program in sight. -/
import Derived.Test.YtajcbghhpjpmhaaSeeksM
import Derived.Test.YtajcbghhpjpmhaaNumRow
import Derived.Test.YtajcbghhpjpmhaaTabWrong
namespace Go.Proofs.Ytajcbghhpjpmhaa
open Go.RowKit
set_option linter.unusedVariables false

theorem numL_up (E : List Ent) : ∀ (i j k : Nat) (p q : Nat × Ent), j < k → (numL E i)[j]? = some p → (numL E i)[k]? = some q → p.1 < q.1 := by
  induction E with
  | nil => intro i j k p q _ h; simp [numL] at h
  | cons x E ih =>
    intro i j k p q hjk hp hq
    unfold numL at hp hq
    by_cases hx : x.live = true
    · rw [if_pos hx] at hp hq
      cases k with
      | zero => omega
      | succ k =>
        simp only [List.getElem?_cons_succ] at hq
        cases j with
        | zero =>
          simp at hp
          have := (numL_mem (List.mem_of_getElem? hq)).1
          rw [← hp]; simp only; omega
        | succ j =>
          simp only [List.getElem?_cons_succ] at hp
          exact ih (i + 1) j k p q (by omega) hp hq
    · rw [if_neg hx] at hp hq
      exact ih (i + 1) j k p q hjk hp hq
theorem numL_find (E : List Ent) : ∀ (i g : Nat) (x : Ent), E[g]? = some x → x.live = true → ∃ j : Nat, (numL E i)[j]? = some (i + g, x) := by
  induction E with
  | nil => intro i g x h; simp at h
  | cons y E ih =>
    intro i g x hx hl
    cases g with
    | zero =>
      simp at hx; subst hx
      exact ⟨0, by unfold numL; rw [if_pos hl]; simp⟩
    | succ g =>
      simp at hx
      obtain ⟨j, hj⟩ := ih (i + 1) g x hx hl
      rw [show i + 1 + g = i + (g + 1) by omega] at hj
      by_cases hy : y.live = true
      · exact ⟨j + 1, by unfold numL; rw [if_pos hy]; simpa using hj⟩
      · exact ⟨j, by unfold numL; rw [if_neg hy]; exact hj⟩
/-- Of the live ones the first i have been gone through. -/
structure Thru (E : List Ent) (h : Int) (i : Nat) (told : Int) : Prop where
  a : ∀ (j : Nat) (p : Nat × Ent), (numL E 0)[j]? = some p → i ≤ j → told < p.1
  b : ∀ (j : Nat) (p : Nat × Ent), (numL E 0)[j]? = some p → j < i → p.2.hash = h → (p.1 : Int) ≤ told
theorem Thru.start (E : List Ent) (h : Int) : Thru E h 0 (-1) := ⟨fun j p _ _ => by omega, fun j p _ hj => by omega⟩
theorem Thru.pass {E : List Ent} {h : Int} {i : Nat} {told : Int} (t : Thru E h i told) {p : Nat × Ent} (hp : (numL E 0)[i]? = some p) (hh : p.2.hash ≠ h) : Thru E h (i + 1) told :=
  ⟨fun j q hq hj => t.a j q hq (by omega), fun j q hq hj hqh => by
    by_cases e : j = i
    · subst e; rw [hp] at hq; simp at hq; subst hq; exact absurd hqh hh
    · exact t.b j q hq (by omega) hqh⟩
theorem Thru.hit {E : List Ent} {h : Int} {i : Nat} {told : Int} (t : Thru E h i told) {p : Nat × Ent} (hp : (numL E 0)[i]? = some p) : Thru E h (i + 1) p.1 :=
  ⟨fun j q hq hj => by have := numL_up E 0 i j p q (by omega) hp hq; omega, fun j q hq hj hqh => by
    by_cases e : j = i
    · subst e; rw [hp] at hq; simp at hq; subst hq; omega
    · have := numL_up E 0 j i q p (by omega) hq hp; omega⟩
theorem Thru.later {T : Tab} {h : Int} {i : Nat} {told : Int} (t : Thru T.E h i told) {p : Nat × Ent} (hp : (numL T.E 0)[i]? = some p) (hh : p.2.hash = h) : Later T h told p.1 ∧ ∀ g, Later T h told g → p.1 ≤ g := by
  obtain ⟨_, _, h3, h4⟩ := numL_mem (List.mem_of_getElem? hp)
  refine ⟨⟨t.a i p hp (Nat.le_refl _), p.2, by simpa using h3, h4, hh⟩, fun g hg => ?_⟩
  obtain ⟨h5, x, h6, h7, h8⟩ := hg
  obtain ⟨j, hj⟩ := numL_find T.E 0 g x h6 h7
  rw [Nat.zero_add] at hj
  rcases Nat.lt_or_ge j i with h9 | h9
  · have := t.b j _ hj h9 h8; simp only at this; omega
  · rcases Nat.lt_or_ge i j with h10 | h10
    · have := numL_up T.E 0 i j p _ h10 hp hj; simp only at this; omega
    · have e : j = i := by omega
      subst e
      rw [hp] at hj
      simp at hj
      rw [hj]; simp only; omega
theorem Thru.none {T : Tab} {h : Int} {i : Nat} {told : Int} (t : Thru T.E h i told) (hi : liveN T.E ≤ i) : ∀ g, ¬ Later T h told g := fun g ⟨h5, x, h6, h7, h8⟩ => by
  obtain ⟨j, hj⟩ := numL_find T.E 0 g x h6 h7
  have hl := (List.getElem?_eq_some_iff.1 hj).1
  rw [numL_len] at hl
  have := t.b j _ hj (by omega) h8
  simp only [Nat.zero_add] at this
  omega
theorem numL_at {E : List Ent} {i : Nat} {x : Ent} (h : (liveL E)[i]? = some x) : ∃ f, (numL E 0)[i]? = some (f, x) ∧ entE E (f : Int) = some x := by
  have hl : i < (numL E 0).length := by rw [numL_len, ← liveL_len]; exact (List.getElem?_eq_some_iff.1 h).1
  obtain ⟨p, hp⟩ : ∃ p, (numL E 0)[i]? = some p := ⟨_, List.getElem?_eq_getElem hl⟩
  have h1 := numL_get hp
  rw [h] at h1
  have h2 : p.2 = x := by simpa using h1.symm
  obtain ⟨_, _, h3, h4⟩ := numL_mem (List.mem_of_getElem? hp)
  refine ⟨p.1, by rw [hp, ← h2], ?_⟩
  unfold entE
  rw [if_pos (by omega)]
  rw [h2] at h3 h4
  simp at h3
  simp [h3, Option.filter, h4]
end Go.Proofs.Ytajcbghhpjpmhaa
