/- A walk through a dictionary in plain numbers (chapter 9). No program in sight. -/
import Derived.Test.YtcakdmapnmneoaaGreatDictO
import Derived.Test.YtcakdmapnmneoaaGreatB6
namespace Go.Proofs.YtcakdmapnmneoaaGreat
open Go.RowKit
set_option linter.unusedVariables false
set_option linter.unusedSimpArgs false

/-- A stroll: of a dictionary at dp, of this size and version, with these pairs; what it told last. -/
structure Str where
  dp : Option Nat
  size : Nat
  ver : Nat
  prs : List Ent
  broken : Bool
  told : Bool
  last : Int
  back : Bool
def newS (db : Nat) (d : Dic) (back : Bool) : Str := ⟨some db, liveN d.T.E, d.ver, liveL d.T.E, false, false, 0, back⟩
/-- How many were born not behind b. -/
def cntL (l : List Ent) (b : Int) : Nat := l.countP fun x => !decide (b < x.birth)
def Str.place (s : Str) : Int :=
  if s.told = false then (if s.back = true then (s.prs.length : Int) - 1 else 0)
  else if s.back = true then (cntL s.prs (s.last - 1) : Int) - 1 else (cntL s.prs s.last : Int)
/-- It has looked at its dictionary. -/
def Str.seen (s : Str) (d : Dic) : Str := { s with broken := false, ver := d.ver, prs := if s.ver = d.ver then s.prs else liveL d.T.E }
def Str.out (s : Str) (l : List Ent) (i : Int) : Bool := decide (i < 0) || decide ((l.length : Int) ≤ i)
def strN (d : Dic) (s : Str) : Str :=
  if s.broken = true ∨ liveN d.T.E ≠ s.size then { s with broken := true }
  else if (s.seen d).out (s.seen d).prs (s.seen d).place = true then { s.seen d with dp := none }
  else { s.seen d with told := true, last := ((s.seen d).prs.getD (s.seen d).place.toNat noE).birth }
def strX (d : Dic) (s : Str) : Ent :=
  if s.broken = true ∨ liveN d.T.E ≠ s.size then noE
  else if (s.seen d).out (s.seen d).prs (s.seen d).place = true then noE
  else (s.seen d).prs.getD (s.seen d).place.toNat noE
def strE (d : Dic) (s : Str) : Int :=
  if s.broken = true ∨ liveN d.T.E ≠ s.size then 9
  else if (s.seen d).out (s.seen d).prs (s.seen d).place = true then 10
  else 0
/-- Births that go up. -/
def Ups (l : List Ent) : Prop := ∀ (i j : Nat) (x y : Ent), i < j → l[i]? = some x → l[j]? = some y → x.birth < y.birth
theorem Born.ups {E : List Ent} {b : Nat} (h : Born E b) : Ups (liveL E) := by
  intro i j x y hij hi hj
  have h1 : x.live = true := (List.mem_filter.1 (List.mem_of_getElem? hi)).2
  have h2 : y.live = true := (List.mem_filter.1 (List.mem_of_getElem? hj)).2
  exact h.live.up i j x y hij hi hj h1 h2
theorem Ups.tail {x : Ent} {l : List Ent} (h : Ups (x :: l)) : Ups l := fun i j a b hij hi hj => h (i + 1) (j + 1) a b (by omega) (by simpa using hi) (by simpa using hj)
theorem Ups.cnt_le {l : List Ent} (h : Ups l) (b : Int) {i : Nat} {x : Ent} (hx : l[i]? = some x) (hb : b < x.birth) : cntL l b ≤ i := by
  induction l generalizing i with
  | nil => simp at hx
  | cons y l ih =>
    cases i with
    | zero =>
      simp at hx; subst hx
      have : ∀ z, z ∈ l → (!decide (b < z.birth)) = false := fun z hz => by
        obtain ⟨j, hj⟩ := List.getElem?_of_mem hz
        have := h 0 (j + 1) y z (by omega) (by simp) (by simpa using hj)
        simp; omega
      unfold cntL
      rw [List.countP_cons, if_neg (by simp; exact hb), List.countP_eq_zero.2 (fun z hz => by simp [this z hz])]
      omega
    | succ i =>
      have h1 := ih h.tail (by simpa using hx)
      unfold cntL at h1 ⊢
      rw [List.countP_cons]
      split <;> omega
theorem Ups.cnt_gt {l : List Ent} (h : Ups l) (b : Int) {i : Nat} {x : Ent} (hx : l[i]? = some x) (hb : ¬ b < x.birth) : i < cntL l b := by
  induction l generalizing i with
  | nil => simp at hx
  | cons y l ih =>
    have hy : ¬ b < y.birth := by
      cases i with
      | zero => simp at hx; subst hx; exact hb
      | succ i =>
        have := h 0 (i + 1) y x (by omega) (by simp) hx
        omega
    unfold cntL
    rw [List.countP_cons, if_pos (by simpa using hy)]
    cases i with
    | zero => omega
    | succ i =>
      have h1 := ih h.tail (by simpa using hx)
      unfold cntL at h1
      omega
theorem cntL_len (l : List Ent) (b : Int) : cntL l b ≤ l.length := List.countP_le_length
/-- What binary search finds is how many were not born behind b. -/
theorem Ups.cnt_is {l : List Ent} (h : Ups l) (b : Int) (i : Nat) (hi : i ≤ l.length) (h1 : ∀ (j : Nat) (x : Ent), j < i → l[j]? = some x → ¬ b < x.birth) (h2 : ∀ (j : Nat) (x : Ent), i ≤ j → l[j]? = some x → b < x.birth) : cntL l b = i := by
  have hl := cntL_len l b
  rcases Nat.lt_trichotomy (cntL l b) i with h3 | h3 | h3
  · have h5 := List.getElem?_eq_getElem (l := l) (i := cntL l b) (by omega)
    have := h.cnt_gt b h5 (h1 _ _ h3 h5)
    omega
  · exact h3
  · have h5 := List.getElem?_eq_getElem (l := l) (i := i) (by omega)
    have := h.cnt_le b h5 (h2 _ _ (Nat.le_refl _) h5)
    omega
end Go.Proofs.YtcakdmapnmneoaaGreat
