/- Going along a hash's trail, in plain numbers (chapter 7). No program in sight. -/
import Derived.Test.YtajcbghhpjpmhaaTabOps
namespace Go.Proofs.Ytajcbghhpjpmhaa
open Go.RowKit
set_option linter.unusedVariables false

/-- A Seeker: the hash, its place on the trail, the turn, what it has visited and told, whether it is over. -/
structure Sk where
  h : Int
  L : Nat
  i : Nat
  tu : Nat
  vis : Nat
  told : Int
  over : Bool
def Tab.seek (T : Tab) (h : Int) : Sk := ⟨h, T.L, 0, T.turns, 0, -1, false⟩
/-- What a visit of a cell comes to: does it stop there? -/
def fitE (E : List Ent) (h told v : Int) : Bool := decide (told < v) && decide ((E.getD v.toNat noE).hash = h)
def stopP (T : Tab) (s : Sk) (j : Nat) : Bool := T.V (trC T.L (uh s.h) j) == -1 || fitE T.E s.h s.told (T.V (trC T.L (uh s.h) j))
/-- How far it goes to the place where it stops. -/
def Tab.far (T : Tab) (s : Sk) : Nat := fi (fun j => stopP T s (s.i + j)) (2 ^ T.L + 13)
def Tab.cellAt (T : Tab) (s : Sk) : Int := T.V (trC T.L (uh s.h) (s.i + T.far s))
def Tab.spent (T : Tab) (s : Sk) : Bool := s.over || s.tu != T.turns
def Tab.next (T : Tab) (s : Sk) : Sk :=
  if T.spent s = true then { s with over := true }
  else if T.cellAt s = -1 then { s with i := s.i + T.far s, vis := s.vis + T.far s + 1, over := true }
  else { s with i := s.i + T.far s + 1, vis := s.vis + T.far s + 1, told := T.cellAt s }
/-- How many cells it visits. -/
def Tab.walks (T : Tab) (s : Sk) : Nat := if T.spent s = true then 0 else T.far s + 1
/-- What is told. -/
def Sk.says (s : Sk) : Int := if s.over then -1 else s.told
/-- A Seeker goes with a table. -/
structure SkOk (T : Tab) (s : Sk) : Prop where
  turn : s.tu ≤ T.turns
  now : s.over = false → s.tu = T.turns → s.L = T.L ∧ s.i ≤ fe T.L (uh s.h) T.V
  low : -1 ≤ s.told
  v0 : s.vis ≤ s.i + 1
  v1 : s.over = false → s.vis = s.i
theorem TInv.fe_lt {k : Nat} {T : Tab} (h : TInv k T) (x : Int) : fe T.L (uh x) T.V < 2 ^ T.L + 13 := h.ci.fe_lt (by have := h.rm; have := two_ge h.l3; omega) x
theorem TInv.fe_is {k : Nat} {T : Tab} (h : TInv k T) (x : Int) : T.V (trC T.L (uh x) (fe T.L (uh x) T.V)) = -1 := h.ci.fe_is (by have := h.rm; have := two_ge h.l3; omega) x
theorem TInv.far_le {k : Nat} {T : Tab} (h : TInv k T) {s : Sk} (ho : s.over = false) (ht : s.tu = T.turns) (hs : SkOk T s) : s.i + T.far s ≤ fe T.L (uh s.h) T.V := by
  have h1 := (hs.now ho ht).2
  have h2 := h.fe_lt s.h
  have h3 := h.fe_is s.h
  have := fi_at (p := fun j => stopP T s (s.i + j)) (n := 2 ^ T.L + 13) (i := fe T.L (uh s.h) T.V - s.i) (by omega) (by
    show stopP T s (s.i + (fe T.L (uh s.h) T.V - s.i)) = true
    rw [show s.i + (fe T.L (uh s.h) T.V - s.i) = fe T.L (uh s.h) T.V by omega]
    simp [stopP, h3])
  unfold Tab.far; omega
theorem TInv.far_is {k : Nat} {T : Tab} (h : TInv k T) {s : Sk} (ho : s.over = false) (ht : s.tu = T.turns) (hs : SkOk T s) : stopP T s (s.i + T.far s) = true := by
  have h1 := h.far_le ho ht hs
  have h2 := h.fe_lt s.h
  exact fi_is (p := fun j => stopP T s (s.i + j)) (n := 2 ^ T.L + 13) (by unfold Tab.far at h1; omega)
theorem far_before {T : Tab} {s : Sk} {j : Nat} (hj : j < T.far s) : stopP T s (s.i + j) = false := fi_min (p := fun j => stopP T s (s.i + j)) hj
theorem far_eq {T : Tab} {s : Sk} {j : Nat} (h1 : j ≤ T.far s) (h2 : j < 2 ^ T.L + 13) (h3 : stopP T s (s.i + j) = true) : j = T.far s := by
  rcases Nat.lt_or_ge j (T.far s) with h | h
  · rw [far_before h] at h3; cases h3
  · omega
theorem far_succ {k : Nat} {T : Tab} (h : TInv k T) {s : Sk} (ho : s.over = false) (ht : s.tu = T.turns) (hs : SkOk T s) {j : Nat} (h1 : j ≤ T.far s) (h3 : stopP T s (s.i + j) = false) : j + 1 ≤ T.far s := by
  rcases Nat.lt_or_ge j (T.far s) with h4 | h4
  · omega
  · have : j = T.far s := by omega
    rw [this, h.far_is ho ht hs] at h3; cases h3
/-- A cell that is told is one of a live entry. -/
theorem TInv.live_at {k : Nat} {T : Tab} (h : TInv k T) {c : Nat} (hc : c < 2 ^ T.L) {told : Int} (hl : -1 ≤ told) (hv : told < T.V c) : ∃ (e : Nat) (x : Ent), T.V c = e ∧ T.E[e]? = some x ∧ x.live = true := by
  rcases h.ci.rng c hc with h1 | h1 | ⟨e, h1, h2⟩
  · omega
  · omega
  · obtain ⟨x, h3, h4⟩ := h.ci.dead c e hc h2
    exact ⟨e, x, h2, h3, h4⟩
theorem SkOk.seek {k : Nat} {T : Tab} (h : TInv k T) (x : Int) : SkOk T (T.seek x) :=
  ⟨Nat.le_refl _, fun _ _ => ⟨rfl, Nat.zero_le _⟩, by show (-1 : Int) ≤ -1; omega, by show 0 ≤ 0 + 1; omega, fun _ => rfl⟩
theorem SkOk.over {T : Tab} {s : Sk} (h : SkOk T s) : SkOk T { s with over := true } := ⟨h.turn, (fun h => by cases h), h.low, h.v0, (fun h => by cases h)⟩
theorem SkOk.next {k : Nat} {T : Tab} (h : TInv k T) {s : Sk} (hs : SkOk T s) : SkOk T (T.next s) := by
  unfold Tab.next
  split
  · exact hs.over
  · rename_i hsp
    simp only [Tab.spent, Bool.not_eq_true, Bool.or_eq_false_iff, bne_eq_false_iff_eq] at hsp
    obtain ⟨ho, ht⟩ := hsp
    have h1 := h.far_le ho ht hs
    have h2 := hs.v1 ho
    split
    · exact ⟨hs.turn, (fun h => by cases h), hs.low, (by show s.vis + T.far s + 1 ≤ s.i + T.far s + 1; omega), (fun h => by cases h)⟩
    · rename_i hv
      have h3 := h.far_is ho ht hs
      have hv' : ¬ T.V (trC T.L (uh s.h) (s.i + T.far s)) = -1 := hv
      have h4 : s.told < T.cellAt s := by
        simp only [stopP, fitE, Bool.or_eq_true, beq_iff_eq, Bool.and_eq_true, decide_eq_true_eq] at h3
        rcases h3 with h3 | h3
        · exact absurd h3 hv'
        · exact h3.1
      refine ⟨hs.turn, fun _ _ => ⟨(hs.now ho ht).1, ?_⟩, by have := hs.low; show -1 ≤ T.cellAt s; omega, by show s.vis + T.far s + 1 ≤ s.i + T.far s + 1 + 1; omega, fun _ => by show s.vis + T.far s + 1 = s.i + T.far s + 1; omega⟩
      show s.i + T.far s + 1 ≤ fe T.L (uh s.h) T.V
      rcases Nat.lt_or_ge (s.i + T.far s) (fe T.L (uh s.h) T.V) with h5 | h5
      · omega
      · have h6 : s.i + T.far s = fe T.L (uh s.h) T.V := by omega
        exact absurd (by rw [h6]; exact h.fe_is s.h) hv'
/-- A Seeker of a table that was turned is spent. -/
theorem SkOk.later {T U : Tab} {s : Sk} (h : SkOk T s) (hu : T.turns < U.turns) : SkOk U s :=
  ⟨by have := h.turn; omega, fun _ e => by have := h.turn; omega, h.low, h.v0, h.v1⟩
theorem SkOk.same {T U : Tab} {s : Sk} (h : SkOk T s) (h1 : U.turns = T.turns) (h2 : U.L = T.L) (h3 : U.V = T.V) : SkOk U s :=
  ⟨by rw [h1]; exact h.turn, by rw [h1, h2, h3]; exact h.now, h.low, h.v0, h.v1⟩
end Go.Proofs.Ytajcbghhpjpmhaa
