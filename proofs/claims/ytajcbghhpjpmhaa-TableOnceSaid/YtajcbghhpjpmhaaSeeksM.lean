/- A search along a trail, in plain numbers (chapter 7's laws). No program in sight. -/
import Derived.Test.YtajcbghhpjpmhaaTabSeekM
namespace Go.Proofs.Ytajcbghhpjpmhaa
open Go.RowKit
set_option linter.unusedVariables false

/-- In the midst of a search of h. -/
structure Mid (T : Tab) (h : Int) (s : Sk) : Prop where
  hh : s.h = h
  lg : s.L = T.L
  tu : s.tu = T.turns
  ov : s.over = false
  vi : s.vis = s.i
  at_ : (s.told = -1 ∧ s.i = 0) ∨ ∃ (e : Nat) (x : Ent), s.told = e ∧ T.E[e]? = some x ∧ x.live = true ∧ x.hash = h ∧ 1 ≤ s.i ∧ T.V (trC T.L (uh h) (s.i - 1)) = e ∧ ∀ j, j < s.i - 1 → T.V (trC T.L (uh h) j) ≠ e
theorem Mid.seek (T : Tab) (h : Int) : Mid T h (T.seek h) := ⟨rfl, rfl, rfl, rfl, rfl, .inl ⟨rfl, rfl⟩⟩
theorem Mid.spent {T : Tab} {h : Int} {s : Sk} (m : Mid T h s) : T.spent s = false := by simp [Tab.spent, m.ov, m.tu]
/-- All places of a later entry are still ahead. -/
theorem Mid.ahead {k : Nat} {T : Tab} (hI : TInv k T) {h : Int} {s : Sk} (m : Mid T h s) {f : Nat} {x : Ent} (hf : s.told < f) (hx : T.E[f]? = some x) (hl : x.live = true) (hh : x.hash = h) {j : Nat} (hj : T.V (trC T.L (uh h) j) = f) : s.i ≤ j := by
  rcases m.at_ with ⟨h1, h2⟩ | ⟨e, y, h1, h2, h3, h4, h5, h6, h7⟩
  · omega
  · obtain ⟨j2, h8, h9⟩ := hI.ci.ord e f y x h2 hx h3 hl (by rw [h4, hh]) (by omega) j (by rw [h4]; exact hj)
    rw [h4] at h9
    rcases Nat.lt_or_ge j2 (s.i - 1) with h10 | h10
    · exact absurd h9 (h7 j2 h10)
    · omega
/-- The next one. -/
def Later (T : Tab) (h : Int) (told : Int) (f : Nat) : Prop := told < f ∧ ∃ x, T.E[f]? = some x ∧ x.live = true ∧ x.hash = h
theorem Mid.stop {k : Nat} {T : Tab} (hI : TInv k T) {h : Int} {s : Sk} (m : Mid T h s) (hok : SkOk T s) : s.i + T.far s ≤ fe T.L (uh h) T.V ∧ (T.cellAt s = -1 ∨ ∃ f : Nat, T.cellAt s = f ∧ Later T h s.told f) := by
  have h1 := hI.far_le m.ov m.tu hok
  have h2 := hI.far_is m.ov m.tu hok
  rw [m.hh] at h1
  refine ⟨h1, ?_⟩
  by_cases h3 : T.cellAt s = -1
  · exact .inl h3
  · refine .inr ?_
    have h3' : ¬ T.V (trC T.L (uh s.h) (s.i + T.far s)) = -1 := h3
    simp only [stopP, Bool.or_eq_true, beq_iff_eq] at h2
    rcases h2 with h2 | h2
    · exact absurd h2 h3'
    · simp only [fitE, Bool.and_eq_true, decide_eq_true_eq] at h2
      obtain ⟨e, x, h4, h5, h6⟩ := hI.live_at (trC_lt T.L (uh s.h) (s.i + T.far s)) hok.low h2.1
      rw [h4] at h2
      refine ⟨e, h4, h2.1, x, h5, h6, ?_⟩
      have h7 := h2.2
      simp only [Int.toNat_natCast] at h7
      rw [show T.E.getD e noE = x by simp [List.getD, h5]] at h7
      rw [h7, m.hh]
theorem Mid.next {k : Nat} {T : Tab} (hI : TInv k T) {h : Int} {s : Sk} (m : Mid T h s) (hok : SkOk T s) {f : Nat} (hf : Later T h s.told f) (hmin : ∀ g, Later T h s.told g → f ≤ g) : Mid T h (T.next s) ∧ (T.next s).told = f := by
  obtain ⟨hf1, x, hx, hl, hh⟩ := hf
  obtain ⟨p, hp, hp1, hp2⟩ := hI.ci.pos f x hx hl
  rw [hh] at hp1 hp2
  have hip := m.ahead hI hf1 hx hl hh hp1
  have hfar : s.i + T.far s ≤ p := by
    have h9 := fi_at (p := fun j => stopP T s (s.i + j)) (n := 2 ^ T.L + 13) (i := p - s.i) (by omega) (by
      show stopP T s (s.i + (p - s.i)) = true
      rw [show s.i + (p - s.i) = p by omega]
      simp only [stopP, m.hh, hp1, fitE, Bool.or_eq_true, Bool.and_eq_true, decide_eq_true_eq]
      refine .inr ⟨hf1, ?_⟩
      simp [List.getD, hx, hh])
    unfold Tab.far; omega
  obtain ⟨hs1, hs2⟩ := m.stop hI hok
  have hne : T.cellAt s ≠ -1 := by
    rcases Nat.lt_or_ge (s.i + T.far s) p with h1 | h1
    · have := hp2 _ h1
      unfold Tab.cellAt; rw [m.hh]; exact this
    · unfold Tab.cellAt
      rw [m.hh, show s.i + T.far s = p by omega, hp1]; omega
  have hfirst : ∀ j, j < s.i + T.far s → T.V (trC T.L (uh h) j) ≠ f := fun j hj hv => by
    have h1 := m.ahead hI hf1 hx hl hh hv
    have h2 := far_before (T := T) (s := s) (j := j - s.i) (by omega)
    rw [show s.i + (j - s.i) = j by omega] at h2
    simp only [stopP, m.hh, hv, fitE, Bool.or_eq_false_iff, Bool.and_eq_false_iff, decide_eq_false_iff_not] at h2
    rcases h2.2 with h2 | h2
    · exact h2 hf1
    · exact h2 (by simp [List.getD, hx, hh])
  have hcell : T.cellAt s = f := by
    rcases hs2 with h1 | ⟨g, h1, h2⟩
    · exact absurd h1 hne
    · have h3 := hmin g h2
      rcases Nat.lt_or_ge f g with h4 | h4
      · obtain ⟨h5, y, h6, h7, h8⟩ := h2
        have h9 : T.V (trC T.L (uh y.hash) (s.i + T.far s)) = g := by rw [h8, ← m.hh]; exact h1
        obtain ⟨j, h10, h11⟩ := hI.ci.ord f g x y hx h6 hl h7 (by rw [hh, h8]) h4 (s.i + T.far s) (by rw [hh]; rw [h8] at h9; exact h9)
        rw [hh] at h11
        exact absurd h11 (hfirst j h10)
      · rw [h1]; omega
  unfold Tab.next
  rw [m.spent]
  simp only [Bool.false_eq_true, if_false]
  rw [if_neg hne]
  refine ⟨⟨m.hh, m.lg, m.tu, m.ov, ?_, .inr ⟨f, x, hcell, hx, hl, hh, ?_, ?_, ?_⟩⟩, hcell⟩
  · show s.vis + T.far s + 1 = s.i + T.far s + 1
    rw [m.vi]
  · show 1 ≤ s.i + T.far s + 1; omega
  · show T.V (trC T.L (uh h) (s.i + T.far s + 1 - 1)) = f
    rw [Nat.add_sub_cancel, ← hcell, ← m.hh]; rfl
  · intro j hj
    exact hfirst j (by have : j < s.i + T.far s + 1 - 1 := hj; omega)
theorem Mid.over {k : Nat} {T : Tab} (hI : TInv k T) {h : Int} {s : Sk} (m : Mid T h s) (hok : SkOk T s) (hno : ∀ g, ¬ Later T h s.told g) : (T.next s).over = true ∧ 1 ≤ (T.next s).vis ∧ (T.next s).vis ≤ 2 ^ T.L + 13 := by
  obtain ⟨h1, h2⟩ := m.stop hI hok
  have h3 := hI.fe_lt h
  have h4 : T.cellAt s = -1 := by
    rcases h2 with h2 | ⟨g, _, h2⟩
    · exact h2
    · exact absurd h2 (hno g)
  unfold Tab.next
  rw [m.spent]
  simp only [Bool.false_eq_true, if_false]
  rw [if_pos h4]
  refine ⟨rfl, ?_, ?_⟩
  · show 1 ≤ s.vis + T.far s + 1; omega
  · show s.vis + T.far s + 1 ≤ 2 ^ T.L + 13
    rw [m.vi]; omega
end Go.Proofs.Ytajcbghhpjpmhaa
