/- What is told at each step of StrollMoves (chapter 9's laws). No program in sight. -/
import Derived.Test.YtcakdmapnmneoaaStrMw
namespace Go.Proofs.Ytcakdmapnmneoaa
open Go.RowKit
set_option linter.unusedVariables false
set_option linter.unusedSimpArgs false

/-- Ahead of step i. -/
def PosI (n A K T : Nat) (back : Bool) (i t : Nat) (d : Dic) (s : Str) : Prop :=
  (i ≤ A ∧ t = 0 ∧ ((i = 0 ∧ s.told = false) ∨ (0 < i ∧ s.told = true ∧ s.last = (kAt n back (i - 1) : Nat)))) ∨ (A < i ∧ t = T ∧ s.told = true ∧ ∃ x, (liveL d.T.E)[pM n A K back (i - 1)]? = some x ∧ s.last = x.birth)
/-- The pair that is told. -/
def NowI (n A K T : Nat) (back : Bool) (i t : Nat) (d : Dic) (s : Str) (P : Nat) (x : Ent) : Prop :=
  (s.seen d).place = P ∧ (liveL d.T.E)[P]? = some x ∧ x.key = (keyM n A K back i : Nat) ∧ ((i + 1 ≤ A ∧ t = 0 ∧ x.birth = (kAt n back i : Nat)) ∨ (A < i + 1 ∧ t = T ∧ P = pM n A K back i))
theorem NowI.next {n A K T : Nat} {back : Bool} {i t : Nat} {d : Dic} {s s' : Str} {P : Nat} {x : Ent} (h : NowI n A K T back i t d s P x) (ht : s'.told = true) (hl : s'.last = x.birth) : PosI n A K T back (i + 1) t d s' := by
  obtain ⟨h1, h2, h3, h4⟩ := h
  rcases h4 with ⟨h5, h6, h7⟩ | ⟨h5, h6, h7⟩
  · exact .inl ⟨h5, h6, .inr ⟨by omega, ht, by rw [hl, h7]; rfl⟩⟩
  · refine .inr ⟨h5, h6, ht, x, ?_, hl⟩
    rw [show i + 1 - 1 = i by omega, ← h7]; exact h2
theorem kAt_lt {n i : Nat} (back : Bool) (h : i < n) : kAt n back i < n := by unfold kAt; split <;> omega
section
variable {F : Nat → Int} {n A K T : Nat} {back : Bool} {db : Nat} {d : Dic} {s : Str}
theorem now_before (hA : A < n) (hK : K < n) (h : StrJ db n back d s) (r : Mv9 F n K 0 d) {i : Nat} (hi : i < A) (hp : PosI n A K T back i 0 d s) : ∃ P x, NowI n A K T back i 0 d s P x := by
  have hl : liveL d.T.E = rowI F V5 n := r.l
  have hx : (liveL d.T.E)[kAt n back i]? = some (entI F V5 (kAt n back i)) := by rw [hl]; exact rowI_get F V5 (kAt_lt back (by omega))
  refine ⟨kAt n back i, entI F V5 (kAt n back i), ?_, hx, ?_, .inl ⟨hi, rfl, rfl⟩⟩
  · rcases hp with ⟨_, _, h1 | h1⟩ | h1
    · obtain ⟨rfl, h2⟩ := h1
      rw [place_is d s h.se, h2, h.bk, hl, rowI_len]
      simp only [if_true]
      unfold kAt
      cases back
      · simp
      · simp only [if_true]; omega
    · obtain ⟨h1, h2, h3⟩ := h1
      have hx1 : (liveL d.T.E)[kAt n back (i - 1)]? = some (entI F V5 (kAt n back (i - 1))) := by rw [hl]; exact rowI_get F V5 (kAt_lt back (by omega))
      rw [h.place r.o h2 hx1 h3]
      unfold kAt
      cases back
      · simp only [Bool.false_eq_true, if_false]; omega
      · simp only [if_true]; omega
    · omega
  · unfold keyM; rw [if_pos hi]; rfl
theorem now_turn (hA : A < n) (hK : K < n) (hT : 0 < T) (h : StrJ db n back d s) (r : Mv9 F n K T d) (hl : A < lenM n A K back) (hs : (A = 0 ∧ s.told = false) ∨ (0 < A ∧ s.told = true ∧ s.last = (kAt n back (A - 1) : Nat))) : ∃ P x, NowI n A K T back A T d s P x := by
  have hP := pM_lt hA hK (Nat.le_refl A) hl
  obtain ⟨y, g1, g2, g3⟩ := moved_get F (t := T) (p := pM n A K back A) hK hT hP
  refine ⟨pM n A K back A, y, ?_, by rw [r.l]; exact g1, ?_, .inr ⟨by omega, rfl, rfl⟩⟩
  · rw [h.turned r hT hK hA hs]
    unfold pM
    unfold lenM at hl
    cases back
    · simp
    · simp only [if_true] at hl ⊢; omega
  · rw [g2]; unfold keyM; rw [if_neg (by omega)]
theorem now_after (hA : A < n) (hK : K < n) (hT : 0 < T) (h : StrJ db n back d s) (r : Mv9 F n K T d) {i : Nat} (hi : A < i) (hl : i < lenM n A K back) (hp : PosI n A K T back i T d s) : ∃ P x, NowI n A K T back i T d s P x := by
  have hP := pM_lt hA hK (Nat.le_of_lt hi) hl
  obtain ⟨y, g1, g2, g3⟩ := moved_get F (t := T) (p := pM n A K back i) hK hT hP
  rcases hp with ⟨h1, _⟩ | ⟨_, _, h2, x, h3, h4⟩
  · omega
  refine ⟨pM n A K back i, y, ?_, by rw [r.l]; exact g1, ?_, .inr ⟨by omega, rfl, rfl⟩⟩
  · rw [h.place r.o h2 h3 h4]
    obtain ⟨s1, s2⟩ := pM_succ (i := i - 1) (back := back) hA hK (by omega)
    rw [show i - 1 + 1 = i by omega] at s1 s2
    cases back
    · have := s1 rfl; simp only [Bool.false_eq_true, if_false]; omega
    · have := s2 rfl hl; simp only [if_true]; omega
  · rw [g2]; unfold keyM; rw [if_neg (by omega)]
theorem now_end (hA : A < n) (hK : K < n) (h : StrJ db n back d s) (r : Mv9 F n K T d) (hl : A < lenM n A K back) (hp : PosI n A K T back (lenM n A K back) T d s) : strE d s = 10 := by
  rcases hp with ⟨h1, _⟩ | ⟨_, _, h2, x, h3, h4⟩
  · omega
  refine h.stop (r.liveN hK) ?_
  rw [h.place r.o h2 h3 h4]
  unfold pM
  unfold lenM at *
  have hc : cM n A K back ≤ n := by unfold cM; (repeat' split) <;> omega
  cases back
  · simp only [Bool.false_eq_true, if_false] at *; right; omega
  · simp only [if_true] at *; left; omega
end
end Go.Proofs.Ytcakdmapnmneoaa
