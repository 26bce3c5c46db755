/- Two tables of slots, each beside the document's (chapter 11). -/
import Derived.Test.YtompihlckpjbkaaSlotDoes2
import Derived.Test.YtompihlckpjbkaaSlotAll
import Derived.Deep.RegionWith
namespace Go.Proofs.Ytompihlckpjbkaa
open Go.RowKit
open SI
set_option linter.unusedVariables false
attribute [local go_sem ↓] Go.wp_at_zero Go.wp_at_succ

/-- Both in their beginning. -/
theorem pair_new {sb wb lo : Nat} {Q : List Nat} {w : World} (hs : w.heap[sb]? = some (.cells #[.slice none 0 0, .slice none 0 0, .slice none 0 0] 34 (0, 0))) (hw : w.heap[wb]? = some (.cells #[.slice none 0 0, .slice none 0 0] 38 (0, 0))) (h1 : lo ≤ sb) (h2 : lo ≤ wb) (hQ : sb ∉ Q ∧ wb ∉ Q) : PairT sb wb lo [sb] [wb] Q 0 w := by
  have hne : sb ≠ wb := by rintro rfl; rw [hs] at hw; revert hw; simp
  exact ⟨fun _ => 0, fun _ => .slice none 0 0, fun _ => false, ⟨⟨0, fun _ => 0, ⟨none, 0, none, 0, none, 0, hs, ValRow.nil _ _ _ _, ValRow.nil _ _ _ _, ValRow.nil _ _ _ _, by simp [blk], h1, by simp [blk]⟩, ⟨fun k hk => by omega, fun x hx => by simp [FreeS] at hx, fun i j hi => by omega⟩, fun k h0 hk => by omega, rfl⟩,
    ⟨none, 0, none, 0, hw, ValRow.nil _ _ _ _, ValRow.nil _ _ _ _, h2, by simp [blk]⟩, fun i hi => by omega, fun x hx hy => by simp at hx hy; omega, ⟨fun x hx => by simp at hx; subst hx; exact hQ.1, fun x hx => by simp at hx; subst hx; exact hQ.2⟩, fun i hi => by omega⟩⟩
theorem PairS.ones {sb wb lo : Nat} {S R Q : List Nat} {m : Nat} {X : Nat → Int} {VL : Nat → Value} {T : Nat → Bool} {w : World} (h : PairS sb wb lo S R Q m X VL T w) : Ones m X VL T w := fun i hi hT => by
  obtain ⟨b, h1, h2, _⟩ := h.one i hi hT
  exact ⟨b, h1, cell_has h2 rfl⟩

theorem PairT.keeps {sb wb lo : Nat} {S R Q : List Nat} {m : Nat} {w w' : World} (h : PairT sb wb lo S R Q m w) (k : Keeps [] w w') : PairT sb wb lo S R Q m w' := by
  obtain ⟨X, VL, T, h⟩ := h
  exact ⟨X, VL, T, h.keeps k (by simp)⟩
theorem PairT.feet {sb wb lo : Nat} {S R Q : List Nat} {m : Nat} {w : World} (h : PairT sb wb lo S R Q m w) : ∀ x, x ∈ S ++ R → lo ≤ x := by
  obtain ⟨X, VL, T, h⟩ := h
  intro x hx
  rcases List.mem_append.1 hx with h1 | h1
  · exact (h.st.foot x h1).1
  · exact (h.rf.foot x h1).1

theorem PairS.keepsN {sb wb lo : Nat} {S R Q Q' : List Nat} {m : Nat} {X : Nat → Int} {VL : Nat → Value} {T : Nat → Bool} {w w' : World} (h : PairS sb wb lo S R Q m X VL T w) (k : Keeps Q' w w') (hq : ∀ x, x ∈ Q' → w.heap.size ≤ x) : PairS sb wb lo S R Q m X VL T w' :=
  ⟨h.st.keeps k (fun x hx hy => by have := (h.st.foot x hx).2; have := hq x hy; omega), h.rf.keeps k (fun x hx hy => by have := (h.rf.foot x hx).2; have := hq x hy; omega), fun i hi hT => by
    obtain ⟨b, h1, h2, h3, h4, h5, h6⟩ := h.one i hi hT
    exact ⟨b, h1, k.has h2 (fun hy => by have := lt_of_block h2; have := hq b hy; omega), h3, h4, h5, h6⟩, h.dis, h.far, h.shp⟩
theorem does_two {sa wa sb wb lo : Nat} {S R S2 R2 : List Nat} {m m2 : Nat} {w w' : World} {e : Ending} (H2 : PairT sb wb lo S2 R2 (S ++ R) m2 w) (D : DoesC sa wa lo S R (S2 ++ R2) m w e w') :
    e = .returned (.bool true) ∧ ∃ S' R' m', PairT sa wa lo S' R' (S2 ++ R2) m' w' ∧ PairT sb wb lo S2 R2 (S' ++ R') m2 w' ∧ m' ≤ m + 1 ∧ Keeps (S ++ R) w w' ∧ ∀ x, x ∈ S' ++ R' → x ∈ S ++ R ∨ w.heap.size ≤ x := by
  obtain ⟨he, S', R', m', h1, hm, k, f, g⟩ := D
  have fg : ∀ x, x ∈ S' ++ R' → x ∈ S ++ R ∨ w.heap.size ≤ x := by
    intro x hx
    rcases List.mem_append.1 hx with h | h
    · exact (f x h).imp (fun h => by simp [h]) id
    · exact (g x h).imp (fun h => by simp [h]) id
  obtain ⟨X, VL, T, p⟩ := H2
  have p1 := p.other (Nat.le_refl _) fg
  refine ⟨he, S', R', m', h1, ⟨X, VL, T, ?_⟩, hm, k, fg⟩
  have q := p.keeps k (fun x hx => hx)
  have z := k.size
  exact ⟨q.st, q.rf, fun i hi hT => by
    obtain ⟨b, b1, b2, b3, b4, b5, b6⟩ := p1.one i hi hT
    obtain ⟨c, c1, c2, _⟩ := q.one i hi hT
    have : b = c := by rw [b1] at c1; simpa using c1
    subst this
    exact ⟨b, c1, c2, b3, b4, b5, b6⟩, q.dis, p1.far, q.shp⟩
theorem PairT.lt {sb wb lo : Nat} {S R Q : List Nat} {m : Nat} {w : World} (h : PairT sb wb lo S R Q m w) : ∀ x, x ∈ S ++ R → x < w.heap.size := by
  obtain ⟨X, VL, T, h⟩ := h
  intro x hx
  rcases List.mem_append.1 hx with h1 | h1
  · exact (h.st.foot x h1).2
  · exact (h.rf.foot x h1).2
end Go.Proofs.Ytompihlckpjbkaa
