/- The document's slots: what each call does (chapter 11). -/
import Derived.Test.YtompihlckpjbkaaProg
import Derived.Test.YtompihlckpjbkaaHeapMath
import Derived.Test.YtompihlckpjbkaaValRow
import Derived.Deep.RegionHeld3
import Derived.Deep.DrawnRows
namespace Go.Proofs.Ytompihlckpjbkaa
open Go.RowKit
set_option linter.unusedVariables false
attribute [local go_sem ↓] Go.wp_at_zero Go.wp_at_succ

/-- The flags as values. -/
def flagV (T : Nat → Bool) : Nat → Value := fun k => .bool (T k)
theorem flagV_put (T : Nat → Bool) (i : Nat) (b : Bool) : putV (flagV T) i (.bool b) = flagV (putB T i b) := by
  funext k; unfold putV flagV putB; split <;> rfl

/-- The document's slots in memory: m of them, what they have, which are taken; S: the blocks on which they stand. -/
def RefS (wb lo : Nat) (S : List Nat) (m : Nat) (V : Nat → Value) (T : Nat → Bool) (w : World) : Prop :=
  ∃ La Lc Ta Tc, w.heap[wb]? = some (.cells #[.slice La m Lc, .slice Ta m Tc] 38 (0, 0)) ∧ ValRow 22 lo La m Lc V w ∧ ValRow 4 lo Ta m Tc (flagV T) w ∧ lo ≤ wb ∧ S = wb :: (blk La ++ blk Ta)
theorem RefS.keeps {wb lo : Nat} {S S' : List Nat} {m : Nat} {V : Nat → Value} {T : Nat → Bool} {w w' : World} (h : RefS wb lo S m V T w) (k : Keeps S' w w') (hd : ∀ x, x ∈ S → x ∉ S') : RefS wb lo S m V T w' := by
  obtain ⟨La, Lc, Ta, Tc, h1, h2, h3, h4, rfl⟩ := h
  exact ⟨La, Lc, Ta, Tc, k.has h1 (hd _ (by simp)), h2.keeps k (fun x hx => hd x (by simp [hx])), h3.keeps k (fun x hx => hd x (by simp [hx])), h4, rfl⟩
theorem RefS.foot {wb lo : Nat} {S : List Nat} {m : Nat} {V : Nat → Value} {T : Nat → Bool} {w : World} (h : RefS wb lo S m V T w) : ∀ x, x ∈ S → lo ≤ x ∧ x < w.heap.size := by
  obtain ⟨La, Lc, Ta, Tc, h1, h2, h3, h4, rfl⟩ := h
  intro x hx
  simp at hx
  rcases hx with rfl | hx | hx
  · exact ⟨h4, lt_of_block h1⟩
  · exact h2.blk_lt x hx
  · exact h3.blk_lt x hx

/-- Is a slot taken? -/
def isB (m : Nat) (T : Nat → Bool) (i : Int) : Bool := decide (0 ≤ i) && decide (i < m) && T i.toNat

theorem refIs_any (wb lo : Nat) (S : List Nat) (m : Nat) (V : Nat → Value) (T : Nat → Bool) (i : Int) (b : Bool) (hb : isB m T i = b) (w : World) (H : RefS wb lo S m V T w) :
    Calls Try.prog 35 #[.pointer (some ⟨wb, 0, none⟩), .int .i64 i] w fun e w' => e = .returned (.bool b) ∧ Keeps [] w w' := by
  obtain ⟨La, Lc, Ta, Tc, h1, h2, h3, h4, rfl⟩ := H
  have c0 := cell_has h1 (i := 0) rfl
  have c1 := cell_has h1 (i := 1) rfl
  by_cases h0 : 0 ≤ i
  · by_cases hm : i < m
    · obtain ⟨g, rfl⟩ := h3.shape (by omega)
      have c2 := h3.cell (k := i.toNat) (by omega)
      have hT : T i.toNat = b := by simpa [isB, h0, hm] using hb
      rw [show flagV T i.toNat = .bool b by simp [flagV, hT]] at c2
      have d1 : decide (0 ≤ i) = true := by simpa using h0
      have d2 : decide (i < m) = true := by simpa using hm
      clear h1 h2 h3 hb hT
      go_enter Try.func35, Try.ntmps35
      go_wp2_with fail
      go_ret
      exact ⟨rfl, Keeps.refl _ _⟩
    · have hT : false = b := by simpa [isB, h0, hm] using hb
      subst hT
      have d1 : decide (0 ≤ i) = true := by simpa using h0
      have d2 : decide (i < m) = false := by simpa using hm
      clear h1 h2 h3 hb
      go_enter Try.func35, Try.ntmps35
      go_wp2_with fail
      go_ret
      exact ⟨rfl, Keeps.refl _ _⟩
  · have hT : false = b := by simpa [isB, h0] using hb
    subst hT
    have d1 : decide (0 ≤ i) = false := by simpa using h0
    clear h1 h2 h3 hb
    go_enter Try.func35, Try.ntmps35
    go_wp2_with fail
    go_ret
    exact ⟨rfl, Keeps.refl _ _⟩

theorem refGet_in (wb lo : Nat) (S : List Nat) (m : Nat) (V : Nat → Value) (T : Nat → Bool) (i : Int) (a : Option Addr) (n c : Nat) (w : World) (H : RefS wb lo S m V T w) (hb : isB m T i = true) (hv : Hid (V i.toNat = .slice a n c)) :
    Calls Try.prog 43 #[.pointer (some ⟨wb, 0, none⟩), .int .i64 i] w fun e w' => e = .returned (.tuple #[.slice a n c, .bool true]) ∧ Keeps [] w w' := by
  have HH := Lib.hid H
  have HB := Lib.hid hb
  have h0 : 0 ≤ i ∧ i < m := by simp [isB] at hb; omega
  obtain ⟨g0, g1⟩ := h0
  clear H hb
  go_enter Try.func43, Try.ntmps43
  go_wp2_with fail
  refine (refIs_any _ _ _ _ _ _ _ true HB.out _ HH.out).mono ?_
  rintro e w1 ⟨rfl, k1⟩
  obtain ⟨La, Lc, Ta, Tc, h1, h2, h3, h4, hS⟩ := HH.out.keeps k1 (by simp)
  obtain ⟨g, rfl⟩ := h2.shape (by omega)
  have c0 := cell_has h1 (i := 0) rfl
  have c2 := h2.cell (k := i.toNat) (by omega)
  rw [hv.out] at c2
  have K1 := Lib.hid k1
  clear h1 h2 h3 h4 hS k1
  go_wp2_with fail
  go_ret2
  exact ⟨rfl, K1.out⟩
theorem refGet_out (wb lo : Nat) (S : List Nat) (m : Nat) (V : Nat → Value) (T : Nat → Bool) (i : Int) (w : World) (H : RefS wb lo S m V T w) (hb : isB m T i = false) :
    Calls Try.prog 43 #[.pointer (some ⟨wb, 0, none⟩), .int .i64 i] w fun e w' => e = .returned (.tuple #[.slice none 0 0, .bool false]) ∧ Keeps [] w w' := by
  have HH := Lib.hid H
  have HB := Lib.hid hb
  clear H hb
  go_enter Try.func43, Try.ntmps43
  go_wp2_with fail
  refine (refIs_any _ _ _ _ _ _ _ false HB.out _ HH.out).mono ?_
  rintro e w1 ⟨rfl, k1⟩
  go_wp2_with fail
  go_ret2
  exact ⟨rfl, k1⟩

/-- Behind a call that leaves slots of some shape. -/
def RefP (wb lo : Nat) (S : List Nat) (m : Nat) (V : Nat → Value) (T : Nat → Bool) (v : Value) (w : World) (e : Ending) (w' : World) : Prop :=
  e = .returned v ∧ ∃ S', RefS wb lo S' m V T w' ∧ Keeps S w w' ∧ ∀ x, x ∈ S' → x ∈ S ∨ w.heap.size ≤ x

theorem refSet_in (wb lo : Nat) (S : List Nat) (m : Nat) (V : Nat → Value) (T : Nat → Bool) (i : Int) (a : Option Addr) (n c : Nat) (w : World) (H : RefS wb lo S m V T w) (hb : isB m T i = true) :
    Calls Try.prog 45 #[.pointer (some ⟨wb, 0, none⟩), .int .i64 i, .slice a n c] w (RefP wb lo S m (putV V i.toNat (.slice a n c)) T (.bool true) w) := by
  have HH := Lib.hid H
  have HB := Lib.hid hb
  have h0 : 0 ≤ i ∧ i < m := by simp [isB] at hb; omega
  obtain ⟨g0, g1⟩ := h0
  clear H hb
  go_enter Try.func45, Try.ntmps45
  go_wp2_with fail
  refine (refIs_any _ _ _ _ _ _ _ true HB.out _ HH.out).mono ?_
  rintro e w1 ⟨rfl, k1⟩
  obtain ⟨La, Lc, Ta, Tc, h1, h2, h3, h4, hS⟩ := HH.out.keeps k1 (by simp)
  obtain ⟨g, rfl⟩ := h2.shape (by omega)
  have c0 := cell_has h1 (i := 0) rfl
  have c2 := h2.cell (k := i.toNat) (by omega)
  obtain ⟨y, hy⟩ := ex_hid (V i.toNat)
  rw [← hy.out] at c2
  have f2 := h2.free i.toNat
  have K1 := Lib.hid k1
  have X1 := Lib.hid h1
  have X2 := Lib.hid h2
  have X3 := Lib.hid h3
  have X4 := Lib.hid (And.intro h4 hS)
  clear h1 h2 h3 h4 hS k1
  go_wp2_with fail
  go_ret
  have hg : g ∈ S := by rw [X4.out.2]; simp [blk]
  have hn1 : wb ≠ g := by
    rintro rfl
    rcases X2.out.2 with ⟨q, _⟩ | ⟨g1, cap, cur, a1, a2, a3, _⟩
    · simp at q
    · simp at a1; rw [← a1.1, X1.out] at a3; simp at a3
  refine ⟨rfl, S, ⟨_, Lc, Ta, Tc, has_setCell_other X1.out (by simpa using hn1) _, X2.out.put _ _, X3.out.keeps (S := [g]) ((Keeps.refl _ _).setCell (.inr (by simp)) _) ?_, X4.out.1, X4.out.2⟩, (K1.out.mono (by simp)).setCell (.inr hg) _, fun x hx => .inl hx⟩
  intro x hx hx2
  simp at hx2
  subst hx2
  cases hT : Ta with
  | none => rw [hT] at hx; simp [blk] at hx
  | some p =>
    subst hT
    obtain ⟨g3, hg3⟩ := X3.out.shape (by omega)
    simp at hg3
    subst hg3
    simp [blk] at hx
    exact ValRow.unlike X2.out X3.out (by decide) hx
theorem refSet_out (wb lo : Nat) (S : List Nat) (m : Nat) (V : Nat → Value) (T : Nat → Bool) (i : Int) (a : Option Addr) (n c : Nat) (w : World) (H : RefS wb lo S m V T w) (hb : isB m T i = false) :
    Calls Try.prog 45 #[.pointer (some ⟨wb, 0, none⟩), .int .i64 i, .slice a n c] w (RefP wb lo S m V T (.bool false) w) := by
  have HH := Lib.hid H
  have HB := Lib.hid hb
  clear H hb
  go_enter Try.func45, Try.ntmps45
  go_wp2_with fail
  refine (refIs_any _ _ _ _ _ _ _ false HB.out _ HH.out).mono ?_
  rintro e w1 ⟨rfl, k1⟩
  go_wp2_with fail
  go_ret
  exact ⟨rfl, S, HH.out.keeps k1 (by simp), k1.mono (by simp), fun x hx => .inl hx⟩
end Go.Proofs.Ytompihlckpjbkaa
