/- Slots of int: what each call does (chapter 11). -/
import Derived.Test.YtompihlckpjbkaaSlotHeap3
namespace Go.Proofs.Ytompihlckpjbkaa.SI
open Go.RowKit
set_option linter.unusedVariables false

abbrev TY : TypeId := 34
/-- Slots in memory: m of them, what they have, which are taken, and the heap of the free ones; S: the blocks on which they stand. -/
def SlotsAt (sb lo : Nat) (S : List Nat) (m n : Nat) (V : Nat → Value) (T : Nat → Bool) (F : Nat → Nat) (w : World) : Prop :=
  ∃ la lc ta tc fa fc, w.heap[sb]? = some (.cells #[.slice la m lc, .slice ta m tc, .slice fa n fc] 34 (0, 0)) ∧ ValRow 3 lo la m lc V w ∧ ValRow 4 lo ta m tc (flagV T) w ∧ ValRow 3 lo fa n fc (numV F) w ∧ (∀ x, x ∈ blk la → x ∉ blk fa) ∧ lo ≤ sb ∧ S = sb :: (blk la ++ (blk ta ++ blk fa))
theorem SlotsAt.keeps {sb lo : Nat} {S S' : List Nat} {m n : Nat} {V : Nat → Value} {T : Nat → Bool} {F : Nat → Nat} {w w' : World} (h : SlotsAt sb lo S m n V T F w) (k : Keeps S' w w') (hd : ∀ x, x ∈ S → x ∉ S') : SlotsAt sb lo S m n V T F w' := by
  obtain ⟨la, lc, ta, tc, fa, fc, h1, h2, h3, h4, h5, h6, rfl⟩ := h
  exact ⟨la, lc, ta, tc, fa, fc, k.has h1 (hd _ (by simp)), h2.keeps k (fun x hx => hd x (by simp [hx])), h3.keeps k (fun x hx => hd x (by simp [hx])), h4.keeps k (fun x hx => hd x (by simp [hx])), h5, h6, rfl⟩
theorem SlotsAt.foot {sb lo : Nat} {S : List Nat} {m n : Nat} {V : Nat → Value} {T : Nat → Bool} {F : Nat → Nat} {w : World} (h : SlotsAt sb lo S m n V T F w) : ∀ x, x ∈ S → lo ≤ x ∧ x < w.heap.size := by
  obtain ⟨la, lc, ta, tc, fa, fc, h1, h2, h3, h4, h5, h6, rfl⟩ := h
  intro x hx
  simp at hx
  rcases hx with rfl | hx | hx | hx
  · exact ⟨h6, lt_of_block h1⟩
  · exact h2.blk_lt x hx
  · exact h3.blk_lt x hx
  · exact h4.blk_lt x hx
/-- Behind a call that leaves slots of some shape. -/
def SlotP (sb lo : Nat) (S : List Nat) (m n : Nat) (V : Nat → Value) (T : Nat → Bool) (F : Nat → Nat) (v : Value) (w : World) (e : Ending) (w' : World) : Prop :=
  e = .returned v ∧ ∃ S', SlotsAt sb lo S' m n V T F w' ∧ Keeps S w w' ∧ ∀ x, x ∈ S' → x ∈ S ∨ w.heap.size ≤ x

theorem new_any (w : World) : Calls Try.prog 13 #[] w fun e w' => e = .returned (.pointer (some ⟨w.heap.size, 0, none⟩)) ∧ w.alloc (.cells #[.slice none 0 0, .slice none 0 0, .slice none 0 0] 34) = w' := by
  go_enter Try.func13, Try.ntmps13
  go_wp2_with fail
  go_ret
  exact ⟨rfl, rfl⟩
theorem slots_new (w : World) (lo : Nat) (hl : lo ≤ w.heap.size) (V : Nat → Value) (T : Nat → Bool) (F : Nat → Nat) : SlotsAt w.heap.size lo [w.heap.size] 0 0 V T F (w.alloc (.cells #[.slice none 0 0, .slice none 0 0, .slice none 0 0] 34)) :=
  ⟨none, 0, none, 0, none, 0, has_new _ _, ValRow.nil _ _ _ _, ValRow.nil _ _ _ _, ValRow.nil _ _ _ _, by simp [blk], hl, by simp [blk]⟩

theorem len_any (sb lo : Nat) (S : List Nat) (m n : Nat) (V : Nat → Value) (T : Nat → Bool) (F : Nat → Nat) (w : World) (H : SlotsAt sb lo S m n V T F w) (hm : m ≤ 90000) (hn : n ≤ m) :
    Calls Try.prog 16 #[.pointer (some ⟨sb, 0, none⟩)] w fun e w' => e = .returned (.int .i64 ((m - n : Nat) : Int)) ∧ Keeps [] w w' := by
  obtain ⟨la, lc, ta, tc, fa, fc, h1, h2, h3, h4, h5, h6, hS⟩ := H
  have c0 := cell_has h1 (i := 0) rfl
  have c2 := cell_has h1 (i := 2) rfl
  have m1 : (m : Int) ≤ 90000 := by omega
  have n1 : (n : Int) ≤ (m : Int) := by omega
  have hv : Hid (((m - n : Nat) : Int) = (m : Int) - (n : Int)) := Lib.hid (by omega)
  rw [hv.out]
  clear h1 h2 h3 h4 h5 hS
  go_enter Try.func16, Try.ntmps16
  go_wp2_with fail
  go_quiet (fail)
  go_wp2_with fail
  go_ret
  exact ⟨rfl, (Keeps.refl _ _).drewN _⟩
theorem high_any (sb lo : Nat) (S : List Nat) (m n : Nat) (V : Nat → Value) (T : Nat → Bool) (F : Nat → Nat) (w : World) (H : SlotsAt sb lo S m n V T F w) :
    Calls Try.prog 15 #[.pointer (some ⟨sb, 0, none⟩)] w fun e w' => e = .returned (.int .i64 m) ∧ w = w' := by
  obtain ⟨la, lc, ta, tc, fa, fc, h1, h2, h3, h4, h5, h6, hS⟩ := H
  have c0 := cell_has h1 (i := 0) rfl
  clear h1 h2 h3 h4 h5 hS
  go_enter Try.func15, Try.ntmps15
  go_wp2_with fail
  go_ret
  exact ⟨rfl, rfl⟩

theorem has_any (sb lo : Nat) (S : List Nat) (m n : Nat) (V : Nat → Value) (T : Nat → Bool) (F : Nat → Nat) (i : Int) (b : Bool) (hb : isB m T i = b) (w : World) (H : SlotsAt sb lo S m n V T F w) :
    Calls Try.prog 40 #[.pointer (some ⟨sb, 0, none⟩), .int .i64 i] w fun e w' => e = .returned (.bool b) ∧ Keeps [] w w' := by
  obtain ⟨la, lc, ta, tc, fa, fc, h1, h2, h3, h4, h5, h6, hS⟩ := H
  have c0 := cell_has h1 (i := 0) rfl
  have c1 := cell_has h1 (i := 1) rfl
  by_cases h0 : 0 ≤ i
  · by_cases hm : i < m
    · obtain ⟨g, rfl⟩ := h3.shape (by omega)
      have c2 := h3.cell (k := i.toNat) (by omega)
      have hT : T i.toNat = b := by simpa [isB, h0, hm] using hb
      rw [show flagV T i.toNat = .bool b by simp [flagV, hT]] at c2
      have d1 : decide (0 ≤ i) = true := by simpa using h0
      have d2 : decide (i < m) = true := by simpa using hm
      clear h1 h2 h3 h4 h5 hS hb hT
      go_enter Try.func40, Try.ntmps40
      go_wp2_with fail
      go_ret
      exact ⟨rfl, Keeps.refl _ _⟩
    · have hT : false = b := by simpa [isB, h0, hm] using hb
      subst hT
      have d1 : decide (0 ≤ i) = true := by simpa using h0
      have d2 : decide (i < m) = false := by simpa using hm
      clear h1 h2 h3 h4 h5 hS hb
      go_enter Try.func40, Try.ntmps40
      go_wp2_with fail
      go_ret
      exact ⟨rfl, Keeps.refl _ _⟩
  · have hT : false = b := by simpa [isB, h0] using hb
    subst hT
    have d1 : decide (0 ≤ i) = false := by simpa using h0
    clear h1 h2 h3 h4 h5 hS hb
    go_enter Try.func40, Try.ntmps40
    go_wp2_with fail
    go_ret
    exact ⟨rfl, Keeps.refl _ _⟩

theorem get_in (sb lo : Nat) (S : List Nat) (m n : Nat) (V : Nat → Value) (T : Nat → Bool) (F : Nat → Nat) (i : Int) (v : Value) (w : World) (H : SlotsAt sb lo S m n V T F w) (hb : isB m T i = true) (hv : Hid (V i.toNat = v)) :
    Calls Try.prog 22 #[.pointer (some ⟨sb, 0, none⟩), .int .i64 i] w fun e w' => e = .returned (.tuple #[v, .bool true]) ∧ Keeps [] w w' := by
  have HH := Lib.hid H
  have HB := Lib.hid hb
  have h0 : 0 ≤ i ∧ i < m := by simp [isB] at hb; omega
  obtain ⟨g0, g1⟩ := h0
  clear H hb
  go_enter Try.func22, Try.ntmps22
  go_wp2_with fail
  refine (has_any _ _ _ _ _ _ _ _ _ true HB.out _ HH.out).mono ?_
  rintro e w1 ⟨rfl, k1⟩
  obtain ⟨la, lc, ta, tc, fa, fc, h1, h2, h3, h4, h5, h6, hS⟩ := HH.out.keeps k1 (by simp)
  obtain ⟨g, rfl⟩ := h2.shape (by omega)
  have c0 := cell_has h1 (i := 0) rfl
  have c2 := h2.cell (k := i.toNat) (by omega)
  rw [hv.out] at c2
  have K1 := Lib.hid k1
  clear h1 h2 h3 h4 h5 hS k1
  go_wp2_with fail
  go_ret2
  exact ⟨rfl, K1.out⟩
theorem get_out (sb lo : Nat) (S : List Nat) (m n : Nat) (V : Nat → Value) (T : Nat → Bool) (F : Nat → Nat) (i : Int) (w : World) (H : SlotsAt sb lo S m n V T F w) (hb : isB m T i = false) :
    Calls Try.prog 22 #[.pointer (some ⟨sb, 0, none⟩), .int .i64 i] w fun e w' => e = .returned (.tuple #[.int .i64 0, .bool false]) ∧ Keeps [] w w' := by
  have HH := Lib.hid H
  have HB := Lib.hid hb
  clear H hb
  go_enter Try.func22, Try.ntmps22
  go_wp2_with fail
  refine (has_any _ _ _ _ _ _ _ _ _ false HB.out _ HH.out).mono ?_
  rintro e w1 ⟨rfl, k1⟩
  go_wp2_with fail
  go_ret2
  exact ⟨rfl, k1.alloc _⟩
end Go.Proofs.Ytompihlckpjbkaa.SI
