/- The document's slots: Free, Add, All (chapter 11). -/
import Derived.Test.YtompihlckpjbkaaSlotRef
import Derived.Outline
namespace Go.Proofs.Ytompihlckpjbkaa
open Go.RowKit
set_option linter.unusedVariables false

/-- The parts of slots that lie apart. -/
theorem RefS.apart {wb lo : Nat} {S : List Nat} {m : Nat} {V : Nat → Value} {T : Nat → Bool} {w : World} (h : RefS wb lo S m V T w) (hm : 0 < m) :
    ∃ g h' Lc Tc, w.heap[wb]? = some (.cells #[.slice (some ⟨g, 0, none⟩) m Lc, .slice (some ⟨h', 0, none⟩) m Tc] 38 (0, 0)) ∧ ValRow 22 lo (some ⟨g, 0, none⟩) m Lc V w ∧ ValRow 4 lo (some ⟨h', 0, none⟩) m Tc (flagV T) w ∧ lo ≤ wb ∧ S = [wb, g, h'] ∧ wb ≠ g ∧ wb ≠ h' ∧ g ≠ h' := by
  obtain ⟨La, Lc, Ta, Tc, h1, h2, h3, h4, hS⟩ := h
  obtain ⟨g, rfl⟩ := h2.shape hm
  obtain ⟨q, rfl⟩ := h3.shape hm
  refine ⟨g, q, Lc, Tc, h1, h2, h3, h4, by rw [hS]; rfl, ?_, ?_, h2.unlike h3 (by decide)⟩
  · rintro rfl
    rcases h2.2 with ⟨q, _⟩ | ⟨g1, cap, cur, a1, a2, a3, _⟩
    · simp at q
    · simp at a1; rw [← a1.1, h1] at a3; simp at a3
  · rintro rfl
    rcases h3.2 with ⟨q, _⟩ | ⟨g1, cap, cur, a1, a2, a3, _⟩
    · simp at q
    · simp at a1; rw [← a1.1, h1] at a3; simp at a3

set_option maxRecDepth 100000 in
theorem refFree_in (wb lo : Nat) (S : List Nat) (m : Nat) (V : Nat → Value) (T : Nat → Bool) (i : Int) (w : World) (H : RefS wb lo S m V T w) (hb : isB m T i = true) :
    Calls Try.prog 46 #[.pointer (some ⟨wb, 0, none⟩), .int .i64 i] w (RefP wb lo S m (putV V i.toNat (.slice none 0 0)) (putB T i.toNat false) (.bool true) w) := by
  have HH := Lib.hid H
  have HB := Lib.hid hb
  have h0 : 0 ≤ i ∧ i < m := by simp [isB] at hb; omega
  obtain ⟨g0, g1⟩ := h0
  clear H hb
  go_enter Try.func46, Try.ntmps46
  go_wp2_with fail
  refine (refIs_any _ _ _ _ _ _ _ true HB.out _ HH.out).mono ?_
  rintro e w1 ⟨rfl, k1⟩
  obtain ⟨g, q, Lc, Tc, h1, h2, h3, h4, hS, n1, n2, n3⟩ := (HH.out.keeps k1 (by simp)).apart (by omega)
  have c0 := cell_has h1 (i := 0) rfl
  have c1 := cell_has h1 (i := 1) rfl
  have c2 := h2.cell (k := i.toNat) (by omega)
  have c3 := h3.cell (k := i.toNat) (by omega)
  obtain ⟨y, hy⟩ := ex_hid (V i.toNat)
  rw [← hy.out] at c2
  obtain ⟨z, hz⟩ := ex_hid (flagV T i.toNat)
  rw [← hz.out] at c3
  have f2 := h2.free i.toNat
  have f3 := h3.free i.toNat
  have n3' : q ≠ g := fun e => n3 e.symm
  have K1 := Lib.hid k1
  have X1 := Lib.hid h1
  have X2 := Lib.hid h2
  have X3 := Lib.hid h3
  have X4 := Lib.hid (And.intro h4 hS)
  have X5 := Lib.hid (And.intro n1 (And.intro n2 n3))
  clear h1 h2 h3 h4 hS k1
  go_wp2_with fail
  go_ret
  refine ⟨rfl, S, ⟨_, Lc, _, Tc, has_setCell_other (has_setCell_other X1.out (by simpa using n1) _) (by simpa using n2) _, ?_, ?_, X4.out.1, X4.out.2⟩, ((K1.out.mono (by simp)).setCell (.inr (by rw [X4.out.2]; simp)) _).setCell (.inr (by rw [X4.out.2]; simp)) _, fun x hx => .inl hx⟩
  · refine (X2.out.put i.toNat (.slice none 0 0)).keeps (S := [q]) ((Keeps.refl _ _).setCell (.inr (by simp)) _) ?_
    intro x hx; simp [blk] at hx; subst hx; simpa using n3
  · rw [← flagV_put]
    refine ValRow.put (X3.out.keeps (S := [g]) ((Keeps.refl _ _).setCell (.inr (by simp)) _) ?_) _ _
    intro x hx; simp [blk] at hx; subst hx; simpa using n3'
theorem refFree_out (wb lo : Nat) (S : List Nat) (m : Nat) (V : Nat → Value) (T : Nat → Bool) (i : Int) (w : World) (H : RefS wb lo S m V T w) (hb : isB m T i = false) :
    Calls Try.prog 46 #[.pointer (some ⟨wb, 0, none⟩), .int .i64 i] w (RefP wb lo S m V T (.bool false) w) := by
  have HH := Lib.hid H
  have HB := Lib.hid hb
  clear H hb
  go_enter Try.func46, Try.ntmps46
  go_wp2_with fail
  refine (refIs_any _ _ _ _ _ _ _ false HB.out _ HH.out).mono ?_
  rintro e w1 ⟨rfl, k1⟩
  go_wp2_with fail
  go_ret
  exact ⟨rfl, S, HH.out.keeps k1 (by simp), k1.mono (by simp), fun x hx => .inl hx⟩

theorem infoI : (Try.prog.info? 3).map (fun i => (i.zero, i.size, i.bytes)) = some (some (.int .i64 0), 1, 8) := by kernel_rfl
theorem infoB : (Try.prog.info? 4).map (fun i => (i.zero, i.size, i.bytes)) = some (some (.bool false), 1, 1) := by kernel_rfl
theorem infoS : (Try.prog.info? 22).map (fun i => (i.zero, i.size, i.bytes)) = some (some (.slice none 0 0), 1, 24) := by kernel_rfl

/-- The numbers of the taken slots. -/
def idxL (T : Nat → Bool) : Nat → List Nat
  | 0 => []
  | m + 1 => idxL T m ++ if T m then [m] else []
theorem idxL_len (T : Nat → Bool) (m : Nat) : (idxL T m).length = cntT T m := by
  induction m with
  | zero => rfl
  | succ m ih => simp only [idxL, cntT, List.length_append, ih]; split <;> rfl
def intsL (l : List Nat) : List Value := l.map fun x : Nat => Value.int .i64 (x : Int)

/-- Behind All. -/
def RefAllC (T : Nat → Bool) (m : Nat) (w : World) (e : Ending) (w' : World) : Prop :=
  ∃ a cap, e = .returned (.slice a (cntT T m) cap) ∧ w'.ownsRow w.heap.size 3 1 (.slice a (cntT T m) cap) (cntT T m) (intsL (idxL T m)) ∧ Below w.heap.size w w'

set_option maxRecDepth 100000 in
set_option maxHeartbeats 1000000 in
theorem refAll_any (wb lo : Nat) (S : List Nat) (m : Nat) (V : Nat → Value) (T : Nat → Bool) (hm : m ≤ 100000) (w : World) (H : RefS wb lo S m V T w) :
    Calls Try.prog 19 #[.pointer (some ⟨wb, 0, none⟩)] w (RefAllC T m w) := by
  obtain ⟨i0, hi, hz0, hz1, hz2⟩ := info_parts infoI
  have HI := Lib.hid (And.intro hi (And.intro hz0 (And.intro hz1 hz2)))
  clear hi hz0 hz1 hz2
  have HH := Lib.hid H
  have hm' : (m : Int) ≤ 100000 := by omega
  have hO : Hid (w.ownsRow w.heap.size 3 1 (.slice none 0 0) 0 (intsL (idxL T 0))) := Lib.hid (World.ownsRow_nil _ _ _ _)
  clear H
  go_enter Try.func19, Try.ntmps19
  go_wp2_with fail
  go_loopw [3, 4] (fun out i wr => ∃ (k : Nat) (a : Option Addr) (cap : Nat), k ≤ m ∧ i = .int .i64 k ∧ out = .slice a (cntT T k) cap ∧ wr.ownsRow w.heap.size 3 1 (.slice a (cntT T k) cap) (cntT T k) (intsL (idxL T k)) ∧ Below w.heap.size w wr) (fun _ i _ => m - (intOf i).toNat)
  case atStart => exact ⟨0, _, _, by omega, rfl, rfl, hO.out, Below.refl _ _⟩
  case round =>
    obtain ⟨k, a, cap, hk, rfl, rfl, hO, hb⟩ := hrel
    have HO := Lib.hid hO
    have HB := Lib.hid hb
    obtain ⟨La, Lc, Ta, Tc, h1, h2, h3, h4, hS⟩ := HH.out.keeps (Below.keeps hb []) (by simp)
    have c0 := cell_has h1 (i := 0) rfl
    have k0 : (0 : Int) ≤ (k : Int) := by omega
    clear hO hb
    by_cases hlt : k < m
    · obtain ⟨q, rfl⟩ := h3.shape (by omega)
      have hlt' : (k : Int) < (m : Int) := by omega
      have c1 := cell_has h1 (i := 1) rfl
      have c3 := h3.cell hlt
      have hcl := cntT_le T k
      by_cases hT : T k = true
      · rw [show flagV T k = .bool true by simp [flagV, hT]] at c3
        have HT := Lib.hid hT
        clear h1 h2 h3 h4 hS hT
        have q3 : cntT T k + 1 ≤ maxLen := by unfold maxLen; omega
        have q4 : (cntT T k + 1) * 8 ≤ 140737488355328 := by omega
        have q5 : w.heap.size ≤ wr.heap.size + 1 := by have := HB.out.size; omega
        have G := Lib.hid (And.intro q3 (And.intro q4 q5))
        clear q3 q4 q5
        go_wp2_with (at_builtin; refine wpList_append_lies _ rfl _ _ 22 rfl w.heap.size 3 i0 (.int .i64 0) 1 8 Try.underlying22 HI.out.1 HI.out.2.1 HI.out.2.2.1 HI.out.2.2.2 rfl (by decide) _ (cntT T k) (intsL (idxL T k)) rfl (HO.out.alloc _) ⟨wr.heap.size, 0, none⟩ 1 1 [_] rfl rfl (cell_one_new _ _ _) (by intro u hu; simp at hu; subst hu; rfl) (by decide) G.out.1 G.out.2.1 (by simpa using G.out.2.2) (wr.heap.size + 1) (by simp) ?_; intro g cap' w1 hown hgrow _ _; have K1 := Lib.hid (append_kept HO.out HB.out.size hgrow); have H1 := Lib.hid hown; clear hgrow hown)
        go_roundw
        case rel =>
          refine ⟨k + 1, some ⟨g, 0, none⟩, cap', by omega, by go_num, by simp [cntT, HT.out], ?_, HB.out.trans (K1.out.below (Nat.le_refl _) (by simp))⟩
          have := H1.out
          simp only [cntT, idxL, HT.out, if_true]
          simpa [intsL] using this
        case measure => simp [intOf]; omega
      · have hT' : T k = false := by simpa using hT
        rw [show flagV T k = .bool false by simp [flagV, hT']] at c3
        have HT := Lib.hid hT'
        clear h1 h2 h3 h4 hS hT hT'
        go_wp2_with fail
        go_roundw
        case rel =>
          refine ⟨k + 1, a, cap, by omega, by go_num, by simp [cntT, HT.out], ?_, HB.out⟩
          have := HO.out
          simp only [cntT, idxL, HT.out]
          simpa using this
        case measure => simp [intOf]; omega
    · have hke : k = m := by omega
      subst hke
      have hlt' : ¬ (k : Int) < (k : Int) := by omega
      clear h1 h2 h3 h4 hS
      go_wp2_with fail
      go_ret
      exact ⟨a, cap, rfl, HO.out, HB.out⟩
end Go.Proofs.Ytompihlckpjbkaa
