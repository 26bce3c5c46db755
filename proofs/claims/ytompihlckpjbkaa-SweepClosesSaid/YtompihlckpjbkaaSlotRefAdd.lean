/- The document's slots: Add (chapter 11). -/
import Derived.Test.YtompihlckpjbkaaSlotRef2
import Derived.Deep.DeepMust
namespace Go.Proofs.Ytompihlckpjbkaa
open Go.RowKit
set_option linter.unusedVariables false

/-- An append to a row keeps all but that row. -/
theorem grown_keeps {w w1 : World} {a : Option Addr} {m c : Nat} {o : Obj} (hg : (w.alloc o).grownBy w1 (Value.slice a m c).ownBlock) : Keeps (blk a) w w1 :=
  ⟨hg.os, hg.tape, hg.output, by have := hg.size; simp at this; omega, fun k hk hs => (hg.block k (by simp; omega) (fun e => hs (blk_own a m c k e.symm))).trans (Below.heap_alloc _ _ _ hk)⟩
theorem lies_in {a : Option Addr} {m c g H h : Nat} (hat : (Value.slice a m c).ownBlock = some g ∨ g = H) (hh : h ≤ H) : g ∈ blk a ∨ h ≤ g := by
  rcases hat with h1 | h1
  · exact .inl (blk_own a m c g h1)
  · exact .inr (by omega)

theorem cell_one_set (w : World) (p : Addr) (u x : Value) (t : TypeId) : ∀ j y, [x][j]? = some y → ((w.setCell p u).alloc (.cells #[x] t)).cell? ((⟨w.heap.size, 0, none⟩ : Addr).add j) = some y := by
  have := cell_one_new (w.setCell p u) x t
  simpa using this

set_option maxRecDepth 100000 in
theorem refAdd_old (wb lo : Nat) (S : List Nat) (m : Nat) (V : Nat → Value) (T : Nat → Bool) (i0 : Nat) (a : Option Addr) (n c : Nat) (w : World) (H : RefS wb lo S m V T w) (hm : m ≤ 100000) (hlow : ∀ j, j < i0 → T j = true) (hi : i0 < m) (hT : T i0 = false) :
    Calls Try.prog 42 #[.pointer (some ⟨wb, 0, none⟩), .slice a n c] w (RefP wb lo S m (putV V i0 (.slice a n c)) (putB T i0 true) (.int .i64 i0) w) := by
  have HH := Lib.hid H
  have HL := Lib.hid hlow
  have HT := Lib.hid hT
  have hm' : (m : Int) ≤ 100000 := by omega
  clear H hlow hT
  go_enter Try.func42, Try.ntmps42
  go_wp2_with fail
  go_loopw [5] (fun i wr => ∃ k : Nat, k ≤ i0 ∧ i = .int .i64 k ∧ Keeps [] w wr) (fun i _ => m - (intOf i).toNat)
  case atStart => exact ⟨0, by omega, rfl, Keeps.refl _ _⟩
  case round =>
    obtain ⟨k, hk, rfl, hkp⟩ := hrel
    have HK := Lib.hid hkp
    obtain ⟨g, q, Lc, Tc, h1, h2, h3, h4, hS, n1, n2, n3⟩ := (HH.out.keeps hkp (by simp)).apart (by omega)
    have c0 := cell_has h1 (i := 0) rfl
    have c1 := cell_has h1 (i := 1) rfl
    have c2 := h2.cell (k := k) (by omega)
    have c3 := h3.cell (k := k) (by omega)
    have k0 : (0 : Int) ≤ (k : Int) := by omega
    have k1 : (k : Int) < (m : Int) := by omega
    have X1 := Lib.hid h1
    have X2 := Lib.hid h2
    have X3 := Lib.hid h3
    have X4 := Lib.hid (And.intro h4 hS)
    have f2 := h2.free k
    have f3 := h3.free k
    clear hkp h1 h2 h3 h4 hS
    obtain ⟨y, hy⟩ := ex_hid (V k)
    rw [← hy.out] at c2
    by_cases hlt : k < i0
    · rw [show flagV T k = .bool true by simp [flagV, HL.out k hlt]] at c3
      go_wp2_with fail
      go_roundw
      case rel => exact ⟨k + 1, by omega, by go_num, HK.out⟩
      case measure => simp [intOf]; omega
    · obtain rfl : k = i0 := by omega
      rw [show flagV T k = .bool false by simp [flagV, HT.out]] at c3
      have n3' : q ≠ g := fun e => n3 e.symm
      go_wp2_with fail
      go_ret
      refine ⟨rfl, S, ⟨_, Lc, _, Tc, has_setCell_other (has_setCell_other X1.out (by simpa using n1) _) (by simpa using n2) _, ?_, ?_, X4.out.1, X4.out.2⟩, ((HK.out.mono (by simp)).setCell (.inr (by rw [X4.out.2]; simp)) _).setCell (.inr (by rw [X4.out.2]; simp)) _, fun x hx => .inl hx⟩
      · refine (X2.out.put k _).keeps (S := [q]) ((Keeps.refl _ _).setCell (.inr (by simp)) _) ?_
        intro x hx; simp [blk] at hx; subst hx; simpa using n3
      · rw [← flagV_put]
        refine ValRow.put (X3.out.keeps (S := [g]) ((Keeps.refl _ _).setCell (.inr (by simp)) _) ?_) _ _
        intro x hx; simp [blk] at hx; subst hx; simpa using n3'

set_option maxRecDepth 100000 in
set_option maxHeartbeats 1000000 in
theorem refAdd_new (wb lo : Nat) (S : List Nat) (m : Nat) (V : Nat → Value) (T : Nat → Bool) (a : Option Addr) (n c : Nat) (w : World) (H : RefS wb lo S m V T w) (hm : m ≤ 100000) (hlow : ∀ j, j < m → T j = true) :
    Calls Try.prog 42 #[.pointer (some ⟨wb, 0, none⟩), .slice a n c] w (RefP wb lo S (m + 1) (putV V m (.slice a n c)) (putB T m true) (.int .i64 m) w) := by
  obtain ⟨i0, hi, hz0, hz1, hz2⟩ := info_parts infoS
  have HI := Lib.hid (And.intro hi (And.intro hz0 (And.intro hz1 hz2)))
  clear hi hz0 hz1 hz2
  obtain ⟨j0, hi, hz0, hz1, hz2⟩ := info_parts infoB
  have HJ := Lib.hid (And.intro hi (And.intro hz0 (And.intro hz1 hz2)))
  clear hi hz0 hz1 hz2
  have HH := Lib.hid H
  have HL := Lib.hid hlow
  have hm' : (m : Int) ≤ 100000 := by omega
  have hlo : lo ≤ w.heap.size := by obtain ⟨_, _, _, _, h1, _, _, h4, _⟩ := H; have := lt_of_block h1; omega
  clear H hlow
  go_enter Try.func42, Try.ntmps42
  go_wp2_with fail
  go_loopw [5] (fun i wr => ∃ k : Nat, k ≤ m ∧ i = .int .i64 k ∧ Keeps [] w wr) (fun i _ => m - (intOf i).toNat)
  case atStart => exact ⟨0, by omega, rfl, Keeps.refl _ _⟩
  case round =>
    obtain ⟨k, hk, rfl, hkp⟩ := hrel
    have HK := Lib.hid hkp
    have k0 : (0 : Int) ≤ (k : Int) := by omega
    by_cases hlt : k < m
    · obtain ⟨g, q, Lc, Tc, h1, h2, h3, h4, hS, n1, n2, n3⟩ := (HH.out.keeps hkp (by simp)).apart (by omega)
      have c0 := cell_has h1 (i := 0) rfl
      have c1 := cell_has h1 (i := 1) rfl
      have c3 := h3.cell (k := k) (by omega)
      have k1 : (k : Int) < (m : Int) := by omega
      rw [show flagV T k = .bool true by simp [flagV, HL.out k hlt]] at c3
      clear hkp h1 h2 h3 h4 hS
      go_wp2_with fail
      go_roundw
      case rel => exact ⟨k + 1, by omega, by go_num, HK.out⟩
      case measure => simp [intOf]; omega
    · obtain rfl : k = m := by omega
      have hkk : ¬ (k : Int) < (k : Int) := by omega
      obtain ⟨La, Lc, Ta, Tc, h1, h2, h3, h4, hS⟩ := HH.out.keeps hkp (by simp)
      have c0 := cell_has h1 (i := 0) rfl
      have c1 := cell_has h1 (i := 1) rfl
      have f0 := free_of_has h1 0
      have f1 := free_of_has h1 1
      have zb := lt_of_block h1
      have hll : lo ≤ wr.heap.size := by have := hkp.size; omega
      have nwb := Lib.hid (And.intro (h2.notin h1 (by decide)) (h3.notin h1 (by decide)))
      have nLT := Lib.hid (h3.disj h2 (by decide))
      have X1 := Lib.hid h1
      have X2 := Lib.hid h2
      have X3 := Lib.hid h3
      have X4 := Lib.hid (And.intro h4 hS)
      have q3 : k + 1 ≤ maxLen := by unfold maxLen; omega
      have q4 : (k + 1) * 24 ≤ 140737488355328 := by omega
      have q4' : (k + 1) * 1 ≤ 140737488355328 := by omega
      have q5 : lo ≤ wr.heap.size + 1 := by omega
      have G := Lib.hid (And.intro q3 (And.intro q4 (And.intro q4' q5)))
      clear hkp h1 h2 h3 h4 hS q3 q4 q4' q5
      go_wp2_with (first
        | (at_builtin; refine wpList_append_lies _ rfl _ _ 36 rfl lo 22 i0 (.slice none 0 0) 1 24 Try.underlying36 HI.out.1 HI.out.2.1 HI.out.2.2.1 HI.out.2.2.2 rfl (by decide) _ k (valR k V) rfl (World.ownsRow.alloc X2.out _) ⟨wr.heap.size, 0, none⟩ 1 1 [_] rfl rfl (cell_one_new _ _ _) (by intro u hu; simp at hu; subst hu; rfl) (by decide) G.out.1 G.out.2.1 (by simpa using G.out.2.2.2) (wr.heap.size + 1) (by simp) ?_; intro g cap' w1 hown hgrow hat hlt1; have K1 := grown_keeps hgrow; have B1 := K1.has X1.out nwb.out.1; have c0' := cell_has B1 (i := 0) rfl; have c1' := cell_has B1 (i := 1) rfl; have f0' := free_of_has B1 0; have zb1 := lt_of_block B1; have Y1 := Lib.hid K1; have Y2 := Lib.hid (ValRow.of_append hown); have Y3 := Lib.hid (lies_in (h := wr.heap.size) hat (by omega)); have B2 := Lib.hid (has_setCell B1 0 (.slice (some ⟨g, 0, none⟩) (k + 1) cap')); have Y4 := Lib.hid ((X3.out.keeps K1 nLT.out).keeps (S := [wb]) ((Keeps.refl _ _).setCell (p := ⟨wb, 0, none⟩) (.inr (by simp)) (.slice (some ⟨g, 0, none⟩) (k + 1) cap')) (by intro x hx hy; simp at hy; subst hy; exact nwb.out.2 hx)); have z1 := Lib.hid (show lo ≤ w1.heap.size by have := K1.size; omega); clear hgrow hown hat K1 B1)
        | (at_builtin; refine wpList_append_lies _ rfl _ _ 26 rfl lo 4 j0 (.bool false) 1 1 Try.underlying26 HJ.out.1 HJ.out.2.1 HJ.out.2.2.1 HJ.out.2.2.2 rfl (by decide) _ k (valR k (flagV T)) rfl (World.ownsRow.alloc Y4.out _) ⟨w1.heap.size, 0, none⟩ 1 1 [_] rfl rfl (cell_one_set _ _ _ _ _) (by intro u hu; simp at hu; subst hu; rfl) (by decide) G.out.1 G.out.2.2.1 (by have := z1.out; simp; omega) (w1.heap.size + 1) (by simp) ?_; intro g2 cap2 w2 hown hgrow hat hlt2; have K2 := grown_keeps hgrow; have B3 := K2.has B2.out nwb.out.2; have c0'' := cell_has B3 (i := 0) rfl; have c1'' := cell_has B3 (i := 1) rfl; have f1'' := free_of_has B3 1; have zb2 := lt_of_block B3; have Y5 := Lib.hid K2; have Y6 := Lib.hid (ValRow.of_append hown); have Y7 := Lib.hid (lies_in (h := w1.heap.size) hat (by omega)); have B3' := Lib.hid B3; clear hgrow hown hat K2 B3 c0' c1' f0'))
      go_ret
      have Z2 := (Y2.out.keeps (S := [wb]) ((Keeps.refl _ _).setCell (p := ⟨wb, 0, none⟩) (.inr (by simp)) (.slice (some ⟨g, 0, none⟩) (k + 1) cap')) (by intro x hx hy; simp at hy; subst hy; exact Y2.out.notin (Y1.out.has X1.out nwb.out.1) (by decide) hx)).keeps Y5.out (Y2.out.keeps (S := [wb]) ((Keeps.refl _ _).setCell (p := ⟨wb, 0, none⟩) (.inr (by simp)) (.slice (some ⟨g, 0, none⟩) (k + 1) cap')) (by intro x hx hy; simp at hy; subst hy; exact Y2.out.notin (Y1.out.has X1.out nwb.out.1) (by decide) hx) |>.disj Y4.out (by decide))
      have hsz := Y1.out.size
      have hwr := HK.out.size
      refine ⟨rfl, wb :: ([g] ++ [g2]), ⟨some ⟨g, 0, none⟩, cap', some ⟨g2, 0, none⟩, cap2, has_setCell B3'.out 1 _, Z2.keeps (S := [wb]) ((Keeps.refl _ _).setCell (.inr (by simp)) _) ?_, ?_, X4.out.1, rfl⟩, ?_, ?_⟩
      · intro x hx hy; simp at hy; subst hy; exact Z2.notin B3'.out (by decide) hx
      · rw [← flagV_put]
        refine Y6.out.keeps (S := [wb]) ((Keeps.refl _ _).setCell (.inr (by simp)) _) ?_
        intro x hx hy; simp at hy; subst hy; exact Y6.out.notin B3'.out (by decide) hx
      · rw [X4.out.2]
        exact ((((HK.out.mono (by simp)).trans (Y1.out.mono (by intro x hx; simp [hx]))).setCell (.inr (by simp)) _).trans (Y5.out.mono (by intro x hx; simp [hx]))).setCell (.inr (by simp)) _
      · intro x hx
        rw [X4.out.2]
        simp at hx
        rcases hx with rfl | rfl | rfl
        · exact .inl (by simp)
        · rcases Y3.out with h | h
          · exact .inl (by simp [h])
          · exact .inr (by omega)
        · rcases Y7.out with h | h
          · exact .inl (by simp [h])
          · exact .inr (by omega)
end Go.Proofs.Ytompihlckpjbkaa
