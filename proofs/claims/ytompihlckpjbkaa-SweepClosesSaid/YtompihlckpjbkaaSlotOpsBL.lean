/- Slots of []int: Set and Free (chapter 11). -/
import Derived.Test.YtompihlckpjbkaaSlotOpsL
import Derived.Lib.SliceRun
namespace Go.Proofs.Ytompihlckpjbkaa.SL
open Go.RowKit
set_option linter.unusedVariables false

/-- A row of l, of taken and of the free numbers lie apart. -/
theorem SlotsAt.parts {sb lo : Nat} {S : List Nat} {m n : Nat} {V : Nat → Value} {T : Nat → Bool} {F : Nat → Nat} {w : World} (h : SlotsAt sb lo S m n V T F w) (hm : 0 < m) :
    ∃ g lc q tc fa fc, w.heap[sb]? = some (.cells #[.slice (some ⟨g, 0, none⟩) m lc, .slice (some ⟨q, 0, none⟩) m tc, .slice fa n fc] 89 (0, 0)) ∧ ValRow 22 lo (some ⟨g, 0, none⟩) m lc V w ∧ ValRow 4 lo (some ⟨q, 0, none⟩) m tc (flagV T) w ∧ ValRow 3 lo fa n fc (numV F) w ∧ lo ≤ sb ∧ S = sb :: ([g] ++ ([q] ++ blk fa)) ∧ g ∉ blk fa ∧ q ∉ blk fa ∧ sb ∉ blk fa ∧ sb ≠ g ∧ sb ≠ q ∧ g ≠ q := by
  obtain ⟨la, lc, ta, tc, fa, fc, h1, h2, h3, h4, h5, h6, hS⟩ := h
  obtain ⟨g, rfl⟩ := h2.shape hm
  obtain ⟨q, rfl⟩ := h3.shape hm
  refine ⟨g, lc, q, tc, fa, fc, h1, h2, h3, h4, h6, hS, h5 g (by simp [blk]), h3.disj h4 (by decide) q (by simp [blk]), h4.notin h1 (by decide), ?_, ?_, h2.unlike h3 (by decide)⟩
  · rintro rfl; exact h2.notin h1 (by decide) (by simp [blk])
  · rintro rfl; exact h3.notin h1 (by decide) (by simp [blk])

theorem free_out (sb lo : Nat) (S : List Nat) (m n : Nat) (V : Nat → Value) (T : Nat → Bool) (F : Nat → Nat) (i : Int) (w : World) (H : SlotsAt sb lo S m n V T F w) (hb : isB m T i = false) :
    Calls Try.prog 51 #[.pointer (some ⟨sb, 0, none⟩), .int .i64 i] w (SlotP sb lo S m n V T F (.bool false) w) := by
  have HH := Lib.hid H
  have HB := Lib.hid hb
  clear H hb
  go_enter Try.func51, Try.ntmps51
  go_wp2_with fail
  refine (has_any _ _ _ _ _ _ _ _ _ false HB.out _ HH.out).mono ?_
  rintro e w1 ⟨rfl, k1⟩
  go_wp2_with fail
  go_ret
  exact ⟨rfl, S, HH.out.keeps k1 (by simp), k1.mono (by simp), fun x hx => .inl hx⟩

/-- Behind a Free that frees. -/
def FreedC (sb lo : Nat) (S : List Nat) (m n : Nat) (V : Nat → Value) (T : Nat → Bool) (F : Nat → Nat) (k : Nat) (w : World) (e : Ending) (w' : World) : Prop :=
  e = .returned (.bool true) ∧ ∃ S' G, SlotsAt sb lo S' m (n + 1) (putV V k (.slice none 0 0)) (putB T k false) G w' ∧ HeapOK (n + 1) G ∧ (∀ P, Enum n F P → ¬ P k → Enum (n + 1) G (fun y => P y ∨ y = k)) ∧ Keeps S w w' ∧ ∀ x, x ∈ S' → x ∈ S ∨ w.heap.size ≤ x
theorem zeroE (w : World) : (zeroValue 22).run Try.prog w = .ok (.slice none 0 0) w := by kernel_rfl

theorem clear_one (w : World) (g k : Nat) (v : Value) (hc : w.cell? ⟨g, k, none⟩ = some v) (hf : w.frozen? ⟨g, k, none⟩ = false) (ty : TypeId) (c : Nat) : (Builtin.clear_ #[36] ty #[.slice (some ⟨g, k, none⟩) 1 c]).run Try.prog w = .ok (.tuple #[]) (w.setCell ⟨g, k, none⟩ (.slice none 0 0)) :=
  Lib.run_clear_slice (P := Try.prog) w 36 22 ty (.slice none 0 0) Try.underlying36 zeroE rfl rfl g k 1 c (by omega) (fun j hj => by rw [show j = 0 by omega]; simp [hc]) (fun j hj => by rw [show j = 0 by omega]; simpa using hf)

set_option maxRecDepth 100000 in
theorem free_in (sb lo : Nat) (S : List Nat) (m n : Nat) (V : Nat → Value) (T : Nat → Bool) (F : Nat → Nat) (k : Nat) (i : Int) (hi : i = (k : Int)) (w : World) (H : SlotsAt sb lo S m n V T F w) (hb : isB m T i = true) (hm : m ≤ 80000) (hn : n ≤ m) (hK : HeapOK n F) :
    Calls Try.prog 51 #[.pointer (some ⟨sb, 0, none⟩), .int .i64 i] w (FreedC sb lo S m n V T F k w) := by
  subst hi
  have HH := Lib.hid H
  have HB := Lib.hid hb
  have HK := Lib.hid hK
  have g1' : k < m := by simp [isB] at hb; omega
  have g0 : (0 : Int) ≤ (k : Int) := by omega
  have g1 : (k : Int) < (m : Int) := by omega
  have m1 : (m : Int) ≤ 80000 := by omega
  clear H hb hK
  go_enter Try.func51, Try.ntmps51
  go_wp2_with fail
  refine (has_any _ _ _ _ _ _ _ _ _ true HB.out _ HH.out).mono ?_
  rintro e w1 ⟨rfl, k1⟩
  obtain ⟨g, lc, q, tc, fa, fc, h1, h2, h3, h4, h5, hS, n1, n2, n3, n4, n5, n6⟩ := (HH.out.keeps k1 (by simp)).parts (by omega)
  have c0 := cell_has h1 (i := 0) rfl
  have c1 := cell_has h1 (i := 1) rfl
  have c2 := h2.cell g1'
  have c3 := h3.cell g1'
  obtain ⟨z, hz⟩ := ex_hid (flagV T k)
  rw [← hz.out] at c3
  have f2 := h2.free k
  have f3 := h3.free k
  have hcap := h2.cap_le
  unfold maxLen at hcap
  obtain ⟨hcap1, hcap2⟩ := hcap
  have hcl := fun ty c => clear_one w1 g k (V k) c2 f2 ty c
  have K1 := Lib.hid k1
  have X := Lib.hid (And.intro h1 (And.intro h2 (And.intro h3 (And.intro h4 (And.intro h5 hS)))))
  clear h1 h2 h3 h4 h5 hS k1 c2
  go_wp2_with fail
  have hX := X.out
  obtain ⟨h1, h2, h3, h4, h5, hS⟩ := hX
  have ks : Keeps [g, q] w1 ((w1.setCell ⟨g, k, none⟩ (.slice none 0 0)).setCell ⟨q, k, none⟩ (.bool false)) := ((Keeps.refl _ _).setCell (.inr (by simp)) _).setCell (.inr (by simp)) _
  have r2 : ValRow 22 lo (some ⟨g, 0, none⟩) m lc (putV V k (.slice none 0 0)) ((w1.setCell ⟨g, k, none⟩ (.slice none 0 0)).setCell ⟨q, k, none⟩ (.bool false)) :=
    (h2.put k (.slice none 0 0)).keeps (S := [q]) ((Keeps.refl _ _).setCell (.inr (by simp)) _) (by simpa [blk] using n6)
  have r3 : ValRow 4 lo (some ⟨q, 0, none⟩) m tc (flagV (putB T k false)) ((w1.setCell ⟨g, k, none⟩ (.slice none 0 0)).setCell ⟨q, k, none⟩ (.bool false)) := by
    rw [← flagV_put]
    exact (h3.keeps (S := [g]) ((Keeps.refl _ _).setCell (.inr (by simp)) _) (by simp [blk]; exact fun e => n6 e.symm)).put _ _
  have hF0 : FreeAt 89 sb lo _ _ fa n fc F ((w1.setCell ⟨g, k, none⟩ (.slice none 0 0)).setCell ⟨q, k, none⟩ (.bool false)) :=
    ⟨ks.has h1 (by simp; exact ⟨n4, n5⟩), h4.keeps ks (fun x hx hy => by simp at hy; exact hy.elim (fun h => n1 (h ▸ hx)) (fun h => n2 (h ▸ hx)))⟩
  have KS := Lib.hid ks
  have R2 := Lib.hid r2
  have R3 := Lib.hid r3
  have F0 := Lib.hid hF0
  clear h1 h2 h3 h4 ks r2 r3 hF0
  refine (heapPush_any 89 (by decide) sb lo _ _ fa n fc F k _ F0.out (by omega) h5 HK.out).mono ?_
  rintro e w2 ⟨rfl, g', cap, G, hF, hOE, k2, hg'⟩
  have Y := Lib.hid (And.intro hF (And.intro hOE (And.intro k2 hg')))
  clear hF hOE k2 hg' hcl
  go_wp2_with fail
  go_ret
  obtain ⟨hF, ⟨hO, hE⟩, k2, hg'⟩ := Y.out
  have zg := R2.out.blk_lt g (by simp [blk])
  have hsz := KS.out.size
  have hs1 := K1.out.size
  refine ⟨rfl, sb :: ([g] ++ ([q] ++ [g'])), G, ⟨_, lc, _, tc, _, cap, hF.hb, R2.out.keeps k2 ?_, R3.out.keeps k2 ?_, hF.hr, ?_, h5, rfl⟩, hO, hE, ?_, ?_⟩
  · intro x hx hy; simp [blk] at hx; subst hx; simp at hy; rcases hy with h | h
    · exact n4 h.symm
    · exact n1 h
  · intro x hx hy; simp [blk] at hx; subst hx; simp at hy; rcases hy with h | h
    · exact n5 h.symm
    · exact n2 h
  · intro x hx hy; simp [blk] at hx hy; subst hx; subst hy
    rcases hg' with h | h
    · exact n1 h
    · omega
  · rw [hS]
    exact ((K1.out.mono (by simp)).trans (KS.out.mono (by intro x hx; simp at hx; rcases hx with rfl | rfl <;> simp))).trans (k2.mono (fun x hx => by simp at hx; exact hx.elim (fun h => by simp [h]) (fun h => by simp [h])))
  · intro x hx
    rw [hS]
    simp at hx
    rcases hx with rfl | rfl | rfl | rfl
    · exact .inl (by simp)
    · exact .inl (by simp)
    · exact .inl (by simp)
    · rcases hg' with h | h
      · exact .inl (by simp [h])
      · exact .inr (by simp at h; omega)
end Go.Proofs.Ytompihlckpjbkaa.SL
