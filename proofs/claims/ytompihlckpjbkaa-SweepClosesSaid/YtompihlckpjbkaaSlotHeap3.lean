/- The library's Push and Pop over the heap of the free slots (chapter 11). -/
import Derived.Test.YtompihlckpjbkaaSlotHeap2
namespace Go.Proofs.Ytompihlckpjbkaa
open Go.RowKit
set_option linter.unusedVariables false

set_option maxRecDepth 100000 in
theorem heapPush_any (TY : TypeId) (hTY : 3 ≠ TY) (sb lo : Nat) (X Y : Value) (fa : Option Addr) (n fc : Nat) (F : Nat → Nat) (x : Nat) (w : World) (H : FreeAt TY sb lo X Y fa n fc F w) (hn : n ≤ 90000) (hlo : lo ≤ sb) (hK : HeapOK n F) :
    Calls Try.prog 41 #[.iface 70 (.pointer (some ⟨sb, 2, none⟩)), .iface 3 (.int .i64 (x : Int))] w fun e w' => e = .returned (.tuple #[]) ∧
      PushedC TY sb lo X Y fa n w w' fun G => HeapOK (n + 1) G ∧ ∀ P, Enum n F P → ¬ P x → Enum (n + 1) G (fun y => P y ∨ y = x) := by
  have HH := Lib.hid H
  have HK := Lib.hid hK
  have hn0 : (n : Int) ≤ 90000 := by omega
  have hm := fun v w => m_push v w
  have he := fun args W => e_push args W
  clear H hK
  go_enter Try.func41, Try.ntmps41
  go_wp2_with fail
  refine (numsPush_any TY hTY sb lo X Y fa n fc F x _ HH.out (by omega) hlo).mono ?_
  rintro e w1 ⟨rfl, g, cap, G, hF, hG, k1, hg⟩
  have HF := Lib.hid hF
  have HG := Lib.hid hG
  have K1 := Lib.hid k1
  have Hg := Lib.hid hg
  clear hm he hF hG k1 hg
  have hm := m_len ⟨sb, 2, none⟩ w1 _ (cell_has HF.out.hb (i := 2) rfl)
  have he := fun args W => e_len args W
  go_wp2_with fail
  refine (numsLen_any _ _ _ _).mono ?_
  rintro e w2 ⟨rfl, rfl⟩
  clear hm he
  go_wp2_with fail
  have hne : sb ≠ g := by rintro rfl; exact HF.out.hr.notin HF.out.hb hTY (by simp [blk])
  have hlg := (HF.out.hr.blk_lt g (by simp [blk])).1
  refine (heapUp_any ⟨sb, 2, none⟩ g (n + 1) cap G n _ rfl (by omega) hne (by omega) _ ⟨cell_has HF.out.hb (i := 2) rfl, numRow_of HF.out.hr⟩ (UpI.start HK.out G (fun k hk => by rw [HG.out]; simp; omega))).mono ?_
  rintro e w3 ⟨rfl, G2, hA, hO, hE, hX, k3⟩
  have Z := Lib.hid (And.intro hA (And.intro hO (And.intro hE k3)))
  clear hA hO hE hX k3
  go_wp2_with fail
  go_end0
  obtain ⟨hA, hO, hE, k3⟩ := Z.out
  refine ⟨rfl, g, cap, G2, ⟨k3.has HF.out.hb (by simpa using hne), valRow_of hA.row hlg⟩, ⟨hO, fun P hP hx => hE _ (hP.push hx G (fun k hk => by rw [HG.out]; simp; omega) (by rw [HG.out]; simp))⟩, ?_, Hg.out⟩
  exact K1.out.then k3 (by intro y hy; simp at hy; subst hy; rcases Hg.out with h | h
                           · exact .inr (by simp [h])
                           · exact .inl h)

set_option maxRecDepth 100000 in
theorem heapPop_any (TY : TypeId) (hTY : 3 ≠ TY) (sb lo : Nat) (X Y : Value) (g q fc : Nat) (F : Nat → Nat) (w : World) (H : FreeAt TY sb lo X Y (some ⟨g, 0, none⟩) (q + 1) fc F w) (hn : q ≤ 90000) (hK : HeapOK (q + 1) F) :
    Calls Try.prog 39 #[.iface 70 (.pointer (some ⟨sb, 2, none⟩))] w fun e w' => (∃ x, e = .returned (.iface 3 (.int .i64 x))) ∧
      ∃ G, FreeAt TY sb lo X Y (some ⟨g, 0, none⟩) q fc G w' ∧ HeapOK q G ∧ (∀ P, Enum (q + 1) F P → Enum q G (fun y => P y ∧ y ≠ F 0)) ∧ Keeps [sb, g] w w' := by
  have HH := Lib.hid H
  have HK := Lib.hid hK
  have hn0 : (q : Int) ≤ 90000 := by omega
  have hne : sb ≠ g := by rintro rfl; exact H.hr.notin H.hb hTY (by simp [blk])
  have hlg := (H.hr.blk_lt g (by simp [blk])).1
  have hm := m_len ⟨sb, 2, none⟩ w _ (cell_has HH.out.hb (i := 2) rfl)
  have he := fun args W => e_len args W
  clear H hK
  go_enter Try.func39, Try.ntmps39
  go_wp2_with fail
  refine (numsLen_any _ _ _ _).mono ?_
  rintro e w2 ⟨rfl, rfl⟩
  clear hm he
  have hm := m_swap ⟨sb, 2, none⟩ w _ (cell_has HH.out.hb (i := 2) rfl)
  have he := fun args W => e_swap args W
  go_wp2_with fail
  refine (numsSwap_any g (q + 1) fc F 0 q _ _ rfl (by omega) _ (numRow_of HH.out.hr) (by omega) (by omega)).mono ?_
  rintro e w3 ⟨rfl, k3, hr3⟩
  have K3 := Lib.hid k3
  have R3 := Lib.hid hr3
  clear hm he k3 hr3
  have B3 := Lib.hid (K3.out.has HH.out.hb (by simpa using hne))
  go_wp2_with fail
  refine (heapDown_any ⟨sb, 2, none⟩ g (q + 1) fc q (swapF F 0 q) _ (by omega) (by omega) hne (by omega) _ ⟨cell_has B3.out (i := 2) rfl, R3.out⟩ (DownI.start HK.out _ (fun k h0 hk => swapF_other F 0 q (by omega) (by omega)))).mono ?_
  rintro e w4 ⟨⟨b, rfl⟩, G, hA, hO, hE, hX, k4⟩
  have B4 := Lib.hid (k4.has B3.out (by simpa using hne))
  have Z := Lib.hid (And.intro hA (And.intro hO (And.intro hE (And.intro hX k4))))
  clear hA hO hE hX k4
  have hm := fun v w => m_pop v w
  have he := fun args W => e_pop args W
  go_wp2_with fail
  refine (numsPop_any TY hTY sb lo X Y g q fc G _ ⟨B4.out, valRow_of Z.out.1.row hlg⟩ (by omega)).mono ?_
  rintro e w5 ⟨rfl, hF, k5⟩
  have HF := Lib.hid hF
  have K5 := Lib.hid k5
  clear hm he hF k5
  obtain ⟨y, hy⟩ := ex_hid (G q)
  rw [← hy.out]
  go_wp2_with fail
  go_ret
  obtain ⟨hA, hO, hE, hX, k4⟩ := Z.out
  refine ⟨⟨_, rfl⟩, G, HF.out, hO, fun P hP => hE _ ?_, ((K3.out.mono (by simp)).trans (k4.mono (by simp))).trans (K5.out.mono (by simp))⟩
  have h1 := (hP.swap (i := 0) (j := q) (by omega) (by omega)).pop
  rw [swapF_right] at h1
  exact h1
end Go.Proofs.Ytompihlckpjbkaa
