/- Slots of []int, with what holds of their free slots (chapter 11). -/
import Derived.Test.YtompihlckpjbkaaSlotOpsCL
namespace Go.Proofs.Ytompihlckpjbkaa.SL
open Go.RowKit
set_option linter.unusedVariables false

/-- What holds of the free slots. -/
structure SInv (m n : Nat) (T : Nat → Bool) (F : Nat → Nat) : Prop where
  en : Enum n F (FreeS m T)
  hp : HeapOK n F
  ct : n + cntT T m = m
/-- Slots in memory. -/
def SlotSt (sb lo : Nat) (S : List Nat) (m : Nat) (V : Nat → Value) (T : Nat → Bool) (w : World) : Prop := ∃ n F, SlotsAt sb lo S m n V T F w ∧ SInv m n T F
theorem SlotSt.keeps {sb lo : Nat} {S S' : List Nat} {m : Nat} {V : Nat → Value} {T : Nat → Bool} {w w' : World} (h : SlotSt sb lo S m V T w) (k : Keeps S' w w') (hd : ∀ x, x ∈ S → x ∉ S') : SlotSt sb lo S m V T w' := by
  obtain ⟨n, F, h1, h2⟩ := h
  exact ⟨n, F, h1.keeps k hd, h2⟩
theorem SlotSt.foot {sb lo : Nat} {S : List Nat} {m : Nat} {V : Nat → Value} {T : Nat → Bool} {w : World} (h : SlotSt sb lo S m V T w) : ∀ x, x ∈ S → lo ≤ x ∧ x < w.heap.size := by
  obtain ⟨n, F, h1, h2⟩ := h
  exact h1.foot
/-- Behind a call: its answer, and slots of some shape. -/
def StP (sb lo : Nat) (S : List Nat) (m : Nat) (V : Nat → Value) (T : Nat → Bool) (v : Value) (w : World) (e : Ending) (w' : World) : Prop :=
  e = .returned v ∧ ∃ S', SlotSt sb lo S' m V T w' ∧ Keeps S w w' ∧ ∀ x, x ∈ S' → x ∈ S ∨ w.heap.size ≤ x

theorem st_new (w : World) (lo : Nat) (hl : lo ≤ w.heap.size) (V : Nat → Value) (T : Nat → Bool) : SlotSt w.heap.size lo [w.heap.size] 0 V T (w.alloc (.cells #[.slice none 0 0, .slice none 0 0, .slice none 0 0] 89)) :=
  ⟨0, fun _ => 0, slots_new w lo hl V T _, ⟨fun k hk => by omega, fun x hx => by simp [FreeS] at hx, fun i j hi => by omega⟩, fun k h0 hk => by omega, rfl⟩

theorem len_st (sb lo : Nat) (S : List Nat) (m : Nat) (V : Nat → Value) (T : Nat → Bool) (w : World) (H : SlotSt sb lo S m V T w) (hm : m ≤ 70000) :
    Calls Try.prog 34 #[.pointer (some ⟨sb, 0, none⟩)] w fun e w' => e = .returned (.int .i64 (cntT T m : Int)) ∧ Keeps [] w w' := by
  obtain ⟨n, F, h1, h2⟩ := H
  have hc := h2.ct
  refine (len_any sb lo S m n V T F w h1 (by omega) (by omega)).mono fun e w' ⟨he, hk⟩ => ⟨?_, hk⟩
  rw [he, show m - n = cntT T m by omega]
theorem high_st (sb lo : Nat) (S : List Nat) (m : Nat) (V : Nat → Value) (T : Nat → Bool) (w : World) (H : SlotSt sb lo S m V T w) :
    Calls Try.prog 52 #[.pointer (some ⟨sb, 0, none⟩)] w fun e w' => e = .returned (.int .i64 m) ∧ w = w' := by
  obtain ⟨n, F, h1, h2⟩ := H
  exact high_any sb lo S m n V T F w h1
theorem get_st_in (sb lo : Nat) (S : List Nat) (m : Nat) (V : Nat → Value) (T : Nat → Bool) (i : Int) (v : Value) (w : World) (H : SlotSt sb lo S m V T w) (hb : isB m T i = true) (hv : Hid (V i.toNat = v)) :
    Calls Try.prog 54 #[.pointer (some ⟨sb, 0, none⟩), .int .i64 i] w fun e w' => e = .returned (.tuple #[v, .bool true]) ∧ Keeps [] w w' := by
  obtain ⟨n, F, h1, h2⟩ := H
  exact get_in sb lo S m n V T F i v w h1 hb hv
theorem get_st_out (sb lo : Nat) (S : List Nat) (m : Nat) (V : Nat → Value) (T : Nat → Bool) (i : Int) (w : World) (H : SlotSt sb lo S m V T w) (hb : isB m T i = false) :
    Calls Try.prog 54 #[.pointer (some ⟨sb, 0, none⟩), .int .i64 i] w fun e w' => e = .returned (.tuple #[.slice none 0 0, .bool false]) ∧ Keeps [] w w' := by
  obtain ⟨n, F, h1, h2⟩ := H
  exact get_out sb lo S m n V T F i w h1 hb
theorem free_st_out (sb lo : Nat) (S : List Nat) (m : Nat) (V : Nat → Value) (T : Nat → Bool) (i : Int) (w : World) (H : SlotSt sb lo S m V T w) (hb : isB m T i = false) :
    Calls Try.prog 51 #[.pointer (some ⟨sb, 0, none⟩), .int .i64 i] w (StP sb lo S m V T (.bool false) w) := by
  obtain ⟨n, F, h1, h2⟩ := H
  exact (free_out sb lo S m n V T F i w h1 hb).mono fun e w' ⟨he, S', hs, hk, hf⟩ => ⟨he, S', ⟨n, F, hs, h2⟩, hk, hf⟩
theorem free_st_in (sb lo : Nat) (S : List Nat) (m : Nat) (V : Nat → Value) (T : Nat → Bool) (k : Nat) (i : Int) (hi : i = (k : Int)) (w : World) (H : SlotSt sb lo S m V T w) (hb : isB m T i = true) (hm : m ≤ 70000) :
    Calls Try.prog 51 #[.pointer (some ⟨sb, 0, none⟩), .int .i64 i] w (StP sb lo S m (putV V k (.slice none 0 0)) (putB T k false) (.bool true) w) := by
  obtain ⟨n, F, h1, h2⟩ := H
  have hc := h2.ct
  have hkm : k < m ∧ T k = true := by subst hi; simp [isB] at hb; exact ⟨by omega, hb.2⟩
  refine (free_in sb lo S m n V T F k i hi w h1 hb (by omega) (by omega) h2.hp).mono fun e w' ⟨he, S', G, hs, hO, hE, hk, hf⟩ => ⟨he, S', ⟨n + 1, G, hs, ?_, hO, ?_⟩, hk, hf⟩
  · refine (hE _ h2.en (by simp [FreeS, hkm.2])).congr fun y => ?_
    unfold FreeS putB
    by_cases hy : y = k
    · subst hy; simp [hkm.1]
    · simp [hy]
  · have := cntT_put (T := T) (m := m) (i := k) false hkm.1
    simp [hkm.2] at this
    omega
theorem add_st_old (sb lo : Nat) (S : List Nat) (m : Nat) (V : Nat → Value) (T : Nat → Bool) (k : Nat) (va : Option Addr) (vn vc : Nat) (w : World) (H : SlotSt sb lo S m V T w) (hm : m ≤ 70000) (hlow : ∀ j, j < k → T j = true) (hk : k < m) (hT : T k = false) :
    Calls Try.prog 50 #[.pointer (some ⟨sb, 0, none⟩), .slice va vn vc] w (StP sb lo S m (putV V k (.slice va vn vc)) (putB T k true) (.int .i64 k) w) := by
  obtain ⟨n, F, h1, h2⟩ := H
  have hc := h2.ct
  obtain ⟨q, hq, hqk⟩ := h2.en.all k ⟨hk, hT⟩
  obtain ⟨n, rfl⟩ : ∃ n', n = n' + 1 := ⟨n - 1, by omega⟩
  have hF : F 0 = k := by
    have a1 := h2.hp.min q hq
    have a2 := h2.en.sub 0 (by omega)
    have a3 : ¬ F 0 < k := fun h => by have := hlow _ h; simp [FreeS] at a2; rw [this] at a2; simp at a2
    omega
  refine (add_old sb lo S m n V T F va vn vc w h1 (by omega) (by omega) h2.hp (by omega)).mono fun e w' ⟨he, S', G, hs, hO, hE, hkk, hf⟩ => ?_
  rw [hF] at he hs
  refine ⟨he, S', ⟨n, G, hs, ?_, hO, ?_⟩, hkk, hf⟩
  · refine (hE _ h2.en).congr fun y => ?_
    rw [hF]
    unfold FreeS putB
    by_cases hy : y = k
    · subst hy; simp
    · simp [hy]
  · have := cntT_put (T := T) (m := m) (i := k) true hk
    simp [hT] at this
    omega
theorem add_st_new (sb lo : Nat) (S : List Nat) (m : Nat) (V : Nat → Value) (T : Nat → Bool) (va : Option Addr) (vn vc : Nat) (w : World) (H : SlotSt sb lo S m V T w) (hm : m ≤ 70000) (hlow : ∀ j, j < m → T j = true) :
    Calls Try.prog 50 #[.pointer (some ⟨sb, 0, none⟩), .slice va vn vc] w (StP sb lo S (m + 1) (putV V m (.slice va vn vc)) (putB T m true) (.int .i64 m) w) := by
  obtain ⟨n, F, h1, h2⟩ := H
  have hc := h2.ct
  have hn : n = 0 := by have := cntT_all hlow; omega
  subst hn
  refine (add_new sb lo S m V T F va vn vc w h1 (by omega)).mono fun e w' ⟨he, S', hs, hkk, hf⟩ => ⟨he, S', ⟨0, F, hs, ?_, fun k h0 hk => by omega, ?_⟩, hkk, hf⟩
  · refine ⟨fun k hk => by omega, fun x hx => ?_, fun i j hi => by omega⟩
    exfalso
    unfold FreeS putB at hx
    by_cases hy : x = m
    · simp [hy] at hx
    · simp [hy] at hx; rw [hlow x (by omega)] at hx; simp at hx
  · simp only [cntT, putB, if_true]
    rw [cntT_congr (T := putB T m true) (U := T) (m := m) (fun i hi => by simp [putB, show i ≠ m by omega]), cntT_all hlow]
    omega
end Go.Proofs.Ytompihlckpjbkaa.SL
