/- Push and Pop of the heap of the free slots (chapter 11). -/
import Derived.Test.YtompihlckpjbkaaSlotHeap
import Derived.Test.YtompihlckpjbkaaSlotRefAdd
namespace Go.Proofs.Ytompihlckpjbkaa
open Go.RowKit
set_option linter.unusedVariables false

/-- Numbers as values. -/
def numV (F : Nat → Nat) : Nat → Value := fun k => .int .i64 (F k : Int)
theorem numV_put (F : Nat → Nat) (i x : Nat) : putV (numV F) i (.int .i64 (x : Int)) = numV (fun k => if k = i then x else F k) := by
  funext k; by_cases h : k = i <;> simp [putV, numV, h]
theorem numRow_of {lo g n cap : Nat} {F : Nat → Nat} {w : World} (h : ValRow 3 lo (some ⟨g, 0, none⟩) n cap (numV F) w) : NumRow g n cap F w := by
  rcases h.2 with ⟨q, _⟩ | ⟨g1, cap1, cur, a1, a2, a3, a4, a5, a6, a7⟩
  · simp at q
  · simp at a1
    obtain ⟨rfl, rfl⟩ := a1
    refine ⟨cur, a3, by simpa using a6, a4, a5, fun k hk => ?_⟩
    have h1 : (cur.toList.take (n * 1))[k]? = some (numV F k) := by rw [a7]; exact valR_get hk
    rw [List.getElem?_take] at h1
    simp [hk] at h1
    simpa [numV] using h1
theorem valRow_of {lo g n cap : Nat} {F : Nat → Nat} {w : World} (h : NumRow g n cap F w) (hl : lo ≤ g) : ValRow 3 lo (some ⟨g, 0, none⟩) n cap (numV F) w := by
  obtain ⟨cur, h1, h2, h3, h4, h5⟩ := h
  refine ⟨by simp [valR], .inr ⟨g, cap, cur, rfl, hl, h1, h3, h4, by simpa using h2, ?_⟩⟩
  apply List.ext_getElem?
  intro k
  rw [List.getElem?_take]
  by_cases hk : k < n
  · rw [valR_get hk]; simp [hk, h5 k hk, numV]
  · simp [hk, valR]

/-- Slots' own block, and the heap in it. -/
structure FreeAt (TY : TypeId) (sb lo : Nat) (X Y : Value) (fa : Option Addr) (n fc : Nat) (F : Nat → Nat) (w : World) : Prop where
  hb : w.heap[sb]? = some (.cells #[X, Y, .slice fa n fc] TY (0, 0))
  hr : ValRow 3 lo fa n fc (numV F) w
theorem FreeAt.keeps {TY : TypeId} {sb lo : Nat} {X Y : Value} {fa : Option Addr} {n fc : Nat} {F : Nat → Nat} {w w' : World} {S : List Nat} (h : FreeAt TY sb lo X Y fa n fc F w) (k : Keeps S w w') (h1 : sb ∉ S) (h2 : ∀ x, x ∈ blk fa → x ∉ S) : FreeAt TY sb lo X Y fa n fc F w' :=
  ⟨k.has h.hb h1, h.hr.keeps k h2⟩
def PushedC (TY : TypeId) (sb lo : Nat) (X Y : Value) (fa : Option Addr) (n : Nat) (w w' : World) (P : (Nat → Nat) → Prop) : Prop :=
  ∃ g cap G, FreeAt TY sb lo X Y (some ⟨g, 0, none⟩) (n + 1) cap G w' ∧ P G ∧ Keeps (sb :: blk fa) w w' ∧ (g ∈ blk fa ∨ w.heap.size ≤ g)

theorem ta_int (x : Int) (w : World) : (Instr.typeAssert (.iface 3 (.int .i64 x)) 20 3 true).run Try.prog w = .ok (.tuple #[.int .i64 x, .bool true]) w := by kernel_rfl

set_option maxRecDepth 100000 in
theorem numsPush_any (TY : TypeId) (hTY : 3 ≠ TY) (sb lo : Nat) (X Y : Value) (fa : Option Addr) (n fc : Nat) (F : Nat → Nat) (x : Nat) (w : World) (H : FreeAt TY sb lo X Y fa n fc F w) (hn : n ≤ 100000) (hlo : lo ≤ sb) :
    Calls Try.prog 83 #[.pointer (some ⟨sb, 2, none⟩), .iface 3 (.int .i64 (x : Int))] w fun e w' => e = .returned (.tuple #[]) ∧ PushedC TY sb lo X Y fa n w w' fun G => G = fun k => if k = n then x else F k := by
  obtain ⟨i0, hi, hz0, hz1, hz2⟩ := info_parts infoI
  have HI := Lib.hid (And.intro hi (And.intro hz0 (And.intro hz1 hz2)))
  clear hi hz0 hz1 hz2
  have c2 := cell_has H.hb (i := 2) rfl
  have f2 := free_of_has H.hb 2
  have zb := lt_of_block H.hb
  have HH := Lib.hid H
  have nwb := Lib.hid (H.hr.notin H.hb hTY)
  have q3 : n + 1 ≤ maxLen := by unfold maxLen; omega
  have q4 : (n + 1) * 8 ≤ 140737488355328 := by omega
  have q5 : lo ≤ w.heap.size + 1 := by omega
  have G := Lib.hid (And.intro q3 (And.intro q4 q5))
  clear H q3 q4 q5
  have hta := fun w => ta_int (x : Int) w
  go_enter Try.func83, Try.ntmps83
  go_wp2_with (at_builtin; refine wpList_append_lies _ rfl _ _ 32 rfl lo 3 i0 (.int .i64 0) 1 8 Try.underlying32 HI.out.1 HI.out.2.1 HI.out.2.2.1 HI.out.2.2.2 rfl (by decide) _ n (valR n (numV F)) rfl (World.ownsRow.alloc HH.out.hr _) ⟨w.heap.size, 0, none⟩ 1 1 [_] rfl rfl (cell_one_new _ _ _) (by intro u hu; simp at hu; subst hu; rfl) (by decide) G.out.1 G.out.2.1 (by simpa using G.out.2.2) (w.heap.size + 1) (by simp) ?_; intro g cap' w1 hown hgrow hat hlt1; have K1 := grown_keeps hgrow; have B1 := K1.has HH.out.hb nwb.out; have c2' := cell_has B1 (i := 2) rfl; have f2' := free_of_has B1 2; have zb1 := lt_of_block B1; have Y1 := Lib.hid K1; have Y2 := Lib.hid (ValRow.of_append hown); have Y3 := Lib.hid (lies_in (h := w.heap.size) hat (by omega)); have YB := Lib.hid B1; clear hgrow hown hat K1 B1)
  go_end0
  refine ⟨rfl, g, cap', _, ⟨has_setCell YB.out 2 _, ?_⟩, rfl, (Y1.out.mono (by intro x hx; simp [hx])).setCell (.inr (by simp)) _, Y3.out⟩
  rw [← numV_put]
  refine Y2.out.keeps (S := [sb]) ((Keeps.refl _ _).setCell (.inr (by simp)) _) ?_
  intro x hx hy; simp at hy; subst hy; exact Y2.out.notin YB.out hTY hx

set_option maxRecDepth 100000 in
theorem numsPop_any (TY : TypeId) (hTY : 3 ≠ TY) (sb lo : Nat) (X Y : Value) (g n fc : Nat) (F : Nat → Nat) (w : World) (H : FreeAt TY sb lo X Y (some ⟨g, 0, none⟩) (n + 1) fc F w) (hn : n ≤ 100000) :
    Calls Try.prog 82 #[.pointer (some ⟨sb, 2, none⟩)] w fun e w' => e = .returned (.iface 3 (.int .i64 (F n : Int))) ∧ FreeAt TY sb lo X Y (some ⟨g, 0, none⟩) n fc F w' ∧ Keeps [sb] w w' := by
  have c2 := cell_has H.hb (i := 2) rfl
  have f2 := free_of_has H.hb 2
  have zb := lt_of_block H.hb
  have c3 := H.hr.cell (k := n) (by omega)
  have hc := H.hr.cap_le
  unfold maxLen at hc
  obtain ⟨hc1, hc2⟩ := hc
  obtain ⟨y, hy⟩ := ex_hid (F n)
  rw [show numV F n = .int .i64 (y : Int) by rw [hy.out]; rfl] at c3
  rw [← hy.out]
  have HH := Lib.hid H
  have nwb := Lib.hid (H.hr.notin H.hb hTY)
  have n0 : (n : Int) ≤ 100000 := by omega
  clear H
  go_enter Try.func82, Try.ntmps82
  go_wp2_with fail
  go_ret
  refine ⟨rfl, ⟨has_setCell HH.out.hb 2 _, ?_⟩, (Keeps.refl _ _).setCell (.inr (by simp)) _⟩
  refine (HH.out.hr.cut (by omega)).keeps (S := [sb]) ((Keeps.refl _ _).setCell (.inr (by simp)) _) ?_
  intro x hx hy; simp at hy; subst hy; exact nwb.out hx
end Go.Proofs.Ytompihlckpjbkaa
