/- What the document fixes of tables (chapter 7). -/
import Derived.Test.YtajcbghhpjpmhaaTabAddS
import Derived.Test.YtajcbghhpjpmhaaTabSight
namespace Go.Proofs.Ytajcbghhpjpmhaa
open Go.RowKit
set_option linter.unusedVariables false

def aw1 : Tab := newT.add1 5 10 20
def aw2 : Tab := aw1.add1 5 11 21
theorem uh5 : uh 5 = 5 := by decide
theorem tr50 : trC 3 5 0 = 5 := by decide
theorem tr51 : trC 3 5 1 = 2 := by decide
theorem aw1_V : aw1.V = putN (begun 8) 5 0 := by
  show layV 3 (uh 5) (begun 8) 0 = _
  have h0 : fe 3 5 (begun 8) = 0 := by
    unfold fe
    exact fi_eq (by decide) (by simp [isE, tr50, begun]) (fun j hj => by omega)
  rw [uh5, layV_hit (by rw [h0]; decide), h0, tr50]
theorem aw2_V : aw2.V = putN (putN (begun 8) 5 0) 2 1 := by
  show layV 3 (uh 5) aw1.V 1 = _
  rw [aw1_V]
  have h0 : fe 3 5 (putN (begun 8) 5 0) = 1 := by
    unfold fe
    exact fi_eq (by decide) (by simp [isE, tr51, begun, putN]) (fun j hj => by cases j with | zero => simp [isE, tr50, putN] | succ j => omega)
  rw [uh5, layV_hit (by rw [h0]; decide), h0, tr51]
theorem room_new : newT.room = 5 := by decide
theorem aw1_inv : TInv 1 aw1 := by
  have h := TInv.add TInv.new (by omega) 5 10 20
  have e : newT.add 5 10 20 = aw1 := by
    unfold Tab.add Tab.ready
    rw [if_neg (by rw [room_new]; simp [newT])]; rfl
  rwa [e] at h
theorem aw2_inv : TInv 2 aw2 := by
  have h := TInv.add aw1_inv (by omega) 5 11 21
  have e : aw1.add 5 11 21 = aw2 := by
    unfold Tab.add Tab.ready
    rw [if_neg (by show ¬ aw1.E.length = newT.room; rw [room_new]; simp [aw1, Tab.add1, newT])]; rfl
  rwa [e] at h

set_option maxRecDepth 100000 in
set_option maxHeartbeats 2000000 in
theorem awake7 (w : World) : Calls Try.prog 13 #[] w fun e w' => e = .returned (.bool true) ∧ Below w.heap.size w w' := by
  go_enter Try.func13, Try.ntmps13
  go_wp2_with fail
  refine (newt_any none ⟨0, 0, 0, 0⟩ _ (MtrAt.nil _ _)).mono ?_
  rintro r w1 ⟨t, S, rfl, t1, _, k1⟩
  have T1 := Lib.hid t1
  have K1 := Lib.hid k1
  have lo := Lib.hid (show w.heap.size ≤ w1.heap.size from k1.size)
  clear t1 k1
  go_wp2_with fail
  refine (add_stay 0 (by omega) t w.heap.size S none ⟨0, 0, 0, 0⟩ newT _ T1.out (MtrAt.nil _ _) (by simp) TInv.new (by rw [room_new]; simp [newT]) 5 10 20).mono ?_
  rintro r w2 ⟨S2, rfl, t2, _, k2, g2⟩
  have T2 : Hid (TabAt t w.heap.size S2 (mV none) aw1 w2) := Lib.hid t2
  have K2 := Lib.hid k2
  clear t2 k2 g2
  go_wp2_with fail
  refine (add_stay 1 (by omega) t w.heap.size S2 none ⟨0, 0, 0, 0⟩ aw1 _ T2.out (MtrAt.nil _ _) (by simp) aw1_inv (by show ¬ aw1.E.length = newT.room; rw [room_new]; simp [aw1, Tab.add1, newT]) 5 11 21).mono ?_
  rintro r w3 ⟨S3, rfl, t3, _, k3, g3⟩
  have T3 : Hid (TabAt t w.heap.size S3 (mV none) aw2 w3) := Lib.hid t3
  have K3 := Lib.hid k3
  clear t3 k3 g3
  go_wp2_with fail
  refine (sight_any t w.heap.size S3 (mV none) aw2 _ T3.out (by have := aw2_inv.l12; omega) aw2_inv.ft (by have := aw2_inv.ek; omega)).mono ?_
  rintro r w4 ⟨a, c, ae, ce, rfl, r1, r2, b4⟩
  have hL : aw2.L = 3 := rfl
  rw [hL] at r1 ⊢
  obtain ⟨g, rfl⟩ := r1.shape (by decide)
  have c5 : w4.cell? ⟨g, 5, none⟩ = some (.int .i64 0) := by
    have h := r1.cell (k := 5) (by decide)
    rw [aw2_V] at h; simpa [putN] using h
  have c2 : w4.cell? ⟨g, 2, none⟩ = some (.int .i64 1) := by
    have h := r1.cell (k := 2) (by decide)
    rw [aw2_V] at h; simpa [putN] using h
  have B4 := Lib.hid b4
  clear r1 r2 b4
  have c5a := fun o => cell_alloc c5 o
  have c2a := fun o => cell_alloc c2 o
  unfold sightAgg
  rw [show (2 : Nat) ^ 3 = 8 from rfl]
  clear c5 c2
  go_wp2_with fail
  go_ret
  have k9 : Keeps [] w w4 := by
    refine (((K1.out.mono (T := []) (by simp [mS])).then K2.out ?_).then K3.out ?_).trans (Below.keeps B4.out [])
    · intro x hx; simp [mS] at hx; exact .inl ((T1.out.foot x hx).1)
    · intro x hx; simp [mS] at hx; exact .inl ((T2.out.foot x hx).1)
  exact ⟨rfl, (k9.alloc _).below (Nat.le_refl _) (by simp)⟩
end Go.Proofs.Ytajcbghhpjpmhaa
