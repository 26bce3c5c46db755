/- The document's stroll: New, tells (chapter 9). -/
import Derived.Test.YtcakdmapnmneoaaGreatRefJ
import Derived.Test.YtcakdmapnmneoaaGreatRefF
namespace Go.Proofs.YtcakdmapnmneoaaGreat
open Go.RowKit
set_option linter.unusedVariables false
set_option linter.unusedSimpArgs false

/-- The document's stroll. -/
structure Rst where
  len : Nat
  back : Bool
  last : Int
  begun : Bool
  over : Int
def rstO (db : Nat) (s : Rst) : Obj := .cells #[.pointer (some ⟨db, 0, none⟩), .int .i64 s.len, .bool s.back, .int .i64 s.last, .bool s.begun, .int .i64 s.over] 146 (0, 0)
def newR (d : Dic) (back : Bool) : Rst := ⟨liveN d.T.E, back, 0, false, 0⟩
def Rst.toldR (s : Rst) (x : Ent) : Rst := { s with begun := true, last := x.birth }
theorem rst_cells {W : World} {b db : Nat} {s : Rst} (h : W.heap[b]? = some (rstO db s)) :
    W.cell? ⟨b, 0, none⟩ = some (.pointer (some ⟨db, 0, none⟩)) ∧ W.cell? ⟨b, 1, none⟩ = some (.int .i64 s.len) ∧ W.cell? ⟨b, 2, none⟩ = some (.bool s.back) ∧ W.cell? ⟨b, 3, none⟩ = some (.int .i64 s.last) ∧ W.cell? ⟨b, 4, none⟩ = some (.bool s.begun) ∧ W.cell? ⟨b, 5, none⟩ = some (.int .i64 s.over) :=
  ⟨cell_has h (i := 0) rfl, cell_has h (i := 1) rfl, cell_has h (i := 2) rfl, cell_has h (i := 3) rfl, cell_has h (i := 4) rfl, cell_has h (i := 5) rfl⟩
theorem rst_over {W : World} {b db : Nat} {s : Rst} (h : W.heap[b]? = some (rstO db s)) (o : Int) : (W.setCell ⟨b, 5, none⟩ (.int .i64 o)).heap[b]? = some (rstO db { s with over := o }) ∧ Keeps [b] W (W.setCell ⟨b, 5, none⟩ (.int .i64 o)) := by
  have h9 := has_setCell h 5 (.int .i64 o)
  exact ⟨by simpa [rstO] using h9, (Keeps.refl _ _).setCell (.inr (by simp)) _⟩
theorem rst_told {W : World} {b db : Nat} {s : Rst} (h : W.heap[b]? = some (rstO db s)) (x : Ent) : ((W.setCell ⟨b, 4, none⟩ (.bool true)).setCell ⟨b, 3, none⟩ (.int .i64 x.birth)).heap[b]? = some (rstO db (s.toldR x)) ∧ Keeps [b] W ((W.setCell ⟨b, 4, none⟩ (.bool true)).setCell ⟨b, 3, none⟩ (.int .i64 x.birth)) := by
  have h8 := has_setCell h 4 (.bool true)
  have h9 := has_setCell h8 3 (.int .i64 x.birth)
  exact ⟨by simpa [rstO, Rst.toldR] using h9, ((Keeps.refl _ _).setCell (.inr (by simp)) _).setCell (.inr (by simp)) _⟩
set_option maxRecDepth 100000 in
theorem rtells9_any (b db : Nat) (s : Rst) (x : Ent) (w : World) (H : w.heap[b]? = some (rstO db s)) :
    Calls Tryz.prog 70 #[.pointer (some ⟨b, 0, none⟩), x.agg] w fun r w' => r = .returned (.tuple #[x.agg, .int .i64 0]) ∧ w'.heap[b]? = some (rstO db (s.toldR x)) ∧ Keeps [b] w w' := by
  obtain ⟨y, hy⟩ : ∃ y, Hid (y = x) := ⟨_, Lib.hid rfl⟩
  obtain ⟨lr, hlr⟩ : ∃ lr, lr = w.heap.size := ⟨_, rfl⟩
  obtain ⟨WA, hWA⟩ : ∃ WA, (w.alloc (.cells #[.bool x.live, .int .i64 x.hash, .int .i64 x.key, .int .i64 x.val, .int .i64 x.birth] 78)).alloc (.cells #[.bool false, .int .i64 0, .int .i64 0, .int .i64 0, .int .i64 0] 78) = WA := ⟨_, rfl⟩
  have kb : Keeps [] w WA := by rw [← hWA]; exact ((Keeps.refl [] w).alloc _).alloc _
  have bx : WA.heap[lr]? = some (entR x) := by rw [← hWA, hlr]; exact has_alloc (has_new _ _) _
  have br : WA.heap[lr + 1]? = some (entR noE) := by rw [← hWA, hlr]; exact has_new' _ _ (by simp)
  have lb := lt_of_block H
  have hB := kb.has H (by simp)
  obtain ⟨q1, q2⟩ := rst_told hB x
  have bx2 := q2.has bx (by simp; omega)
  have br2 := q2.has br (by simp; omega)
  obtain ⟨p1, p2⟩ := entR_store noE x br2
  have HP := Lib.hid (And.intro p1 p2)
  have HQ := Lib.hid (And.intro q1 q2)
  have HLB := Lib.hid lb
  have HLR := Lib.hid hlr
  have KB := Lib.hid kb
  have HWA := Lib.hid hWA
  have f4 := free_of_has hB 4
  have f3 := free_of_has hB 3
  unfold entR at bx br br2
  have u0 : WA.cell? ⟨lr, 0, none⟩ = some (.bool x.live) := cell_has bx (i := 0) rfl
  have u1 : WA.cell? ⟨lr, 1, none⟩ = some (.int .i64 x.hash) := cell_has bx (i := 1) rfl
  have u2 : WA.cell? ⟨lr, 2, none⟩ = some (.int .i64 x.key) := cell_has bx (i := 2) rfl
  have u3 : WA.cell? ⟨lr, 3, none⟩ = some (.int .i64 x.val) := cell_has bx (i := 3) rfl
  have u4 : WA.cell? ⟨lr, 4, none⟩ = some (.int .i64 x.birth) := cell_has bx (i := 4) rfl
  have v0 : WA.cell? ⟨lr + 1, 0, none⟩ = some (.bool false) := cell_has br (i := 0) rfl
  have v1 : WA.cell? ⟨lr + 1, 1, none⟩ = some (.int .i64 0) := cell_has br (i := 1) rfl
  have v2 : WA.cell? ⟨lr + 1, 2, none⟩ = some (.int .i64 0) := cell_has br (i := 2) rfl
  have v3 : WA.cell? ⟨lr + 1, 3, none⟩ = some (.int .i64 0) := cell_has br (i := 3) rfl
  have v4 : WA.cell? ⟨lr + 1, 4, none⟩ = some (.int .i64 0) := cell_has br (i := 4) rfl
  have g0 := free_of_has br 0
  have g1 := free_of_has br 1
  have g2 := free_of_has br 2
  have g3 := free_of_has br 3
  have g4 := free_of_has br 4
  have s3 : WA.cell? ⟨b, 3, none⟩ = some (.int .i64 s.last) := (rst_cells hB).2.2.2.1
  have s4 : WA.cell? ⟨b, 4, none⟩ = some (.bool s.begun) := (rst_cells hB).2.2.2.2.1
  have n0 : ¬ b = lr := by omega
  have n1 : ¬ b = lr + 1 := by omega
  have n2 : ¬ lr = b := by omega
  have n3 : ¬ lr + 1 = b := by omega
  obtain ⟨x0, x1, x2, x3, x4⟩ := x
  unfold Ent.agg
  simp only at *
  clear hB bx br bx2 br2 p1 p2 q1 q2 kb hWA hlr H lb
  go_enter Tryz.func70, Tryz.ntmps70
  go_upto_region 1 with (fail)
  rw [HWA.out, ← HLR.out]
  go_wp2_with fail
  obtain ⟨p1, p2⟩ := HP.out
  obtain ⟨q1, q2⟩ := HQ.out
  have p9 := p1
  unfold entR at p9
  have rc := cell_of_has p9
  have hlr := HLR.out
  refine bodyPost_ret (v := .tuple #[.agg #[.bool x0, .int .i64 x1, .int .i64 x2, .int .i64 x3, .int .i64 x4], .int .i64 0]) (by simp [results, Tryz.results70, go_sem, rc]) rfl ⟨rfl, ?_, ?_⟩
  · exact p2.has q1 (by have := HLB.out; simp; omega)
  · exact ((KB.out.mono (by simp)).trans q2).then p2 (by intro z hz; simp at hz; left; omega)
set_option maxRecDepth 100000 in
theorem rsnew_any (db t lo : Nat) (S : List Nat) (m : Option Nat) (d : Dic) (back : Bool) (w : World) (H : RDicAt db t lo S m d w) :
    Calls Tryz.prog 27 #[.pointer (some ⟨db, 0, none⟩), .bool back] w fun r w' => r = .returned (.pointer (some ⟨w.heap.size, 0, none⟩)) ∧ w'.heap[w.heap.size]? = some (rstO db (newR d back)) ∧ w'.heap.size = w.heap.size + 1 ∧ Keeps [] w w' := by
  have HD := Lib.hid H
  clear H
  go_enter Tryz.func27, Tryz.ntmps27
  go_wp2_with fail
  refine (rlen8_any db t lo S m d _ HD.out).mono ?_
  rintro r w1 ⟨rfl, rfl⟩
  go_wp2_with fail
  go_ret
  exact ⟨rfl, has_new _ _, by simp, (Keeps.refl _ _).alloc _⟩
end Go.Proofs.YtcakdmapnmneoaaGreat
