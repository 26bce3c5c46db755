/- TableMeters, walked (chapter 7). -/
import Derived.Test.YtajcbghhpjpmhaaTabPlays
import Derived.Test.YtajcbghhpjpmhaaB8
namespace Go.Proofs.Ytajcbghhpjpmhaa
open Go.RowKit
set_option linter.unusedVariables false
set_option linter.unusedSimpArgs false

theorem eql_c4 (c : C4) (w : World) : (binOp .eql 74 (.agg #[.int .i64 c.a, .int .i64 c.b, .int .i64 c.c, .int .i64 c.d]) (.agg #[.int .i64 c.a, .int .i64 c.b, .int .i64 c.c, .int .i64 c.d])).run Try.prog w = .ok (.bool true) w := by
  obtain ⟨a, b, c, d⟩ := c
  simp [go_sem]
theorem tableMeters_early (a1 : Option Addr) (n1 c1 : Nat) (w : World) (h : 400 < n1) :
    Calls Try.prog 10 #[.slice a1 n1 c1] w fun e w' => e = .returned (.bool true) ∧ Below w.heap.size w w' := by
  have d1 : decide ((400 : Int) < (n1 : Int)) = true := by simp; omega
  go_enter Try.func10, Try.ntmps10
  go_wp2_with (go_at_call 13; refine (awake7 _).mono ?_; rintro e w' ⟨rfl, hb⟩)
  go_ret
  exact ⟨rfl, hb⟩
set_option maxRecDepth 100000 in
set_option maxHeartbeats 4000000 in
theorem tableMeters_main (a1 : Option Addr) (n1 c1 : Nat) (F1 : Nat → Int) (w : World) (h1 : n1 ≤ 400) (s1 : IntRow .i64 5 w a1 n1 F1) :
    Calls Try.prog 10 #[.slice a1 n1 c1] w fun e w' => e = .returned (.bool true) ∧ Below w.heap.size w w' := by
  have d1 : decide ((400 : Int) < (n1 : Int)) = false := by simp; omega
  have Z1 := Lib.hid s1
  have bl : n1 = 0 ∨ ∀ b off, a1 = some ⟨b, off, none⟩ → b < w.heap.size := by
    rcases s1 with h | ⟨b, off, rfl, hb, _⟩
    · exact .inl h
    · refine .inr (fun b' off' e => ?_)
      simp at e; omega
  have BL := Lib.hid bl
  clear s1 bl
  go_enter Try.func10, Try.ntmps10
  go_wp2_with fail
  have bw : Below w.heap.size w ((w.alloc (.cells #[.int .i64 0, .int .i64 0, .int .i64 0, .int .i64 0] 71)).alloc (.cells #[.int .i64 0, .int .i64 0, .int .i64 0, .int .i64 0] 76)) := ((Below.refl _ _).alloc (Nat.le_refl _) _).alloc (by simp) _
  have BW := Lib.hid bw
  have hm1 : MtrAt (some w.heap.size) ⟨0, 0, 0, 0⟩ ((w.alloc (.cells #[.int .i64 0, .int .i64 0, .int .i64 0, .int .i64 0] 71)).alloc (.cells #[.int .i64 0, .int .i64 0, .int .i64 0, .int .i64 0] 76)) := fun b hb => by
    simp at hb; subst hb
    exact has_alloc (has_new _ _) _
  have hm2 : CtrAt (some (w.heap.size + 1)) ⟨0, 0, 0, 0⟩ ((w.alloc (.cells #[.int .i64 0, .int .i64 0, .int .i64 0, .int .i64 0] 71)).alloc (.cells #[.int .i64 0, .int .i64 0, .int .i64 0, .int .i64 0] 76)) := fun b hb => by
    simp at hb; subst hb
    exact has_new' _ _ (by simp)
  have H12 := Lib.hid (And.intro hm1 hm2)
  clear bw hm1 hm2
  refine (plays_any a1 n1 c1 F1 (some w.heap.size) (some (w.heap.size + 1)) ⟨0, 0, 0, 0⟩ _ (Z1.out.below BW.out) h1 H12.out.1 H12.out.2 (by simp) (fun b off e hn hx => by
    rcases BL.out with h9 | h9
    · omega
    · have := h9 b off e; simp [mS] at hx; omega)).mono ?_
  rintro r w1 ⟨xb, F, c, T, so, rfl, t9, _, k9⟩
  obtain ⟨t, tw, S, R, sp, kp, g1, g2, g3, g4, g5, g6, g7⟩ := t9
  have mb := g4 _ rfl
  have cb := g5 _ rfl
  have MB := Lib.hid mb
  have CB := Lib.hid cb
  have K9 := Lib.hid k9
  have y0 : w1.cell? ⟨w.heap.size + 1, 0, none⟩ = some (.int .i64 c.a) := cell_has cb (i := 0) rfl
  have y1 : w1.cell? ⟨w.heap.size + 1, 1, none⟩ = some (.int .i64 c.b) := cell_has cb (i := 1) rfl
  have y2 : w1.cell? ⟨w.heap.size + 1, 2, none⟩ = some (.int .i64 c.c) := cell_has cb (i := 2) rfl
  have y3 : w1.cell? ⟨w.heap.size + 1, 3, none⟩ = some (.int .i64 c.d) := cell_has cb (i := 3) rfl
  have hq := fun w => eql_c4 c w
  clear g1 g2 g3 g4 g5 g6 g7 mb cb k9
  go_wp2_with fail
  go_region_held3 (fun w' => w'.cell? ⟨w.heap.size + 1, 0, none⟩ = some (.int .i64 c.a) ∧ w'.cell? ⟨w.heap.size + 1, 1, none⟩ = some (.int .i64 c.b) ∧ w'.cell? ⟨w.heap.size + 1, 2, none⟩ = some (.int .i64 c.c) ∧ w'.cell? ⟨w.heap.size + 1, 3, none⟩ = some (.int .i64 c.d)) (go_keep)
    (first
      | (go_at_call 30; refine (read_any w.heap.size c _ ((Keeps.refl [] w1).drew.has MB.out (by simp))).mono ?_; rintro r w2 ⟨rfl, b2⟩; have k2 := Below.keeps b2 []; have q0 := k2.cell (w := w1.drew) y0 (by simp); have q1 := k2.cell (w := w1.drew) y1 (by simp); have q2 := k2.cell (w := w1.drew) y2 (by simp); have q3 := k2.cell (w := w1.drew) y3 (by simp); have K2 := Lib.hid ((Keeps.refl [] w1).drew.trans k2); clear b2 k2)
      | (go_at_call 13; refine (awake7 _).mono ?_; rintro r w3 ⟨rfl, b3⟩; have k3 := Below.keeps b3 []; have r0 := k3.cell q0 (by simp); have r1 := k3.cell q1 (by simp); have r2 := k3.cell q2 (by simp); have r3 := k3.cell q3 (by simp); have K3 := Lib.hid (K2.out.trans k3); clear b3 k3))
  go_wp2_with fail
  go_ret
  exact ⟨rfl, BW.out.trans ((K9.out.trans (K3.out.mono (by simp))).below (by simp <;> omega) (by intro x hx; simp [mS] at hx; omega))⟩
theorem tableMeters_walk (a0 : Option Addr) (len0 cap0 : Nat) (F0 : Nat → Int) (w : World) (w0 : IntRow .i64 5 w a0 len0 F0) :
    Calls Try.prog 10 #[.slice a0 len0 cap0] w fun e w' => e = .returned (.bool true) ∧ Below w.heap.size w w' := by
  by_cases h : 400 < len0
  · exact tableMeters_early a0 len0 cap0 w h
  · exact tableMeters_main a0 len0 cap0 F0 w (by omega) w0
end Go.Proofs.Ytajcbghhpjpmhaa
