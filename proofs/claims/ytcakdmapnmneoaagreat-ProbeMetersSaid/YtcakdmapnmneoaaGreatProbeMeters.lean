/- ProbeMeters, walked (chapter 8). -/
import Derived.Test.YtcakdmapnmneoaaGreatPkP
namespace Go.Proofs.YtcakdmapnmneoaaGreat
open Go.RowKit
set_option linter.unusedVariables false
set_option linter.unusedSimpArgs false

theorem eql_c48 (c : C4) (w : World) : (binOp .eql 66 (.agg #[.int .i64 c.a, .int .i64 c.b, .int .i64 c.c, .int .i64 c.d]) (.agg #[.int .i64 c.a, .int .i64 c.b, .int .i64 c.c, .int .i64 c.d])).run Tryz.prog w = .ok (.bool true) w := by
  obtain ⟨a, b, c, d⟩ := c
  simp [go_sem]
theorem probeMeters_early (most : Int) (a1 : Option Addr) (n1 c1 : Nat) (w : World) (h : 300 < n1) :
    Calls Tryz.prog 6 #[.int .i64 most, .slice a1 n1 c1] w fun e w' => e = .returned (.bool true) ∧ Below w.heap.size w w' := by
  have d1 : decide ((300 : Int) < (n1 : Int)) = true := by simp; omega
  go_enter Tryz.func6, Tryz.ntmps6
  go_wp2_with (go_at_call 11; refine (awake8 _).mono ?_; rintro e w' ⟨rfl, hb⟩)
  go_ret
  exact ⟨rfl, hb⟩
set_option maxRecDepth 100000 in
set_option maxHeartbeats 4000000 in
theorem probeMeters_main (most : Int) (a1 : Option Addr) (n1 c1 : Nat) (F1 : Nat → Int) (B1 : Nat → Bool) (w : World) (h1 : n1 ≤ 300) (s1 : MixRow (fun j => [7].contains j) 8 w a1 n1 F1 B1) :
    Calls Tryz.prog 6 #[.int .i64 most, .slice a1 n1 c1] w fun e w' => e = .returned (.bool true) ∧ Below w.heap.size w w' := by
  have d1 : decide ((300 : Int) < (n1 : Int)) = false := by simp; omega
  have Z1 := Lib.hid s1
  obtain ⟨B, hB⟩ := ex_hid w.heap.size
  rw [← hB.out]
  clear s1
  go_enter Tryz.func6, Tryz.ntmps6
  go_upto_region 5 with (fail)
  refine wp_gen (fun V => V.heap[w.heap.size]? = some (mtr ⟨0, 0, 0, 0⟩) ∧ V.heap[w.heap.size + 1]? = some (ctr ⟨0, 0, 0, 0⟩) ∧ Keeps [] w V) ⟨has_alloc (has_new _ _) _, has_new' _ _ (by simp), ((Keeps.refl [] w).alloc _).alloc _⟩ ?_
  rintro w1 ⟨b1, b2, k1⟩
  rw [← hB.out] at b1 b2 ⊢
  have R := plays8_any B (some B) (some (B + 1)) ⟨0, 0, 0, 0⟩ most a1 n1 c1 F1 B1 w1 h1 (by have := k1.size; rw [hB.out]; exact this) (fun b hb => by simp at hb; subst hb; exact b1) (fun b hb => by simp at hb; subst hb; exact b2) (by simp) (by simp) (by simp) (by
    have h9 := (LRow.of Z1.out).below (k1.below (Nat.le_refl _) (by simp))
    rw [hB.out]; exact h9)
  rw [show mV (some B) = .pointer (some ⟨B, 0, none⟩) from rfl, show mV (some (B + 1)) = .pointer (some ⟨B + 1, 0, none⟩) from rfl] at R
  have K1 := Lib.hid (show Below B w w1 from k1.below (by rw [hB.out]; exact Nat.le_refl _) (by simp))
  clear b1 b2 k1
  go_wp2_with fail
  refine R.mono ?_
  intro r w2 hP
  have fin : ∃ (c : C4) (p : Value), r = .returned (.tuple #[p, .bool true]) ∧ w2.heap[B]? = some (mtr c) ∧ w2.heap[B + 1]? = some (ctr c) ∧ Below B w w2 := by
    rcases hP with ⟨e, h2, h3, bl⟩ | ⟨c, o, u, D, E, M, L, e, j1, bl⟩
    · exact ⟨_, _, e, h2 B rfl, h3 (B + 1) rfl, K1.out.trans bl⟩
    · exact ⟨c, _, e, j1.g.p.ct B rfl, j1.g.r.ct (B + 1) rfl, K1.out.trans bl⟩
  obtain ⟨c, p, rfl, mb, cb, bl⟩ := fin
  have MB := Lib.hid mb
  have BL := Lib.hid bl
  have y0 : w2.cell? ⟨B + 1, 0, none⟩ = some (.int .i64 c.a) := cell_has cb (i := 0) rfl
  have y1 : w2.cell? ⟨B + 1, 1, none⟩ = some (.int .i64 c.b) := cell_has cb (i := 1) rfl
  have y2 : w2.cell? ⟨B + 1, 2, none⟩ = some (.int .i64 c.c) := cell_has cb (i := 2) rfl
  have y3 : w2.cell? ⟨B + 1, 3, none⟩ = some (.int .i64 c.d) := cell_has cb (i := 3) rfl
  have hq := fun w => eql_c48 c w
  clear hP R mb cb bl
  go_upto_region 6 with (fail)
  go_region_held3 (fun w' => w'.cell? ⟨B + 1, 0, none⟩ = some (.int .i64 c.a) ∧ w'.cell? ⟨B + 1, 1, none⟩ = some (.int .i64 c.b) ∧ w'.cell? ⟨B + 1, 2, none⟩ = some (.int .i64 c.c) ∧ w'.cell? ⟨B + 1, 3, none⟩ = some (.int .i64 c.d)) (go_keep)
    (first
      | (go_at_call 17; refine (read_any B c _ ((Keeps.refl [] w2).drew.has MB.out (by simp))).mono ?_; rintro r w3 ⟨rfl, b2⟩; have k2 := Below.keeps b2 []; have q0 := k2.cell (w := w2.drew) y0 (by simp); have q1 := k2.cell (w := w2.drew) y1 (by simp); have q2 := k2.cell (w := w2.drew) y2 (by simp); have q3 := k2.cell (w := w2.drew) y3 (by simp); have K2 := Lib.hid ((Keeps.refl [] w2).drew.trans k2); clear b2 k2)
      | (go_at_call 11; refine (awake8 _).mono ?_; rintro r w4 ⟨rfl, b3⟩; have k3 := Below.keeps b3 []; have r0 := k3.cell q0 (by simp); have r1 := k3.cell q1 (by simp); have r2 := k3.cell q2 (by simp); have r3 := k3.cell q3 (by simp); have K3 := Lib.hid (K2.out.trans k3); clear b3 k3))
  go_wp2_with fail
  go_ret
  exact ⟨rfl, BL.out.trans (K3.out.below (by have := BL.out.size; rw [hB.out]; exact this) (by simp))⟩
theorem probeMeters_walk (a0 : Int) (a1 : Option Addr) (len1 cap1 : Nat) (F1 : Nat → Int) (B1 : Nat → Bool) (w : World) (w0 : (Lit.int .i64 a0).wf = true) (w1 : MixRow (fun j => [7].contains j) 8 w a1 len1 F1 B1) :
    Calls Tryz.prog 6 #[.int .i64 a0, .slice a1 len1 cap1] w fun e w' => e = .returned (.bool true) ∧ Below w.heap.size w w' := by
  by_cases h : 300 < len1
  · exact probeMeters_early a0 a1 len1 cap1 w h
  · exact probeMeters_main a0 a1 len1 cap1 F1 B1 w (by omega) w1
end Go.Proofs.YtcakdmapnmneoaaGreat
