/- SharedMeters, walked (chapter 10). -/
import Derived.Test.YtajmfenfajbakaaGreatPkS
import Derived.Test.YtajmfenfajbakaaGreatPast
namespace Go.Proofs.YtajmfenfajbakaaGreat
open Go.RowKit
set_option linter.unusedVariables false
set_option linter.unusedSimpArgs false

theorem eql_c410 (c : C4) (w : World) : (binOp .eql 38 (.agg #[.int .i64 c.a, .int .i64 c.b, .int .i64 c.c, .int .i64 c.d]) (.agg #[.int .i64 c.a, .int .i64 c.b, .int .i64 c.c, .int .i64 c.d])).run Tryz.prog w = .ok (.bool true) w := by
  obtain ⟨a, b, c, d⟩ := c
  simp [go_sem]
set_option maxRecDepth 100000 in
set_option maxHeartbeats 4000000 in
theorem sharedMeters_walk (most al : Int) (a0 : Option Addr) (n0 c0 : Nat) (F : Nat → Int) (N : Nat → ByteArray) (w : World) (h0 : FldRow (fun j => [2].contains j) 4 w a0 n0 F N) :
    Calls Tryz.prog 4 #[.int .i64 most, .int .i64 al, .slice a0 n0 c0] w fun e w' => e = .returned (.bool true) ∧ Below w.heap.size w w' := by
  have H0 := Lib.hid h0
  have MU := much10_any a0 n0 c0 F N w h0
  obtain ⟨B, hB⟩ := ex_hid w.heap.size
  rw [← hB.out]
  clear h0
  go_enter Tryz.func4, Tryz.ntmps4
  go_wp2_with fail
  refine MU.mono ?_
  rintro r w1 ⟨rfl, (rfl | ⟨rfl, hlen, hsz⟩)⟩
  · clear MU
    go_wp2_with fail
    refine (awake10 w).mono ?_
    rintro r w1 ⟨rfl, k1⟩
    have K1 := Lib.hid k1
    clear k1
    go_wp2_with fail
    go_ret
    exact ⟨rfl, K1.out.below (by rw [hB.out]; exact Nat.le_refl _) (by simp)⟩
  · have HL := Lib.hid (And.intro hlen hsz)
    clear MU hlen hsz
    go_upto_region 5 with (fail)
    refine wp_gen (fun V => V.heap[w.heap.size]? = some (mtr ⟨0, 0, 0, 0⟩) ∧ V.heap[w.heap.size + 1]? = some (ctr ⟨0, 0, 0, 0⟩) ∧ Keeps [] w V) ⟨has_alloc (has_new _ _) _, has_new' _ _ (by simp), ((Keeps.refl [] w).alloc _).alloc _⟩ ?_
    rintro w1 ⟨b1, b2, k1⟩
    rw [← hB.out] at b1 b2 ⊢
    have kd : Keeps [] w w1.drew := k1.trans (Keeps.refl [] w1).drew
    have M1 : MtrAt (some B) ⟨0, 0, 0, 0⟩ w1.drew := fun b hb => by cases hb; exact b1
    have M2 : CtrAt (some (B + 1)) ⟨0, 0, 0, 0⟩ w1.drew := fun b hb => by cases hb; exact b2
    have hlo : w.heap.size ≤ w1.drew.heap.size := kd.size
    have BG : Calls Tryz.prog 9 #[.int .i64 most, .int .i64 al, mV (some B), mV (some (B + 1))] w1.drew (BegunP w.heap.size (some B) (some (B + 1)) w1.drew) := by
      by_cases hb : 0 ≤ most ∧ most ≤ 256 ∧ 0 ≤ al ∧ al ≤ 65536
      · exact begun_ok w.heap.size most al _ _ w1.drew hb M1 M2 hlo (fun b hb => by cases hb; rw [hB.out]; exact Nat.le_refl _) (fun b hb => by cases hb; rw [hB.out]; omega) (fun b hb => by cases hb; simp)
      · exact begun_bad w.heap.size most al _ _ w1.drew hb
    have PL := plays10_any w most al (some B) (some (B + 1)) a0 n0 c0 F N w1.drew H0.out HL.out.2 HL.out.1 (kd.below (Nat.le_refl _) (by simp)) BG M1 M2
    rw [show mV (some B) = .pointer (some ⟨B, 0, none⟩) from rfl, show mV (some (B + 1)) = .pointer (some ⟨B + 1, 0, none⟩) from rfl] at PL
    unfold PlaysP10 at PL
    rw [← hB.out] at PL
    clear b1 b2 k1 kd M1 M2 hlo BG HL H0
    refine wp_regionG (fun _ => True) 5 (by kernel_rfl) trivial (fun hF => ?_)
    refine wpAnyG_takeY (i := 0) (v := ?_) rfl (by kernel_rfl) (by decide +kernel) (by decide +kernel) (by decide +kernel) (fun _ _ _ h => h) (by kernel_rfl) ?_ (by assumption) ?_
    rotate_left
    · (intro wz; go_simp; with_reducible rfl)
    try simp only [Act.put, List.setIfInBounds_toArray, List.set_cons_zero, List.set_cons_succ]
    refine wpAnyG_takeY (i := 1) (v := ?_) rfl (by kernel_rfl) (by decide +kernel) (by decide +kernel) (by decide +kernel) (fun _ _ _ h => h) (by kernel_rfl) ?_ (by assumption) ?_
    rotate_left
    · (intro wz; go_simp; with_reducible rfl)
    try simp only [Act.put, List.setIfInBounds_toArray, List.set_cons_zero, List.set_cons_succ]
    refine wpAnyG_takeY (i := 2) (v := ?_) rfl (by kernel_rfl) (by decide +kernel) (by decide +kernel) (by decide +kernel) (fun _ _ _ h => h) (by kernel_rfl) ?_ (by assumption) ?_
    rotate_left
    · (intro wz; go_simp; with_reducible rfl)
    try simp only [Act.put, List.setIfInBounds_toArray, List.set_cons_zero, List.set_cons_succ]
    refine wpAnyG_takeY (i := 3) (v := ?_) rfl (by kernel_rfl) (by decide +kernel) (by decide +kernel) (by decide +kernel) (fun _ _ _ h => h) (by kernel_rfl) ?_ (by assumption) ?_
    rotate_left
    · (intro wz; go_simp; with_reducible rfl)
    try simp only [Act.put, List.setIfInBounds_toArray, List.set_cons_zero, List.set_cons_succ]
    refine wpAnyG_takeY (i := 4) (v := ?_) rfl (by kernel_rfl) (by decide +kernel) (by decide +kernel) (by decide +kernel) (fun _ _ _ h => h) (by kernel_rfl) ?_ (by assumption) ?_
    rotate_left
    · (intro wz; go_simp; with_reducible rfl)
    try simp only [Act.put, List.setIfInBounds_toArray, List.set_cons_zero, List.set_cons_succ]
    refine wpAnyG_last rfl (by kernel_rfl) (by rfl) (by rfl) (fun K hK => ?_)
    have HK := Lib.hid hK
    clear hK
    go_simp
    refine PL.mono ?_
    rintro r w2 ⟨rfl, bl, c, mb, cb⟩
    have MB := Lib.hid (mb B rfl)
    have BL := Lib.hid bl
    have cb2 := cb (B + 1) rfl
    have y0 : w2.cell? ⟨B + 1, 0, none⟩ = some (.int .i64 c.a) := cell_has cb2 (i := 0) rfl
    have y1 : w2.cell? ⟨B + 1, 1, none⟩ = some (.int .i64 c.b) := cell_has cb2 (i := 1) rfl
    have y2 : w2.cell? ⟨B + 1, 2, none⟩ = some (.int .i64 c.c) := cell_has cb2 (i := 2) rfl
    have y3 : w2.cell? ⟨B + 1, 3, none⟩ = some (.int .i64 c.d) := cell_has cb2 (i := 3) rfl
    have hq := fun w => eql_c410 c w
    clear PL bl mb cb cb2 hF
    refine HK.out _ _ ?_
    clear HK K
    try simp only [Act.put, List.setIfInBounds_toArray, List.set_cons_zero, List.set_cons_succ]
    refine wpAnyG_past _ _ _ _ (by decide +kernel) ?_
    refine wpAny_of_g (F := fun w' => w'.cell? ⟨B + 1, 0, none⟩ = some (.int .i64 c.a) ∧ w'.cell? ⟨B + 1, 1, none⟩ = some (.int .i64 c.b) ∧ w'.cell? ⟨B + 1, 2, none⟩ = some (.int .i64 c.c) ∧ w'.cell? ⟨B + 1, 3, none⟩ = some (.int .i64 c.d)) (s := 19) _ _ _ _ ?_
    have hF2 : (fun w' : World => w'.cell? ⟨B + 1, 0, none⟩ = some (.int .i64 c.a) ∧ w'.cell? ⟨B + 1, 1, none⟩ = some (.int .i64 c.b) ∧ w'.cell? ⟨B + 1, 2, none⟩ = some (.int .i64 c.c) ∧ w'.cell? ⟨B + 1, 3, none⟩ = some (.int .i64 c.d)) w2 := ⟨y0, y1, y2, y3⟩
    refine wpAnyG_takeY (i := 6) (v := ?_) rfl (by kernel_rfl) (by decide +kernel) (by decide +kernel) (by decide +kernel) (fun _ _ _ h => h) (by kernel_rfl) ?_ (by assumption) ?_
    rotate_left
    · (intro wz; go_simp; with_reducible rfl)
    try simp only [Act.put, List.setIfInBounds_toArray, List.set_cons_zero, List.set_cons_succ]
    refine wpAnyG_takeY (i := 7) (v := ?_) rfl (by kernel_rfl) (by decide +kernel) (by decide +kernel) (by decide +kernel) (fun _ _ _ h => h) (by kernel_rfl) ?_ (by assumption) ?_
    rotate_left
    · (intro wz; go_simp; with_reducible rfl)
    try simp only [Act.put, List.setIfInBounds_toArray, List.set_cons_zero, List.set_cons_succ]
    refine wpAnyG_takeY (i := 9) (v := ?_) rfl (by kernel_rfl) (by decide +kernel) (by decide +kernel) (by decide +kernel) (fun _ _ _ h => h) (by kernel_rfl) ?_ (by assumption) ?_
    rotate_left
    · (intro wz; go_simp; with_reducible rfl)
    try simp only [Act.put, List.setIfInBounds_toArray, List.set_cons_zero, List.set_cons_succ]
    refine wpAnyG_takeY (i := 10) (v := ?_) rfl (by kernel_rfl) (by decide +kernel) (by decide +kernel) (by decide +kernel) (fun _ _ _ h => h) (by kernel_rfl) ?_ (by assumption) ?_
    rotate_left
    · (intro wz; go_simp; with_reducible rfl)
    try simp only [Act.put, List.setIfInBounds_toArray, List.set_cons_zero, List.set_cons_succ]
    refine wpAnyG_takeY (i := 11) (v := ?_) rfl (by kernel_rfl) (by decide +kernel) (by decide +kernel) (by decide +kernel) (fun _ _ _ h => h) (by kernel_rfl) ?_ (by assumption) ?_
    rotate_left
    · (intro wz; go_simp; with_reducible rfl)
    try simp only [Act.put, List.setIfInBounds_toArray, List.set_cons_zero, List.set_cons_succ]
    refine wpAnyG_take (i := 12) (v := ?_) rfl (by kernel_rfl) (by decide +kernel) (by decide +kernel) (by decide +kernel) (by decide +kernel) (by rfl) (fun _ _ _ h => h) (by kernel_rfl) ?_ (by assumption) ?_
    rotate_left
    · (intro wz hSw; (try dsimp only at hSw); go_simp; with_reducible rfl)
    try simp only [Act.put, List.setIfInBounds_toArray, List.set_cons_zero, List.set_cons_succ]
    refine wpAnyG_one (i := 8) rfl (by kernel_rfl) (by kernel_rfl) (fun K hK => ?_)
    have HK := Lib.hid hK
    clear hK
    go_simp
    refine (read_any B c _ MB.out).mono ?_
    rintro r w3 ⟨rfl, b3⟩
    have k3 := Below.keeps b3 []
    have K3 := Lib.hid k3
    have hF3 : (fun w' : World => w'.cell? ⟨B + 1, 0, none⟩ = some (.int .i64 c.a) ∧ w'.cell? ⟨B + 1, 1, none⟩ = some (.int .i64 c.b) ∧ w'.cell? ⟨B + 1, 2, none⟩ = some (.int .i64 c.c) ∧ w'.cell? ⟨B + 1, 3, none⟩ = some (.int .i64 c.d)) w3 := ⟨k3.cell y0 (by simp), k3.cell y1 (by simp), k3.cell y2 (by simp), k3.cell y3 (by simp)⟩
    refine HK.out _ _ hF3 ?_
    clear HK K b3 k3
    try simp only [Act.put, List.setIfInBounds_toArray, List.set_cons_zero, List.set_cons_succ]
    refine wpAnyG_takeY (i := 13) (v := ?_) rfl (by kernel_rfl) (by decide +kernel) (by decide +kernel) (by decide +kernel) (fun _ _ _ h => h) (by kernel_rfl) ?_ (by assumption) ?_
    rotate_left
    · (intro wz; go_simp; with_reducible rfl)
    try simp only [Act.put, List.setIfInBounds_toArray, List.set_cons_zero, List.set_cons_succ]
    refine wpAnyG_takeY (i := 14) (v := ?_) rfl (by kernel_rfl) (by decide +kernel) (by decide +kernel) (by decide +kernel) (fun _ _ _ h => h) (by kernel_rfl) ?_ (by assumption) ?_
    rotate_left
    · (intro wz; go_simp; with_reducible rfl)
    try simp only [Act.put, List.setIfInBounds_toArray, List.set_cons_zero, List.set_cons_succ]
    refine wpAnyG_takeY (i := 15) (v := ?_) rfl (by kernel_rfl) (by decide +kernel) (by decide +kernel) (by decide +kernel) (fun _ _ _ h => h) (by kernel_rfl) ?_ (by assumption) ?_
    rotate_left
    · (intro wz; go_simp; with_reducible rfl)
    try simp only [Act.put, List.setIfInBounds_toArray, List.set_cons_zero, List.set_cons_succ]
    refine wpAnyG_one (i := 16) rfl (by kernel_rfl) (by kernel_rfl) (fun K hK => ?_)
    have HK := Lib.hid hK
    clear hK
    go_simp
    refine (awake10 _).mono ?_
    rintro r w4 ⟨rfl, k4⟩
    have K4 := Lib.hid (K3.out.trans k4)
    have hF4 : (fun w' : World => w'.cell? ⟨B + 1, 0, none⟩ = some (.int .i64 c.a) ∧ w'.cell? ⟨B + 1, 1, none⟩ = some (.int .i64 c.b) ∧ w'.cell? ⟨B + 1, 2, none⟩ = some (.int .i64 c.c) ∧ w'.cell? ⟨B + 1, 3, none⟩ = some (.int .i64 c.d)) w4 := ⟨k4.cell hF3.1 (by simp), k4.cell hF3.2.1 (by simp), k4.cell hF3.2.2.1 (by simp), k4.cell hF3.2.2.2 (by simp)⟩
    refine HK.out _ _ hF4 ?_
    clear HK K k4
    try simp only [Act.put, List.setIfInBounds_toArray, List.set_cons_zero, List.set_cons_succ]
    refine wpAnyG_takeY (i := 17) (v := ?_) rfl (by kernel_rfl) (by decide +kernel) (by decide +kernel) (by decide +kernel) (fun _ _ _ h => h) (by kernel_rfl) ?_ (by assumption) ?_
    rotate_left
    · (intro wz; go_simp; with_reducible rfl)
    try simp only [Act.put, List.setIfInBounds_toArray, List.set_cons_zero, List.set_cons_succ]
    refine wpAnyG_takeY (i := 18) (v := ?_) rfl (by kernel_rfl) (by decide +kernel) (by decide +kernel) (by decide +kernel) (fun _ _ _ h => h) (by kernel_rfl) ?_ (by assumption) ?_
    rotate_left
    · (intro wz; go_simp; with_reducible rfl)
    try simp only [Act.put, List.setIfInBounds_toArray, List.set_cons_zero, List.set_cons_succ]
    refine wpAnyG_done (by kernel_rfl) ?_ _
    go_simp
    clear hF2 hF3 hF4 y0 y1 y2 y3 hq
    go_wp2_with fail
    go_ret
    exact ⟨rfl, BL.out.trans (K4.out.below (by have := BL.out.size; rw [hB.out]; exact this) (by simp))⟩
end Go.Proofs.YtajmfenfajbakaaGreat
