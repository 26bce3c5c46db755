/- Seek, on, Visited (chapter 7). -/
import Derived.Test.YtajcbghhpjpmhaaTabSeekM
import Derived.Test.YtajcbghhpjpmhaaTabGrow
import Derived.Test.YtajcbghhpjpmhaaTrailT
import Derived.Test.YtajcbghhpjpmhaaInRound
namespace Go.Proofs.Ytajcbghhpjpmhaa
open Go.RowKit
set_option linter.unusedVariables false
set_option linter.unusedSimpArgs false

/-- A Seeker's block. -/
def skO (t : Nat) (s : Sk) (c p : Nat) : Obj := .cells #[.pointer (some ⟨t, 0, none⟩), .int .i64 s.h, .int .i64 c, .int .u64 p, .int .i64 s.tu, .int .i64 s.vis, .int .i64 s.told, .bool s.over] 106 (0, 0)
def skC (s : Sk) : Nat := trC s.L (uh s.h) s.i
def skP (s : Sk) : Nat := uh s.h / 32 ^ s.i
def SkAt (sb t : Nat) (s : Sk) (W : World) : Prop := ∃ c p, W.heap[sb]? = some (skO t s c p) ∧ (s.over = false → c = skC s ∧ p = skP s)
theorem SkAt.keeps {sb t : Nat} {s : Sk} {W W' : World} {S : List Nat} (h : SkAt sb t s W) (k : Keeps S W W') (hs : sb ∉ S) : SkAt sb t s W' := by
  obtain ⟨c, p, h1, h2⟩ := h
  exact ⟨c, p, k.has h1 hs, h2⟩
theorem skP_lt (s : Sk) : skP s < 18446744073709551616 := Nat.lt_of_le_of_lt (Nat.div_le_self _ _) (uh_lt _)
def SeekP (t : Nat) (T : Tab) (h : Int) (w : World) (r : Ending) (w' : World) : Prop :=
  ∃ sb, r = .returned (.pointer (some ⟨sb, 0, none⟩)) ∧ SkAt sb t (T.seek h) w' ∧ w.heap.size ≤ sb ∧ Keeps [] w w'
set_option maxRecDepth 100000 in
theorem seek_any (t lo : Nat) (S : List Nat) (m : Value) (T : Tab) (w : World) (H : TabAt t lo S m T w) (hL : T.L ≤ 20) (h : Int) :
    Calls Try.prog 21 #[.pointer (some ⟨t, 0, none⟩), .int .i64 h] w (SeekP t T h w) := by
  have HH := Lib.hid H
  obtain ⟨a, c, cb, cr, h1, h2, h3, _⟩ := H
  have HC := Lib.hid h3
  have e2 : w.cell? ⟨t, 2, none⟩ = some (.pointer (some ⟨cb, 0, none⟩)) := cell_has h1 (i := 2) rfl
  have e6 : w.cell? ⟨t, 6, none⟩ = some (.int .i64 T.turns) := cell_has h1 (i := 6) rfl
  have huc := Lib.hid (uh_cast h)
  clear h1 h2 h3
  go_enter Try.func21, Try.ntmps21
  go_wp2_with fail
  refine (begin_any t lo S m T.E T.V T.L (liveN T.E) T.births T.made T.turns _ HH.out).mono ?_
  rintro r w1 ⟨rfl, rfl⟩
  go_wp2_with fail
  go_region_held3 (fun w' => w'.cell? ⟨t, 2, none⟩ = some (.pointer (some ⟨cb, 0, none⟩)) ∧ w'.cell? ⟨t, 6, none⟩ = some (.int .i64 T.turns)) (go_keep)
    (first
      | (go_at_call 42; refine (log_any cb cr T.L (2 ^ T.L) T.V _ (HC.out.keeps (Keeps.refl [] w).drew (by simp) (by simp))).mono ?_; rintro r1 w1 ⟨rfl, rfl⟩)
      | (go_at_call 49; refine (first_any h T.L _ T.L rfl hL).mono ?_; rintro r1 w1 ⟨rfl, rfl⟩))
  go_wp2_with fail
  go_ret
  refine ⟨w.heap.size, rfl, ⟨skC (T.seek h), skP (T.seek h), ?_, fun _ => ⟨rfl, rfl⟩⟩, Nat.le_refl _, (Keeps.refl [] w).drew.alloc _⟩
  refine (has_new' w.drew _ rfl).trans ?_
  rw [huc.out]
  simp [skO, skC, skP, Tab.seek]
theorem visited_any (sb t : Nat) (s : Sk) (w : World) (H : SkAt sb t s w) :
    Calls Try.prog 24 #[.pointer (some ⟨sb, 0, none⟩)] w fun r w' => r = .returned (.int .i64 s.vis) ∧ w = w' := by
  obtain ⟨c, p, h1, _⟩ := H
  have e5 : w.cell? ⟨sb, 5, none⟩ = some (.int .i64 s.vis) := cell_has h1 (i := 5) rfl
  clear h1
  go_enter Try.func24, Try.ntmps24
  go_wp2_with fail
  go_ret
  exact ⟨rfl, rfl⟩
set_option maxRecDepth 100000 in
set_option maxHeartbeats 2000000 in
theorem on_any (sb t cb cr L : Nat) (V : Nat → Int) (c p : Nat) (o1 o4 o5 o6 o7 : Value) (w : World) (hs : w.heap[sb]? = some (.cells #[.pointer (some ⟨t, 0, none⟩), o1, .int .i64 c, .int .u64 p, o4, o5, o6, o7] 106 (0, 0)))
    (ht : w.cell? ⟨t, 2, none⟩ = some (.pointer (some ⟨cb, 0, none⟩))) (hC : CellsAt cb cr L (2 ^ L) V w) (htb : t ≠ sb) (hcb : cb ≠ sb) (hcr : cr ≠ sb) (hL : L ≤ 20) (hc : c < 2 ^ L) (hp : p < 18446744073709551616) :
    Calls Try.prog 52 #[.pointer (some ⟨sb, 0, none⟩)] w fun r w' => r = .returned (.tuple #[]) ∧ w'.heap[sb]? = some (.cells #[.pointer (some ⟨t, 0, none⟩), o1, .int .i64 (nxtC L c p : Nat), .int .u64 (p / 32 : Nat), o4, o5, o6, o7] 106 (0, 0)) ∧ Keeps [sb] w w' := by
  have HS := Lib.hid hs
  have HC := Lib.hid hC
  have e0 : w.cell? ⟨sb, 0, none⟩ = some (.pointer (some ⟨t, 0, none⟩)) := cell_has hs (i := 0) rfl
  have e2 : w.cell? ⟨sb, 2, none⟩ = some (.int .i64 c) := cell_has hs (i := 2) rfl
  have e3 : w.cell? ⟨sb, 3, none⟩ = some (.int .u64 p) := cell_has hs (i := 3) rfl
  have f3 := free_of_has hs 3
  obtain ⟨M, hM⟩ := ex_hid (2 ^ L)
  have m2 : (M : Int) ≤ 1048576 := by have := pow_le hL; rw [hM.out]; omega
  have e1 : IntKind.u64.wrap ((2 : Int) ^ L) = (M : Int) := by rw [hM.out]; exact u64_pow L hL
  rw [← hM.out] at hc
  clear hs hC
  go_enter Try.func52, Try.ntmps52
  go_wp2_with fail
  refine wp_gen (fun W => W.heap[sb]? = some (.cells #[.pointer (some ⟨t, 0, none⟩), o1, .int .i64 c, .int .u64 ((p : Int) / 32), o4, o5, o6, o7] 106 (0, 0)) ∧ Keeps [sb] w W) ⟨has_setCell HS.out 3 _, (Keeps.refl _ _).setCell (.inr (by simp)) _⟩ ?_
  rintro W ⟨hb, k1⟩
  have x0 : W.cell? ⟨sb, 0, none⟩ = some (.pointer (some ⟨t, 0, none⟩)) := cell_has hb (i := 0) rfl
  have x2 : W.cell? ⟨sb, 2, none⟩ = some (.int .i64 c) := cell_has hb (i := 2) rfl
  have x3 : W.cell? ⟨sb, 3, none⟩ = some (.int .u64 ((p : Int) / 32)) := cell_has hb (i := 3) rfl
  have y2 : W.cell? ⟨t, 2, none⟩ = some (.pointer (some ⟨cb, 0, none⟩)) := k1.cell ht (by simpa using htb)
  have f2 : W.frozen? ⟨sb, 2, none⟩ = false := free_of_has hb 2
  have HB := Lib.hid hb
  have K1 := Lib.hid k1
  have hci : (c : Int) < 1048576 := by omega
  have hc0 : (0 : Int) ≤ (c : Int) := by omega
  have hp0 : (0 : Int) ≤ (p : Int) := by omega
  have hp1 : (p : Int) < 18446744073709551616 := by omega
  have hL0 : (0 : Int) ≤ (L : Int) := by omega
  have hL1 : (L : Int) ≤ 20 := by omega
  have m1 : 0 < (M : Int) := by have := pow_pos L; rw [hM.out]; omega
  clear e0 e2 e3 f3 hb k1 ht
  refine wp_regionG (fun w' => w'.cell? ⟨sb, 0, none⟩ = some (.pointer (some ⟨t, 0, none⟩)) ∧ w'.cell? ⟨sb, 2, none⟩ = some (.int .i64 c) ∧ w'.cell? ⟨sb, 3, none⟩ = some (.int .u64 ((p : Int) / 32)) ∧ w'.cell? ⟨t, 2, none⟩ = some (.pointer (some ⟨cb, 0, none⟩))) 27 (by kernel_rfl) ⟨x0, x2, x3, y2⟩ (fun hF => ?_)
  refine wpAnyG_takeY (i := 0) (v := ?_) rfl (by kernel_rfl) (by decide +kernel) (by decide +kernel) (by decide +kernel) (fun _ _ _ h => h) (by kernel_rfl) ?_ (by assumption) ?_
  rotate_left
  · (intro wz; go_simp; with_reducible rfl)
  try simp only [Act.put, List.setIfInBounds_toArray, List.set_cons_zero, List.set_cons_succ]
  refine wpAnyG_takeY (i := 1) (v := ?_) rfl (by kernel_rfl) (by decide +kernel) (by decide +kernel) (by decide +kernel) (fun _ _ _ h => h) (by kernel_rfl) ?_ (by assumption) ?_
  rotate_left
  · (intro wz; go_simp; with_reducible rfl)
  try simp only [Act.put, List.setIfInBounds_toArray, List.set_cons_zero, List.set_cons_succ]
  refine wpAnyG_takeY (i := 2) (v := ?_) rfl (by kernel_rfl) (by decide +kernel) (by decide +kernel) (by decide +kernel) (fun _ _ _ h => h) (by kernel_rfl) ?_ (by assumption) ?_
  rotate_left
  · (intro wz; go_simp; with_reducible rfl)
  try simp only [Act.put, List.setIfInBounds_toArray, List.set_cons_zero, List.set_cons_succ]
  refine wpAnyG_takeY (i := 3) (v := ?_) rfl (by kernel_rfl) (by decide +kernel) (by decide +kernel) (by decide +kernel) (fun _ _ _ h => h) (by kernel_rfl) ?_ (by assumption) ?_
  rotate_left
  · (intro wz; go_simp; with_reducible rfl)
  try simp only [Act.put, List.setIfInBounds_toArray, List.set_cons_zero, List.set_cons_succ]
  refine wpAnyG_take (i := 4) (v := ?_) rfl (by kernel_rfl) (by decide +kernel) (by decide +kernel) (by decide +kernel) (by decide +kernel) (by rfl) (fun _ _ _ h => h) (by kernel_rfl) ?_ (by assumption) ?_
  rotate_left
  · (intro wz hSw; (try dsimp only at hSw); go_simp; with_reducible rfl)
  try simp only [Act.put, List.setIfInBounds_toArray, List.set_cons_zero, List.set_cons_succ]
  refine wpAnyG_takeY (i := 5) (v := ?_) rfl (by kernel_rfl) (by decide +kernel) (by decide +kernel) (by decide +kernel) (fun _ _ _ h => h) (by kernel_rfl) ?_ (by assumption) ?_
  rotate_left
  · (intro wz; go_simp; with_reducible rfl)
  try simp only [Act.put, List.setIfInBounds_toArray, List.set_cons_zero, List.set_cons_succ]
  refine wpAnyG_takeY (i := 6) (v := ?_) rfl (by kernel_rfl) (by decide +kernel) (by decide +kernel) (by decide +kernel) (fun _ _ _ h => h) (by kernel_rfl) ?_ (by assumption) ?_
  rotate_left
  · (intro wz; go_simp; with_reducible rfl)
  try simp only [Act.put, List.setIfInBounds_toArray, List.set_cons_zero, List.set_cons_succ]
  refine wpAnyG_takeY (i := 7) (v := ?_) rfl (by kernel_rfl) (by decide +kernel) (by decide +kernel) (by decide +kernel) (fun _ _ _ h => h) (by kernel_rfl) ?_ (by assumption) ?_
  rotate_left
  · (intro wz; go_simp; with_reducible rfl)
  try simp only [Act.put, List.setIfInBounds_toArray, List.set_cons_zero, List.set_cons_succ]
  refine wpAnyG_takeY (i := 8) (v := ?_) rfl (by kernel_rfl) (by decide +kernel) (by decide +kernel) (by decide +kernel) (fun _ _ _ h => h) (by kernel_rfl) ?_ (by assumption) ?_
  rotate_left
  · (intro wz; go_simp; with_reducible rfl)
  try simp only [Act.put, List.setIfInBounds_toArray, List.set_cons_zero, List.set_cons_succ]
  refine wpAnyG_takeY (i := 9) (v := ?_) rfl (by kernel_rfl) (by decide +kernel) (by decide +kernel) (by decide +kernel) (fun _ _ _ h => h) (by kernel_rfl) ?_ (by assumption) ?_
  rotate_left
  · (intro wz; go_simp; with_reducible rfl)
  try simp only [Act.put, List.setIfInBounds_toArray, List.set_cons_zero, List.set_cons_succ]
  refine wpAnyG_take (i := 10) (v := ?_) rfl (by kernel_rfl) (by decide +kernel) (by decide +kernel) (by decide +kernel) (by decide +kernel) (by rfl) (fun _ _ _ h => h) (by kernel_rfl) ?_ (by assumption) ?_
  rotate_left
  · (intro wz hSw; (try dsimp only at hSw); go_simp; with_reducible rfl)
  try simp only [Act.put, List.setIfInBounds_toArray, List.set_cons_zero, List.set_cons_succ]
  refine wpAnyG_takeY (i := 11) (v := ?_) rfl (by kernel_rfl) (by decide +kernel) (by decide +kernel) (by decide +kernel) (fun _ _ _ h => h) (by kernel_rfl) ?_ (by assumption) ?_
  rotate_left
  · (intro wz; go_simp; with_reducible rfl)
  try simp only [Act.put, List.setIfInBounds_toArray, List.set_cons_zero, List.set_cons_succ]
  refine wpAnyG_takeY (i := 12) (v := ?_) rfl (by kernel_rfl) (by decide +kernel) (by decide +kernel) (by decide +kernel) (fun _ _ _ h => h) (by kernel_rfl) ?_ (by assumption) ?_
  rotate_left
  · (intro wz; go_simp; with_reducible rfl)
  try simp only [Act.put, List.setIfInBounds_toArray, List.set_cons_zero, List.set_cons_succ]
  refine wpAnyG_takeY (i := 13) (v := ?_) rfl (by kernel_rfl) (by decide +kernel) (by decide +kernel) (by decide +kernel) (fun _ _ _ h => h) (by kernel_rfl) ?_ (by assumption) ?_
  rotate_left
  · (intro wz; go_simp; with_reducible rfl)
  try simp only [Act.put, List.setIfInBounds_toArray, List.set_cons_zero, List.set_cons_succ]
  refine wpAnyG_takeY (i := 14) (v := ?_) rfl (by kernel_rfl) (by decide +kernel) (by decide +kernel) (by decide +kernel) (fun _ _ _ h => h) (by kernel_rfl) ?_ (by assumption) ?_
  rotate_left
  · (intro wz; go_simp; with_reducible rfl)
  try simp only [Act.put, List.setIfInBounds_toArray, List.set_cons_zero, List.set_cons_succ]
  refine wpAnyG_takeY (i := 15) (v := ?_) rfl (by kernel_rfl) (by decide +kernel) (by decide +kernel) (by decide +kernel) (fun _ _ _ h => h) (by kernel_rfl) ?_ (by assumption) ?_
  rotate_left
  · (intro wz; go_simp; with_reducible rfl)
  try simp only [Act.put, List.setIfInBounds_toArray, List.set_cons_zero, List.set_cons_succ]
  refine wpAnyG_take (i := 16) (v := ?_) rfl (by kernel_rfl) (by decide +kernel) (by decide +kernel) (by decide +kernel) (by decide +kernel) (by rfl) (fun _ _ _ h => h) (by kernel_rfl) ?_ (by assumption) ?_
  rotate_left
  · (intro wz hSw; (try dsimp only at hSw); go_simp; with_reducible rfl)
  try simp only [Act.put, List.setIfInBounds_toArray, List.set_cons_zero, List.set_cons_succ]
  refine wpAnyG_takeY (i := 17) (v := ?_) rfl (by kernel_rfl) (by decide +kernel) (by decide +kernel) (by decide +kernel) (fun _ _ _ h => h) (by kernel_rfl) ?_ (by assumption) ?_
  rotate_left
  · (intro wz; go_simp; with_reducible rfl)
  try simp only [Act.put, List.setIfInBounds_toArray, List.set_cons_zero, List.set_cons_succ]
  refine wpAnyG_takeY (i := 18) (v := ?_) rfl (by kernel_rfl) (by decide +kernel) (by decide +kernel) (by decide +kernel) (fun _ _ _ h => h) (by kernel_rfl) ?_ (by assumption) ?_
  rotate_left
  · (intro wz; go_simp; with_reducible rfl)
  try simp only [Act.put, List.setIfInBounds_toArray, List.set_cons_zero, List.set_cons_succ]
  refine wpAnyG_take (i := 19) (v := ?_) rfl (by kernel_rfl) (by decide +kernel) (by decide +kernel) (by decide +kernel) (by decide +kernel) (by rfl) (fun _ _ _ h => h) (by kernel_rfl) ?_ (by assumption) ?_
  rotate_left
  · (intro wz hSw; (try dsimp only at hSw); go_simp; with_reducible rfl)
  try simp only [Act.put, List.setIfInBounds_toArray, List.set_cons_zero, List.set_cons_succ]
  refine wpAnyG_one (i := 20) rfl (by kernel_rfl) (by rfl) (fun K hK => ?_)
  have HK := Lib.hid hK
  clear hK
  go_simp
  refine (log_any cb cr L (2 ^ L) V _ (HC.out.keeps K1.out.drew (by simp; exact hcb) (by simp; exact hcr))).mono ?_
  rintro r w1 ⟨rfl, rfl⟩
  refine HK.out _ _ hF ?_
  clear HK K
  try simp only [Act.put, List.setIfInBounds_toArray, List.set_cons_zero, List.set_cons_succ]
  refine wpAnyG_takeY (i := 21) (v := ?_) rfl (by kernel_rfl) (by decide +kernel) (by decide +kernel) (by decide +kernel) (fun _ _ _ h => h) (by kernel_rfl) ?_ (by assumption) ?_
  rotate_left
  · (intro wz; go_simp; with_reducible rfl)
  try simp only [Act.put, List.setIfInBounds_toArray, List.set_cons_zero, List.set_cons_succ]
  refine wpAnyG_takeY (i := 22) (v := ?_) rfl (by kernel_rfl) (by decide +kernel) (by decide +kernel) (by decide +kernel) (fun _ _ _ h => h) (by kernel_rfl) ?_ (by assumption) ?_
  rotate_left
  · (intro wz; go_simp; with_reducible rfl)
  try simp only [Act.put, List.setIfInBounds_toArray, List.set_cons_zero, List.set_cons_succ]
  refine wpAnyG_takeY (i := 23) (v := ?_) rfl (by kernel_rfl) (by decide +kernel) (by decide +kernel) (by decide +kernel) (fun _ _ _ h => h) (by kernel_rfl) ?_ (by assumption) ?_
  rotate_left
  · (intro wz; go_simp; with_reducible rfl)
  try simp only [Act.put, List.setIfInBounds_toArray, List.set_cons_zero, List.set_cons_succ]
  refine wpAnyG_takeY (i := 24) (v := ?_) rfl (by kernel_rfl) (by decide +kernel) (by decide +kernel) (by decide +kernel) (fun _ _ _ h => h) (by kernel_rfl) ?_ (by assumption) ?_
  rotate_left
  · (intro wz; go_simp; with_reducible rfl)
  try simp only [Act.put, List.setIfInBounds_toArray, List.set_cons_zero, List.set_cons_succ]
  refine wpAnyG_takeY (i := 25) (v := ?_) rfl (by kernel_rfl) (by decide +kernel) (by decide +kernel) (by decide +kernel) (fun _ _ _ h => h) (by kernel_rfl) ?_ (by assumption) ?_
  rotate_left
  · (intro wz; go_simp; with_reducible rfl)
  try simp only [Act.put, List.setIfInBounds_toArray, List.set_cons_zero, List.set_cons_succ]
  refine wpAnyG_takeY (i := 26) (v := ?_) rfl (by kernel_rfl) (by decide +kernel) (by decide +kernel) (by decide +kernel) (fun _ _ _ h => h) (by kernel_rfl) ?_ (by assumption) ?_
  rotate_left
  · (intro wz; go_simp; with_reducible rfl)
  try simp only [Act.put, List.setIfInBounds_toArray, List.set_cons_zero, List.set_cons_succ]
  refine wpAnyG_last rfl (by kernel_rfl) (by rfl) (by rfl) (fun K hK => ?_)
  have HK := Lib.hid hK
  clear hK
  go_simp
  refine HK.out _ _ ?_
  clear HK K
  refine wpAnyG_done (by kernel_rfl) ?_ _
  have hv : IntKind.i64.wrap (bits BinOp.and IntKind.u64 (IntKind.u64.wrap (IntKind.u64.wrap (IntKind.u64.wrap (5 * IntKind.u64.wrap (c : Int)) + (p : Int) / 32) + 1)) (IntKind.u64.wrap ((M : Int) - 1))) = ((nxtC L c p : Nat) : Int) := by
    have q1 : IntKind.u64.wrap (c : Int) = (c : Int) := by rw [IntKind.wrap_u64]; omega
    have q2 : IntKind.u64.wrap (5 * (c : Int)) = 5 * (c : Int) := by rw [IntKind.wrap_u64]; omega
    have q3 : IntKind.u64.wrap (5 * (c : Int) + (p : Int) / 32) = 5 * (c : Int) + (p : Int) / 32 := by rw [IntKind.wrap_u64]; omega
    have q4 : IntKind.u64.wrap (5 * (c : Int) + (p : Int) / 32 + 1) = 5 * (c : Int) + (p : Int) / 32 + 1 := by rw [IntKind.wrap_u64]; omega
    have q5 : IntKind.u64.wrap ((M : Int) - 1) = (M : Int) - 1 := by rw [IntKind.wrap_u64]; omega
    rw [q1, q2, q3, q4, q5, and_mask L (5 * c + p / 32 + 1) hL (by omega) _ _ (by omega) (by rw [hM.out])]
    have h9 : (5 * c + p / 32 + 1) % 2 ^ L = nxtC L c p := rfl
    rw [h9]
    have := nxtC_lt L c p
    rw [← hM.out] at this
    rw [IntWalk.i64_left]
    exact IntWalk.wrap64_in _ (by omega)
  rw [hv]
  go_end0
  have hb := has_setCell HB.out 2 (.int .i64 ((nxtC L c p : Nat) : Int))
  refine ⟨rfl, ?_, ((K1.out.setCell (.inr (by simp)) _).drew)⟩
  refine (has_drew hb).trans ?_
  simp
end Go.Proofs.Ytajcbghhpjpmhaa
