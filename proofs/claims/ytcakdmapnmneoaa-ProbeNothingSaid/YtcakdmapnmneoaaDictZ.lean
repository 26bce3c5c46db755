/- A zero dictionary (chapter 8): its table; a machine's first Step on it. -/
import Derived.Test.YtcakdmapnmneoaaDictNil
namespace Go.Proofs.Ytcakdmapnmneoaa
open Go.RowKit
set_option linter.unusedVariables false
set_option linter.unusedSimpArgs false

theorem TabAt.lower8 {t lo lo' : Nat} {S : List Nat} {m : Value} {T : Tab} {w : World} (h : TabAt t lo' S m T w) (hl : lo ≤ lo') : TabAt t lo S m T w := by
  obtain ⟨a, c, cb, cr, h1, h2, h3, h4, h5, h6, h7, h8⟩ := h
  exact ⟨a, c, cb, cr, h1, h2.lift (fun x hx => by have := (h2.blk_lt x hx).1; omega), h3, h4, h5, h6, h7, fun x hx => ⟨by have := (h8 x hx).1; omega, (h8 x hx).2⟩⟩
def dzO : Obj := .cells #[.pointer none, .int .i64 0, .int .u64 0] 80 (0, 0)
theorem ztable (db lo : Nat) (w : World) (HZ : w.heap[db]? = some dzO) (hl : lo ≤ db) :
    Calls Try.prog 38 #[.pointer (some ⟨db, 0, none⟩)] w fun r w' => ∃ t S, r = .returned (.pointer (some ⟨t, 0, none⟩)) ∧ DicAt db t lo S (mV none) (newD 0) w' ∧ (∀ x, x ∈ S → w.heap.size ≤ x) ∧ Keeps [db] w w' := by
  have c0 : w.cell? ⟨db, 0, none⟩ = some (.pointer none) := cell_has HZ (i := 0) rfl
  have ld := lt_of_block HZ
  have HZ1 := Lib.hid HZ
  clear HZ
  go_enter Try.func38, Try.ntmps38
  go_wp2_with fail
  refine (newt_any none ⟨0, 0, 0, 0⟩ w (MtrAt.nil _ _)).mono ?_
  rintro r w1 ⟨t, S, rfl, t1, m1, k1⟩
  have k1' : Keeps [] w w1 := by simpa [mS] using k1
  have hz1 := k1'.has HZ1.out (by simp)
  have T1 := Lib.hid t1
  have K1 := Lib.hid k1'
  have Z1 := Lib.hid hz1
  have c1 : w1.cell? ⟨db, 0, none⟩ = some (.pointer none) := cell_has hz1 (i := 0) rfl
  have f1 := free_of_has hz1 0
  have hft : ∀ x, x ∈ S → w.heap.size ≤ x := fun x hx => (t1.foot x hx).1
  have HF := Lib.hid hft
  clear t1 m1 k1 k1' hz1 c0 hft
  go_upto_region 3 with (fail)
  refine wp_gen (fun V => V.heap[db]? = some (dictO t 0 0) ∧ Keeps [db] w1 V) ⟨?_, (Keeps.refl _ _).setCell (.inr (by simp)) _⟩ ?_
  · have h9 := has_setCell Z1.out 0 (.pointer (some ⟨t, 0, none⟩))
    simpa [dzO, dictO] using h9
  rintro V ⟨bv, kv⟩
  have c2 : V.cell? ⟨db, 0, none⟩ = some (.pointer (some ⟨t, 0, none⟩)) := cell_has bv (i := 0) rfl
  have BV := Lib.hid bv
  have KV := Lib.hid kv
  clear bv kv c1 f1
  go_wp2_with fail
  go_ret
  exact ⟨t, S, rfl, ⟨BV.out, (T1.out.lower8 (by omega)).keeps KV.out (fun x hx hq => by simp at hq; subst hq; have := HF.out _ hx; omega), fun hx => by have := HF.out _ hx; omega, hl⟩, HF.out, (K1.out.mono (by simp)).trans KV.out⟩
set_option maxRecDepth 100000 in
set_option maxHeartbeats 4000000 in
theorem step_zero (mb db lo g : Nat) (h0 k0 v0 : Int) (w : World) (HZ0 : w.heap[db]? = some dzO) (HQ : MacAt mb mb db 0 (newM g h0 k0 v0) w) (hmd : mb ≠ db) (hlo : lo ≤ db) :
    Calls Try.prog 14 #[.pointer (some ⟨mb, 0, none⟩)] w (fun r w' => ∃ t S, r = .returned (stepM (newD 0) (newM g h0 k0 v0)).turn.agg ∧ DicAt db t lo S (mV none) (stepD (newD 0) (newM g h0 k0 v0)) w' ∧ Keeps [mb, db] w w') := by
  obtain ⟨q, hq⟩ : ∃ q, Hid (q = newM g h0 k0 v0) := ⟨_, Lib.hid rfl⟩
  rw [← hq.out] at HQ ⊢
  obtain ⟨d, hd⟩ : ∃ d, Hid (d = newD 0) := ⟨_, Lib.hid rfl⟩
  rw [← hd.out]
  obtain ⟨m, hm0⟩ : ∃ m : Option Nat, Hid (m = none) := ⟨_, Lib.hid rfl⟩
  rw [show mV none = mV m from by rw [hm0.out]]
  obtain ⟨c, hc0⟩ : ∃ c : C4, Hid (c = ⟨0, 0, 0, 0⟩) := ⟨_, Lib.hid rfl⟩
  obtain ⟨k, hk⟩ : ∃ k : Nat, k ≤ 500 := ⟨0, by omega⟩
  have hst : ¬ (q.st = 4 ∨ q.st = 2) := by rw [hq.out]; show ¬ ((0 : Nat) = 4 ∨ (0 : Nat) = 2); omega
  have hf : q.fresh d = true := by rw [hq.out]; rfl
  have hsc : q.scans ≤ 1000000 := by rw [hq.out]; exact Nat.zero_le _
  have hI := Lib.hid (show DicOk k d by rw [hd.out]; exact (newD_ok 0).mono (Nat.zero_le _))
  have HZ := Lib.hid HZ0
  have hm : ∀ b, m = some b → b < lo := by rw [hm0.out]; intro b hb; cases hb
  have hmm : mb ∉ mS m := by rw [hm0.out]; simp [mS]
  have lM : ∀ z, z ∈ mS m → z < lo := by rw [hm0.out]; simp [mS]
  have LM := Lib.hid lM
  have DBM := Lib.hid (show db ∉ mS m by rw [hm0.out]; simp [mS])
  obtain ⟨evv, hb, hev, hsk⟩ := HQ
  have HB := Lib.hid hb
  have lm := lt_of_block hb
  have ld := lt_of_block HZ0
  obtain ⟨lr, hlr⟩ : ∃ lr, lr = w.heap.size := ⟨_, rfl⟩
  have HLR := Lib.hid hlr
  have lolr : lo ≤ lr := by omega
  obtain ⟨WA, hWA⟩ : ∃ WA, w.alloc (.cells #[.int .i64 0, .int .i64 0, .bool false, .int .i64 0, .int .i64 0] 29) = WA := ⟨_, rfl⟩
  have kb : Keeps [] w WA := by rw [← hWA]; exact (Keeps.refl [] w).alloc _
  have bT : WA.heap[lr]? = some (trnO noTrn) := by rw [← hWA, hlr]; exact has_new _ _
  have HWA := Lib.hid hWA
  have KB := Lib.hid kb
  have BT := Lib.hid bT
  have BM := Lib.hid (kb.has hb (by simp))
  have c1 : WA.cell? ⟨mb, 1, none⟩ = some (.pointer (some ⟨db, 0, none⟩)) := cell_has BM.out (i := 1) rfl
  have c7 : WA.cell? ⟨mb, 7, none⟩ = some (.int .i64 q.st) := cell_has BM.out (i := 7) rfl
  have zWA : WA.heap.size = lr + 1 := by rw [← hWA, hlr]; simp
  have lr1 : lr ≠ mb := by omega
  have lr2 : lr ≠ db := by omega
  have lmr : mb < lr := by omega
  have ldr : db < lr := by omega
  clear HZ0 hb hev hsk lM hlr hWA kb bT lm ld
  go_enter Try.func14, Try.ntmps14
  go_upto_region 1 with (fail)
  rw [HWA.out, ← HLR.out]
  have n4 : ((q.st : Int) == 4) = false := by simp; omega
  have n2 : ((q.st : Int) == 2) = false := by simp; omega
  have c10 : WA.cell? ⟨mb, 10, none⟩ = some (.int .u64 q.ver) := cell_has BM.out (i := 10) rfl
  have c4 : WA.cell? ⟨mb, 4, none⟩ = some (.int .i64 q.h) := cell_has BM.out (i := 4) rfl
  have e2 : WA.cell? ⟨db, 2, none⟩ = some (.int .u64 d.ver) := by have h9 := cell_has (KB.out.has HZ.out (by simp)) (i := 2) (v := .int .u64 0) rfl; rw [hd.out]; exact h9
  obtain ⟨z, hz⟩ := ex_hid q.st
  rw [← hz.out] at c7 n4 n2
  have hfr : z = 0 ∨ q.ver ≠ d.ver := by
    have h9 := hf; unfold Mac.fresh at h9; simp at h9; rw [hz.out]; exact h9
  go_wp2_with fail
  go_cut [51] from 33 to 51 (fun z51 wx => z51 = .bool true ∧ wx = WA.drew)
  case first =>
    by_cases h0 : z = 0
    · have b0 : ((z : Int) == 0) = true := by simp; omega
      clear hfr h0
      refine wp_regionG (fun w' => w'.cell? ⟨mb, 7, none⟩ = some (.int .i64 z) ∧ w'.cell? ⟨mb, 10, none⟩ = some (.int .u64 q.ver) ∧ w'.cell? ⟨mb, 1, none⟩ = some (.pointer (some ⟨db, 0, none⟩)) ∧ w'.cell? ⟨db, 2, none⟩ = some (.int .u64 d.ver)) 19 (by kernel_rfl) ⟨c7, c10, c1, e2⟩ (fun hF => ?_)
      refine wpAnyG_takeY (i := 0) (v := ?_) rfl (by kernel_rfl) (by decide +kernel) (by decide +kernel) (by decide +kernel) (fun _ _ _ h => h) (by kernel_rfl) ?_ (by assumption) ?_
      rotate_left
      · (intro wz; go_simp; with_reducible rfl)
      try simp only [Act.put, List.setIfInBounds_toArray, List.set_cons_zero, List.set_cons_succ]
      refine wpAnyG_takeY (i := 1) (v := ?_) rfl (by kernel_rfl) (by decide +kernel) (by decide +kernel) (by decide +kernel) (fun _ _ _ h => h) (by kernel_rfl) ?_ (by assumption) ?_
      rotate_left
      · (intro wz; go_simp; with_reducible rfl)
      try simp only [Act.put, List.setIfInBounds_toArray, List.set_cons_zero, List.set_cons_succ]
      refine wpAnyG_takeY (i := 2) (v := ?_) rfl (by kernel_rfl) (by decide +kernel) (by decide +kernel) (by decide +kernel) (fun _ _ _ h => h) (by kernel_rfl) ?_ (by assumption) ?_
      rotate_left
      · (intro wz; go_simp; with_reducible rfl)
      try simp only [Act.put, List.setIfInBounds_toArray, List.set_cons_zero, List.set_cons_succ]
      refine wpAnyG_take (i := 3) (v := ?_) rfl (by kernel_rfl) (by decide +kernel) (by decide +kernel) (by decide +kernel) (by decide +kernel) (by rfl) (fun _ _ _ h => h) (by kernel_rfl) ?_ (by assumption) ?_
      rotate_left
      · (intro wz hSw; (try dsimp only at hSw); go_simp; with_reducible rfl)
      try simp only [Act.put, List.setIfInBounds_toArray, List.set_cons_zero, List.set_cons_succ]
      refine wpAnyG_takeY (i := 4) (v := ?_) rfl (by kernel_rfl) (by decide +kernel) (by decide +kernel) (by decide +kernel) (fun _ _ _ h => h) (by kernel_rfl) ?_ (by assumption) ?_
      rotate_left
      · (intro wz; go_simp; with_reducible rfl)
      try simp only [Act.put, List.setIfInBounds_toArray, List.set_cons_zero, List.set_cons_succ]
      refine wpAnyG_takeY (i := 5) (v := ?_) rfl (by kernel_rfl) (by decide +kernel) (by decide +kernel) (by decide +kernel) (fun _ _ _ h => h) (by kernel_rfl) ?_ (by assumption) ?_
      rotate_left
      · (intro wz; go_simp; with_reducible rfl)
      try simp only [Act.put, List.setIfInBounds_toArray, List.set_cons_zero, List.set_cons_succ]
      refine wpAnyG_takeU (i := 6) rfl (by kernel_rfl) (by decide +kernel) (by decide +kernel) (by decide +kernel) (fun _ _ _ h => h) (by kernel_rfl) (by assumption) ?_
      try simp only [Act.put, List.setIfInBounds_toArray, List.set_cons_zero, List.set_cons_succ]
      refine wpAnyG_takeU (i := 7) rfl (by kernel_rfl) (by decide +kernel) (by decide +kernel) (by decide +kernel) (fun _ _ _ h => h) (by kernel_rfl) (by assumption) ?_
      try simp only [Act.put, List.setIfInBounds_toArray, List.set_cons_zero, List.set_cons_succ]
      refine wpAnyG_takeU (i := 8) rfl (by kernel_rfl) (by decide +kernel) (by decide +kernel) (by decide +kernel) (fun _ _ _ h => h) (by kernel_rfl) (by assumption) ?_
      try simp only [Act.put, List.setIfInBounds_toArray, List.set_cons_zero, List.set_cons_succ]
      refine wpAnyG_takeU (i := 9) rfl (by kernel_rfl) (by decide +kernel) (by decide +kernel) (by decide +kernel) (fun _ _ _ h => h) (by kernel_rfl) (by assumption) ?_
      try simp only [Act.put, List.setIfInBounds_toArray, List.set_cons_zero, List.set_cons_succ]
      refine wpAnyG_takeU (i := 10) rfl (by kernel_rfl) (by decide +kernel) (by decide +kernel) (by decide +kernel) (fun _ _ _ h => h) (by kernel_rfl) (by assumption) ?_
      try simp only [Act.put, List.setIfInBounds_toArray, List.set_cons_zero, List.set_cons_succ]
      refine wpAnyG_takeU (i := 11) rfl (by kernel_rfl) (by decide +kernel) (by decide +kernel) (by decide +kernel) (fun _ _ _ h => h) (by kernel_rfl) (by assumption) ?_
      try simp only [Act.put, List.setIfInBounds_toArray, List.set_cons_zero, List.set_cons_succ]
      refine wpAnyG_takeU (i := 12) rfl (by kernel_rfl) (by decide +kernel) (by decide +kernel) (by decide +kernel) (fun _ _ _ h => h) (by kernel_rfl) (by assumption) ?_
      try simp only [Act.put, List.setIfInBounds_toArray, List.set_cons_zero, List.set_cons_succ]
      refine wpAnyG_takeU (i := 13) rfl (by kernel_rfl) (by decide +kernel) (by decide +kernel) (by decide +kernel) (fun _ _ _ h => h) (by kernel_rfl) (by assumption) ?_
      try simp only [Act.put, List.setIfInBounds_toArray, List.set_cons_zero, List.set_cons_succ]
      refine wpAnyG_takeU (i := 14) rfl (by kernel_rfl) (by decide +kernel) (by decide +kernel) (by decide +kernel) (fun _ _ _ h => h) (by kernel_rfl) (by assumption) ?_
      try simp only [Act.put, List.setIfInBounds_toArray, List.set_cons_zero, List.set_cons_succ]
      refine wpAnyG_takeU (i := 15) rfl (by kernel_rfl) (by decide +kernel) (by decide +kernel) (by decide +kernel) (fun _ _ _ h => h) (by kernel_rfl) (by assumption) ?_
      try simp only [Act.put, List.setIfInBounds_toArray, List.set_cons_zero, List.set_cons_succ]
      refine wpAnyG_takeU (i := 16) rfl (by kernel_rfl) (by decide +kernel) (by decide +kernel) (by decide +kernel) (fun _ _ _ h => h) (by kernel_rfl) (by assumption) ?_
      try simp only [Act.put, List.setIfInBounds_toArray, List.set_cons_zero, List.set_cons_succ]
      refine wpAnyG_takeU (i := 17) rfl (by kernel_rfl) (by decide +kernel) (by decide +kernel) (by decide +kernel) (fun _ _ _ h => h) (by kernel_rfl) (by assumption) ?_
      try simp only [Act.put, List.setIfInBounds_toArray, List.set_cons_zero, List.set_cons_succ]
      refine wpAnyG_takeY (i := 18) (v := ?_) rfl (by kernel_rfl) (by decide +kernel) (by decide +kernel) (by decide +kernel) (fun _ _ _ h => h) (by kernel_rfl) ?_ (by assumption) ?_
      rotate_left
      · (intro wz; go_simp; with_reducible rfl)
      try simp only [Act.put, List.setIfInBounds_toArray, List.set_cons_zero, List.set_cons_succ]
      refine wpAnyG_done (by kernel_rfl) ?_ _
      go_simp
      go_wp2_with fail
      go_meet
      exact ⟨rfl, rfl⟩
    · have b0 : ((z : Int) == 0) = false := by simp; omega
      have b1 : ((q.ver : Int) != (d.ver : Int)) = true := by have := hfr.resolve_left h0; simp; omega
      clear hfr h0
      refine wp_regionG (fun w' => w'.cell? ⟨mb, 7, none⟩ = some (.int .i64 z) ∧ w'.cell? ⟨mb, 10, none⟩ = some (.int .u64 q.ver) ∧ w'.cell? ⟨mb, 1, none⟩ = some (.pointer (some ⟨db, 0, none⟩)) ∧ w'.cell? ⟨db, 2, none⟩ = some (.int .u64 d.ver)) 19 (by kernel_rfl) ⟨c7, c10, c1, e2⟩ (fun hF => ?_)
      refine wpAnyG_takeY (i := 0) (v := ?_) rfl (by kernel_rfl) (by decide +kernel) (by decide +kernel) (by decide +kernel) (fun _ _ _ h => h) (by kernel_rfl) ?_ (by assumption) ?_
      rotate_left
      · (intro wz; go_simp; with_reducible rfl)
      try simp only [Act.put, List.setIfInBounds_toArray, List.set_cons_zero, List.set_cons_succ]
      refine wpAnyG_takeY (i := 1) (v := ?_) rfl (by kernel_rfl) (by decide +kernel) (by decide +kernel) (by decide +kernel) (fun _ _ _ h => h) (by kernel_rfl) ?_ (by assumption) ?_
      rotate_left
      · (intro wz; go_simp; with_reducible rfl)
      try simp only [Act.put, List.setIfInBounds_toArray, List.set_cons_zero, List.set_cons_succ]
      refine wpAnyG_takeY (i := 2) (v := ?_) rfl (by kernel_rfl) (by decide +kernel) (by decide +kernel) (by decide +kernel) (fun _ _ _ h => h) (by kernel_rfl) ?_ (by assumption) ?_
      rotate_left
      · (intro wz; go_simp; with_reducible rfl)
      try simp only [Act.put, List.setIfInBounds_toArray, List.set_cons_zero, List.set_cons_succ]
      refine wpAnyG_take (i := 3) (v := ?_) rfl (by kernel_rfl) (by decide +kernel) (by decide +kernel) (by decide +kernel) (by decide +kernel) (by rfl) (fun _ _ _ h => h) (by kernel_rfl) ?_ (by assumption) ?_
      rotate_left
      · (intro wz hSw; (try dsimp only at hSw); go_simp; with_reducible rfl)
      try simp only [Act.put, List.setIfInBounds_toArray, List.set_cons_zero, List.set_cons_succ]
      refine wpAnyG_takeY (i := 4) (v := ?_) rfl (by kernel_rfl) (by decide +kernel) (by decide +kernel) (by decide +kernel) (fun _ _ _ h => h) (by kernel_rfl) ?_ (by assumption) ?_
      rotate_left
      · (intro wz; go_simp; with_reducible rfl)
      try simp only [Act.put, List.setIfInBounds_toArray, List.set_cons_zero, List.set_cons_succ]
      refine wpAnyG_takeY (i := 5) (v := ?_) rfl (by kernel_rfl) (by decide +kernel) (by decide +kernel) (by decide +kernel) (fun _ _ _ h => h) (by kernel_rfl) ?_ (by assumption) ?_
      rotate_left
      · (intro wz; go_simp; with_reducible rfl)
      try simp only [Act.put, List.setIfInBounds_toArray, List.set_cons_zero, List.set_cons_succ]
      refine wpAnyG_takeY (i := 6) (v := ?_) rfl (by kernel_rfl) (by decide +kernel) (by decide +kernel) (by decide +kernel) (fun _ _ _ h => h) (by kernel_rfl) ?_ (by assumption) ?_
      rotate_left
      · (intro wz; go_simp; with_reducible rfl)
      try simp only [Act.put, List.setIfInBounds_toArray, List.set_cons_zero, List.set_cons_succ]
      refine wpAnyG_takeY (i := 7) (v := ?_) rfl (by kernel_rfl) (by decide +kernel) (by decide +kernel) (by decide +kernel) (fun _ _ _ h => h) (by kernel_rfl) ?_ (by assumption) ?_
      rotate_left
      · (intro wz; go_simp; with_reducible rfl)
      try simp only [Act.put, List.setIfInBounds_toArray, List.set_cons_zero, List.set_cons_succ]
      refine wpAnyG_takeY (i := 8) (v := ?_) rfl (by kernel_rfl) (by decide +kernel) (by decide +kernel) (by decide +kernel) (fun _ _ _ h => h) (by kernel_rfl) ?_ (by assumption) ?_
      rotate_left
      · (intro wz; go_simp; with_reducible rfl)
      try simp only [Act.put, List.setIfInBounds_toArray, List.set_cons_zero, List.set_cons_succ]
      refine wpAnyG_take (i := 9) (v := ?_) rfl (by kernel_rfl) (by decide +kernel) (by decide +kernel) (by decide +kernel) (by decide +kernel) (by rfl) (fun _ _ _ h => h) (by kernel_rfl) ?_ (by assumption) ?_
      rotate_left
      · (intro wz hSw; (try dsimp only at hSw); go_simp; with_reducible rfl)
      try simp only [Act.put, List.setIfInBounds_toArray, List.set_cons_zero, List.set_cons_succ]
      refine wpAnyG_takeY (i := 10) (v := ?_) rfl (by kernel_rfl) (by decide +kernel) (by decide +kernel) (by decide +kernel) (fun _ _ _ h => h) (by kernel_rfl) ?_ (by assumption) ?_
      rotate_left
      · (intro wz; go_simp; with_reducible rfl)
      try simp only [Act.put, List.setIfInBounds_toArray, List.set_cons_zero, List.set_cons_succ]
      refine wpAnyG_takeY (i := 11) (v := ?_) rfl (by kernel_rfl) (by decide +kernel) (by decide +kernel) (by decide +kernel) (fun _ _ _ h => h) (by kernel_rfl) ?_ (by assumption) ?_
      rotate_left
      · (intro wz; go_simp; with_reducible rfl)
      try simp only [Act.put, List.setIfInBounds_toArray, List.set_cons_zero, List.set_cons_succ]
      refine wpAnyG_takeY (i := 12) (v := ?_) rfl (by kernel_rfl) (by decide +kernel) (by decide +kernel) (by decide +kernel) (fun _ _ _ h => h) (by kernel_rfl) ?_ (by assumption) ?_
      rotate_left
      · (intro wz; go_simp; with_reducible rfl)
      try simp only [Act.put, List.setIfInBounds_toArray, List.set_cons_zero, List.set_cons_succ]
      refine wpAnyG_take (i := 13) (v := ?_) rfl (by kernel_rfl) (by decide +kernel) (by decide +kernel) (by decide +kernel) (by decide +kernel) (by rfl) (fun _ _ _ h => h) (by kernel_rfl) ?_ (by assumption) ?_
      rotate_left
      · (intro wz hSw; (try dsimp only at hSw); go_simp; with_reducible rfl)
      try simp only [Act.put, List.setIfInBounds_toArray, List.set_cons_zero, List.set_cons_succ]
      refine wpAnyG_takeY (i := 14) (v := ?_) rfl (by kernel_rfl) (by decide +kernel) (by decide +kernel) (by decide +kernel) (fun _ _ _ h => h) (by kernel_rfl) ?_ (by assumption) ?_
      rotate_left
      · (intro wz; go_simp; with_reducible rfl)
      try simp only [Act.put, List.setIfInBounds_toArray, List.set_cons_zero, List.set_cons_succ]
      refine wpAnyG_takeY (i := 15) (v := ?_) rfl (by kernel_rfl) (by decide +kernel) (by decide +kernel) (by decide +kernel) (fun _ _ _ h => h) (by kernel_rfl) ?_ (by assumption) ?_
      rotate_left
      · (intro wz; go_simp; with_reducible rfl)
      try simp only [Act.put, List.setIfInBounds_toArray, List.set_cons_zero, List.set_cons_succ]
      refine wpAnyG_take (i := 16) (v := ?_) rfl (by kernel_rfl) (by decide +kernel) (by decide +kernel) (by decide +kernel) (by decide +kernel) (by rfl) (fun _ _ _ h => h) (by kernel_rfl) ?_ (by assumption) ?_
      rotate_left
      · (intro wz hSw; (try dsimp only at hSw); go_simp; with_reducible rfl)
      try simp only [Act.put, List.setIfInBounds_toArray, List.set_cons_zero, List.set_cons_succ]
      refine wpAnyG_takeY (i := 17) (v := ?_) rfl (by kernel_rfl) (by decide +kernel) (by decide +kernel) (by decide +kernel) (fun _ _ _ h => h) (by kernel_rfl) ?_ (by assumption) ?_
      rotate_left
      · (intro wz; go_simp; with_reducible rfl)
      try simp only [Act.put, List.setIfInBounds_toArray, List.set_cons_zero, List.set_cons_succ]
      refine wpAnyG_takeY (i := 18) (v := ?_) rfl (by kernel_rfl) (by decide +kernel) (by decide +kernel) (by decide +kernel) (fun _ _ _ h => h) (by kernel_rfl) ?_ (by assumption) ?_
      rotate_left
      · (intro wz; go_simp; with_reducible rfl)
      try simp only [Act.put, List.setIfInBounds_toArray, List.set_cons_zero, List.set_cons_succ]
      refine wpAnyG_done (by kernel_rfl) ?_ _
      go_simp
      go_wp2_with fail
      go_meet
      exact ⟨rfl, rfl⟩
  case rest =>
    obtain ⟨rfl, rfl⟩ := hcut
    obtain ⟨W1, hW1⟩ : ∃ W1, WA.drew = W1 := ⟨_, rfl⟩
    have k1 : Keeps [] WA W1 := by rw [← hW1]; exact (Keeps.refl [] WA).drew
    have y1 := k1.cell c1 (by simp)
    have y4 := k1.cell c4 (by simp)
    have K1 := Lib.hid k1
    have B1 := Lib.hid (k1.has BM.out (by simp))
    have R1 := Lib.hid (k1.has BT.out (by simp))
    have D1 := Lib.hid ((KB.out.trans k1).has HZ.out (by simp))
    have f0 := free_of_has B1.out 0
    have o0 : W1.cell? ⟨mb, 0, none⟩ = some (skV q.st mb) := cell_has B1.out (i := 0) rfl
    have z1 : W1.heap.size = lr + 1 := by rw [← hW1]; exact zWA
    rw [hW1]
    obtain ⟨sv, hsv⟩ : ∃ sv, Hid (sv = skV q.st mb) := ⟨_, Lib.hid rfl⟩
    rw [← hsv.out] at o0
    clear hW1 k1 c1 c4 c7 c10 e2 hfr
    go_upto_region 6 with (fail)
    refine wp_regionG (fun w' => w'.cell? ⟨mb, 1, none⟩ = some (.pointer (some ⟨db, 0, none⟩)) ∧ w'.cell? ⟨mb, 4, none⟩ = some (.int .i64 q.h)) 13 (by kernel_rfl) ⟨y1, y4⟩ (fun hF => ?_)
    refine wpAnyG_takeY (i := 0) (v := ?_) rfl (by kernel_rfl) (by decide +kernel) (by decide +kernel) (by decide +kernel) (fun _ _ _ h => h) (by kernel_rfl) ?_ (by assumption) ?_
    rotate_left
    · (intro wz; go_simp; with_reducible rfl)
    try simp only [Act.put, List.setIfInBounds_toArray, List.set_cons_zero, List.set_cons_succ]
    refine wpAnyG_takeY (i := 1) (v := ?_) rfl (by kernel_rfl) (by decide +kernel) (by decide +kernel) (by decide +kernel) (fun _ _ _ h => h) (by kernel_rfl) ?_ (by assumption) ?_
    rotate_left
    · (intro wz; go_simp; with_reducible rfl)
    try simp only [Act.put, List.setIfInBounds_toArray, List.set_cons_zero, List.set_cons_succ]
    refine wpAnyG_takeY (i := 2) (v := ?_) rfl (by kernel_rfl) (by decide +kernel) (by decide +kernel) (by decide +kernel) (fun _ _ _ h => h) (by kernel_rfl) ?_ (by assumption) ?_
    rotate_left
    · (intro wz; go_simp; with_reducible rfl)
    try simp only [Act.put, List.setIfInBounds_toArray, List.set_cons_zero, List.set_cons_succ]
    refine wpAnyG_takeY (i := 3) (v := ?_) rfl (by kernel_rfl) (by decide +kernel) (by decide +kernel) (by decide +kernel) (fun _ _ _ h => h) (by kernel_rfl) ?_ (by assumption) ?_
    rotate_left
    · (intro wz; go_simp; with_reducible rfl)
    try simp only [Act.put, List.setIfInBounds_toArray, List.set_cons_zero, List.set_cons_succ]
    refine wpAnyG_take (i := 4) (v := ?_) rfl (by kernel_rfl) (by decide +kernel) (by decide +kernel) (by decide +kernel) (by decide +kernel) (by rfl) (fun _ _ _ h => h) (by kernel_rfl) ?_ (by assumption) ?_
    rotate_left
    · (intro wz hSw; (try dsimp only at hSw); go_simp; with_reducible rfl)
    try simp only [Act.put, List.setIfInBounds_toArray, List.set_cons_zero, List.set_cons_succ]
    refine wpAnyG_takeY (i := 6) (v := ?_) rfl (by kernel_rfl) (by decide +kernel) (by decide +kernel) (by decide +kernel) (fun _ _ _ h => h) (by kernel_rfl) ?_ (by assumption) ?_
    rotate_left
    · (intro wz; go_simp; with_reducible rfl)
    try simp only [Act.put, List.setIfInBounds_toArray, List.set_cons_zero, List.set_cons_succ]
    refine wpAnyG_takeY (i := 7) (v := ?_) rfl (by kernel_rfl) (by decide +kernel) (by decide +kernel) (by decide +kernel) (fun _ _ _ h => h) (by kernel_rfl) ?_ (by assumption) ?_
    rotate_left
    · (intro wz; go_simp; with_reducible rfl)
    try simp only [Act.put, List.setIfInBounds_toArray, List.set_cons_zero, List.set_cons_succ]
    refine wpAnyG_takeY (i := 8) (v := ?_) rfl (by kernel_rfl) (by decide +kernel) (by decide +kernel) (by decide +kernel) (fun _ _ _ h => h) (by kernel_rfl) ?_ (by assumption) ?_
    rotate_left
    · (intro wz; go_simp; with_reducible rfl)
    try simp only [Act.put, List.setIfInBounds_toArray, List.set_cons_zero, List.set_cons_succ]
    refine wpAnyG_take (i := 9) (v := ?_) rfl (by kernel_rfl) (by decide +kernel) (by decide +kernel) (by decide +kernel) (by decide +kernel) (by rfl) (fun _ _ _ h => h) (by kernel_rfl) ?_ (by assumption) ?_
    rotate_left
    · (intro wz hSw; (try dsimp only at hSw); go_simp; with_reducible rfl)
    try simp only [Act.put, List.setIfInBounds_toArray, List.set_cons_zero, List.set_cons_succ]
    refine wpAnyG_one (i := 5) rfl (by kernel_rfl) (by kernel_rfl) (fun K hK => ?_)
    have HK := Lib.hid hK
    clear hK
    go_simp
    refine (ztable db lo W1.drew D1.out hlo).mono ?_
    rintro r w2a ⟨t, S, rfl, dd, sS, ka⟩
    rw [← hd.out, show mV none = mV m from by rw [hm0.out]] at dd
    have sS1 : ∀ z, z ∈ S → lr + 1 ≤ z := fun z hz => by have h9 : W1.drew.heap.size = W1.heap.size := rfl; have := sS z hz; omega
    have hmS : mb ∉ S := fun hx => by have := sS1 _ hx; omega
    have SS := Lib.hid sS1
    have LS := Lib.hid (show ∀ z, z ∈ S → z < w2a.heap.size from fun z hz => (dd.t.foot z hz).2)
    have LR := Lib.hid (show lr ≠ mb ∧ lr ≠ db ∧ lr ∉ S from ⟨lr1, lr2, fun hx => by have := sS1 _ hx; omega⟩)
    have z2a : lr + 1 ≤ w2a.heap.size := by have h9 : W1.drew.heap.size = W1.heap.size := rfl; have := ka.size; omega
    have ya1 := ka.cell (w := W1.drew) y1 (by simp; exact hmd)
    have ya4 := ka.cell (w := W1.drew) y4 (by simp; exact hmd)
    have oa0 := ka.cell (w := W1.drew) o0 (by simp; exact hmd)
    have ba := ka.has (w := W1.drew) B1.out (by simp; exact hmd)
    have ra := ka.has (w := W1.drew) R1.out (by simp; exact lr2)
    have DDa := Lib.hid dd
    have Ka := Lib.hid ka
    have Ba := Lib.hid ba
    have Ra := Lib.hid ra
    have hFa : (fun w' => w'.cell? ⟨mb, 1, none⟩ = some (.pointer (some ⟨db, 0, none⟩)) ∧ w'.cell? ⟨mb, 4, none⟩ = some (.int .i64 q.h)) w2a := ⟨ya1, ya4⟩
    clear dd sS sS1 ka ba ra y1 y4 o0 f0
    refine HK.out _ _ hFa ?_
    clear HK K hF
    try simp only [Act.put, List.setIfInBounds_toArray, List.set_cons_zero, List.set_cons_succ]
    refine wpAnyG_one (i := 10) rfl (by kernel_rfl) (by kernel_rfl) (fun K hK => ?_)
    have HK := Lib.hid hK
    clear hK
    go_simp
    refine (seek_any t lo S (mV m) d.T w2a DDa.out.t (by have := hI.out.t.l12; omega) q.h).mono ?_
    rintro r w2 ⟨sb1, rfl, s2, zs, k2⟩
    have hF2 : (fun w' => w'.cell? ⟨mb, 1, none⟩ = some (.pointer (some ⟨db, 0, none⟩)) ∧ w'.cell? ⟨mb, 4, none⟩ = some (.int .i64 q.h)) w2 := ⟨k2.cell ya1 (by simp), k2.cell ya4 (by simp)⟩
    have o02 := k2.cell oa0 (by simp)
    have b2 := k2.has Ba.out (by simp)
    have f02 := free_of_has b2 0
    have K2 := Lib.hid (((((Keeps.refl [] W1).drew).mono (T := [db]) (by simp)).trans Ka.out).trans (k2.mono (by simp)))
    have DD := Lib.hid (DDa.out.keeps k2 (by simp) (by simp))
    have S2 := Lib.hid s2
    have B2 := Lib.hid b2
    have R2 := Lib.hid (k2.has Ra.out (by simp))
    have zs1 : lr + 1 ≤ sb1 := by omega
    have ZS := Lib.hid zs
    have ls1 : sb1 < w2.heap.size := by obtain ⟨c9, p9, h9, _⟩ := s2; exact lt_of_block h9
    clear ya1 ya4 oa0 s2 k2 b2 zs
    refine HK.out _ _ hF2 ?_
    clear HK K hFa
    try simp only [Act.put, List.setIfInBounds_toArray, List.set_cons_zero, List.set_cons_succ]
    refine wpAnyG_takeY (i := 11) (v := ?_) rfl (by kernel_rfl) (by decide +kernel) (by decide +kernel) (by decide +kernel) (fun _ _ _ h => h) (by kernel_rfl) ?_ (by assumption) ?_
    rotate_left
    · (intro wz; go_simp; with_reducible rfl)
    try simp only [Act.put, List.setIfInBounds_toArray, List.set_cons_zero, List.set_cons_succ]
    refine wpAnyG_takeY (i := 12) (v := ?_) rfl (by kernel_rfl) (by decide +kernel) (by decide +kernel) (by decide +kernel) (fun _ _ _ h => h) (by kernel_rfl) ?_ (by assumption) ?_
    rotate_left
    · (intro wz; go_simp; with_reducible rfl)
    try simp only [Act.put, List.setIfInBounds_toArray, List.set_cons_zero, List.set_cons_succ]
    refine wpAnyG_last rfl (by kernel_rfl) (by rfl) (by rfl) (fun K hK => ?_)
    have HK := Lib.hid hK
    clear hK
    go_simp
    refine HK.out _ _ ?_
    clear HK K hF2
    refine wpAnyG_done (by kernel_rfl) ?_ _
    go_simp
    go_upto_region 7 with (fail)
    refine wp_gen (fun V => V.heap[mb]? = some (macO (.pointer (some ⟨sb1, 0, none⟩)) db q.g q.h q.k q.v q.st evv q.scans q.ver q.turn) ∧ Keeps [mb] w2 V) ?_ ?_
    · have h9 := has_setCell B2.out 0 (.pointer (some ⟨sb1, 0, none⟩))
      first
        | exact ⟨has_drew h9, ((Keeps.refl [mb] w2).setCell (p := ⟨mb, 0, none⟩) (.inr (by simp)) _).drew⟩
        | exact ⟨h9, (Keeps.refl [mb] w2).setCell (p := ⟨mb, 0, none⟩) (.inr (by simp)) _⟩
    rintro W3 ⟨b3, k3⟩
    have B3 := Lib.hid b3
    have K3 := Lib.hid k3
    have x1 : W3.cell? ⟨mb, 1, none⟩ = some (.pointer (some ⟨db, 0, none⟩)) := cell_has b3 (i := 1) rfl
    have x10 : W3.cell? ⟨mb, 10, none⟩ = some (.int .u64 q.ver) := cell_has b3 (i := 10) rfl
    have g10 := free_of_has b3 10
    have e23 : W3.cell? ⟨db, 2, none⟩ = some (.int .u64 d.ver) := cell_has (k3.has DD.out.b (by simp; exact hmd.symm)) (i := 2) rfl
    clear b3 k3 o02 f02
    go_upto_region 8 with (fail)
    refine wp_gen (fun V => V.heap[mb]? = some (macO (.pointer (some ⟨sb1, 0, none⟩)) db q.g q.h q.k q.v q.st evv q.scans d.ver q.turn) ∧ Keeps [mb] W3 V) ?_ ?_
    · have h9 := has_setCell B3.out 10 (.int .u64 d.ver)
      exact ⟨h9, (Keeps.refl [mb] W3).setCell (p := ⟨mb, 10, none⟩) (.inr (by simp)) _⟩
    rintro W4 ⟨b4, k4⟩
    have B4 := Lib.hid b4
    have K4 := Lib.hid k4
    have x9 : W4.cell? ⟨mb, 9, none⟩ = some (.int .i64 q.scans) := cell_has b4 (i := 9) rfl
    have g9 := free_of_has b4 9
    clear b4 k4 x1 x10 g10 e23
    have hs0 : (0 : Int) ≤ (q.scans : Int) := by omega
    have hs1 : (q.scans : Int) ≤ 1000000 := by omega
    go_wp2_with fail
    refine wp_gen (fun V => V.heap[mb]? = some (macO (.pointer (some ⟨sb1, 0, none⟩)) db q.g q.h q.k q.v q.st evv (q.scans + 1) d.ver q.turn) ∧ Keeps [mb] W4 V) ?_ ?_
    · have h9 := has_setCell B4.out 9 (.int .i64 ((q.scans : Int) + 1))
      exact ⟨h9, (Keeps.refl [mb] W4).setCell (p := ⟨mb, 9, none⟩) (.inr (by simp)) _⟩
    rintro W ⟨b5, k5⟩
    have KK := (K3.out.trans K4.out).trans k5
    obtain ⟨stv, hstv⟩ : ∃ s, s = q.st := ⟨_, rfl⟩
    rw [← hstv] at b5
    obtain ⟨Q, hQ⟩ : ∃ Q, Hid (Q = q.anew d) := ⟨_, Lib.hid rfl⟩
    have HW : Hid (W.heap[mb]? = some (macO (.pointer (some ⟨sb1, 0, none⟩)) db Q.g Q.h Q.k Q.v stv evv Q.scans Q.ver Q.turn)) := Lib.hid (by rw [hQ.out]; exact b5)
    have RW := Lib.hid (KK.has R2.out (by simp; exact LR.out.1))
    have DW := Lib.hid (DD.out.keeps KK (by simp; exact hmd.symm) (fun z hz hq => by simp at hq; subst hq; exact hmS hz))
    have MW := Lib.hid (show MtrAt m c W by rw [hm0.out]; exact MtrAt.nil _ _)
    have hlr := HLR.out
    have SW : Hid (SkAt sb1 t Q.sk W) := Lib.hid (by rw [hQ.out]; exact S2.out.keeps KK (by simp; omega))
    have OW : Hid (SkOk d.T Q.sk) := Lib.hid (by rw [hQ.out]; exact SkOk.seek hI.out.t q.h)
    have KW := Lib.hid (((((KB.out.trans K1.out).mono (T := [db]) (by simp)).trans K2.out).mono (T := [mb, db]) (by simp)).trans (KK.mono (by simp)))
    have SB := Lib.hid (show sb1 ∉ S ∧ sb1 ≠ mb ∧ sb1 ≠ db ∧ sb1 ∉ mS m ∧ sb1 ≠ lr from ⟨fun hx => by have := LS.out _ hx; have := ZS.out; omega, by omega, by omega, fun hx => by have := LM.out _ hx; omega, by omega⟩)
    have SBL : Hid (∀ w1, Keeps (sb1 :: mS m) W w1 → sb1 < w1.heap.size) := Lib.hid (fun w1 kx => by have := kx.size; have := KK.size; omega)
    have FIN : Hid (∀ r w', ScanP mb sb1 db t lo S m c d Q W lr r w' → ∃ t S, r = .returned (stepM d q).turn.agg ∧ DicAt db t lo S (mV m) (stepD d q) w' ∧ Keeps [mb, db] w w') := Lib.hid (fun r w' hP => by
      obtain ⟨S9, p1, p2, p3, p4, p5, p6⟩ := hP
      have hns : ¬ (q.st = 4 ∨ q.st = 2) := hst
      have eM : stepM d q = scanM d Q := by unfold stepM; rw [if_neg hns, if_pos hf, hQ.out]
      have eD : stepD d q = scanD d Q := by unfold stepD; rw [if_neg hns, if_pos hf, hQ.out]
      refine ⟨t, S9, by rw [eM]; exact p1, by rw [eD]; exact p2, KW.out.then p5 (fun z hz => ?_)⟩
      simp at hz
      have := HLR.out
      rcases hz with rfl | rfl | rfl | rfl | hz | hz
      · simp
      · simp
      · left; omega
      · left; omega
      · left; have := SS.out z hz; omega
      · rw [hm0.out] at hz; simp [mS] at hz)
    clear b5 k5 KK x9 g9 hstv hlr
    go_loopw [93] (fun x wr => W = wr) (fun _ _ => 0)
    case atStart => exact rfl
    case round =>
      subst hrel
      have y0 : W.cell? ⟨mb, 0, none⟩ = some (.pointer (some ⟨sb1, 0, none⟩)) := cell_has HW.out (i := 0) rfl
      go_wp2_with fail
      refine (next_any k (by omega) sb1 t lo S m c d.T Q.sk W DW.out.t MW.out hm hI.out.t SW.out SB.out.1 OW.out).mono ?_
      rintro r w1 ⟨rfl, s1, m1, k1⟩
      have nmb : mb ∉ sb1 :: mS m := by simp; exact ⟨fun e => SB.out.2.1 e.symm, hmm⟩
      have ndb : db ∉ sb1 :: mS m := by simp; exact ⟨fun e => SB.out.2.2.1 e.symm, DBM.out⟩
      have hb1 := k1.has HW.out nmb
      have d1 := DW.out.keeps k1 ndb (fun z hz => by simp; exact ⟨fun e => SB.out.1 (e ▸ hz), fun hx => by have := LM.out z hx; have := (DW.out.t.foot z hz).1; omega⟩)
      have r1 := k1.has RW.out (by simp; exact ⟨fun e => SB.out.2.2.2.2 e.symm, fun hx => by have := LM.out _ hx; omega⟩)
      have S1 := Lib.hid s1
      have M1 := Lib.hid m1
      have K1 := Lib.hid k1
      have B1 := Lib.hid hb1
      have D1 := Lib.hid d1
      have R1 := Lib.hid r1
      have y1 : w1.cell? ⟨mb, 1, none⟩ = some (.pointer (some ⟨db, 0, none⟩)) := cell_has hb1 (i := 1) rfl
      have y3 : w1.cell? ⟨mb, 3, none⟩ = some (.func (.func (missF Q.g)) #[] #[]) := cell_has hb1 (i := 3) rfl
      have y5 : w1.cell? ⟨mb, 5, none⟩ = some (.int .i64 Q.k) := cell_has hb1 (i := 5) rfl
      have e0 : w1.cell? ⟨db, 0, none⟩ = some (.pointer (some ⟨t, 0, none⟩)) := cell_has d1.b (i := 0) rfl
      clear s1 m1 k1 hb1 d1 r1 y0
      cases ho : (d.T.next Q.sk).over
      · -- an entry
        obtain ⟨x, hx, hh1, hh2⟩ := told_live hI.out.t OW.out ho
        clear hh1 hh2
        have hsay : (d.T.next Q.sk).says = (d.T.next Q.sk).told := by unfold Sk.says; rw [ho]; simp
        rw [hsay]
        obtain ⟨e, he⟩ : ∃ e, Hid (e = (d.T.next Q.sk).told) := ⟨_, Lib.hid rfl⟩
        rw [← he.out] at hx ⊢
        have hat : d.at_ (d.T.next Q.sk).told = x := by rw [← he.out]; exact Dic.at_of hx
        have HAT := Lib.hid hat
        have HO := Lib.hid ho
        have HX := Lib.hid hx
        clear hat ho hx hsay
        obtain ⟨ta, tc, tcb, tcr, a1, a2, _⟩ := D1.out.t
        have A12 := Lib.hid (And.intro a1 a2)
        clear a1 a2
        go_wp2_with fail
        refine (at_any t lo tc ta d.T.E (mV m) _ _ _ _ _ e w1 A12.out.1 A12.out.2 (by have := hI.out.t.ek; omega)).mono ?_
        rintro r w2 ⟨rfl, b2⟩
        have k2 := Below.keeps b2 []
        rw [show entE d.T.E e = some x from HX.out]
        simp only [atE, okE, Option.getD_some, Option.isSome_some, if_true, Ent.agg]
        have K2 := Lib.hid k2
        have B2 := Lib.hid (k2.has B1.out (by simp))
        have R2 := Lib.hid (k2.has R1.out (by simp))
        have D2 := Lib.hid (D1.out.keeps k2 (by simp) (by simp))
        replace y1 := k2.cell y1 (by simp)
        replace y5 := k2.cell y5 (by simp)
        clear b2 k2 y3 e0
        go_upto_region 15 with (fail)
        obtain ⟨W3, hW3⟩ : ∃ W3, w2.alloc (.cells #[.bool x.live, .int .i64 x.hash, .int .i64 x.key, .int .i64 x.val, .int .i64 x.birth] 36) = W3 := ⟨_, rfl⟩
        have k3 : Keeps [] w2 W3 := by rw [← hW3]; exact (Keeps.refl [] w2).alloc _
        have b3 : W3.heap[w2.heap.size]? = some (.cells #[.bool x.live, .int .i64 x.hash, .int .i64 x.key, .int .i64 x.val, .int .i64 x.birth] 36 (0, 0)) := by rw [← hW3]; exact has_new _ _
        have z2 : W3.cell? ⟨w2.heap.size, 2, none⟩ = some (.int .i64 x.key) := cell_has b3 (i := 2) rfl
        have x1 := k3.cell y1 (by simp)
        have x5 := k3.cell y5 (by simp)
        have K3 := Lib.hid (K2.out.trans k3)
        have B3 := Lib.hid (k3.has B2.out (by simp))
        have R3 := Lib.hid (k3.has R2.out (by simp))
        have D3 := Lib.hid (D2.out.keeps k3 (by simp) (by simp))
        have lw2 := lt_of_block B2.out
        have lr2 := lt_of_block R2.out
        have SZ := Lib.hid (show w1.heap.size ≤ w2.heap.size from K2.out.size)
        rw [hW3]
        clear hW3 k3 b3 y1 y5
        refine wp_regionG (fun w' => w'.cell? ⟨w2.heap.size, 2, none⟩ = some (.int .i64 x.key) ∧ w'.cell? ⟨mb, 5, none⟩ = some (.int .i64 Q.k)) 7 (by kernel_rfl) ⟨z2, x5⟩ (fun hF => ?_)
        refine wpAnyG_takeY (i := 0) (v := ?_) rfl (by kernel_rfl) (by decide +kernel) (by decide +kernel) (by decide +kernel) (fun _ _ _ h => h) (by kernel_rfl) ?_ (by assumption) ?_
        rotate_left
        · (intro wz; go_simp; with_reducible rfl)
        try simp only [Act.put, List.setIfInBounds_toArray, List.set_cons_zero, List.set_cons_succ]
        refine wpAnyG_take (i := 1) (v := ?_) rfl (by kernel_rfl) (by decide +kernel) (by decide +kernel) (by decide +kernel) (by decide +kernel) (by rfl) (fun _ _ _ h => h) (by kernel_rfl) ?_ (by assumption) ?_
        rotate_left
        · (intro wz hSw; (try dsimp only at hSw); go_simp; with_reducible rfl)
        try simp only [Act.put, List.setIfInBounds_toArray, List.set_cons_zero, List.set_cons_succ]
        refine wpAnyG_takeY (i := 2) (v := ?_) rfl (by kernel_rfl) (by decide +kernel) (by decide +kernel) (by decide +kernel) (fun _ _ _ h => h) (by kernel_rfl) ?_ (by assumption) ?_
        rotate_left
        · (intro wz; go_simp; with_reducible rfl)
        try simp only [Act.put, List.setIfInBounds_toArray, List.set_cons_zero, List.set_cons_succ]
        refine wpAnyG_takeY (i := 3) (v := ?_) rfl (by kernel_rfl) (by decide +kernel) (by decide +kernel) (by decide +kernel) (fun _ _ _ h => h) (by kernel_rfl) ?_ (by assumption) ?_
        rotate_left
        · (intro wz; go_simp; with_reducible rfl)
        try simp only [Act.put, List.setIfInBounds_toArray, List.set_cons_zero, List.set_cons_succ]
        refine wpAnyG_takeY (i := 4) (v := ?_) rfl (by kernel_rfl) (by decide +kernel) (by decide +kernel) (by decide +kernel) (fun _ _ _ h => h) (by kernel_rfl) ?_ (by assumption) ?_
        rotate_left
        · (intro wz; go_simp; with_reducible rfl)
        try simp only [Act.put, List.setIfInBounds_toArray, List.set_cons_zero, List.set_cons_succ]
        refine wpAnyG_take (i := 5) (v := ?_) rfl (by kernel_rfl) (by decide +kernel) (by decide +kernel) (by decide +kernel) (by decide +kernel) (by rfl) (fun _ _ _ h => h) (by kernel_rfl) ?_ (by assumption) ?_
        rotate_left
        · (intro wz hSw; (try dsimp only at hSw); go_simp; with_reducible rfl)
        try simp only [Act.put, List.setIfInBounds_toArray, List.set_cons_zero, List.set_cons_succ]
        refine wpAnyG_takeY (i := 6) (v := ?_) rfl (by kernel_rfl) (by decide +kernel) (by decide +kernel) (by decide +kernel) (fun _ _ _ h => h) (by kernel_rfl) ?_ (by assumption) ?_
        rotate_left
        · (intro wz; go_simp; with_reducible rfl)
        try simp only [Act.put, List.setIfInBounds_toArray, List.set_cons_zero, List.set_cons_succ]
        refine wpAnyG_done (by kernel_rfl) ?_ _
        go_simp
        by_cases hkk : x.key = Q.k
        · have dk : (x.key == Q.k) = true := by simpa using hkk
          have HKK := Lib.hid hkk
          clear hkk
          have x1d : W3.drew.cell? ⟨mb, 1, none⟩ = some (.pointer (some ⟨db, 0, none⟩)) := x1
          clear hF
          go_wp2_with fail
          refine (hitm_any mb db t lo S (mV m) (.pointer (some ⟨sb1, 0, none⟩)) d Q stv evv _ (D3.out.keeps (Keeps.refl [] W3).drew (by simp) (by simp)) B3.out hmS hmd (hI.out.t.mono (by omega)) (by have := hI.out.v; omega) e x HX.out).mono ?_
          rintro r w4 ⟨rfl, d4, b4, k4⟩
          have r4 := k4.has (w := W3.drew) R3.out (by simp; exact ⟨LR.out.1, LR.out.2.1, LR.out.2.2⟩)
          obtain ⟨t0, t1, t2, t3, t4⟩ := trn_cells r4
          obtain ⟨u0, u1, u2, u3, u4⟩ := trn_free r4
          have R4 := Lib.hid r4
          have D4 := Lib.hid d4
          have B4 := Lib.hid b4
          have K4 := Lib.hid k4
          obtain ⟨tt, htt⟩ : ∃ tt, Hid (tt = hitT x e) := ⟨_, Lib.hid rfl⟩
          rw [← htt.out]
          unfold Trn.agg
          clear r4 d4 b4 k4
          go_wp2_with fail
          obtain ⟨v1, v2⟩ := trn_store noTrn tt R4.out
          have rc := cell_of_has v1
          have eM : scanM d Q = { { Q with sk := d.T.next Q.sk } with st := 4, turn := hitT x e } := by
            unfold scanM; simp only
            rw [if_neg (by rw [HO.out]; simp), HAT.out, if_pos HKK.out, ← he.out]; rfl
          have eD : scanD d Q = d.hit Q e := by
            unfold scanD; simp only
            rw [if_neg (by rw [HO.out]; simp), HAT.out, if_pos HKK.out, ← he.out]
          have eC : scanC d Q c = c.visN (d.T.walks Q.sk) := by
            unfold scanC; rw [if_neg (by rw [HO.out]; simp)]
          refine bodyPost_ret (v := tt.agg) (by simp [results, Try.results14, go_sem, Trn.agg, rc]) rfl (FIN.out _ _ ⟨S, by rw [eM, htt.out], ?_, ?_, ?_, ?_, Grew.refl _ _⟩)
          · rw [eD]
            exact D4.out.keeps v2 (by simp; exact LR.out.2.1.symm) (fun z hz hq => by simp at hq; subst hq; exact LR.out.2.2 hz)
          · rw [eC]
            have h9 : MtrAt m (c.visN (d.T.walks Q.sk)) W3.drew := (M1.out.keeps K3.out (by simp)).keeps (Keeps.refl [] W3).drew (by simp)
            have h7 : ∀ b, m = some b → b ∉ mb :: db :: S := fun b hb hq => by
              have h8 : b ∈ mS m := by rw [hb]; simp [mS]
              simp only [List.mem_cons] at hq
              rcases hq with rfl | rfl | hq
              · exact hmm h8
              · exact DBM.out h8
              · have := LM.out b h8; have := (DW.out.t.foot b hq).1; omega
            exact (h9.keeps K4.out h7).keeps v2 (fun b hb hq => by simp at hq; have := hm b hb; omega)
          · rw [eM]
            exact ⟨evv, v2.has B4.out (by simp; exact LR.out.1.symm), fun h => by simp at h, fun _ => ((S1.out.keeps (K3.out.trans (Keeps.refl [] W3).drew) (by simp)).keeps K4.out (by simp; exact ⟨SB.out.2.1, SB.out.2.2.1, SB.out.1⟩)).keeps v2 (by simp; exact SB.out.2.2.2.2)⟩
          · refine ((((K1.out.mono (T := mb :: db :: lr :: (sb1 :: S ++ mS m)) (fun z hz => by simp at hz ⊢; rcases hz with h | h <;> simp [h])).trans (K3.out.mono (by simp))).drew).trans (K4.out.mono (fun z hz => by simp at hz ⊢; rcases hz with h | h | h <;> simp [h]))).trans (v2.mono (fun z hz => by simp at hz ⊢; simp [hz]))
        · have dk : (x.key == Q.k) = false := by simpa using hkk
          have HKK := Lib.hid hkk
          clear hkk
          obtain ⟨tt, htt⟩ : ∃ tt : Trn, Hid (tt = ⟨1, x.key, false, 0, 0⟩) := ⟨_, Lib.hid rfl⟩
          have b3d := B3.out
          obtain ⟨m7, m11, m12, m13, m14, m15⟩ := mac_cells b3d
          obtain ⟨f7, f11, f12, f13, f14, f15⟩ := mac_free b3d
          have m8 : W3.cell? ⟨mb, 8, none⟩ = some (.int .i64 evv) := cell_has b3d (i := 8) rfl
          have f8 := free_of_has b3d 8
          have n1 : ¬ mb = w2.heap.size := by omega
          have n2 : ¬ w2.heap.size = mb := by omega
          clear hF x1 x5 b3d
          go_upto_region 17 with (fail)
          go_region_held3 (fun w' => w'.cell? ⟨w2.heap.size, 2, none⟩ = some (.int .i64 x.key)) (go_keep) (fail)
          go_upto_region 18 with (fail)
          refine wp_gen (fun V => V.heap[mb]? = some (macO (.pointer (some ⟨sb1, 0, none⟩)) db Q.g Q.h Q.k Q.v 2 e Q.scans Q.ver tt) ∧ Keeps [mb] W3 V) ?_ ?_
          · rw [htt.out]
            exact ⟨has_drew (has_drew (mac_wait e ⟨1, x.key, false, 0, 0⟩ B3.out).1), (mac_wait e ⟨1, x.key, false, 0, 0⟩ B3.out).2.drew.drew⟩
          rintro W4 ⟨b4, k4⟩
          have r4 := k4.has R3.out (by simp; exact LR.out.1)
          clear m7 m8 m11 m12 m13 m14 m15 f7 f8 f11 f12 f13 f14 f15 z2
          obtain ⟨_, m11, m12, m13, m14, m15⟩ := mac_cells b4
          obtain ⟨t0, t1, t2, t3, t4⟩ := trn_cells r4
          obtain ⟨u0, u1, u2, u3, u4⟩ := trn_free r4
          have R4 := Lib.hid r4
          have B4 := Lib.hid b4
          have K4 := Lib.hid k4
          clear r4 b4 k4
          go_wp2_with fail
          obtain ⟨v1, v2⟩ := trn_store noTrn tt R4.out
          have rc := cell_of_has v1
          have eM : scanM d Q = { { Q with sk := d.T.next Q.sk } with st := 2, ent := e, turn := tt } := by
            unfold scanM; simp only
            rw [if_neg (by rw [HO.out]; simp), HAT.out, if_neg HKK.out, ← he.out, htt.out]
          have eD : scanD d Q = d := by
            unfold scanD; simp only
            rw [if_neg (by rw [HO.out]; simp), HAT.out, if_neg HKK.out]
          have eC : scanC d Q c = c.visN (d.T.walks Q.sk) := by
            unfold scanC; rw [if_neg (by rw [HO.out]; simp)]
          have lr3 : ∀ z, z ∈ S → z ≠ lr := fun z hz e => LR.out.2.2 (e ▸ hz)
          refine bodyPost_ret (v := tt.agg) (by simp [results, Try.results14, go_sem, Trn.agg, rc]) rfl (FIN.out _ _ ⟨S, by rw [eM], ?_, ?_, ?_, ?_, Grew.refl _ _⟩)
          · rw [eD]
            exact (D3.out.keeps K4.out (by simp; omega) (fun z hz hq => by simp at hq; subst hq; exact hmS hz)).keeps v2 (by simp; exact LR.out.2.1.symm) (fun z hz hq => by simp at hq; exact lr3 z hz hq)
          · rw [eC]
            exact ((M1.out.keeps K3.out (by simp)).keeps K4.out (fun b hb hq => by simp at hq; have h8 : b ∈ mS m := (by rw [hb]; simp [mS]); exact hmm (hq ▸ h8))).keeps v2 (fun b hb hq => by simp at hq; have := hm b hb; omega)
          · rw [eM]
            exact ⟨e, v2.has B4.out (by simp; exact LR.out.1.symm), fun _ => rfl, fun _ => ((S1.out.keeps K3.out (by simp)).keeps K4.out (by simp; exact SB.out.2.1)).keeps v2 (by simp; exact SB.out.2.2.2.2)⟩
          · refine (((K1.out.mono (T := mb :: db :: lr :: (sb1 :: S ++ mS m)) (fun z hz => by simp at hz ⊢; rcases hz with h | h <;> simp [h])).trans (K3.out.mono (by simp))).trans (K4.out.mono (fun z hz => by simp at hz ⊢; simp [hz]))).trans (v2.mono (fun z hz => by simp at hz ⊢; simp [hz]))
      · -- none
        have HO := Lib.hid ho
        have hrun := fun args W => missf_enters Q.g args W
        have hC := missf_any k (by omega) mb db t lo S m (c.visN (d.T.walks Q.sk)) d Q w1 D1.out M1.out hm hI.out.t (by have := hI.out.v; omega) y1 (cell_has B1.out (i := 4) rfl) y5 (cell_has B1.out (i := 6) rfl) hmS hmd hmm
        have HC := Lib.hid hC
        obtain ⟨mf, hmf⟩ : ∃ mf, Hid (mf = missF Q.g) := ⟨_, Lib.hid rfl⟩
        rw [← hmf.out] at y3 hrun
        clear ho hC e0
        go_wp2_with fail
        rw [hmf.out]
        refine HC.out.mono ?_
        rintro r w2 ⟨S2, rfl, d2, m2, k2, g2⟩
        have b2 := k2.has B1.out (by simp; exact ⟨hmd, hmS, hmm⟩)
        have r2 := k2.has R1.out (by simp; exact ⟨LR.out.2.1, LR.out.2.2, fun hx => by have := LM.out _ hx; omega⟩)
        have D2 := Lib.hid d2
        have M2 := Lib.hid m2
        have K2 := Lib.hid k2
        have G2 := Lib.hid g2
        have B2 := Lib.hid b2
        have R2 := Lib.hid r2
        obtain ⟨tt, htt⟩ : ∃ tt, Hid (tt = missT d Q) := ⟨_, Lib.hid rfl⟩
        rw [← htt.out]
        have lS2 : ∀ z, z ∈ S2 → z ≠ mb ∧ z ≠ lr ∧ z ≠ sb1 := fun z hz => by
          have h8 := lt_of_block B1.out
          have h7 := lt_of_block R1.out
          have h6 := SBL.out w1 K1.out
          rcases g2 z hz with h9 | h9
          · exact ⟨fun e => hmS (e ▸ h9), fun e => LR.out.2.2 (e ▸ h9), fun e => SB.out.1 (e ▸ h9)⟩
          · exact ⟨by omega, by omega, by omega⟩
        have LS2 := Lib.hid lS2
        clear d2 m2 k2 g2 b2 r2 y1 y3 y5 lS2
        go_wp2_with fail
        refine (end_any mb db Q.g (.pointer (some ⟨sb1, 0, none⟩)) Q.h Q.k Q.v stv evv Q.scans Q.ver Q.turn tt w2 B2.out).mono ?_
        rintro r w3 ⟨rfl, b3, k3⟩
        have r3 := k3.has R2.out (by simp; exact LR.out.1)
        obtain ⟨t0, t1, t2, t3, t4⟩ := trn_cells r3
        obtain ⟨u0, u1, u2, u3, u4⟩ := trn_free r3
        have R3 := Lib.hid r3
        have B3 := Lib.hid b3
        have K3 := Lib.hid k3
        unfold Trn.agg
        clear r3 b3 k3
        go_wp2_with fail
        obtain ⟨v1, v2⟩ := trn_store noTrn tt R3.out
        have rc := cell_of_has v1
        have eM : scanM d Q = { { Q with sk := d.T.next Q.sk } with st := 4, turn := missT d Q } := by
          unfold scanM; simp only
          rw [if_pos HO.out]; rfl
        have eD : scanD d Q = d.miss Q := by
          unfold scanD; simp only
          rw [if_pos HO.out]
        have eC : scanC d Q c = missC d Q (c.visN (d.T.walks Q.sk)) := by
          unfold scanC; rw [if_pos HO.out]
        refine bodyPost_ret (v := tt.agg) (by simp [results, Try.results14, go_sem, Trn.agg, rc]) rfl (FIN.out _ _ ⟨S2, by rw [eM, htt.out], ?_, ?_, ?_, ?_, ?_⟩)
        · rw [eD]
          exact (D2.out.keeps K3.out (by simp; omega) (fun z hz hq => by simp at hq; exact (LS2.out z hz).1 hq)).keeps v2 (by simp; exact LR.out.2.1.symm) (fun z hz hq => by simp at hq; exact (LS2.out z hz).2.1 hq)
        · rw [eC]
          exact (M2.out.keeps K3.out (fun b hb hq => by simp at hq; have h8 : b ∈ mS m := (by rw [hb]; simp [mS]); exact hmm (hq ▸ h8))).keeps v2 (fun b hb hq => by simp at hq; have := hm b hb; omega)
        · rw [eM]
          exact ⟨evv, by rw [← htt.out]; exact v2.has B3.out (by simp; exact LR.out.1.symm), fun h => by simp at h, fun _ => ((S1.out.keeps K2.out (by simp; exact ⟨SB.out.2.2.1, SB.out.1, SB.out.2.2.2.1⟩)).keeps K3.out (by simp; exact SB.out.2.1)).keeps v2 (by simp; exact SB.out.2.2.2.2)⟩
        · refine (((K1.out.mono (T := mb :: db :: lr :: (sb1 :: S ++ mS m)) (fun z hz => by simp at hz ⊢; rcases hz with h | h <;> simp [h])).trans (K2.out.mono (fun z hz => by simp at hz ⊢; rcases hz with h | h | h <;> simp [h]))).trans (K3.out.mono (fun z hz => by simp at hz ⊢; simp [hz]))).trans (v2.mono (fun z hz => by simp at hz ⊢; simp [hz]))
        · intro z hz
          rcases G2.out z hz with h9 | h9
          · exact .inl h9
          · exact .inr (by have := K1.out.size; omega)
end Go.Proofs.Ytcakdmapnmneoaa
