/- Both dictionaries tell the same: chapter 8's Two.alike. -/
import Derived.Test.YtcakdmapnmneoaaGreatPrD
import Derived.Test.YtcakdmapnmneoaaGreatDictN
import Derived.Test.YtcakdmapnmneoaaGreatDictP
import Derived.Test.YtcakdmapnmneoaaGreatDictV
import Derived.Test.YtcakdmapnmneoaaGreatRefF
import Derived.Test.YtcakdmapnmneoaaGreatRTabSight
import Derived.Test.YtcakdmapnmneoaaGreatB7
namespace Go.Proofs.YtcakdmapnmneoaaGreat
open Go.RowKit
set_option linter.unusedVariables false
set_option linter.unusedSimpArgs false

set_option maxRecDepth 100000 in
set_option maxHeartbeats 8000000 in
theorem alike8_any {B : Nat} {m1 m2 : Option Nat} {c : C4} {N Z : Nat} {o : Nat → Tag} {T : List Tw8} {D E : List PD} {M L : List PM} {w : World} (H : J8 B m1 m2 c N Z o T D E M L w) (hN : N ≤ 900) {k : Nat} {u : Tw8} (hk : T[k]? = some u) :
    Calls Tryz.prog 16 #[.pointer (some ⟨u.xb, 0, none⟩)] w fun r w' => r = .returned (.bool true) ∧ Keeps [] w w' := by
  obtain ⟨x, y, hx, hy, hb⟩ := (H.g.tw k u hk).row
  obtain ⟨d1, d2, d3, d4⟩ := H.g.p.dc _ _ hx
  obtain ⟨e1, e2, e3, e4⟩ := H.g.r.dc _ _ hy
  have ed := H.a.d hx hy
  have m80 := H.m80
  have en := endN_le M
  have DX : Hid (DicAt x.db x.t x.lo x.S (mV m1) x.d w) := Lib.hid d1
  have DY : Hid (RDicAt y.db y.t y.lo y.S m2 x.d w) := Lib.hid (by have h9 : RDicAt y.db y.t y.lo y.S m2 y.d w := e1; rw [ed] at h9; exact h9)
  have HI := Lib.hid (show DicOk 990 x.d from d2.mono (by omega))
  unfold two8O at hb
  have x0 : w.cell? ⟨u.xb, 0, none⟩ = some (.pointer (some ⟨x.db, 0, none⟩)) := cell_has hb (i := 0) rfl
  have x1 : w.cell? ⟨u.xb, 1, none⟩ = some (.pointer (some ⟨y.db, 0, none⟩)) := cell_has hb (i := 1) rfl
  have y1 : w.cell? ⟨y.db, 1, none⟩ = some (.int .i64 x.d.ver) := cell_has DY.out.b (i := 1) rfl
  have y2 : w.cell? ⟨y.db, 2, none⟩ = some (.pointer (some ⟨y.t, 0, none⟩)) := cell_has DY.out.b (i := 2) rfl
  obtain ⟨vr, hvr⟩ := ex_hid x.d.ver
  rw [← hvr.out] at y1
  obtain ⟨ln, hln⟩ := ex_hid (liveN x.d.T.E)
  have nbool : (true && true) = true := rfl
  clear H hk hx hy hb d1 d2 d3 d4 e1 e2 e3 e4 ed m80 en
  go_enter Tryz.func16, Tryz.ntmps16
  go_upto_region 1 with (fail)
  refine wp_regionG (fun w' => w'.cell? ⟨u.xb, 0, none⟩ = some (.pointer (some ⟨x.db, 0, none⟩)) ∧ w'.cell? ⟨u.xb, 1, none⟩ = some (.pointer (some ⟨y.db, 0, none⟩)) ∧ w'.cell? ⟨y.db, 1, none⟩ = some (.int .i64 vr) ∧ w'.cell? ⟨y.db, 2, none⟩ = some (.pointer (some ⟨y.t, 0, none⟩))) 59 (by kernel_rfl) ⟨x0, x1, y1, y2⟩ (fun hF => ?_)
  refine wpAnyG_takeY (i := 0) (v := ?_) rfl (by kernel_rfl) (by decide +kernel) (by decide +kernel) (by decide +kernel) (fun _ _ _ h => h) (by kernel_rfl) ?_ (by assumption) ?_
  rotate_left
  · (intro wz; go_simp; with_reducible rfl)
  try simp only [Act.put, List.setIfInBounds_toArray, List.set_cons_zero, List.set_cons_succ]
  refine wpAnyG_takeY (i := 1) (v := ?_) rfl (by kernel_rfl) (by decide +kernel) (by decide +kernel) (by decide +kernel) (fun _ _ _ h => h) (by kernel_rfl) ?_ (by assumption) ?_
  rotate_left
  · (intro wz; go_simp; with_reducible rfl)
  try simp only [Act.put, List.setIfInBounds_toArray, List.set_cons_zero, List.set_cons_succ]
  refine wpAnyG_takeY (i := 2) (v := ?_) rfl (by kernel_rfl) (by decide +kernel) (by decide +kernel) (by decide +kernel) (fun _ _ _ h => h) (by kernel_rfl) ?_ (by assumption) ?_
  rotate_left
  · (intro wz; go_simp; with_reducible rfl)
  try simp only [Act.put, List.setIfInBounds_toArray, List.set_cons_zero, List.set_cons_succ]
  refine wpAnyG_take (i := 3) (v := ?_) rfl (by kernel_rfl) (by decide +kernel) (by decide +kernel) (by decide +kernel) (by decide +kernel) (by rfl) (fun _ _ _ h => h) (by kernel_rfl) ?_ (by assumption) ?_
  rotate_left
  · (intro wz hSw; (try dsimp only at hSw); go_simp; with_reducible rfl)
  try simp only [Act.put, List.setIfInBounds_toArray, List.set_cons_zero, List.set_cons_succ]
  refine wpAnyG_takeY (i := 5) (v := ?_) rfl (by kernel_rfl) (by decide +kernel) (by decide +kernel) (by decide +kernel) (fun _ _ _ h => h) (by kernel_rfl) ?_ (by assumption) ?_
  rotate_left
  · (intro wz; go_simp; with_reducible rfl)
  try simp only [Act.put, List.setIfInBounds_toArray, List.set_cons_zero, List.set_cons_succ]
  refine wpAnyG_takeY (i := 6) (v := ?_) rfl (by kernel_rfl) (by decide +kernel) (by decide +kernel) (by decide +kernel) (fun _ _ _ h => h) (by kernel_rfl) ?_ (by assumption) ?_
  rotate_left
  · (intro wz; go_simp; with_reducible rfl)
  try simp only [Act.put, List.setIfInBounds_toArray, List.set_cons_zero, List.set_cons_succ]
  refine wpAnyG_takeY (i := 7) (v := ?_) rfl (by kernel_rfl) (by decide +kernel) (by decide +kernel) (by decide +kernel) (fun _ _ _ h => h) (by kernel_rfl) ?_ (by assumption) ?_
  rotate_left
  · (intro wz; go_simp; with_reducible rfl)
  try simp only [Act.put, List.setIfInBounds_toArray, List.set_cons_zero, List.set_cons_succ]
  refine wpAnyG_take (i := 8) (v := ?_) rfl (by kernel_rfl) (by decide +kernel) (by decide +kernel) (by decide +kernel) (by decide +kernel) (by rfl) (fun _ _ _ h => h) (by kernel_rfl) ?_ (by assumption) ?_
  rotate_left
  · (intro wz hSw; (try dsimp only at hSw); go_simp; with_reducible rfl)
  try simp only [Act.put, List.setIfInBounds_toArray, List.set_cons_zero, List.set_cons_succ]
  refine wpAnyG_one (i := 4) rfl (by kernel_rfl) (by kernel_rfl) (fun K hK => ?_)
  have HK := Lib.hid hK
  clear hK
  go_simp
  have K0 : Hid (Keeps [] w w.drew) := Lib.hid (Keeps.refl [] w).drew
  have F0 := Lib.hid hF
  refine (dlen_any x.db x.t x.lo x.S (mV m1) x.d _ (DX.out.keeps K0.out (by simp) (by simp))).mono ?_
  rintro r w1 ⟨rfl, rfl⟩
  rw [← hln.out]
  refine HK.out _ _ hF ?_
  clear HK K
  try simp only [Act.put, List.setIfInBounds_toArray, List.set_cons_zero, List.set_cons_succ]
  refine wpAnyG_one (i := 9) rfl (by kernel_rfl) (by kernel_rfl) (fun K hK => ?_)
  have HK := Lib.hid hK
  clear hK
  go_simp
  refine (rlen8_any y.db y.t y.lo y.S m2 x.d _ (DY.out.keeps K0.out (by simp) (by simp))).mono ?_
  rintro r w1 ⟨rfl, rfl⟩
  rw [← hln.out]
  refine HK.out _ _ hF ?_
  clear HK K
  try simp only [Act.put, List.setIfInBounds_toArray, List.set_cons_zero, List.set_cons_succ]
  refine wpAnyG_takeY (i := 10) (v := ?_) rfl (by kernel_rfl) (by decide +kernel) (by decide +kernel) (by decide +kernel) (fun _ _ _ h => h) (by kernel_rfl) ?_ (by assumption) ?_
  rotate_left
  · (intro wz; go_simp; with_reducible rfl)
  try simp only [Act.put, List.setIfInBounds_toArray, List.set_cons_zero, List.set_cons_succ]
  refine wpAnyG_takeY (i := 11) (v := ?_) rfl (by kernel_rfl) (by decide +kernel) (by decide +kernel) (by decide +kernel) (fun _ _ _ h => h) (by kernel_rfl) ?_ (by assumption) ?_
  rotate_left
  · (intro wz; go_simp; with_reducible rfl)
  try simp only [Act.put, List.setIfInBounds_toArray, List.set_cons_zero, List.set_cons_succ]
  refine wpAnyG_takeY (i := 12) (v := ?_) rfl (by kernel_rfl) (by decide +kernel) (by decide +kernel) (by decide +kernel) (fun _ _ _ h => h) (by kernel_rfl) ?_ (by assumption) ?_
  rotate_left
  · (intro wz; go_simp; with_reducible rfl)
  try simp only [Act.put, List.setIfInBounds_toArray, List.set_cons_zero, List.set_cons_succ]
  refine wpAnyG_takeY (i := 13) (v := ?_) rfl (by kernel_rfl) (by decide +kernel) (by decide +kernel) (by decide +kernel) (fun _ _ _ h => h) (by kernel_rfl) ?_ (by assumption) ?_
  rotate_left
  · (intro wz; go_simp; with_reducible rfl)
  try simp only [Act.put, List.setIfInBounds_toArray, List.set_cons_zero, List.set_cons_succ]
  refine wpAnyG_takeY (i := 14) (v := ?_) rfl (by kernel_rfl) (by decide +kernel) (by decide +kernel) (by decide +kernel) (fun _ _ _ h => h) (by kernel_rfl) ?_ (by assumption) ?_
  rotate_left
  · (intro wz; go_simp; with_reducible rfl)
  try simp only [Act.put, List.setIfInBounds_toArray, List.set_cons_zero, List.set_cons_succ]
  refine wpAnyG_take (i := 15) (v := ?_) rfl (by kernel_rfl) (by decide +kernel) (by decide +kernel) (by decide +kernel) (by decide +kernel) (by rfl) (fun _ _ _ h => h) (by kernel_rfl) ?_ (by assumption) ?_
  rotate_left
  · (intro wz hSw; (try dsimp only at hSw); go_simp; with_reducible rfl)
  try simp only [Act.put, List.setIfInBounds_toArray, List.set_cons_zero, List.set_cons_succ]
  refine wpAnyG_takeY (i := 17) (v := ?_) rfl (by kernel_rfl) (by decide +kernel) (by decide +kernel) (by decide +kernel) (fun _ _ _ h => h) (by kernel_rfl) ?_ (by assumption) ?_
  rotate_left
  · (intro wz; go_simp; with_reducible rfl)
  try simp only [Act.put, List.setIfInBounds_toArray, List.set_cons_zero, List.set_cons_succ]
  refine wpAnyG_takeY (i := 18) (v := ?_) rfl (by kernel_rfl) (by decide +kernel) (by decide +kernel) (by decide +kernel) (fun _ _ _ h => h) (by kernel_rfl) ?_ (by assumption) ?_
  rotate_left
  · (intro wz; go_simp; with_reducible rfl)
  try simp only [Act.put, List.setIfInBounds_toArray, List.set_cons_zero, List.set_cons_succ]
  refine wpAnyG_takeY (i := 19) (v := ?_) rfl (by kernel_rfl) (by decide +kernel) (by decide +kernel) (by decide +kernel) (fun _ _ _ h => h) (by kernel_rfl) ?_ (by assumption) ?_
  rotate_left
  · (intro wz; go_simp; with_reducible rfl)
  try simp only [Act.put, List.setIfInBounds_toArray, List.set_cons_zero, List.set_cons_succ]
  refine wpAnyG_take (i := 20) (v := ?_) rfl (by kernel_rfl) (by decide +kernel) (by decide +kernel) (by decide +kernel) (by decide +kernel) (by rfl) (fun _ _ _ h => h) (by kernel_rfl) ?_ (by assumption) ?_
  rotate_left
  · (intro wz hSw; (try dsimp only at hSw); go_simp; with_reducible rfl)
  try simp only [Act.put, List.setIfInBounds_toArray, List.set_cons_zero, List.set_cons_succ]
  refine wpAnyG_takeY (i := 21) (v := ?_) rfl (by kernel_rfl) (by decide +kernel) (by decide +kernel) (by decide +kernel) (fun _ _ _ h => h) (by kernel_rfl) ?_ (by assumption) ?_
  rotate_left
  · (intro wz; go_simp; with_reducible rfl)
  try simp only [Act.put, List.setIfInBounds_toArray, List.set_cons_zero, List.set_cons_succ]
  refine wpAnyG_takeY (i := 22) (v := ?_) rfl (by kernel_rfl) (by decide +kernel) (by decide +kernel) (by decide +kernel) (fun _ _ _ h => h) (by kernel_rfl) ?_ (by assumption) ?_
  rotate_left
  · (intro wz; go_simp; with_reducible rfl)
  try simp only [Act.put, List.setIfInBounds_toArray, List.set_cons_zero, List.set_cons_succ]
  refine wpAnyG_take (i := 23) (v := ?_) rfl (by kernel_rfl) (by decide +kernel) (by decide +kernel) (by decide +kernel) (by decide +kernel) (by rfl) (fun _ _ _ h => h) (by kernel_rfl) ?_ (by assumption) ?_
  rotate_left
  · (intro wz hSw; (try dsimp only at hSw); go_simp; with_reducible rfl)
  try simp only [Act.put, List.setIfInBounds_toArray, List.set_cons_zero, List.set_cons_succ]
  refine wpAnyG_one (i := 16) rfl (by kernel_rfl) (by kernel_rfl) (fun K hK => ?_)
  have HK := Lib.hid hK
  clear hK
  go_simp
  refine (dver8_any x.db x.t x.lo x.S (mV m1) x.d _ (DX.out.keeps K0.out (by simp) (by simp)) (by have := HI.out.v; omega)).mono ?_
  rintro r w1 ⟨rfl, rfl⟩
  rw [← hvr.out]
  refine HK.out _ _ hF ?_
  clear HK K
  try simp only [Act.put, List.setIfInBounds_toArray, List.set_cons_zero, List.set_cons_succ]
  refine wpAnyG_takeY (i := 24) (v := ?_) rfl (by kernel_rfl) (by decide +kernel) (by decide +kernel) (by decide +kernel) (fun _ _ _ h => h) (by kernel_rfl) ?_ (by assumption) ?_
  rotate_left
  · (intro wz; go_simp; with_reducible rfl)
  try simp only [Act.put, List.setIfInBounds_toArray, List.set_cons_zero, List.set_cons_succ]
  refine wpAnyG_takeY (i := 25) (v := ?_) rfl (by kernel_rfl) (by decide +kernel) (by decide +kernel) (by decide +kernel) (fun _ _ _ h => h) (by kernel_rfl) ?_ (by assumption) ?_
  rotate_left
  · (intro wz; go_simp; with_reducible rfl)
  try simp only [Act.put, List.setIfInBounds_toArray, List.set_cons_zero, List.set_cons_succ]
  refine wpAnyG_takeY (i := 26) (v := ?_) rfl (by kernel_rfl) (by decide +kernel) (by decide +kernel) (by decide +kernel) (fun _ _ _ h => h) (by kernel_rfl) ?_ (by assumption) ?_
  rotate_left
  · (intro wz; go_simp; with_reducible rfl)
  try simp only [Act.put, List.setIfInBounds_toArray, List.set_cons_zero, List.set_cons_succ]
  refine wpAnyG_takeY (i := 27) (v := ?_) rfl (by kernel_rfl) (by decide +kernel) (by decide +kernel) (by decide +kernel) (fun _ _ _ h => h) (by kernel_rfl) ?_ (by assumption) ?_
  rotate_left
  · (intro wz; go_simp; with_reducible rfl)
  try simp only [Act.put, List.setIfInBounds_toArray, List.set_cons_zero, List.set_cons_succ]
  refine wpAnyG_takeY (i := 28) (v := ?_) rfl (by kernel_rfl) (by decide +kernel) (by decide +kernel) (by decide +kernel) (fun _ _ _ h => h) (by kernel_rfl) ?_ (by assumption) ?_
  rotate_left
  · (intro wz; go_simp; with_reducible rfl)
  try simp only [Act.put, List.setIfInBounds_toArray, List.set_cons_zero, List.set_cons_succ]
  refine wpAnyG_takeY (i := 29) (v := ?_) rfl (by kernel_rfl) (by decide +kernel) (by decide +kernel) (by decide +kernel) (fun _ _ _ h => h) (by kernel_rfl) ?_ (by assumption) ?_
  rotate_left
  · (intro wz; go_simp; with_reducible rfl)
  try simp only [Act.put, List.setIfInBounds_toArray, List.set_cons_zero, List.set_cons_succ]
  refine wpAnyG_take (i := 30) (v := ?_) rfl (by kernel_rfl) (by decide +kernel) (by decide +kernel) (by decide +kernel) (by decide +kernel) (by rfl) (fun _ _ _ h => h) (by kernel_rfl) ?_ (by assumption) ?_
  rotate_left
  · (intro wz hSw; (try dsimp only at hSw); go_simp; with_reducible rfl)
  try simp only [Act.put, List.setIfInBounds_toArray, List.set_cons_zero, List.set_cons_succ]
  refine wpAnyG_takeY (i := 32) (v := ?_) rfl (by kernel_rfl) (by decide +kernel) (by decide +kernel) (by decide +kernel) (fun _ _ _ h => h) (by kernel_rfl) ?_ (by assumption) ?_
  rotate_left
  · (intro wz; go_simp; with_reducible rfl)
  try simp only [Act.put, List.setIfInBounds_toArray, List.set_cons_zero, List.set_cons_succ]
  refine wpAnyG_takeY (i := 33) (v := ?_) rfl (by kernel_rfl) (by decide +kernel) (by decide +kernel) (by decide +kernel) (fun _ _ _ h => h) (by kernel_rfl) ?_ (by assumption) ?_
  rotate_left
  · (intro wz; go_simp; with_reducible rfl)
  try simp only [Act.put, List.setIfInBounds_toArray, List.set_cons_zero, List.set_cons_succ]
  refine wpAnyG_takeY (i := 34) (v := ?_) rfl (by kernel_rfl) (by decide +kernel) (by decide +kernel) (by decide +kernel) (fun _ _ _ h => h) (by kernel_rfl) ?_ (by assumption) ?_
  rotate_left
  · (intro wz; go_simp; with_reducible rfl)
  try simp only [Act.put, List.setIfInBounds_toArray, List.set_cons_zero, List.set_cons_succ]
  refine wpAnyG_take (i := 35) (v := ?_) rfl (by kernel_rfl) (by decide +kernel) (by decide +kernel) (by decide +kernel) (by decide +kernel) (by rfl) (fun _ _ _ h => h) (by kernel_rfl) ?_ (by assumption) ?_
  rotate_left
  · (intro wz hSw; (try dsimp only at hSw); go_simp; with_reducible rfl)
  try simp only [Act.put, List.setIfInBounds_toArray, List.set_cons_zero, List.set_cons_succ]
  refine wpAnyG_takeY (i := 36) (v := ?_) rfl (by kernel_rfl) (by decide +kernel) (by decide +kernel) (by decide +kernel) (fun _ _ _ h => h) (by kernel_rfl) ?_ (by assumption) ?_
  rotate_left
  · (intro wz; go_simp; with_reducible rfl)
  try simp only [Act.put, List.setIfInBounds_toArray, List.set_cons_zero, List.set_cons_succ]
  refine wpAnyG_takeY (i := 37) (v := ?_) rfl (by kernel_rfl) (by decide +kernel) (by decide +kernel) (by decide +kernel) (fun _ _ _ h => h) (by kernel_rfl) ?_ (by assumption) ?_
  rotate_left
  · (intro wz; go_simp; with_reducible rfl)
  try simp only [Act.put, List.setIfInBounds_toArray, List.set_cons_zero, List.set_cons_succ]
  refine wpAnyG_take (i := 38) (v := ?_) rfl (by kernel_rfl) (by decide +kernel) (by decide +kernel) (by decide +kernel) (by decide +kernel) (by rfl) (fun _ _ _ h => h) (by kernel_rfl) ?_ (by assumption) ?_
  rotate_left
  · (intro wz hSw; (try dsimp only at hSw); go_simp; with_reducible rfl)
  try simp only [Act.put, List.setIfInBounds_toArray, List.set_cons_zero, List.set_cons_succ]
  refine wpAnyG_one (i := 31) rfl (by kernel_rfl) (by kernel_rfl) (fun K hK => ?_)
  have HK := Lib.hid hK
  clear hK
  go_simp
  refine (pairs_any x.db x.t x.lo x.S (mV m1) x.d _ (DX.out.keeps K0.out (by simp) (by simp)) (by have := HI.out.t.ek; omega)).mono ?_
  rintro r w1 ⟨a1, c1, rfl, r1, k1⟩
  rw [← hln.out]
  have K1 := Lib.hid (K0.out.trans k1)
  have R1 := Lib.hid r1
  have hF : w1.cell? ⟨u.xb, 0, none⟩ = some (.pointer (some ⟨x.db, 0, none⟩)) ∧ w1.cell? ⟨u.xb, 1, none⟩ = some (.pointer (some ⟨y.db, 0, none⟩)) ∧ w1.cell? ⟨y.db, 1, none⟩ = some (.int .i64 vr) ∧ w1.cell? ⟨y.db, 2, none⟩ = some (.pointer (some ⟨y.t, 0, none⟩)) := ⟨k1.cell hF.1 (by simp), k1.cell hF.2.1 (by simp), k1.cell hF.2.2.1 (by simp), k1.cell hF.2.2.2 (by simp)⟩
  clear k1 r1
  refine HK.out _ _ hF ?_
  clear HK K
  try simp only [Act.put, List.setIfInBounds_toArray, List.set_cons_zero, List.set_cons_succ]
  refine wpAnyG_one (i := 39) rfl (by kernel_rfl) (by kernel_rfl) (fun K hK => ?_)
  have HK := Lib.hid hK
  clear hK
  go_simp
  have DY1 := DY.out.keeps K1.out (by simp) (by simp)
  obtain ⟨ta, tc, tq, b1, b2, _⟩ := DY1.t
  refine (rall_any y.t y.lo x.d.T.L tc ta x.d.T.E _ _ _ _ _ _ w1 b1 b2 (by have := HI.out.t.ek; omega)).mono ?_
  rintro r w2 ⟨a2, c2, rfl, r2, k2⟩
  rw [← hln.out]
  have K2 := Lib.hid (K1.out.trans k2)
  have R2 := Lib.hid r2
  have R1 := Lib.hid (R1.out.keeps k2 (by simp))
  have hF : w2.cell? ⟨u.xb, 0, none⟩ = some (.pointer (some ⟨x.db, 0, none⟩)) ∧ w2.cell? ⟨u.xb, 1, none⟩ = some (.pointer (some ⟨y.db, 0, none⟩)) ∧ w2.cell? ⟨y.db, 1, none⟩ = some (.int .i64 vr) ∧ w2.cell? ⟨y.db, 2, none⟩ = some (.pointer (some ⟨y.t, 0, none⟩)) := ⟨k2.cell hF.1 (by simp), k2.cell hF.2.1 (by simp), k2.cell hF.2.2.1 (by simp), k2.cell hF.2.2.2 (by simp)⟩
  clear k2 r2 DY1 b1 b2
  refine HK.out _ _ hF ?_
  clear HK K
  try simp only [Act.put, List.setIfInBounds_toArray, List.set_cons_zero, List.set_cons_succ]
  refine wpAnyG_one (i := 40) rfl (by kernel_rfl) (by kernel_rfl) (fun K hK => ?_)
  have HK := Lib.hid hK
  clear hK
  go_simp
  have ES := entries_same _ _ c1 c2 a1 a2 (liveL x.d.T.E) w2 R1.out R2.out (by rw [liveL_len]; have := liveN_le x.d.T.E; have := HI.out.t.ek; omega)
  rw [liveL_len, ← hln.out] at ES
  refine ES.mono ?_
  rintro r w3 ⟨rfl, k3⟩
  have K3 := Lib.hid (K2.out.trans k3)
  have hF : w3.cell? ⟨u.xb, 0, none⟩ = some (.pointer (some ⟨x.db, 0, none⟩)) ∧ w3.cell? ⟨u.xb, 1, none⟩ = some (.pointer (some ⟨y.db, 0, none⟩)) ∧ w3.cell? ⟨y.db, 1, none⟩ = some (.int .i64 vr) ∧ w3.cell? ⟨y.db, 2, none⟩ = some (.pointer (some ⟨y.t, 0, none⟩)) := ⟨k3.cell hF.1 (by simp), k3.cell hF.2.1 (by simp), k3.cell hF.2.2.1 (by simp), k3.cell hF.2.2.2 (by simp)⟩
  clear k3 ES R1 R2
  refine HK.out _ _ hF ?_
  clear HK K
  try simp only [Act.put, List.setIfInBounds_toArray, List.set_cons_zero, List.set_cons_succ]
  refine wpAnyG_takeY (i := 41) (v := ?_) rfl (by kernel_rfl) (by decide +kernel) (by decide +kernel) (by decide +kernel) (fun _ _ _ h => h) (by kernel_rfl) ?_ (by assumption) ?_
  rotate_left
  · (intro wz; go_simp; with_reducible rfl)
  try simp only [Act.put, List.setIfInBounds_toArray, List.set_cons_zero, List.set_cons_succ]
  refine wpAnyG_takeY (i := 42) (v := ?_) rfl (by kernel_rfl) (by decide +kernel) (by decide +kernel) (by decide +kernel) (fun _ _ _ h => h) (by kernel_rfl) ?_ (by assumption) ?_
  rotate_left
  · (intro wz; go_simp; with_reducible rfl)
  try simp only [Act.put, List.setIfInBounds_toArray, List.set_cons_zero, List.set_cons_succ]
  refine wpAnyG_takeY (i := 43) (v := ?_) rfl (by kernel_rfl) (by decide +kernel) (by decide +kernel) (by decide +kernel) (fun _ _ _ h => h) (by kernel_rfl) ?_ (by assumption) ?_
  rotate_left
  · (intro wz; go_simp; with_reducible rfl)
  try simp only [Act.put, List.setIfInBounds_toArray, List.set_cons_zero, List.set_cons_succ]
  refine wpAnyG_takeY (i := 44) (v := ?_) rfl (by kernel_rfl) (by decide +kernel) (by decide +kernel) (by decide +kernel) (fun _ _ _ h => h) (by kernel_rfl) ?_ (by assumption) ?_
  rotate_left
  · (intro wz; go_simp; with_reducible rfl)
  try simp only [Act.put, List.setIfInBounds_toArray, List.set_cons_zero, List.set_cons_succ]
  refine wpAnyG_takeY (i := 45) (v := ?_) rfl (by kernel_rfl) (by decide +kernel) (by decide +kernel) (by decide +kernel) (fun _ _ _ h => h) (by kernel_rfl) ?_ (by assumption) ?_
  rotate_left
  · (intro wz; go_simp; with_reducible rfl)
  try simp only [Act.put, List.setIfInBounds_toArray, List.set_cons_zero, List.set_cons_succ]
  refine wpAnyG_take (i := 46) (v := ?_) rfl (by kernel_rfl) (by decide +kernel) (by decide +kernel) (by decide +kernel) (by decide +kernel) (by rfl) (fun _ _ _ h => h) (by kernel_rfl) ?_ (by assumption) ?_
  rotate_left
  · (intro wz hSw; (try dsimp only at hSw); go_simp; with_reducible rfl)
  try simp only [Act.put, List.setIfInBounds_toArray, List.set_cons_zero, List.set_cons_succ]
  refine wpAnyG_takeY (i := 48) (v := ?_) rfl (by kernel_rfl) (by decide +kernel) (by decide +kernel) (by decide +kernel) (fun _ _ _ h => h) (by kernel_rfl) ?_ (by assumption) ?_
  rotate_left
  · (intro wz; go_simp; with_reducible rfl)
  try simp only [Act.put, List.setIfInBounds_toArray, List.set_cons_zero, List.set_cons_succ]
  refine wpAnyG_takeY (i := 49) (v := ?_) rfl (by kernel_rfl) (by decide +kernel) (by decide +kernel) (by decide +kernel) (fun _ _ _ h => h) (by kernel_rfl) ?_ (by assumption) ?_
  rotate_left
  · (intro wz; go_simp; with_reducible rfl)
  try simp only [Act.put, List.setIfInBounds_toArray, List.set_cons_zero, List.set_cons_succ]
  refine wpAnyG_takeY (i := 50) (v := ?_) rfl (by kernel_rfl) (by decide +kernel) (by decide +kernel) (by decide +kernel) (fun _ _ _ h => h) (by kernel_rfl) ?_ (by assumption) ?_
  rotate_left
  · (intro wz; go_simp; with_reducible rfl)
  try simp only [Act.put, List.setIfInBounds_toArray, List.set_cons_zero, List.set_cons_succ]
  refine wpAnyG_take (i := 51) (v := ?_) rfl (by kernel_rfl) (by decide +kernel) (by decide +kernel) (by decide +kernel) (by decide +kernel) (by rfl) (fun _ _ _ h => h) (by kernel_rfl) ?_ (by assumption) ?_
  rotate_left
  · (intro wz hSw; (try dsimp only at hSw); go_simp; with_reducible rfl)
  try simp only [Act.put, List.setIfInBounds_toArray, List.set_cons_zero, List.set_cons_succ]
  refine wpAnyG_takeY (i := 52) (v := ?_) rfl (by kernel_rfl) (by decide +kernel) (by decide +kernel) (by decide +kernel) (fun _ _ _ h => h) (by kernel_rfl) ?_ (by assumption) ?_
  rotate_left
  · (intro wz; go_simp; with_reducible rfl)
  try simp only [Act.put, List.setIfInBounds_toArray, List.set_cons_zero, List.set_cons_succ]
  refine wpAnyG_takeY (i := 53) (v := ?_) rfl (by kernel_rfl) (by decide +kernel) (by decide +kernel) (by decide +kernel) (fun _ _ _ h => h) (by kernel_rfl) ?_ (by assumption) ?_
  rotate_left
  · (intro wz; go_simp; with_reducible rfl)
  try simp only [Act.put, List.setIfInBounds_toArray, List.set_cons_zero, List.set_cons_succ]
  refine wpAnyG_take (i := 54) (v := ?_) rfl (by kernel_rfl) (by decide +kernel) (by decide +kernel) (by decide +kernel) (by decide +kernel) (by rfl) (fun _ _ _ h => h) (by kernel_rfl) ?_ (by assumption) ?_
  rotate_left
  · (intro wz hSw; (try dsimp only at hSw); go_simp; with_reducible rfl)
  try simp only [Act.put, List.setIfInBounds_toArray, List.set_cons_zero, List.set_cons_succ]
  refine wpAnyG_one (i := 47) rfl (by kernel_rfl) (by kernel_rfl) (fun K hK => ?_)
  have HK := Lib.hid hK
  clear hK
  go_simp
  refine (dsight_any x.db x.t x.lo x.S (mV m1) x.d _ (DX.out.keeps K3.out (by simp) (by simp)) (by have := HI.out.t.l12; omega) HI.out.t.ft (by have := HI.out.t.ek; omega)).mono ?_
  rintro r w4 ⟨a4, c4, ae4, ce4, rfl, v4, e4, bl4⟩
  have k4 := Below.keeps bl4 []
  have K4 := Lib.hid (K3.out.trans k4)
  have VE4 := Lib.hid (And.intro v4 e4)
  have hF : w4.cell? ⟨u.xb, 0, none⟩ = some (.pointer (some ⟨x.db, 0, none⟩)) ∧ w4.cell? ⟨u.xb, 1, none⟩ = some (.pointer (some ⟨y.db, 0, none⟩)) ∧ w4.cell? ⟨y.db, 1, none⟩ = some (.int .i64 vr) ∧ w4.cell? ⟨y.db, 2, none⟩ = some (.pointer (some ⟨y.t, 0, none⟩)) := ⟨k4.cell hF.1 (by simp), k4.cell hF.2.1 (by simp), k4.cell hF.2.2.1 (by simp), k4.cell hF.2.2.2 (by simp)⟩
  obtain ⟨sg4, hsg4⟩ := ex_hid (sightAgg x.d.T (.slice a4 (2 ^ x.d.T.L) c4) (.slice ae4 x.d.T.E.length ce4))
  rw [← hsg4.out]
  clear k4 v4 e4 bl4
  refine HK.out _ _ hF ?_
  clear HK K
  try simp only [Act.put, List.setIfInBounds_toArray, List.set_cons_zero, List.set_cons_succ]
  refine wpAnyG_one (i := 55) rfl (by kernel_rfl) (by kernel_rfl) (fun K hK => ?_)
  have HK := Lib.hid hK
  clear hK
  go_simp
  refine (rsight_any y.t y.lo y.S m2 x.d.T w4 (DY.out.keeps K4.out (by simp) (by simp)).t HI.out.t.l3 (by have := HI.out.t.l12; omega) (by have := HI.out.t.ek; omega)).mono ?_
  rintro r w5 ⟨a5, c5, ae5, ce5, rfl, v5, e5, bl5⟩
  have k5 := Below.keeps bl5 []
  have K5 := Lib.hid (K4.out.trans k5)
  have SS := sight_same x.d.T _ _ _ _ c4 c5 ce4 ce5 a4 a5 ae4 ae5 w5 (VE4.out.1.keeps k5 (by simp)) v5 (VE4.out.2.keeps k5 (by simp)) e5 (by have := HI.out.t.l12; omega) (by have := HI.out.t.ek; omega)
  rw [← hsg4.out] at SS
  obtain ⟨sg5, hsg5⟩ := ex_hid (sightAgg x.d.T (.slice a5 (2 ^ x.d.T.L) c5) (.slice ae5 x.d.T.E.length ce5))
  rw [← hsg5.out] at SS ⊢
  have SS := Lib.hid SS
  have hF : w5.cell? ⟨u.xb, 0, none⟩ = some (.pointer (some ⟨x.db, 0, none⟩)) ∧ w5.cell? ⟨u.xb, 1, none⟩ = some (.pointer (some ⟨y.db, 0, none⟩)) ∧ w5.cell? ⟨y.db, 1, none⟩ = some (.int .i64 vr) ∧ w5.cell? ⟨y.db, 2, none⟩ = some (.pointer (some ⟨y.t, 0, none⟩)) := ⟨k5.cell hF.1 (by simp), k5.cell hF.2.1 (by simp), k5.cell hF.2.2.1 (by simp), k5.cell hF.2.2.2 (by simp)⟩
  clear k5 v5 e5 bl5 VE4
  refine HK.out _ _ hF ?_
  clear HK K
  try simp only [Act.put, List.setIfInBounds_toArray, List.set_cons_zero, List.set_cons_succ]
  refine wpAnyG_one (i := 56) rfl (by kernel_rfl) (by kernel_rfl) (fun K hK => ?_)
  have HK := Lib.hid hK
  clear hK
  go_simp
  refine SS.out.mono ?_
  rintro r w6 ⟨rfl, k6⟩
  have K6 := Lib.hid (K5.out.trans k6)
  have hF : w6.cell? ⟨u.xb, 0, none⟩ = some (.pointer (some ⟨x.db, 0, none⟩)) ∧ w6.cell? ⟨u.xb, 1, none⟩ = some (.pointer (some ⟨y.db, 0, none⟩)) ∧ w6.cell? ⟨y.db, 1, none⟩ = some (.int .i64 vr) ∧ w6.cell? ⟨y.db, 2, none⟩ = some (.pointer (some ⟨y.t, 0, none⟩)) := ⟨k6.cell hF.1 (by simp), k6.cell hF.2.1 (by simp), k6.cell hF.2.2.1 (by simp), k6.cell hF.2.2.2 (by simp)⟩
  clear k6
  refine HK.out _ _ hF ?_
  clear HK K
  try simp only [Act.put, List.setIfInBounds_toArray, List.set_cons_zero, List.set_cons_succ]
  refine wpAnyG_takeY (i := 57) (v := ?_) rfl (by kernel_rfl) (by decide +kernel) (by decide +kernel) (by decide +kernel) (fun _ _ _ h => h) (by kernel_rfl) ?_ (by assumption) ?_
  rotate_left
  · (intro wz; go_simp; with_reducible rfl)
  try simp only [Act.put, List.setIfInBounds_toArray, List.set_cons_zero, List.set_cons_succ]
  refine wpAnyG_takeY (i := 58) (v := ?_) rfl (by kernel_rfl) (by decide +kernel) (by decide +kernel) (by decide +kernel) (fun _ _ _ h => h) (by kernel_rfl) ?_ (by assumption) ?_
  rotate_left
  · (intro wz; go_simp; with_reducible rfl)
  try simp only [Act.put, List.setIfInBounds_toArray, List.set_cons_zero, List.set_cons_succ]
  refine wpAnyG_done (by kernel_rfl) ?_ _
  go_simp
  go_wp2_with fail
  go_ret
  exact ⟨rfl, K6.out⟩
end Go.Proofs.YtcakdmapnmneoaaGreat
