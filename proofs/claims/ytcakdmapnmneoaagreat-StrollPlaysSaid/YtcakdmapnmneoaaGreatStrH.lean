/- What the document fixes of strolls (chapter 9's laws). -/
import Derived.Test.YtcakdmapnmneoaaGreatPkA
import Derived.Test.YtcakdmapnmneoaaGreatDictR
namespace Go.Proofs.YtcakdmapnmneoaaGreat
open Go.RowKit
set_option linter.unusedVariables false
set_option linter.unusedSimpArgs false

theorem DicAt.S_lt {db t lo : Nat} {S : List Nat} {mv : Value} {d : Dic} {W : World} (h : DicAt db t lo S mv d W) : db < W.heap.size ∧ ∀ x, x ∈ S → x < W.heap.size := ⟨lt_of_block h.b, fun x hx => (h.t.foot x hx).2⟩
theorem field_kind (a b d e : Int) (c : Bool) (w : World) : (Instr.field 75 (.agg #[.int .i64 a, .int .i64 b, .bool c, .int .i64 d, .int .i64 e]) 0).run Tryz.prog w = .ok (.int .i64 a) w := by kernel_rfl
set_option maxRecDepth 100000 in
set_option maxHeartbeats 4000000 in
theorem awake9 (w : World) : Calls Tryz.prog 7 #[] w fun e w' => e = .returned (.bool true) ∧ Below w.heap.size w w' := by
  go_enter Tryz.func7, Tryz.ntmps7
  go_wp2_with fail
  refine (new8_any 3 none ⟨0, 0, 0, 0⟩ w (fun b hb => by simp at hb) (by omega) (by omega)).mono ?_
  rintro r w1 ⟨db, t, S, rfl, d1, _, k1, l1⟩
  have D1 := Lib.hid d1
  have K1 := Lib.hid (show Keeps [] w w1 from k1)
  clear d1 k1
  go_wp2_with fail
  refine (begin_one db t w.heap.size S aw80 2 7 1 10 w1 (by omega) (by omega) D1.out).mono ?_
  rintro r w2 ⟨ma, rfl, d2, m2, l2, k2⟩
  have D2 := Lib.hid d2
  have M2 := Lib.hid (m2 ma)
  have K2 := Lib.hid (K1.out.trans k2)
  clear m2 k2 d2
  go_wp2_with fail
  refine (snew_any db t w.heap.size S (mV none) aw80 false w2 D2.out (by decide) (by decide)).mono ?_
  rintro r w3 ⟨b, F, rfl, s3, k3⟩
  have D3 := Lib.hid (D2.out.keeps k3 (by simp) (by simp))
  have M3 := Lib.hid (M2.out.keeps k3 (by simp) (by simp))
  have S3 := Lib.hid s3
  have K3 := Lib.hid (K2.out.trans k3)
  have FT := Lib.hid (feet_lo M2.out D2.out)
  have Z3 := Lib.hid k3.size
  clear s3 k3
  go_wp2_with fail
  refine (step_one 0 (by omega) ma ma db t w.heap.size S aw80 aw8a w3 D3.out M3.out (newD_ok 3) (Nat.zero_le _)).mono ?_
  rintro r w4 ⟨S4, sb4, rfl, d4, _, k4, g4, _⟩
  rw [aw8_1]
  unfold Trn.agg
  have hfk := field_kind
  have D4 := Lib.hid (show DicAt db t w.heap.size S4 (mV none) aw81 w4 from d4)
  have S5 := Lib.hid (S3.out.keeps k4 (fun x hx hq => by have := (FT.out x hq).2; have := (S3.out.lo x hx).1; omega))
  have K4 := Lib.hid (K3.out.then k4 (fun x hx => .inl (FT.out x hx).1))
  have G4 := Lib.hid g4
  have Z4 := Lib.hid k4.size
  clear d4 k4 g4
  go_wp2_with fail
  clear hfk
  refine (snew_any db t w.heap.size S4 (mV none) aw81 true w4 D4.out (by decide +kernel) (by decide +kernel)).mono ?_
  rintro r w5 ⟨b', F', rfl, s5, k5⟩
  have D5 := Lib.hid (D4.out.keeps k5 (by simp) (by simp))
  have T5 := Lib.hid s5
  have S6 := Lib.hid (S5.out.keeps k5 (by simp))
  have K5 := Lib.hid (K4.out.trans k5)
  have Z5 := Lib.hid k5.size
  clear s5 k5
  have I1 : DicOk 1 aw81 := (newD_ok 3).step (by omega) aw8a
  have HI := Lib.hid I1
  have HB := Lib.hid (show BirOk aw81 from (BirOk.new 3).step aw8a)
  clear I1
  go_wp2_with fail
  refine (snext_any 1 (by omega) db t w.heap.size w2.heap.size b S4 F (mV none) aw81 (aw9s db) w5 D5.out S6.out rfl HI.out HB.out (StrOk.new (BirOk.new 3) (newD_ok 3) (by omega) db false) ⟨fun h => by have := (S3.out.lo _ h).1; have := D2.out.S_lt.1; omega, fun x hx h => by
    have h1 := S3.out.lo _ h
    rcases G4.out x hx with h2 | h2
    · have := D2.out.S_lt.2 x h2; omega
    · omega⟩).mono ?_
  rintro r w6 ⟨F6, rfl, _, _, k6⟩
  rw [aw9_1]
  have hb := S3.out.five
  have D6 := Lib.hid (D5.out.keeps k6 (fun h => by
    have h1 := D2.out.S_lt.1
    have h0 := (S3.out.lo _ (hb 0 (by omega))).1
    simp at h; omega) (fun x hx h => by
    have h0 := (S3.out.lo _ (hb 0 (by omega)))
    have h5 := (S3.out.lo _ (hb 3 (by omega)))
    have h6 := (S3.out.lo _ (hb 2 (by omega)))
    rcases G4.out x hx with h2 | h2
    · have := D2.out.S_lt.2 x h2; simp at h; omega
    · simp at h; omega))
  have T6 := Lib.hid (T5.out.keeps k6 (fun x hx h => by
    have h1 := (T5.out.lo x hx).1
    have h0 := (S3.out.lo _ (hb 0 (by omega))).2
    have h5 := (S3.out.lo _ (hb 3 (by omega))).2
    have h6 := (S3.out.lo _ (hb 2 (by omega))).2
    have := Z4.out
    simp at h; omega))
  have K6 := Lib.hid (K5.out.then k6 (fun x hx => by
    have h0 := (S3.out.lo _ (hb 0 (by omega))).1
    have := K2.out.size
    left; simp at hx; omega))
  clear k6 hb
  go_wp2_with fail
  refine (snext_any 1 (by omega) db t w.heap.size w4.heap.size b' S4 F' (mV none) aw81 (aw9t db) w6 D6.out T6.out rfl HI.out HB.out (StrOk.new HB.out HI.out (by omega) db true) ⟨fun h => by have := (T5.out.lo _ h).1; have := D4.out.S_lt.1; omega, fun x hx h => by
    have h1 := T5.out.lo _ h
    have := D4.out.S_lt.2 x hx; omega⟩).mono ?_
  rintro r w7 ⟨F7, rfl, t7, g7, k7⟩
  rw [aw9_2, aw9_3]
  have hb := T5.out.five
  have T7 := Lib.hid t7
  have G7 := Lib.hid g7
  have D7 := Lib.hid (D6.out.keeps k7 (fun h => by
    have h1 := D4.out.S_lt.1
    have h0 := (T5.out.lo _ (hb 0 (by omega))).1
    simp at h; omega) (fun x hx h => by
    have h1 := D4.out.S_lt.2 x hx
    have h0 := (T5.out.lo _ (hb 0 (by omega))).1
    simp at h; omega))
  have K7 := Lib.hid (K6.out.then k7 (fun x hx => by
    have h0 := (T5.out.lo _ (hb 0 (by omega))).1
    have := K4.out.size
    left; simp at hx; omega))
  clear k7 hb t7 g7
  unfold Ent.agg
  simp only
  go_upto_region 11 with (fail)
  refine wp_gen (fun V => V.heap[w7.heap.size]? = some (ent9 ⟨true, 7, 1, 10, 0⟩) ∧ Keeps [] w7 V) ⟨has_new _ _, (Keeps.refl [] w7).alloc _⟩ ?_
  rintro w8 ⟨b8, k8⟩
  have D8 := Lib.hid (D7.out.keeps k8 (by simp) (by simp))
  have T8 := Lib.hid (T7.out.keeps k8 (by simp))
  have K8 := Lib.hid (K7.out.trans k8)
  have Z8 := Lib.hid k8.size
  have B8 := Lib.hid b8
  clear k8 b8
  obtain ⟨lr, hlr⟩ := ex_hid w7.heap.size
  rw [← hlr.out] at B8 ⊢
  go_wp2_with fail
  refine (snext_any 1 (by omega) db t w.heap.size w4.heap.size b' S4 F7 (mV none) aw81 (strN aw81 (aw9t db)) w8 D8.out T8.out (aw9_5 db) HI.out HB.out ((StrOk.new HB.out HI.out (by omega) db true).next HB.out HI.out (by omega)) ⟨fun h => by have := (T7.out.lo _ h).1; have := D4.out.S_lt.1; omega, fun x hx h => by
    have h1 := T7.out.lo _ h
    have := D4.out.S_lt.2 x hx; omega⟩).mono ?_
  rintro r w9 ⟨F9, rfl, t9, _, k9⟩
  rw [aw9_4]
  have b9 := k9.has B8.out (by
    have h1 := T7.out.five
    have h2 := (T7.out.lo _ (h1 0 (by omega))).2
    have h3 := (T7.out.lo _ (h1 2 (by omega))).2
    have h4 := (T7.out.lo _ (h1 3 (by omega))).2
    have := hlr.out
    simp; omega)
  have K9 := Lib.hid (K8.out.then k9 (fun x hx => by
    have h1 := T7.out.five
    have h0 := (T7.out.lo _ (h1 0 (by omega))).1
    have := K4.out.size
    left; simp at hx; omega))
  have B9 := Lib.hid b9
  clear k9 b9 t9
  obtain ⟨z, hz⟩ := ex_hid (strX aw81 (strN aw81 (aw9t db)))
  rw [← hz.out]
  unfold Ent.agg
  go_upto_region 12 with (fail)
  refine wp_gen (fun V => V.heap[lr]? = some (ent9 ⟨true, 7, 1, 10, 0⟩) ∧ Keeps [] w9 V) ⟨has_alloc B9.out _, (Keeps.refl [] w9).alloc _⟩ ?_
  rintro W ⟨bW, kW⟩
  obtain ⟨t0, t1, t2, t3, t4⟩ := ent9_cells bW
  have KW := Lib.hid (K9.out.trans kW)
  clear bW kW
  simp only at t0 t1 t2 t3 t4
  go_wp2_with fail
  go_ret
  exact ⟨rfl, KW.out.below (Nat.le_refl _) (by simp)⟩
end Go.Proofs.YtcakdmapnmneoaaGreat
