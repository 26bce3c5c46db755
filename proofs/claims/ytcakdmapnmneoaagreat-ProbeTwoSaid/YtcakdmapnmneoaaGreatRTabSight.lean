/- The document's Sight, Seek, Numbers (chapter 7). -/
import Derived.Test.YtcakdmapnmneoaaGreatB10
import Derived.Test.YtcakdmapnmneoaaGreatB6
import Derived.Test.YtcakdmapnmneoaaGreatB5
import Derived.Test.YtcakdmapnmneoaaGreatB7
namespace Go.Proofs.YtcakdmapnmneoaaGreat
open Go.RowKit
set_option linter.unusedVariables false
set_option linter.unusedSimpArgs false

theorem ref_copy (lo2 q n : Nat) (V : Nat → Int) (W : World) (h : RefAt q n V W) (hn0 : 0 < n) (hn : n ≤ 1048576) (hlo : lo2 ≤ W.heap.size) :
    ∃ g c W3, (Builtin.append_ #[108, 108] 108 #[.slice none 0 0, .slice (some ⟨q, 0, none⟩) n n]).run Tryz.prog W = .ok (.slice (some ⟨g, 0, none⟩) n c) W3 ∧ ValRow 3 lo2 (some ⟨g, 0, none⟩) n c (fun k => .int .i64 (V k)) W3 ∧ Keeps [] W W3 := by
  obtain ⟨j0, hi, hz0, hz1, hz2⟩ := info_parts info64
  obtain ⟨g, cap, w', r1, r2, r3, r4, r5⟩ := run_append_lies (P := Tryz.prog) W 108 108 lo2 3 j0 (.int .i64 0) 1 8 Tryz.underlying108 hi hz0 hz1 hz2 rfl (by decide) (.slice none 0 0) 0 [] (World.ownsRow_nil _ _ _ _) ⟨q, 0, none⟩ n n (valR n (fun k => .int .i64 (V k))) (by rw [valR_len]; omega)
    (by
      intro j u hj
      rw [show (⟨q, 0, none⟩ : Addr).add j = ⟨q, j, none⟩ by unfold Addr.add; split <;> simp_all]
      have hlt := (List.getElem?_eq_some_iff.1 hj).1
      rw [valR_len] at hlt
      rw [valR_get hlt] at hj
      exact (cell_has h (numA_get hlt)).trans hj)
    (by intro v hv; simp only [valR, List.mem_map] at hv; obtain ⟨k, _, rfl⟩ := hv; rfl) hn0 (by unfold maxLen; omega) (by omega) hlo _ rfl
  simp only [Nat.zero_add, List.nil_append] at r1 r2
  exact ⟨g, cap, w', r1, r2, ⟨r3.os, r3.tape, r3.output, r3.size, fun k hk _ => r3.block k hk (by simp [Value.ownBlock])⟩⟩
set_option maxRecDepth 100000 in
set_option maxHeartbeats 4000000 in
theorem rsight_any (t lo : Nat) (S : List Nat) (m : Option Nat) (T : Tab) (w : World) (H : RTabAt t lo S m T w) (h3 : 3 ≤ T.L) (hL : T.L ≤ 20) (hl : T.E.length ≤ 1000000) :
    Calls Tryz.prog 48 #[.pointer (some ⟨t, 0, none⟩)] w (SightP T w) := by
  obtain ⟨a, c, q, b1, r1, q1, s1, s2, s3, s4⟩ := H
  have HB := Lib.hid b1
  have HR := Lib.hid r1
  have HQ := Lib.hid q1
  have hM1 := pow_le hL
  have hM0 := pow_pos T.L
  obtain ⟨M, hM⟩ := ex_hid (2 ^ T.L)
  rw [← hM.out] at hM1 hM0
  obtain ⟨WA, hWA⟩ : ∃ WA, w.alloc (.cells #[.int .i64 0, .int .i64 0, .slice none 0 0, .slice none 0 0, .int .i64 0, .int .i64 0, .int .i64 0] 110) = WA := ⟨_, rfl⟩
  have kA : Keeps [] w WA := by rw [← hWA]; exact (Keeps.refl [] w).alloc _
  have bA : WA.heap[w.heap.size]? = some (.cells #[.int .i64 0, .int .i64 0, .slice none 0 0, .slice none 0 0, .int .i64 0, .int .i64 0, .int .i64 0] 110 (0, 0)) := by rw [← hWA]; exact has_new _ _
  have zA : WA.heap.size = w.heap.size + 1 := by rw [← hWA]; simp
  have hT := kA.has b1 (by simp)
  have e1 : WA.cell? ⟨t, 1, none⟩ = some (.int .i64 T.L) := cell_has hT (i := 1) rfl
  have e3 : WA.cell? ⟨t, 3, none⟩ = some (.int .i64 (liveN T.E : Nat)) := cell_has hT (i := 3) rfl
  have e4 : WA.cell? ⟨t, 4, none⟩ = some (.int .i64 T.births) := cell_has hT (i := 4) rfl
  have e5 : WA.cell? ⟨t, 5, none⟩ = some (.int .i64 T.made) := cell_has hT (i := 5) rfl
  have KA := Lib.hid kA
  have BA := Lib.hid bA
  have n1 := World.new_ne WA ⟨t, 1, none⟩ e1
  have n3 := World.new_ne WA ⟨t, 3, none⟩ e3
  have n4 := World.new_ne WA ⟨t, 4, none⟩ e4
  have n5 := World.new_ne WA ⟨t, 5, none⟩ e5
  have HWA := Lib.hid hWA
  clear b1 r1 q1 s1 s2 s3 s4 hWA kA bA hT
  go_enter Tryz.func48, Tryz.ntmps48
  go_upto_region 1 with (fail)
  rw [HWA.out]
  go_cut [3] from 4 to 28 (fun z3 wx => ∃ D, z3 = .pointer (some ⟨D, 0, none⟩) ∧ wx.heap[D]? = some (sightO T (.slice none 0 0) (.slice none 0 0)) ∧ Keeps [] WA wx ∧ WA.heap.size ≤ D)
  case first =>
    go_region_held3 (fun w' => w'.cell? ⟨t, 1, none⟩ = some (.int .i64 T.L) ∧ w'.cell? ⟨t, 3, none⟩ = some (.int .i64 (liveN T.E : Nat)) ∧ w'.cell? ⟨t, 4, none⟩ = some (.int .i64 T.births) ∧ w'.cell? ⟨t, 5, none⟩ = some (.int .i64 T.made)) (go_keep)
      (first
        | (go_at_call 86; refine (rwidth_any T.L _ rfl h3 hL _).mono ?_; rintro r w1 ⟨rfl, rfl⟩))
    all_goals go_wp2_with fail
    all_goals go_meet
    all_goals exact ⟨w.heap.size + 1, rfl, has_drew (has_new' _ _ zA.symm), ((Keeps.refl [] WA).alloc _).drew, by omega⟩
  case rest =>
    obtain ⟨D, rfl, hD, kC, zD⟩ := hcut
    have K1 := Lib.hid (KA.out.trans kC)
    have hDd : Keeps [] wc wc.drew := (Keeps.refl [] wc).drew
    have hq := (KA.out.trans kC).has HQ.out (by simp)
    obtain ⟨gc, cc, W3, hrun, v3, k3⟩ := ref_copy w.heap.size q (2 ^ T.L) T.V wc.drew (hDd.has hq (by simp)) (by rw [← hM.out]; omega) (by rw [← hM.out]; exact hM1) (by have := K1.out.size; exact this)
    rw [← hM.out] at hrun
    have bt := (KA.out.trans kC).has HB.out (by simp)
    have x2 : wc.cell? ⟨t, 2, none⟩ = some (.slice (some ⟨q, 0, none⟩) M M) := by rw [hM.out]; exact cell_has bt (i := 2) rfl
    have d2 : wc.cell? ⟨D, 2, none⟩ = some (.slice none 0 0) := cell_has hD (i := 2) rfl
    have hD3 := k3.has (has_drew hD) (by simp)
    have d23 : W3.cell? ⟨D, 2, none⟩ = some (.slice none 0 0) := cell_has hD3 (i := 2) rfl
    have f23 := free_of_has hD3 2
    have kD3 : Keeps [D] W3 (W3.setCell ⟨D, 2, none⟩ (.slice (some ⟨gc, 0, none⟩) M cc)) := (Keeps.refl _ _).setCell (.inr (by simp)) _
    have zDl := lt_of_block hD
    have hgD : D ∉ blk (some (⟨gc, 0, none⟩ : Addr)) := v3.notin hD3 (by decide)
    obtain ⟨W4, hW4⟩ : ∃ W4, W3.setCell ⟨D, 2, none⟩ (.slice (some ⟨gc, 0, none⟩) M cc) = W4 := ⟨_, rfl⟩
    have hD4 := has_setCell hD3 2 (.slice (some ⟨gc, 0, none⟩) M cc)
    simp only [sightO, List.setIfInBounds_toArray, List.set_cons_zero, List.set_cons_succ] at hD4
    rw [hW4] at kD3 hD4
    have V4 := Lib.hid (v3.keeps kD3 (fun x hx hx2 => by simp at hx2; subst hx2; exact hgD hx))
    have K4 := Lib.hid ((K1.out.trans (hDd.trans k3)).then (S := []) kD3 (fun x hx => by simp at hx; have := KA.out.size; left; omega))
    have W4H := Lib.hid hW4
    have HD4 := Lib.hid hD4
    have BA4 := Lib.hid (kD3.has (k3.has (hDd.has (kC.has BA.out (by simp)) (by simp)) (by simp)) (by simp; omega))
    have HMM := hM
    clear hD kC hq v3 k3 bt hD3 kD3 hW4 hD4 hDd n1 n3 n4 n5 e1 e3 e4 e5 hgD
    go_upto_region 2 with (fail)
    go_cut [3] from 28 to 37 (fun z3 wx => z3 = .pointer (some ⟨D, 0, none⟩) ∧ W4 = wx)
    case first =>
      go_region_law (refine step_append_run (o := ⟨some 35, _, _, _, _, _⟩) rfl (.tmp 29) (.tmp 34) 108 rfl _ _ rfl rfl _ _ hrun ?_)
      all_goals (go_wp2_with fail; go_meet; exact ⟨rfl, W4H.out.symm⟩)
    case rest =>
      obtain ⟨rfl, rfl⟩ := hcut
      have bt := K4.out.has HB.out (by simp)
      have x1 : W4.cell? ⟨t, 0, none⟩ = some (.slice a T.E.length c) := cell_has bt (i := 0) rfl
      have d3 : W4.cell? ⟨D, 3, none⟩ = some (.slice none 0 0) := cell_has HD4.out (i := 3) rfl
      have hE := HR.out.keeps K4.out (by simp)
      obtain ⟨ae, ce, W5, hrun5, r5, k5⟩ := ent_copy lo w.heap.size c a T.E W4.drew (EntRow.drew hE) hl (by have := K4.out.size; exact this)
      have k54 : Keeps [] W4 W5 := ((Keeps.refl [] W4).drew).trans k5
      have hD5 := k54.has HD4.out (by simp)
      have y33 : W5.cell? ⟨D, 3, none⟩ = some (.slice none 0 0) := cell_has hD5 (i := 3) rfl
      have f33 := free_of_has hD5 3
      obtain ⟨ml, hml⟩ := ex_hid T.E.length
      rw [← hml.out] at x1 hrun5
      have K54 := Lib.hid k54
      have HD5 := Lib.hid hD5
      have R5 := Lib.hid r5
      clear hrun x2 d2 d23 f23 k5 k54 hD5 r5 hE bt
      have kD5 : Keeps [D] W5 (W5.setCell ⟨D, 3, none⟩ (.slice ae ml ce)) := (Keeps.refl _ _).setCell (.inr (by simp)) _
      have hD6 := has_setCell HD5.out 3 (.slice ae ml ce)
      simp only [List.setIfInBounds_toArray, List.set_cons_zero, List.set_cons_succ] at hD6
      obtain ⟨W6, hW6⟩ : ∃ W6, W5.setCell ⟨D, 3, none⟩ (.slice ae ml ce) = W6 := ⟨_, rfl⟩
      rw [hW6] at kD5 hD6
      have W6H := Lib.hid hW6
      have hnE : D ∉ blk ae := R5.out.notin HD5.out (by decide)
      have z4 := K4.out.size
      have z5 := K54.out.size
      have zD4 := lt_of_block HD4.out
      have hnV : D ∉ blk (some (⟨gc, 0, none⟩ : Addr)) := V4.out.notin HD4.out (by decide)
      have V6 := Lib.hid ((V4.out.keeps K54.out (by simp)).keeps kD5 (fun x hx hx2 => by simp at hx2; subst hx2; exact hnV hx))
      have R6 := Lib.hid (R5.out.keeps kD5 (fun x hx hx2 => by simp at hx2; subst hx2; exact hnE hx))
      have K6 := Lib.hid ((K4.out.trans K54.out).then (S := []) kD5 (fun x hx => by simp at hx; have := KA.out.size; left; omega))
      have HD6 := Lib.hid hD6
      have bx := kD5.has (K54.out.has BA4.out (by simp)) (by simp; omega)
      have BX := Lib.hid bx
      clear hW6 kD5 hD6 bx hnE hnV
      go_upto_region 3 with (fail)
      go_cut [3] from 37 to 45 (fun z3 wx => z3 = .pointer (some ⟨D, 0, none⟩) ∧ W6 = wx)
      case first =>
        go_region_law (refine step_append_run (o := ⟨some 43, _, _, _, _, _⟩) rfl (.tmp 38) (.tmp 42) 105 rfl _ _ rfl rfl _ _ hrun5 ?_)
        all_goals (go_wp2_with fail; go_meet; exact ⟨rfl, W6H.out.symm⟩)
      case rest =>
        obtain ⟨rfl, rfl⟩ := hcut
        have d0 : W6.cell? ⟨D, 0, none⟩ = some (.int .i64 T.L) := cell_has HD6.out (i := 0) rfl
        have d1 : W6.cell? ⟨D, 1, none⟩ = some (.int .i64 (wdOf T.L)) := cell_has HD6.out (i := 1) rfl
        have d2 : W6.cell? ⟨D, 2, none⟩ = some (.slice (some ⟨gc, 0, none⟩) M cc) := cell_has HD6.out (i := 2) rfl
        have d3 : W6.cell? ⟨D, 3, none⟩ = some (.slice ae ml ce) := cell_has HD6.out (i := 3) rfl
        have d4 : W6.cell? ⟨D, 4, none⟩ = some (.int .i64 (liveN T.E : Nat)) := cell_has HD6.out (i := 4) rfl
        have d5 : W6.cell? ⟨D, 5, none⟩ = some (.int .i64 T.births) := cell_has HD6.out (i := 5) rfl
        have d6 : W6.cell? ⟨D, 6, none⟩ = some (.int .i64 T.made) := cell_has HD6.out (i := 6) rfl
        have b0 := cell_has BX.out (i := 0) rfl
        have b1 := cell_has BX.out (i := 1) rfl
        have b2 := cell_has BX.out (i := 2) rfl
        have b3 := cell_has BX.out (i := 3) rfl
        have b4 := cell_has BX.out (i := 4) rfl
        have b5 := cell_has BX.out (i := 5) rfl
        have b6 := cell_has BX.out (i := 6) rfl
        have w0 := free_of_has BX.out 0
        have w1 := free_of_has BX.out 1
        have w2' := free_of_has BX.out 2
        have w3 := free_of_has BX.out 3
        have w4 := free_of_has BX.out 4
        have w5 := free_of_has BX.out 5
        have w6 := free_of_has BX.out 6
        clear hrun5 x1 y33 f33 z4 z5 zD4
        go_wp2_with fail
        have bF := sight_store T (.slice (some ⟨gc, 0, none⟩) M cc) (.slice ae ml ce) BX.out
        have kF : Keeps [w.heap.size] W6 (((((((W6.setCell ⟨w.heap.size, 0, none⟩ (.int .i64 T.L)).setCell ⟨w.heap.size, 1, none⟩ (.int .i64 (wdOf T.L))).setCell ⟨w.heap.size, 2, none⟩ (.slice (some ⟨gc, 0, none⟩) M cc)).setCell ⟨w.heap.size, 3, none⟩ (.slice ae ml ce)).setCell ⟨w.heap.size, 4, none⟩ (.int .i64 (liveN T.E : Nat))).setCell ⟨w.heap.size, 5, none⟩ (.int .i64 T.births)).setCell ⟨w.heap.size, 6, none⟩ (.int .i64 T.made)) := (((((((Keeps.refl _ _).setCell (.inr (by simp)) _).setCell (.inr (by simp)) _).setCell (.inr (by simp)) _).setCell (.inr (by simp)) _).setCell (.inr (by simp)) _).setCell (.inr (by simp)) _).setCell (.inr (by simp)) _
        obtain ⟨WF, hWF⟩ : ∃ WF, ((((((W6.setCell ⟨w.heap.size, 0, none⟩ (.int .i64 T.L)).setCell ⟨w.heap.size, 1, none⟩ (.int .i64 (wdOf T.L))).setCell ⟨w.heap.size, 2, none⟩ (.slice (some ⟨gc, 0, none⟩) M cc)).setCell ⟨w.heap.size, 3, none⟩ (.slice ae ml ce)).setCell ⟨w.heap.size, 4, none⟩ (.int .i64 (liveN T.E : Nat))).setCell ⟨w.heap.size, 5, none⟩ (.int .i64 T.births)).setCell ⟨w.heap.size, 6, none⟩ (.int .i64 T.made) = WF := ⟨_, rfl⟩
        rw [hWF] at bF kF ⊢
        have rc := cell_of_has bF
        refine bodyPost_ret (v := sightAgg T (.slice (some ⟨gc, 0, none⟩) M cc) (.slice ae ml ce)) ?_ rfl ?_
        · simp [results, Tryz.results48, go_sem, rc, sightAgg, sightO]
        · refine ⟨some ⟨gc, 0, none⟩, cc, ae, ce, by rw [hml.out, hM.out], ?_, ?_, ?_⟩
          · exact V6.out.keeps kF (fun x hx hx2 => by simp at hx2; subst hx2; exact V6.out.notin BX.out (by decide) hx)
          · exact R6.out.keeps kF (fun x hx hx2 => by simp at hx2; subst hx2; exact R6.out.notin BX.out (by decide) hx)
          · exact (K6.out.then (S := []) kF (fun x hx => by simp at hx; left; omega)).below (by simp) (by simp)
end Go.Proofs.YtcakdmapnmneoaaGreat
