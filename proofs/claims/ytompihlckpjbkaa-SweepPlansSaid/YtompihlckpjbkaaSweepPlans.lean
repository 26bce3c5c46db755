/- SweepPlans, walked (chapter 12). Printed by mk_sweepplans.py. -/
import Derived.Test.YtompihlckpjbkaaSweepZero
import Derived.Test.YtompihlckpjbkaaSweepMarks
namespace Go.Proofs.Ytompihlckpjbkaa
open Go.RowKit
set_option linter.unusedVariables false

theorem PlanAt.more {p b n m : Nat} {f : Int → Int} {k : Int} {w : World} (h : PlanAt p b n f k w) : PlanAt p b n f k w := h
theorem sweepPlans_early (a : Option Addr) (len cap : Nat) (n : Int) (w : World) (h : 200 < len) :
    Calls Try.prog 11 #[.slice a len cap, .int .i64 n] w fun e w' => e = .returned (.bool true) ∧ Keeps [] w w' := by
  have d1 : decide ((200 : Int) < (len : Int)) = true := by simp; omega
  go_enter Try.func11, Try.ntmps11
  go_wp2_with fail
  refine (awake12 _).mono ?_
  rintro e w2 ⟨rfl, k2⟩
  go_wp2_with fail
  go_ret
  exact ⟨rfl, k2⟩
theorem cntN_hit {A : Nat → Int} {j : Nat} {x : Int} (h : x = A j) : cntN A (j + 1) x = cntN A j x + 1 := by simp [cntN, h]
theorem cntN_miss {A : Nat → Int} {j : Nat} {x : Int} (h : ¬ x = A j) : cntN A (j + 1) x = cntN A j x := by simp [cntN, h]
theorem max_zero (n : Int) : (if n < 0 then (0 : Int) else n) = max n 0 := by split <;> omega

set_option maxRecDepth 100000 in
set_option maxHeartbeats 8000000 in
theorem sweepPlans_low (a : Option Addr) (len cap : Nat) (A : Nat → Int) (n : Int) (w : World) (hlen : len ≤ 200) (hr : IntRow .i64 1 w a len A) (hnil : a = none → len = 0 ∧ cap = 0) (hn : n ≤ 300) :
    Calls Try.prog 11 #[.slice a len cap, .int .i64 n] w fun e w' => e = .returned (.bool true) ∧ Keeps [] w w' := by
  obtain ⟨j0, hi, hz0, hz1, hz2⟩ := info_parts infoI
  have HJ := Lib.hid (And.intro hi (And.intro hz0 (And.intro hz1 hz2)))
  clear hi hz0 hz1 hz2
  have HR := Lib.hid hr
  have HA := Lib.hid (intAt_of hr)
  have HN := Lib.hid hnil
  have d1 : decide ((200 : Int) < (len : Int)) = false := by simp; omega
  have d2 : decide ((300 : Int) < n) = false := by simp; omega
  have l0 : (0 : Int) ≤ (len : Int) := by omega
  have l2 : (len : Int) ≤ 200 := by omega
  have q3 : len + 1 ≤ maxLen := by unfold maxLen; omega
  have q4 : (len + 1) * 8 ≤ 140737488355328 := by omega
  have q5 : len ≤ maxLen := by unfold maxLen; omega
  have q6 : len * 8 ≤ 140737488355328 := by omega
  have G := Lib.hid (And.intro q3 (And.intro q4 (And.intro q5 q6)))
  have HC := Lib.hid hn
  clear hr hnil q3 q4 q5 q6 hn
  go_enter Try.func11, Try.ntmps11
  go_wp2_with (first
    | (at_builtin; refine wpList_append_src rfl _ _ 22 rfl w.heap.size 3 j0 (.int .i64 0) 8 Try.underlying22 HJ.out.1 HJ.out.2.1 HJ.out.2.2.1 HJ.out.2.2.2 rfl rfl a len cap (fun j => .int .i64 (A j)) rfl HN.out HA.out (fun k hk => rfl) G.out.2.2.1 G.out.2.2.2 (Nat.le_refl _) ?_; intro xa xc w1 row1 k1; have ROW := Lib.hid row1; have K1 := Lib.hid k1; have z1 := k1.size; clear row1 k1)
    | (at_builtin; refine wpList_append_lies _ rfl _ _ 22 rfl w.heap.size 3 j0 (.int .i64 0) 1 8 Try.underlying22 HJ.out.1 HJ.out.2.1 HJ.out.2.2.1 HJ.out.2.2.2 rfl (by decide) _ len (valR len (fun j => .int .i64 (A j))) rfl (World.ownsRow.alloc ROW.out _) ⟨w1.heap.size, 0, none⟩ 1 1 [_] rfl rfl (cell_one_new _ _ _) (by intro u hu; simp at hu; subst hu; rfl) (by decide) G.out.1 G.out.2.1 (by simp <;> omega) (w1.heap.size + 1) (by simp) ?_; intro g cap1 w2 hown hgrow hat hlt1; have kk := grown_keeps hgrow; have K2 := Lib.hid (K1.out.then kk (fun x hx => .inl (ROW.out.blk_lt x hx).1)); have ROW2 := Lib.hid (ValRow.of_append hown); have hcp := ROW2.out.cap_le; unfold maxLen at hcp; obtain ⟨hcp1, hcp2⟩ := hcp; have hcp3 : len ≤ cap1 := (by omega); clear hgrow hown hat kk hcp1 hcp2))
  have hx : IntRow .i64 1 w2 (some ⟨g, 0, none⟩) len A := by
    refine .inr ⟨g, 0, rfl, (ROW2.out.blk_lt g (by simp [blk])).2, by omega, fun i hi => ⟨?_, ?_⟩⟩
    · rw [Nat.zero_add, ROW2.out.cell (by omega)]
      simp [putV, show i ≠ len by omega]
    · rcases HR.out with h0 | ⟨b, off, h1, h2, _, h4⟩
      · omega
      · exact (h4 i hi).2
  have HX := Lib.hid hx
  have HXA := Lib.hid (intAt_of hx)
  have xlast : w2.cell? ⟨g, len, none⟩ = some (.int .i64 77) := by rw [ROW2.out.cell (by omega)]; simp [putV]
  have XL := Lib.hid xlast
  clear hx xlast
  refine (force_any (some ⟨g, 0, none⟩) len cap1 A w2 HX.out (by omega)).mono ?_
  rintro e w3 ⟨p, b, rfl, hP, hp1, hb1, hb3⟩
  have P3 := Lib.hid hP
  have K3 := Lib.hid (Below.keeps hb3 [])
  have HA3 := Lib.hid (HA.out.keeps (K2.out.trans K3.out))
  have HX3 := Lib.hid (HXA.out.keeps K3.out)
  clear hP hb3
  go_wp2_with fail
  refine (same_eq (fun k => .int .i64 ((listOf len A).getD k 0)) _ _ len cap1 cap _ ((HX3.out.rowL (c := cap1)).reads) ((HA3.out.rowL (c := cap)).reads) (by omega)).mono ?_
  rintro e w4 ⟨rfl, hb4⟩
  have K4 := Lib.hid (Below.keeps hb4 [])
  have P4 := Lib.hid (P3.out.keeps K4.out (by simp) (by simp))
  have x4 := (K3.out.trans K4.out).cell XL.out (by simp)
  have ROW4 := Lib.hid (ROW2.out.keeps (K3.out.trans K4.out) (by simp))
  have K24 := Lib.hid (K2.out.trans (K3.out.trans K4.out))
  have gw := (ROW2.out.blk_lt g (by simp [blk])).2
  have gl := (ROW2.out.blk_lt g (by simp [blk])).1
  have gp : Hid (p ≠ g ∧ b ≠ g) := Lib.hid ⟨by omega, by omega⟩
  clear hb4
  go_wp2_with fail
  go_loopw [7] (fun i wr => ∃ (k : Nat) (V : Nat → Value), k ≤ len + 1 ∧ i = .int .i64 k ∧ ValRow 3 w.heap.size (some ⟨g, 0, none⟩) (len + 1) cap1 V wr ∧ Keeps [g] w4 wr) (fun i _ => len + 1 - (intOf i).toNat)
  case atStart => exact ⟨0, _, by omega, rfl, ROW4.out, Keeps.refl _ _⟩
  case round =>
    clear x4
    obtain ⟨k, V, hk, rfl, hV, hkp⟩ := hrel
    have k0 : (0 : Int) ≤ (k : Int) := by omega
    have HV := Lib.hid hV
    have HKP := Lib.hid hkp
    clear hkp
    by_cases hlt : k < len + 1
    · have hlt' : (k : Int) < (len : Int) + 1 := by omega
      have c1 := hV.cell hlt
      have f1 := hV.free k
      obtain ⟨y, hy⟩ := ex_hid (V k)
      rw [← hy.out] at c1
      clear hV
      go_wp2_with fail
      go_roundw
      case rel => exact ⟨k + 1, _, by omega, by go_num, HV.out.put k _, HKP.out.setCell (.inr (by simp)) _⟩
      case measure => simp [intOf]; omega
    · obtain rfl : k = len + 1 := by omega
      have hge : ¬ (len : Int) + 1 < (len : Int) + 1 := by omega
      have P5 := Lib.hid (P4.out.keeps HKP.out (by simpa using gp.out.1) (by simpa using gp.out.2))
      have K5 := Lib.hid (K24.out.then HKP.out (by intro x hx; simp at hx; subst hx; left; omega))
      clear hV
      obtain ⟨w5, rfl⟩ : ∃ w5 : World, w5 = wr := ⟨_, rfl⟩
      have zp : p < w5.heap.size := lt_of_block P5.out.box
      have Z5 : Hid ((w5.alloc (.cells #[.map none, .int .i64 0] 67)).heap[w5.heap.size]? = some (.cells #[.map none, .int .i64 0] 67 (0, 0))) := Lib.hid (has_new _ _)
      have zb : b < w5.heap.size := by obtain ⟨D, ⟨es, clock, h1, _⟩, _⟩ := P5.out.map; exact lt_of_block h1
      have pw : w.heap.size ≤ p ∧ w.heap.size ≤ b := by have := K2.out.size; omega
      have HPW := Lib.hid pw
      have zw := K5.out.size
      clear pw
      go_wp2_with fail
      go_loopw [10] (fun i wr => ∃ k : Nat, ((k : Int) ≤ n ∨ k = 0) ∧ k ≤ 300 ∧ i = .int .i64 ((k : Int) + 1) ∧ PlanAt p b len (cntN A len) k wr ∧ wr.heap[w5.heap.size]? = some (.cells #[.map none, .int .i64 k] 67 (0, 0)) ∧ Keeps [] w wr) (fun i _ => 302 - (intOf i).toNat)
      case atStart => exact ⟨0, .inr rfl, by omega, rfl, P5.out.keeps ((Keeps.refl [] _).alloc _) (by simp) (by simp), Z5.out, K5.out.alloc _⟩
      case round =>
        obtain ⟨k, hk, hk3, rfl, hP, hZ, hkp⟩ := hrel
        have k0 : (0 : Int) ≤ (k : Int) := by omega
        have HP := Lib.hid hP
        have HZ := Lib.hid hZ
        have HK := Lib.hid hkp
        have hkk : (k : Int) ≤ 300 := by omega
        clear hP hZ hkp
        by_cases hlt : (k : Int) + 1 ≤ n
        · obtain ⟨x, hx⟩ := ex_hid ((k : Int) + 1)
          have k299 : (k : Int) ≤ 299 := by have := HC.out; omega
          obtain ⟨w6, rfl⟩ : ∃ w6 : World, w6 = wr := ⟨_, rfl⟩
          go_wp2_with fail
          go_loopw [11, 12] (fun is j wr => ∃ q : Nat, q ≤ len ∧ j = .int .i64 q ∧ is = .bool (decide (0 < cntN A q ((k : Int) + 1))) ∧ w6 = wr) (fun _ j _ => len - (intOf j).toNat)
          case atStart => exact ⟨0, by omega, rfl, rfl, rfl⟩
          case round =>
            obtain ⟨q, hq, rfl, rfl, rfl⟩ := hrel
            have q0 : (0 : Int) ≤ (q : Int) := by omega
            by_cases hlt2 : q < len
            · have hlt2' : (q : Int) < (len : Int) := by omega
              obtain ⟨bb, off, rfl, c0⟩ := HA.out q hlt2
              have c1 := HK.out.cell c0 (by simp)
              obtain ⟨y, hy⟩ := ex_hid (A q)
              rw [← hy.out] at c1
              have bd := cntN_bd A ((k : Int) + 1) q
              have BD := Lib.hid bd
              clear c0 bd
              by_cases hc : 0 < cntN A q ((k : Int) + 1)
              · have e1 : decide (0 < cntN A q ((k : Int) + 1)) = true := by simpa using hc
                have e2 : Hid (decide (0 < cntN A (q + 1) ((k : Int) + 1)) = true) := Lib.hid (by simp only [cntN]; split <;> simp <;> omega)
                rw [e1]
                clear hc e1
                go_wp2_with fail
                go_roundw
                case rel => exact ⟨q + 1, by omega, by go_num, by rw [e2.out], by first | rfl | trivial⟩
                case measure => simp [intOf]; omega
              · have e1 : decide (0 < cntN A q ((k : Int) + 1)) = false := by simpa using hc
                rw [e1]
                by_cases hyk : y = (k : Int) + 1
                · have e2 : Hid (decide (0 < cntN A (q + 1) ((k : Int) + 1)) = true) := Lib.hid (decide_eq_true (by rw [cntN_hit (by rw [← hy.out]; exact hyk.symm)]; have := BD.out; omega))
                  have e3 : (y == (k : Int) + 1) = true := by simpa using hyk
                  clear hc e1 hyk
                  go_wp2_with fail
                  go_roundw
                  case rel => exact ⟨q + 1, by omega, by go_num, by rw [e2.out], by first | rfl | trivial⟩
                  case measure => simp [intOf]; omega
                · have e2 : Hid (decide (0 < cntN A (q + 1) ((k : Int) + 1)) = false) := Lib.hid (by rw [cntN_miss (by rw [← hy.out]; exact fun e => hyk e.symm)]; simpa using hc)
                  have e3 : (y == (k : Int) + 1) = false := beq_false_of_ne hyk
                  clear hc e1 hyk
                  go_wp2_with fail
                  go_roundw
                  case rel => exact ⟨q + 1, by omega, by go_num, by rw [e2.out], by first | rfl | trivial⟩
                  case measure => simp [intOf]; omega
            · obtain rfl : q = len := by omega
              have hge2 : ¬ (q : Int) < (q : Int) := by omega
              obtain ⟨bv, hbv⟩ := ex_hid (decide (0 < cntN A q ((k : Int) + 1)))
              rw [← hbv.out]
              have tk := tick_some p b q (cntN A q) (k : Int) w6 HP.out (by omega) (by omega)
              rw [← hbv.out] at tk
              have TK := Lib.hid tk
              have ebb : (bv != bv) = false := by simp
              clear tk
              go_wp2_with fail
              refine TK.out.mono ?_
              rintro e w7 ⟨rfl, hP7, k7⟩
              have P7 := Lib.hid hP7
              have Z7 := Lib.hid (k7.has HZ.out (by simp; omega))
              have K7 := Lib.hid (HK.out.then k7 (by intro x hx; simp at hx; subst hx; exact .inl HPW.out.1))
              clear hP7 k7 TK
              go_wp2_with fail
              refine (tick_nil _).mono ?_
              rintro e w8 ⟨rfl, rfl⟩
              go_wp2_with fail
              refine (tick_zero w5.heap.size (k : Int) _ Z7.out (by omega) (by omega)).mono ?_
              rintro e w9 ⟨rfl, hZ9, k9⟩
              have Z9 := Lib.hid hZ9
              have P9 := Lib.hid (P7.out.keeps k9 (by simp; omega) (by simp; omega))
              have K9 := Lib.hid (K7.out.then k9 (by intro x hx; simp at hx; subst hx; left; omega))
              clear hZ9 k9
              go_wp2_with fail
              go_roundw
              case rel => exact ⟨k + 1, .inl (by omega), by omega, by go_num, by simpa using P9.out, by simpa using Z9.out, K9.out⟩
              case measure => simp [intOf]; omega
        · have hkn : (k : Int) = max n 0 := by have := HC.out; omega
          rcases (show (n < 0 ∧ k = 0) ∨ (0 ≤ n ∧ n = (k : Int)) by omega) with ⟨hneg, rfl⟩ | ⟨hpos, hkn2⟩
          · clear hkn
            have cs := count_some p (.map (some b)) ((0 : Nat) : Int) wr HP.out.box
            have cz := count_some w5.heap.size (.map none) ((0 : Nat) : Int) wr HZ.out
            have CS := Lib.hid cs
            have CZ := Lib.hid cz
            clear cs cz
            go_wp2_with fail
            refine CS.out.mono ?_
            rintro e w7 ⟨rfl, rfl⟩
            go_wp2_with fail
            refine (count_nil _).mono ?_
            rintro e w7 ⟨rfl, rfl⟩
            go_wp2_with fail
            refine CZ.out.mono ?_
            rintro e w7 ⟨rfl, rfl⟩
            go_wp2_with fail
            refine (awake12 _).mono ?_
            rintro e w8 ⟨rfl, k8⟩
            have K8 := Lib.hid (HK.out.trans k8)
            clear k8
            go_wp2_with fail
            go_ret
            exact ⟨rfl, K8.out⟩
          · subst hkn2
            clear hkn
            have hpos2 : ¬ (k : Int) < 0 := by omega
            have cs := count_some p (.map (some b)) (k : Int) wr HP.out.box
            have cz := count_some w5.heap.size (.map none) (k : Int) wr HZ.out
            have CS := Lib.hid cs
            have CZ := Lib.hid cz
            clear cs cz
            go_wp2_with fail
            refine CS.out.mono ?_
            rintro e w7 ⟨rfl, rfl⟩
            go_wp2_with fail
            refine (count_nil _).mono ?_
            rintro e w7 ⟨rfl, rfl⟩
            go_wp2_with fail
            refine CZ.out.mono ?_
            rintro e w7 ⟨rfl, rfl⟩
            go_wp2_with fail
            refine (awake12 _).mono ?_
            rintro e w8 ⟨rfl, k8⟩
            have K8 := Lib.hid (HK.out.trans k8)
            clear k8
            go_wp2_with fail
            go_ret
            exact ⟨rfl, K8.out⟩

set_option maxRecDepth 100000 in
set_option maxHeartbeats 8000000 in
theorem sweepPlans_high (a : Option Addr) (len cap : Nat) (A : Nat → Int) (n : Int) (w : World) (hlen : len ≤ 200) (hr : IntRow .i64 1 w a len A) (hnil : a = none → len = 0 ∧ cap = 0) (hn : 300 < n) :
    Calls Try.prog 11 #[.slice a len cap, .int .i64 n] w fun e w' => e = .returned (.bool true) ∧ Keeps [] w w' := by
  obtain ⟨j0, hi, hz0, hz1, hz2⟩ := info_parts infoI
  have HJ := Lib.hid (And.intro hi (And.intro hz0 (And.intro hz1 hz2)))
  clear hi hz0 hz1 hz2
  have HR := Lib.hid hr
  have HA := Lib.hid (intAt_of hr)
  have HN := Lib.hid hnil
  have d1 : decide ((200 : Int) < (len : Int)) = false := by simp; omega
  have d2 : decide ((300 : Int) < n) = true := by simp; omega
  have l0 : (0 : Int) ≤ (len : Int) := by omega
  have l2 : (len : Int) ≤ 200 := by omega
  have q3 : len + 1 ≤ maxLen := by unfold maxLen; omega
  have q4 : (len + 1) * 8 ≤ 140737488355328 := by omega
  have q5 : len ≤ maxLen := by unfold maxLen; omega
  have q6 : len * 8 ≤ 140737488355328 := by omega
  have G := Lib.hid (And.intro q3 (And.intro q4 (And.intro q5 q6)))
  have HC := Lib.hid hn
  clear hr hnil q3 q4 q5 q6 hn
  go_enter Try.func11, Try.ntmps11
  go_wp2_with (first
    | (at_builtin; refine wpList_append_src rfl _ _ 22 rfl w.heap.size 3 j0 (.int .i64 0) 8 Try.underlying22 HJ.out.1 HJ.out.2.1 HJ.out.2.2.1 HJ.out.2.2.2 rfl rfl a len cap (fun j => .int .i64 (A j)) rfl HN.out HA.out (fun k hk => rfl) G.out.2.2.1 G.out.2.2.2 (Nat.le_refl _) ?_; intro xa xc w1 row1 k1; have ROW := Lib.hid row1; have K1 := Lib.hid k1; have z1 := k1.size; clear row1 k1)
    | (at_builtin; refine wpList_append_lies _ rfl _ _ 22 rfl w.heap.size 3 j0 (.int .i64 0) 1 8 Try.underlying22 HJ.out.1 HJ.out.2.1 HJ.out.2.2.1 HJ.out.2.2.2 rfl (by decide) _ len (valR len (fun j => .int .i64 (A j))) rfl (World.ownsRow.alloc ROW.out _) ⟨w1.heap.size, 0, none⟩ 1 1 [_] rfl rfl (cell_one_new _ _ _) (by intro u hu; simp at hu; subst hu; rfl) (by decide) G.out.1 G.out.2.1 (by simp <;> omega) (w1.heap.size + 1) (by simp) ?_; intro g cap1 w2 hown hgrow hat hlt1; have kk := grown_keeps hgrow; have K2 := Lib.hid (K1.out.then kk (fun x hx => .inl (ROW.out.blk_lt x hx).1)); have ROW2 := Lib.hid (ValRow.of_append hown); have hcp := ROW2.out.cap_le; unfold maxLen at hcp; obtain ⟨hcp1, hcp2⟩ := hcp; have hcp3 : len ≤ cap1 := (by omega); clear hgrow hown hat kk hcp1 hcp2))
  have hx : IntRow .i64 1 w2 (some ⟨g, 0, none⟩) len A := by
    refine .inr ⟨g, 0, rfl, (ROW2.out.blk_lt g (by simp [blk])).2, by omega, fun i hi => ⟨?_, ?_⟩⟩
    · rw [Nat.zero_add, ROW2.out.cell (by omega)]
      simp [putV, show i ≠ len by omega]
    · rcases HR.out with h0 | ⟨b, off, h1, h2, _, h4⟩
      · omega
      · exact (h4 i hi).2
  have HX := Lib.hid hx
  have HXA := Lib.hid (intAt_of hx)
  have xlast : w2.cell? ⟨g, len, none⟩ = some (.int .i64 77) := by rw [ROW2.out.cell (by omega)]; simp [putV]
  have XL := Lib.hid xlast
  clear hx xlast
  refine (force_any (some ⟨g, 0, none⟩) len cap1 A w2 HX.out (by omega)).mono ?_
  rintro e w3 ⟨p, b, rfl, hP, hp1, hb1, hb3⟩
  have P3 := Lib.hid hP
  have K3 := Lib.hid (Below.keeps hb3 [])
  have HA3 := Lib.hid (HA.out.keeps (K2.out.trans K3.out))
  have HX3 := Lib.hid (HXA.out.keeps K3.out)
  clear hP hb3
  go_wp2_with fail
  refine (same_eq (fun k => .int .i64 ((listOf len A).getD k 0)) _ _ len cap1 cap _ ((HX3.out.rowL (c := cap1)).reads) ((HA3.out.rowL (c := cap)).reads) (by omega)).mono ?_
  rintro e w4 ⟨rfl, hb4⟩
  have K4 := Lib.hid (Below.keeps hb4 [])
  have P4 := Lib.hid (P3.out.keeps K4.out (by simp) (by simp))
  have x4 := (K3.out.trans K4.out).cell XL.out (by simp)
  have ROW4 := Lib.hid (ROW2.out.keeps (K3.out.trans K4.out) (by simp))
  have K24 := Lib.hid (K2.out.trans (K3.out.trans K4.out))
  have gw := (ROW2.out.blk_lt g (by simp [blk])).2
  have gl := (ROW2.out.blk_lt g (by simp [blk])).1
  have gp : Hid (p ≠ g ∧ b ≠ g) := Lib.hid ⟨by omega, by omega⟩
  clear hb4
  go_wp2_with fail
  go_loopw [7] (fun i wr => ∃ (k : Nat) (V : Nat → Value), k ≤ len + 1 ∧ i = .int .i64 k ∧ ValRow 3 w.heap.size (some ⟨g, 0, none⟩) (len + 1) cap1 V wr ∧ Keeps [g] w4 wr) (fun i _ => len + 1 - (intOf i).toNat)
  case atStart => exact ⟨0, _, by omega, rfl, ROW4.out, Keeps.refl _ _⟩
  case round =>
    clear x4
    obtain ⟨k, V, hk, rfl, hV, hkp⟩ := hrel
    have k0 : (0 : Int) ≤ (k : Int) := by omega
    have HV := Lib.hid hV
    have HKP := Lib.hid hkp
    clear hkp
    by_cases hlt : k < len + 1
    · have hlt' : (k : Int) < (len : Int) + 1 := by omega
      have c1 := hV.cell hlt
      have f1 := hV.free k
      obtain ⟨y, hy⟩ := ex_hid (V k)
      rw [← hy.out] at c1
      clear hV
      go_wp2_with fail
      go_roundw
      case rel => exact ⟨k + 1, _, by omega, by go_num, HV.out.put k _, HKP.out.setCell (.inr (by simp)) _⟩
      case measure => simp [intOf]; omega
    · obtain rfl : k = len + 1 := by omega
      have hge : ¬ (len : Int) + 1 < (len : Int) + 1 := by omega
      have P5 := Lib.hid (P4.out.keeps HKP.out (by simpa using gp.out.1) (by simpa using gp.out.2))
      have K5 := Lib.hid (K24.out.then HKP.out (by intro x hx; simp at hx; subst hx; left; omega))
      clear hV
      obtain ⟨w5, rfl⟩ : ∃ w5 : World, w5 = wr := ⟨_, rfl⟩
      have zp : p < w5.heap.size := lt_of_block P5.out.box
      have Z5 : Hid ((w5.alloc (.cells #[.map none, .int .i64 0] 67)).heap[w5.heap.size]? = some (.cells #[.map none, .int .i64 0] 67 (0, 0))) := Lib.hid (has_new _ _)
      have zb : b < w5.heap.size := by obtain ⟨D, ⟨es, clock, h1, _⟩, _⟩ := P5.out.map; exact lt_of_block h1
      have pw : w.heap.size ≤ p ∧ w.heap.size ≤ b := by have := K2.out.size; omega
      have HPW := Lib.hid pw
      have zw := K5.out.size
      clear pw
      go_wp2_with fail
      go_loopw [10] (fun i wr => ∃ k : Nat, ((k : Int) ≤ 300 ∨ k = 0) ∧ k ≤ 300 ∧ i = .int .i64 ((k : Int) + 1) ∧ PlanAt p b len (cntN A len) k wr ∧ wr.heap[w5.heap.size]? = some (.cells #[.map none, .int .i64 k] 67 (0, 0)) ∧ Keeps [] w wr) (fun i _ => 302 - (intOf i).toNat)
      case atStart => exact ⟨0, .inr rfl, by omega, rfl, P5.out.keeps ((Keeps.refl [] _).alloc _) (by simp) (by simp), Z5.out, K5.out.alloc _⟩
      case round =>
        obtain ⟨k, hk, hk3, rfl, hP, hZ, hkp⟩ := hrel
        have k0 : (0 : Int) ≤ (k : Int) := by omega
        have HP := Lib.hid hP
        have HZ := Lib.hid hZ
        have HK := Lib.hid hkp
        have hkk : (k : Int) ≤ 300 := by omega
        clear hP hZ hkp
        by_cases hlt : (k : Int) + 1 ≤ 300
        · obtain ⟨x, hx⟩ := ex_hid ((k : Int) + 1)
          have k299 : (k : Int) ≤ 299 := by have := HC.out; omega
          obtain ⟨w6, rfl⟩ : ∃ w6 : World, w6 = wr := ⟨_, rfl⟩
          go_wp2_with fail
          go_loopw [11, 12] (fun is j wr => ∃ q : Nat, q ≤ len ∧ j = .int .i64 q ∧ is = .bool (decide (0 < cntN A q ((k : Int) + 1))) ∧ w6 = wr) (fun _ j _ => len - (intOf j).toNat)
          case atStart => exact ⟨0, by omega, rfl, rfl, rfl⟩
          case round =>
            obtain ⟨q, hq, rfl, rfl, rfl⟩ := hrel
            have q0 : (0 : Int) ≤ (q : Int) := by omega
            by_cases hlt2 : q < len
            · have hlt2' : (q : Int) < (len : Int) := by omega
              obtain ⟨bb, off, rfl, c0⟩ := HA.out q hlt2
              have c1 := HK.out.cell c0 (by simp)
              obtain ⟨y, hy⟩ := ex_hid (A q)
              rw [← hy.out] at c1
              have bd := cntN_bd A ((k : Int) + 1) q
              have BD := Lib.hid bd
              clear c0 bd
              by_cases hc : 0 < cntN A q ((k : Int) + 1)
              · have e1 : decide (0 < cntN A q ((k : Int) + 1)) = true := by simpa using hc
                have e2 : Hid (decide (0 < cntN A (q + 1) ((k : Int) + 1)) = true) := Lib.hid (by simp only [cntN]; split <;> simp <;> omega)
                rw [e1]
                clear hc e1
                go_wp2_with fail
                go_roundw
                case rel => exact ⟨q + 1, by omega, by go_num, by rw [e2.out], by first | rfl | trivial⟩
                case measure => simp [intOf]; omega
              · have e1 : decide (0 < cntN A q ((k : Int) + 1)) = false := by simpa using hc
                rw [e1]
                by_cases hyk : y = (k : Int) + 1
                · have e2 : Hid (decide (0 < cntN A (q + 1) ((k : Int) + 1)) = true) := Lib.hid (decide_eq_true (by rw [cntN_hit (by rw [← hy.out]; exact hyk.symm)]; have := BD.out; omega))
                  have e3 : (y == (k : Int) + 1) = true := by simpa using hyk
                  clear hc e1 hyk
                  go_wp2_with fail
                  go_roundw
                  case rel => exact ⟨q + 1, by omega, by go_num, by rw [e2.out], by first | rfl | trivial⟩
                  case measure => simp [intOf]; omega
                · have e2 : Hid (decide (0 < cntN A (q + 1) ((k : Int) + 1)) = false) := Lib.hid (by rw [cntN_miss (by rw [← hy.out]; exact fun e => hyk e.symm)]; simpa using hc)
                  have e3 : (y == (k : Int) + 1) = false := beq_false_of_ne hyk
                  clear hc e1 hyk
                  go_wp2_with fail
                  go_roundw
                  case rel => exact ⟨q + 1, by omega, by go_num, by rw [e2.out], by first | rfl | trivial⟩
                  case measure => simp [intOf]; omega
            · obtain rfl : q = len := by omega
              have hge2 : ¬ (q : Int) < (q : Int) := by omega
              obtain ⟨bv, hbv⟩ := ex_hid (decide (0 < cntN A q ((k : Int) + 1)))
              rw [← hbv.out]
              have tk := tick_some p b q (cntN A q) (k : Int) w6 HP.out (by omega) (by omega)
              rw [← hbv.out] at tk
              have TK := Lib.hid tk
              have ebb : (bv != bv) = false := by simp
              clear tk
              go_wp2_with fail
              refine TK.out.mono ?_
              rintro e w7 ⟨rfl, hP7, k7⟩
              have P7 := Lib.hid hP7
              have Z7 := Lib.hid (k7.has HZ.out (by simp; omega))
              have K7 := Lib.hid (HK.out.then k7 (by intro x hx; simp at hx; subst hx; exact .inl HPW.out.1))
              clear hP7 k7 TK
              go_wp2_with fail
              refine (tick_nil _).mono ?_
              rintro e w8 ⟨rfl, rfl⟩
              go_wp2_with fail
              refine (tick_zero w5.heap.size (k : Int) _ Z7.out (by omega) (by omega)).mono ?_
              rintro e w9 ⟨rfl, hZ9, k9⟩
              have Z9 := Lib.hid hZ9
              have P9 := Lib.hid (P7.out.keeps k9 (by simp; omega) (by simp; omega))
              have K9 := Lib.hid (K7.out.then k9 (by intro x hx; simp at hx; subst hx; left; omega))
              clear hZ9 k9
              go_wp2_with fail
              go_roundw
              case rel => exact ⟨k + 1, .inl (by omega), by omega, by go_num, by simpa using P9.out, by simpa using Z9.out, K9.out⟩
              case measure => simp [intOf]; omega
        · have hkn : (k : Int) = max 300 0 := by have := HC.out; omega
          obtain rfl : k = 300 := by omega
          clear hkn
          have cs := count_some p (.map (some b)) ((300 : Nat) : Int) wr HP.out.box
          have cz := count_some w5.heap.size (.map none) ((300 : Nat) : Int) wr HZ.out
          have CS := Lib.hid cs
          have CZ := Lib.hid cz
          clear cs cz
          go_wp2_with fail
          refine CS.out.mono ?_
          rintro e w7 ⟨rfl, rfl⟩
          go_wp2_with fail
          refine (count_nil _).mono ?_
          rintro e w7 ⟨rfl, rfl⟩
          go_wp2_with fail
          refine CZ.out.mono ?_
          rintro e w7 ⟨rfl, rfl⟩
          go_wp2_with fail
          refine (awake12 _).mono ?_
          rintro e w8 ⟨rfl, k8⟩
          have K8 := Lib.hid (HK.out.trans k8)
          clear k8
          go_wp2_with fail
          go_ret
          exact ⟨rfl, K8.out⟩

theorem sweepPlans_walk (a : Option Addr) (len cap : Nat) (A : Nat → Int) (n : Int) (w : World) (hr : IntRow .i64 1 w a len A) (_hm : (Lit.int .i64 n).wf = true) (hnil : a = none → len = 0 ∧ cap = 0) :
    Calls Try.prog 11 #[.slice a len cap, .int .i64 n] w fun e w' => e = .returned (.bool true) ∧ Below w.heap.size w w' := by
  have key : Calls Try.prog 11 #[.slice a len cap, .int .i64 n] w fun e w' => e = .returned (.bool true) ∧ Keeps [] w w' := by
    by_cases h : 200 < len
    · exact sweepPlans_early a len cap n w h
    · by_cases h2 : 300 < n
      · exact sweepPlans_high a len cap A n w (by omega) hr hnil h2
      · exact sweepPlans_low a len cap A n w (by omega) hr hnil (by omega)
  exact key.mono fun e w' ⟨he, hk⟩ => ⟨he, hk.below (Nat.le_refl _) (by simp)⟩
end Go.Proofs.Ytompihlckpjbkaa
