/- ProbeOnce, walked (chapter 8's laws). -/
import Derived.Test.YtcakdmapnmneoaaDictR
namespace Go.Proofs.Ytcakdmapnmneoaa
open Go.RowKit
set_option linter.unusedVariables false
set_option linter.unusedSimpArgs false

theorem probeOnce_early (a1 : Option Addr) (n1 c1 : Nat) (x y : Int) (w : World) (h : 200 < n1) :
    Calls Try.prog 5 #[.slice a1 n1 c1, .int .i64 x, .int .i64 y] w fun e w' => e = .returned (.bool true) ∧ Below w.heap.size w w' := by
  have d1 : decide ((200 : Int) < (n1 : Int)) = true := by simp; omega
  go_enter Try.func5, Try.ntmps5
  go_wp2_with (go_at_call 11; refine (awake8 _).mono ?_; rintro e w' ⟨rfl, hb⟩)
  go_ret
  exact ⟨rfl, hb⟩
/-- All keys that were put in so far. -/
def OnI (db t lo : Nat) (F : Nat → Int) (k : Nat) (d : Dic) (S : List Nat) (W : World) : Prop := DicAt db t lo S (mV none) d W ∧ DicOk k d ∧ Run8 F true k d ∧ d.most = 1000
/-- In the midst of a put. -/
def OnJ (mb db t tb lo : Nat) (F : Nat → Int) (k j : Nat) (d : Dic) (W : World) : Prop := ∃ (d1 : Dic) (q : Mac) (S : List Nat) (sb : Nat), Srch mb sb db t tb lo S d d1 (newM 2 (F k) k k) q W ∧ Pc8 d d1 (newM 2 (F k) k k) q none j ∧ DicOk (k + 1) d1
theorem lt_step {P : Nat → Prop} {Q : Nat → Prop} {j : Nat} (h : ∀ i, i < j → P i → Q i) (hj : P j → Q j) : ∀ i, i < j + 1 → P i → Q i := by
  intro i hi hp
  rcases Nat.lt_or_ge i j with h1 | h1
  · exact h i h1 hp
  · obtain rfl : i = j := by omega
    exact hj hp
set_option maxRecDepth 100000 in
set_option maxHeartbeats 8000000 in
theorem probeOnce_main (a1 : Option Addr) (n1 c1 : Nat) (F1 : Nat → Int) (hash same : Int) (w : World) (h1 : n1 ≤ 200) (s1 : IntRow .i64 1 w a1 n1 F1) :
    Calls Try.prog 5 #[.slice a1 n1 c1, .int .i64 hash, .int .i64 same] w fun e w' => e = .returned (.bool true) ∧ Below w.heap.size w w' := by
  have d1 : decide ((200 : Int) < (n1 : Int)) = false := by simp; omega
  have Z1 := Lib.hid s1
  clear s1
  go_enter Try.func5, Try.ntmps5
  go_wp2_with fail
  refine (new8_any 1000 none ⟨0, 0, 0, 0⟩ w (fun b hb => by simp at hb) (by omega) (by omega)).mono ?_
  rintro r w1 ⟨db, t, S, rfl, d1', _, k1, l1⟩
  have D1 := Lib.hid d1'
  have K1 := Lib.hid (show Keeps [] w w1 from k1)
  clear d1' k1
  go_wp2_with fail
  go_loopw [9] (fun i wr => ∃ (k : Nat) (d : Dic) (S : List Nat), k ≤ n1 ∧ i = .int .i64 k ∧ OnI db t w.heap.size F1 k d S wr ∧ Keeps [] w wr) (fun i _ => n1 - (intOf i).toNat)
  case atStart => exact ⟨0, newD 1000, S, by omega, rfl, ⟨D1.out, newD_ok 1000, Run8.new F1 true 1000, rfl⟩, K1.out⟩
  case round =>
    obtain ⟨k, d, S, hk, rfl, ⟨hD, hI, hR, hm⟩, hK⟩ := hrel
    clear D1 K1
    have hk0 : (0 : Int) ≤ (k : Int) := by omega
    have HD := Lib.hid hD
    have HI := Lib.hid hI
    have HK := Lib.hid hK
    have HR := Lib.hid hR
    have HM := Lib.hid hm
    clear hD hI hR hm
    by_cases hlt : k < n1
    · have hlt' : (k : Int) < (n1 : Int) := by omega
      rcases Z1.out with h0 | ⟨b, off, rfl, hb1, hb2, hcl⟩
      · omega
      have q0 : wr.cell? ⟨b, off + k, none⟩ = some (.int .i64 (F1 k)) := hK.cell (hcl k (by omega)).1 (by simp)
      have TG := Lib.hid (HR.out.absent 2 (F1 k) k k (.inr (by omega)))
      clear hcl hK
      go_wp2_with fail
      refine (begin_one db t w.heap.size S d 2 (F1 k) k k wr (by omega) (by omega) HD.out).mono ?_
      rintro r w2 ⟨mb, rfl, d2, m2, l2, k2⟩
      have D2 := Lib.hid d2
      have M2 := Lib.hid (m2 mb)
      have K2 := Lib.hid (HK.out.trans k2)
      clear d2 m2 k2
      go_wp2_with fail
      refine (step_one k (by omega) mb mb db t w.heap.size S d (newM 2 (F1 k) k k) w2 D2.out M2.out HI.out (Nat.zero_le _)).mono ?_
      rintro r w3 ⟨S3, sb3, rfl, d3, m3, k3, _, _⟩
      have D3 := Lib.hid d3
      have M3 := Lib.hid m3
      have K3 := Lib.hid (K2.out.then k3 (fun x hx => .inl (feet_lo M2.out D2.out x hx).1))
      have P3 := Lib.hid (Pc8.first HI.out 2 (F1 k) k k TG.out)
      have I3 := Lib.hid (HI.out.step (by omega) (newM 2 (F1 k) k k))
      clear d3 m3 k3
      obtain ⟨T3, hT3⟩ := ex_hid (stepM d (newM 2 (F1 k) k k)).turn
      rw [← hT3.out]
      unfold Trn.agg
      go_upto_region 13 with (fail)
      refine wp_gen (fun V => V.heap[w3.heap.size]? = some (trnO T3) ∧ Keeps [] w3 V) ⟨has_new _ _, (Keeps.refl [] w3).alloc _⟩ ?_
      rintro w4 ⟨b4, k4⟩
      have K4 := Lib.hid (K3.out.trans k4)
      have SR := Lib.hid (Srch.begun (d := d) (q0 := newM 2 (F1 k) k k) D3.out M3.out (by rw [← hT3.out]; exact b4) k4)
      clear b4 k4
      go_wp2_with fail
      obtain ⟨W4, hW4⟩ : ∃ x, x = w4 := ⟨_, rfl⟩
      subst hW4
      go_loopw [12] (fun i wx => ∃ j : Nat, j ≤ n1 ∧ i = .int .i64 j ∧ OnJ mb db t w3.heap.size w.heap.size F1 k j d wx ∧ Keeps [] w wx) (fun i _ => n1 - (intOf i).toNat)
      case atStart => exact ⟨0, by omega, rfl, ⟨_, _, S3, sb3, SR.out, P3.out, I3.out⟩, K4.out⟩
      case round =>
        obtain ⟨j, hj, rfl, ⟨d1, q, S5, sb5, hS, hP, hI5⟩, hK5⟩ := hrel
        have hj0 : (0 : Int) ≤ (j : Int) := by omega
        have hjl : (j : Int) ≤ (n1 : Int) := by omega
        have HK5 := Lib.hid hK5
        have ST := Lib.hid hP.st
        obtain ⟨tb, htb⟩ := ex_hid w3.heap.size
        rw [← htb.out] at hS ⊢
        have HS := Lib.hid hS
        clear hS SR P3 I3 K4 K3 K2 D2 D3 M2 M3 hK5
        rcases hP with ⟨f, hw, rfl⟩ | he
        · obtain ⟨y, hy1, hy2, hy3, hy4⟩ := hw.live
          have HW := Lib.hid hw
          have hjf : j + 1 ≤ n1 := by have := hw.n; have := hw.lt; have := HR.out.l; omega
          have tu := HS.out.tu
          rw [hy4] at tu
          have TU := Lib.hid tu
          have TW := Lib.hid hy4
          obtain ⟨t0, t1, t2, t3, t4⟩ := trn_cells tu
          clear hw hy1 hy2 hy3 hy4 tu
          go_wp2_with fail
          refine (tell_one mb sb5 db t w.heap.size S5 d1 q wr HS.out.mac false).mono ?_
          rintro r w5 ⟨rfl, m5, k5⟩
          obtain ⟨d5, b5⟩ := HS.out.told false m5 k5
          have D5 := Lib.hid d5
          have M5 := Lib.hid m5
          have B5 := Lib.hid b5
          have Z5 := Lib.hid k5.size
          have K5 := Lib.hid (HK5.out.then k5 (fun x hx => by simp at hx; subst hx; left; exact HS.out.mac.l))
          clear m5 k5 d5 b5 t0 t1 t2 t3 t4
          go_wp2_with fail
          refine (step_one k (by omega) mb sb5 db t w.heap.size S5 d1 (tellM q false) w5 D5.out M5.out HI.out (by rw [tell_sc, HW.out.sc]; omega)).mono ?_
          rintro r w7 ⟨S7, sb7, rfl, d7, m7, k7, g7, l7⟩
          have D7 := Lib.hid d7
          have M7 := Lib.hid m7
          have K7 := Lib.hid (K5.out.then k7 (fun x hx => .inl (feet_lo M5.out D5.out x hx).1))
          have B7 := Lib.hid (k7.has B5.out (HS.out.feet false))
          have G7 := Lib.hid g7
          have L7 := Lib.hid (show sb7 = sb5 ∨ w5.heap.size ≤ sb7 from l7.imp (fun h => h.1) id)
          have P7 := Lib.hid (Pc8.no HI.out TG.out HW.out (HS.out.mac.o.sk ST.out))
          have I7 := Lib.hid (HI.out.step (by omega) (tellM q false))
          clear d7 m7 k7 g7 l7
          obtain ⟨T7, hT7⟩ := ex_hid (stepM d1 (tellM q false)).turn
          rw [← hT7.out]
          unfold Trn.agg
          have b7 := B7.out
          rw [TW.out] at b7
          obtain ⟨t0, t1, t2, t3, t4⟩ := trn_cells b7
          obtain ⟨u0, u1, u2, u3, u4⟩ := trn_free b7
          have B7' := Lib.hid b7
          clear b7
          go_upto_region 15 with (fail)
          refine wp_gen (fun V => V.heap[tb]? = some (trnO T7) ∧ Keeps [tb] w7 V) ⟨(trn_store _ T7 B7'.out).1, (trn_store _ T7 B7'.out).2⟩ ?_
          rintro w8 ⟨b8, k8⟩
          have SR8 := Lib.hid (HS.out.on ST.out Z5.out D7.out M7.out G7.out L7.out (by rw [← hT7.out]; exact b8) k8)
          have K8 := Lib.hid (K7.out.then k8 (fun x hx => by simp at hx; subst hx; left; exact HS.out.lo))
          clear b8 k8 t0 t1 t2 t3 t4 u0 u1 u2 u3 u4
          go_wp2_with fail
          go_roundw
          case rel => exact ⟨j + 1, hjf, by go_num, ⟨_, _, S7, sb7, SR8.out, P7.out, I7.out⟩, K8.out⟩
          case measure => simp [intOf]; omega
        · obtain ⟨r1, r2, r3⟩ := HR.out.add (m := 1000) HM.out (by omega) 2 (.inl rfl) k (fun _ => rfl)
          have htn : q.turn = ⟨2, 0, false, k, d.T.ready.E.length⟩ := he.turn.trans r3
          have hd1 : d1 = d.miss (newM 2 (F1 k) k k) := he.d1
          have tu := HS.out.tu
          rw [htn] at tu
          obtain ⟨t0, t1, t2, t3, t4⟩ := trn_cells tu
          rw [← hd1] at r1 r2
          have R1 := Lib.hid r1
          have R2 := Lib.hid r2
          have I5 := Lib.hid hI5
          clear he r1 r2 r3 htn hd1 tu hI5
          go_wp2_with fail
          go_roundw
          case rel => exact ⟨k + 1, d1, S5, by omega, by go_num, ⟨HS.out.dic, I5.out, R1.out, R2.out⟩, HK5.out⟩
          case measure => simp [intOf]; omega
    · obtain rfl : k = n1 := by omega
      have hge : ¬ (k : Int) < (k : Int) := by omega
      have hEl : d.T.E.length = k := HR.out.l
      have hL := HI.out.t.l12
      obtain ⟨M, hM0⟩ := ex_hid (2 ^ d.T.L)
      have hM1 : M ≤ 4096 := by rw [hM0.out]; exact Nat.le_trans (Nat.pow_le_pow_right (by omega) hL) (by decide)
      have hfc := field_cells
      clear hK
      go_wp2_with fail
      refine (begin_one db t w.heap.size S d 1 hash (-1) 0 wr (by omega) (by omega) HD.out).mono ?_
      rintro r w2 ⟨mb, rfl, d2, m2, l2, k2⟩
      have D2 := Lib.hid d2
      have M2 := Lib.hid (m2 mb)
      have K2 := Lib.hid (HK.out.trans k2)
      clear d2 m2 k2
      go_wp2_with fail
      refine (step_one k (by omega) mb mb db t w.heap.size S d (newM 1 hash (-1) 0) w2 D2.out M2.out HI.out (Nat.zero_le _)).mono ?_
      rintro r w3 ⟨S3, sb3, rfl, d3, m3, k3, _, _⟩
      have G3 := Lib.hid (GetI.first HI.out HR.out hash)
      have D3 := Lib.hid d3
      have M3 := Lib.hid m3
      have K3 := Lib.hid (K2.out.then k3 (fun x hx => .inl (feet_lo M2.out D2.out x hx).1))
      clear d3 m3 k3
      obtain ⟨T3, hT3⟩ := ex_hid (stepM d (newM 1 hash (-1) 0)).turn
      rw [← hT3.out]
      unfold Trn.agg
      go_upto_region 24 with (fail)
      refine wp_gen (fun V => V.heap[w3.heap.size]? = some (trnO T3) ∧ Keeps [] w3 V) ⟨has_new _ _, (Keeps.refl [] w3).alloc _⟩ ?_
      rintro w4 ⟨b4, k4⟩
      have K4 := Lib.hid (K3.out.trans k4)
      have SR := Lib.hid (Srch.begun (d := d) (q0 := newM 1 hash (-1) 0) D3.out M3.out (by rw [← hT3.out]; exact b4) k4)
      rw [G3.out.1] at SR
      clear b4 k4
      obtain ⟨wq, hwq⟩ : ∃ x, x = wr := ⟨_, rfl⟩
      subst hwq
      go_wp2_with fail
      go_loopw [15] (fun i wx => ∃ (j : Nat) (q : Mac) (S : List Nat) (sb : Nat), j ≤ k ∧ i = .int .i64 j ∧ Srch mb sb db t w3.heap.size w.heap.size S d d (newM 1 hash (-1) 0) q wx ∧ GetI F1 hash k d q j ∧ (∀ i, i < j → F1 i = hash → (i : Int) ≠ same) ∧ Keeps [] w wx) (fun i _ => k - (intOf i).toNat)
      case atStart => exact ⟨0, _, S3, sb3, by omega, rfl, SR.out, G3.out.2, fun i hi => by omega, K4.out⟩
      case round =>
        obtain ⟨j, q, S5, sb5, hj, rfl, hS, hG, hN, hK5⟩ := hrel
        have hj0 : (0 : Int) ≤ (j : Int) := by omega
        have HK5 := Lib.hid hK5
        have ST := Lib.hid hG.st
        have HG := Lib.hid hG
        have HN := Lib.hid hN
        obtain ⟨tb, htb⟩ := ex_hid w3.heap.size
        rw [← htb.out] at hS ⊢
        have HS := Lib.hid hS
        clear hS SR G3 K4 K3 K2 D2 D3 M2 M3 hK5 hG hN
        by_cases hlt2 : j < k
        · have hlt' : (j : Int) < (k : Int) := by omega
          rcases Z1.out with h0 | ⟨b, off, rfl, hb1, hb2, hcl⟩
          · omega
          obtain ⟨x0, hx0⟩ := ex_hid (F1 j)
          have q0 : wr.cell? ⟨b, off + j, none⟩ = some (.int .i64 x0) := by rw [hx0.out]; exact HK5.out.cell (hcl j (by omega)).1 (by simp)
          clear hcl
          by_cases heq : x0 = hash
          · subst heq
            obtain ⟨m, hw⟩ := HG.out.hit hlt2 hx0.out.symm
            obtain ⟨y, hy1, hy2, hy3, hy4⟩ := hw.live
            obtain ⟨z, g1, g2, g3, g4, g5⟩ := HR.out.e j hlt2
            rw [hy1] at g1; cases g1
            rw [g4] at hy4
            have HW := Lib.hid hw
            have tu := HS.out.tu
            rw [hy4] at tu
            have TU := Lib.hid tu
            have TW := Lib.hid hy4
            have GV := Lib.hid (show d.at_ (j : Int) = y by simp [Dic.at_, List.getD, hy1])
            have GV2 := Lib.hid (g5 rfl)
            obtain ⟨t0, t1, t2, t3, t4⟩ := trn_cells tu
            clear hw hy1 hy2 hy3 hy4 tu g2 g3 g4 g5
            by_cases hs : (j : Int) = same
            · subst hs
              go_wp2_with fail
              refine (tell_one mb sb5 db t w.heap.size S5 d q wr HS.out.mac true).mono ?_
              rintro r w5 ⟨rfl, m5, k5⟩
              obtain ⟨d5, b5⟩ := HS.out.told true m5 k5
              have D5 := Lib.hid d5
              have M5 := Lib.hid m5
              have B5 := Lib.hid b5
              have Z5 := Lib.hid k5.size
              have K5 := Lib.hid (HK5.out.then k5 (fun x hx => by simp at hx; subst hx; left; exact HS.out.mac.l))
              clear m5 k5 d5 b5 t0 t1 t2 t3 t4
              go_wp2_with fail
              refine (step_one k (by omega) mb sb5 db t w.heap.size S5 d (tellM q true) w5 D5.out M5.out HI.out (by rw [tell_sc, HW.out.sc]; omega)).mono ?_
              rintro r w7 ⟨S7, sb7, rfl, d7, m7, k7, g7, l7⟩
              have D7 := Lib.hid d7
              have M7 := Lib.hid m7
              have K7 := Lib.hid (K5.out.then k7 (fun x hx => .inl (feet_lo M5.out D5.out x hx).1))
              have B7 := Lib.hid (k7.has B5.out (HS.out.feet true))
              have G7 := Lib.hid g7
              have L7 := Lib.hid (show sb7 = sb5 ∨ w5.heap.size ≤ sb7 from l7.imp (fun h => h.1) id)
              clear d7 m7 k7 g7 l7
              obtain ⟨y1, y2, y3, y4, y5⟩ := step_yes HW.out
              have hturn : (stepM d (tellM q true)).turn = ⟨2, 0, true, j, j⟩ := by rw [y1, GV.out]; unfold hitT; rw [GV2.out]
              have hd7 : stepD d (tellM q true) = d := y5
              have SC := Lib.hid y2
              have VI := Lib.hid (show scanN (stepM d (tellM q true)) ≤ 2 ^ d.T.L + 13 by unfold scanN; rw [y4, if_neg (by omega), y3]; exact HW.out.vis HI.out (HS.out.mac.o.sk ST.out))
              rw [hturn]
              rw [hd7] at D7 M7
              have HT7 := Lib.hid hturn
              clear y1 y2 y3 y4 y5 hturn hd7
              unfold Trn.agg
              have b7 := B7.out
              rw [TW.out] at b7
              obtain ⟨t0, t1, t2, t3, t4⟩ := trn_cells b7
              obtain ⟨u0, u1, u2, u3, u4⟩ := trn_free b7
              have B7' := Lib.hid b7
              clear b7
              go_upto_region 32 with (fail)
              refine wp_gen (fun V => V.heap[tb]? = some (trnO ⟨2, 0, true, j, j⟩) ∧ Keeps [tb] w7 V) ⟨(trn_store _ ⟨2, 0, true, j, j⟩ B7'.out).1, (trn_store _ ⟨2, 0, true, j, j⟩ B7'.out).2⟩ ?_
              rintro w8 ⟨b8, k8⟩
              have SR8 := Lib.hid (HS.out.on ST.out Z5.out D7.out M7.out G7.out L7.out (by rw [HT7.out]; exact b8) k8)
              have K8 := Lib.hid (K7.out.then k8 (fun x hx => by simp at hx; subst hx; left; exact HS.out.lo))
              have MA := Lib.hid SR8.out.mac
              have DA := Lib.hid SR8.out.dic
              have QR : w8.cell? ⟨b, off + j, none⟩ = some (.int .i64 x0) := by
                rcases Z1.out with h0 | ⟨b', off', hb', hb1, hb2, hcl⟩
                · omega
                · cases hb'; rw [hx0.out]; exact K8.out.cell (hcl j (by omega)).1 (by simp)
              clear k8 t0 t1 t2 t3 t4 u0 u1 u2 u3 u4 q0
              obtain ⟨t0, t1, t2, t3, t4⟩ := trn_cells b8
              clear b8
              obtain ⟨vi, hvi⟩ := ex_hid (scanN (stepM d (tellM q true)))
              have hv2 : (vi : Int) ≤ (M : Int) + 13 := by have := hvi.out; have := hM0.out; have := VI.out; omega
              go_wp2_with fail
              refine (scans_any mb _ db t (stepM d (tellM q true)) _ MA.out.a).mono ?_
              rintro r w10 ⟨rfl, rfl⟩
              rw [SC.out]
              go_wp2_with fail
              refine (scan_any mb _ db t (stepM d (tellM q true)) _ MA.out.a).mono ?_
              rintro r w11 ⟨rfl, rfl⟩
              rw [← hvi.out]
              go_wp2_with fail
              refine (dsight_any db t w.heap.size S7 (mV none) d _ DA.out (by omega) HI.out.t.ft (by omega)).mono ?_
              rintro r w12 ⟨ca, cc, ea, ec, rfl, _, _, b12⟩
              have K12 := Lib.hid (K8.out.trans (Below.keeps b12 []))
              clear b12
              unfold sightAgg
              rw [← hM0.out]
              go_wp2_with (go_at_call 11; refine (awake8 _).mono ?_; rintro e w13 ⟨rfl, hb⟩)
              go_ret
              exact ⟨rfl, (K12.out.trans (Below.keeps hb [])).below (Nat.le_refl _) (by simp)⟩
            · have hse : ((j : Int) == same) = false := by simpa using hs
              go_wp2_with fail
              try rw [hse]
              refine (tell_one mb sb5 db t w.heap.size S5 d q wr HS.out.mac false).mono ?_
              rintro r w5 ⟨rfl, m5, k5⟩
              obtain ⟨d5, b5⟩ := HS.out.told false m5 k5
              have D5 := Lib.hid d5
              have M5 := Lib.hid m5
              have B5 := Lib.hid b5
              have Z5 := Lib.hid k5.size
              have K5 := Lib.hid (HK5.out.then k5 (fun x hx => by simp at hx; subst hx; left; exact HS.out.mac.l))
              clear m5 k5 d5 b5 t0 t1 t2 t3 t4
              go_wp2_with fail
              refine (step_one k (by omega) mb sb5 db t w.heap.size S5 d (tellM q false) w5 D5.out M5.out HI.out (by rw [tell_sc, HW.out.sc]; omega)).mono ?_
              rintro r w7 ⟨S7, sb7, rfl, d7, m7, k7, g7, l7⟩
              have D7 := Lib.hid d7
              have M7 := Lib.hid m7
              have K7 := Lib.hid (K5.out.then k7 (fun x hx => .inl (feet_lo M5.out D5.out x hx).1))
              have B7 := Lib.hid (k7.has B5.out (HS.out.feet false))
              have G7 := Lib.hid g7
              have L7 := Lib.hid (show sb7 = sb5 ∨ w5.heap.size ≤ sb7 from l7.imp (fun h => h.1) id)
              clear d7 m7 k7 g7 l7
              obtain ⟨hd7, g7⟩ := GetI.no HI.out HR.out HW.out (HS.out.mac.o.sk ST.out)
              have P7 := Lib.hid g7
              rw [hd7] at D7 M7
              clear hd7 g7
              obtain ⟨T7, hT7⟩ := ex_hid (stepM d (tellM q false)).turn
              rw [← hT7.out]
              unfold Trn.agg
              have b7 := B7.out
              rw [TW.out] at b7
              obtain ⟨t0, t1, t2, t3, t4⟩ := trn_cells b7
              obtain ⟨u0, u1, u2, u3, u4⟩ := trn_free b7
              have B7' := Lib.hid b7
              clear b7
              go_upto_region 32 with (fail)
              refine wp_gen (fun V => V.heap[tb]? = some (trnO T7) ∧ Keeps [tb] w7 V) ⟨(trn_store _ T7 B7'.out).1, (trn_store _ T7 B7'.out).2⟩ ?_
              rintro w8 ⟨b8, k8⟩
              have SR8 := Lib.hid (HS.out.on ST.out Z5.out D7.out M7.out G7.out L7.out (by rw [← hT7.out]; exact b8) k8)
              have K8 := Lib.hid (K7.out.then k8 (fun x hx => by simp at hx; subst hx; left; exact HS.out.lo))
              clear b8 k8 t0 t1 t2 t3 t4 u0 u1 u2 u3 u4
              go_wp2_with fail
              go_roundw
              case rel => exact ⟨j + 1, _, S7, sb7, by omega, by go_num, SR8.out, P7.out, lt_step HN.out (fun hF => hs), K8.out⟩
              case measure => simp [intOf]; omega
          · have hne : (x0 != hash) = true := by simpa using heq
            have P7 := Lib.hid (HG.out.pass (by rw [← hx0.out]; exact heq))
            have NE := Lib.hid (show F1 j ≠ hash by rw [← hx0.out]; exact heq)
            go_wp2_with fail
            go_roundw
            case rel => exact ⟨j + 1, q, S5, sb5, by omega, by go_num, HS.out, P7.out, lt_step HN.out (fun hF => absurd hF NE.out), HK5.out⟩
            case measure => simp [intOf]; omega
        · obtain rfl : j = k := by omega
          have hge2 : ¬ (j : Int) < (j : Int) := by omega
          have he := HG.out.end_
          have htn : q.turn = ⟨2, 0, false, 0, -1⟩ := he.turn
          have tu := HS.out.tu
          rw [htn] at tu
          obtain ⟨t0, t1, t2, t3, t4⟩ := trn_cells tu
          have SC := Lib.hid he.sc
          have VI := Lib.hid (show scanN q ≤ 2 ^ d.T.L + 13 by unfold scanN; rw [if_neg ST.out]; exact he.vis rfl)
          have MA := Lib.hid HS.out.mac
          have DA := Lib.hid HS.out.dic
          clear he htn tu
          by_cases hs1 : 0 ≤ same
          · obtain ⟨sn, rfl⟩ : ∃ sn : Nat, same = (sn : Int) := ⟨same.toNat, by omega⟩
            by_cases hs2 : sn < j
            · have hs2' : (sn : Int) < (j : Int) := by omega
              rcases Z1.out with h0 | ⟨b, off, rfl, hb1, hb2, hcl⟩
              · omega
              obtain ⟨x0, hx0⟩ := ex_hid (F1 sn)
              have q0 : wr.cell? ⟨b, off + sn, none⟩ = some (.int .i64 x0) := by rw [hx0.out]; exact HK5.out.cell (hcl sn (by omega)).1 (by simp)
              have hne : (x0 == hash) = false := by simpa using (fun e => HN.out sn hs2 (hx0.out.symm.trans e) rfl : ¬ x0 = hash)
              clear hcl
              obtain ⟨vi, hvi⟩ := ex_hid (scanN (q))
              have hv2 : (vi : Int) ≤ (M : Int) + 13 := by have := hvi.out; have := hM0.out; have := VI.out; omega
              go_wp2_with fail
              refine (scans_any mb _ db t (q) _ MA.out.a).mono ?_
              rintro r w10 ⟨rfl, rfl⟩
              rw [SC.out]
              go_wp2_with fail
              refine (scan_any mb _ db t (q) _ MA.out.a).mono ?_
              rintro r w11 ⟨rfl, rfl⟩
              rw [← hvi.out]
              go_wp2_with fail
              refine (dsight_any db t w.heap.size S5 (mV none) d _ DA.out (by omega) HI.out.t.ft (by omega)).mono ?_
              rintro r w12 ⟨ca, cc, ea, ec, rfl, _, _, b12⟩
              have K12 := Lib.hid (HK5.out.trans (Below.keeps b12 []))
              clear b12
              unfold sightAgg
              rw [← hM0.out]
              go_wp2_with (go_at_call 11; refine (awake8 _).mono ?_; rintro e w13 ⟨rfl, hb⟩)
              go_ret
              exact ⟨rfl, (K12.out.trans (Below.keeps hb [])).below (Nat.le_refl _) (by simp)⟩
            · have hs2' : ¬ (sn : Int) < (j : Int) := by omega
              obtain ⟨vi, hvi⟩ := ex_hid (scanN (q))
              have hv2 : (vi : Int) ≤ (M : Int) + 13 := by have := hvi.out; have := hM0.out; have := VI.out; omega
              go_wp2_with fail
              refine (scans_any mb _ db t (q) _ MA.out.a).mono ?_
              rintro r w10 ⟨rfl, rfl⟩
              rw [SC.out]
              go_wp2_with fail
              refine (scan_any mb _ db t (q) _ MA.out.a).mono ?_
              rintro r w11 ⟨rfl, rfl⟩
              rw [← hvi.out]
              go_wp2_with fail
              refine (dsight_any db t w.heap.size S5 (mV none) d _ DA.out (by omega) HI.out.t.ft (by omega)).mono ?_
              rintro r w12 ⟨ca, cc, ea, ec, rfl, _, _, b12⟩
              have K12 := Lib.hid (HK5.out.trans (Below.keeps b12 []))
              clear b12
              unfold sightAgg
              rw [← hM0.out]
              go_wp2_with (go_at_call 11; refine (awake8 _).mono ?_; rintro e w13 ⟨rfl, hb⟩)
              go_ret
              exact ⟨rfl, (K12.out.trans (Below.keeps hb [])).below (Nat.le_refl _) (by simp)⟩
          · have hs1' : ¬ 0 ≤ same := hs1
            obtain ⟨vi, hvi⟩ := ex_hid (scanN (q))
            have hv2 : (vi : Int) ≤ (M : Int) + 13 := by have := hvi.out; have := hM0.out; have := VI.out; omega
            go_wp2_with fail
            refine (scans_any mb _ db t (q) _ MA.out.a).mono ?_
            rintro r w10 ⟨rfl, rfl⟩
            rw [SC.out]
            go_wp2_with fail
            refine (scan_any mb _ db t (q) _ MA.out.a).mono ?_
            rintro r w11 ⟨rfl, rfl⟩
            rw [← hvi.out]
            go_wp2_with fail
            refine (dsight_any db t w.heap.size S5 (mV none) d _ DA.out (by omega) HI.out.t.ft (by omega)).mono ?_
            rintro r w12 ⟨ca, cc, ea, ec, rfl, _, _, b12⟩
            have K12 := Lib.hid (HK5.out.trans (Below.keeps b12 []))
            clear b12
            unfold sightAgg
            rw [← hM0.out]
            go_wp2_with (go_at_call 11; refine (awake8 _).mono ?_; rintro e w13 ⟨rfl, hb⟩)
            go_ret
            exact ⟨rfl, (K12.out.trans (Below.keeps hb [])).below (Nat.le_refl _) (by simp)⟩
theorem probeOnce_walk (a0 : Option Addr) (len0 cap0 : Nat) (F0 : Nat → Int) (a1 a2 : Int) (w : World) (w0 : IntRow .i64 1 w a0 len0 F0) :
    Calls Try.prog 5 #[.slice a0 len0 cap0, .int .i64 a1, .int .i64 a2] w fun e w' => e = .returned (.bool true) ∧ Below w.heap.size w w' := by
  by_cases h : 200 < len0
  · exact probeOnce_early a0 len0 cap0 a1 a2 w h
  · exact probeOnce_main a0 len0 cap0 F0 a1 a2 w (by omega) w0
end Go.Proofs.Ytcakdmapnmneoaa
