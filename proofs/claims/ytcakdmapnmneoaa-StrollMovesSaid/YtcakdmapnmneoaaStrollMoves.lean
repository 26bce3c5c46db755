/- StrollMoves, walked (chapter 9's laws). -/
import Derived.Test.YtcakdmapnmneoaaStrMx
namespace Go.Proofs.Ytcakdmapnmneoaa
open Go.RowKit
set_option linter.unusedVariables false
set_option linter.unusedSimpArgs false

theorem tmod_pos (x : Int) (n : Nat) (hn : 0 < n) : ∃ A : Nat, A < n ∧ (x.tmod n < 0 → x.tmod n + n = A) ∧ (0 ≤ x.tmod n → x.tmod n = A) ∧ -(n : Int) ≤ x.tmod n ∧ x.tmod n ≤ n := by
  have h1 := Int.tmod_lt_of_pos x (b := n) (by omega)
  have h2 := Int.lt_tmod_of_pos x (b := n) (by omega)
  by_cases h : x.tmod n < 0
  · exact ⟨(x.tmod n + n).toNat, by omega, fun _ => by omega, fun h' => by omega, by omega, by omega⟩
  · exact ⟨(x.tmod n).toNat, by omega, fun h' => absurd h' h, fun _ => by omega, by omega, by omega⟩
set_option maxRecDepth 100000 in
theorem strollMoves_early (a1 : Option Addr) (n1 c1 : Nat) (back : Bool) (at_ key times : Int) (w : World) (h : n1 = 0 ∨ 100 < n1 ∨ times < 1 ∨ 60 < times) :
    Calls Try.prog 8 #[.slice a1 n1 c1, .bool back, .int .i64 at_, .int .i64 key, .int .i64 times] w fun e w' => e = .returned (.bool true) ∧ Below w.heap.size w w' := by
  have hq : (((n1 : Int) == 0) = true) ∨ (((n1 : Int) == 0) = false ∧ decide ((100 : Int) < (n1 : Int)) = true) ∨ (((n1 : Int) == 0) = false ∧ decide ((100 : Int) < (n1 : Int)) = false ∧ decide (times < 1) = true) ∨ (((n1 : Int) == 0) = false ∧ decide ((100 : Int) < (n1 : Int)) = false ∧ decide (times < 1) = false ∧ decide (60 < times) = true) := by
    by_cases h1 : n1 = 0
    · left; simp; omega
    · by_cases h2 : 100 < n1
      · right; left; simp; omega
      · by_cases h3 : times < 1
        · right; right; left; simp; omega
        · right; right; right; simp; omega
  rcases hq with q1 | ⟨q1, q2⟩ | ⟨q1, q2, q3⟩ | ⟨q1, q2, q3, q4⟩
  all_goals
    go_enter Try.func8, Try.ntmps8
    go_wp2_with (go_at_call 25; refine (awake9 _).mono ?_; rintro e w' ⟨rfl, hb⟩)
    go_ret
    exact ⟨rfl, hb⟩
set_option maxRecDepth 100000 in
set_option maxHeartbeats 8000000 in
theorem strollMoves_main (a1 : Option Addr) (n1 c1 : Nat) (F1 : Nat → Int) (back : Bool) (at_ key times : Int) (w : World) (hn0 : n1 ≠ 0) (hn1 : n1 ≤ 100) (ht0 : 1 ≤ times) (ht1 : times ≤ 60) (s1 : IntRow .i64 1 w a1 n1 F1) (wa : (Lit.int .i64 at_).wf = true) (wk : (Lit.int .i64 key).wf = true) :
    Calls Try.prog 8 #[.slice a1 n1 c1, .bool back, .int .i64 at_, .int .i64 key, .int .i64 times] w fun e w' => e = .returned (.bool true) ∧ Below w.heap.size w w' := by
  have q1 : ((n1 : Int) == 0) = false := by simp; omega
  have q2 : decide ((100 : Int) < (n1 : Int)) = false := by simp; omega
  have q3 : decide (times < 1) = false := by simp; omega
  have q4 : decide (60 < times) = false := by simp; omega
  have Z1 := Lib.hid s1
  clear s1
  obtain ⟨T, rfl⟩ : ∃ T : Nat, times = (T : Int) := ⟨times.toNat, by omega⟩
  go_enter Try.func8, Try.ntmps8
  go_wp2_with fail
  refine (filled_any a1 n1 c1 F1 w (by omega) Z1.out).mono ?_
  rintro r w1 ⟨db, t, S, d, rfl, hF, k1⟩
  have FI := Lib.hid hF
  have K1 := Lib.hid k1
  clear hF k1
  obtain ⟨A, hA, hA1, hA2, hA3, hA4⟩ := tmod_pos at_ n1 (by omega)
  obtain ⟨K, hK, hK1, hK2, hK3, hK4⟩ := tmod_pos key n1 (by omega)
  go_upto_region 9 with (fail)
  obtain ⟨ta, hta⟩ : ∃ ta, ta = at_.tmod n1 := ⟨_, rfl⟩
  obtain ⟨tk, htk⟩ : ∃ tk, tk = key.tmod n1 := ⟨_, rfl⟩
  rw [← hta] at hA1 hA2 hA3 hA4 ⊢
  rw [← htk] at hK1 hK2 hK3 hK4 ⊢
  clear hta htk wa wk
  have HA := Lib.hid (And.intro hA1 hA2)
  have HK := Lib.hid (And.intro hK1 hK2)
  have hA5 : -100 ≤ ta := by omega
  have hA6 : ta ≤ 100 := by omega
  have hK5 : -100 ≤ tk := by omega
  have hK6 : tk ≤ 100 := by omega
  clear hA1 hA2 hA3 hA4 hK1 hK2 hK3 hK4
  go_upto_if 60 with (fail)
  go_cut [2] from 60 to 63 (fun y wx => wx = w1 ∧ y = .int .i64 A)
  case first =>
    by_cases h : ta < 0
    · have e := HA.out.1 h
      go_wp2_with fail
      go_meet
      exact ⟨rfl, rfl⟩
    · have e := Lib.hid (HA.out.2 (by omega))
      go_wp2_with fail
      go_meet
      exact ⟨rfl, by rw [e.out]⟩
  case rest =>
    obtain ⟨rfl, rfl⟩ := hcut
    go_upto_if 65 with (fail)
    go_cut [3] from 65 to 68 (fun y wx => wx = wc ∧ y = .int .i64 K)
    case first =>
      by_cases h : tk < 0
      · have e := HK.out.1 h
        go_wp2_with fail
        go_meet
        exact ⟨rfl, rfl⟩
      · have e := Lib.hid (HK.out.2 (by omega))
        go_wp2_with fail
        go_meet
        exact ⟨rfl, by rw [e.out]⟩
    case rest =>
      obtain ⟨e, rfl⟩ := hcut
      subst e
      obtain ⟨W1, hW1⟩ : ∃ x, x = wc := ⟨_, rfl⟩
      subst hW1
      clear HA HK hA5 hA6 hK5 hK6
      obtain ⟨n, hn⟩ : ∃ n, n = n1 := ⟨_, rfl⟩
      subst hn
      go_wp2_with fail
      go_loopw [14, 15] (fun l i wr => ∃ (j c : Nat) (a : Option Addr), j ≤ n ∧ i = .int .i64 j ∧ l = .slice a (wLen n A K back j) c ∧ ValRow 3 W1.heap.size a (wLen n A K back j) c (intV (wNo n A K back)) wr ∧ Keeps [] W1 wr) (fun _ i _ => n - (intOf i).toNat)
      case atStart => exact ⟨0, 0, none, by omega, rfl, by rw [wLen_0], by rw [wLen_0]; exact ValRow.nil _ _ _ _, Keeps.refl _ _⟩
      case round =>
        obtain ⟨j, c, a, hj, rfl, rfl, hR, hKp⟩ := hrel
        have hj0 : (0 : Int) ≤ (j : Int) := by omega
        have HR := Lib.hid hR
        have HKp := Lib.hid hKp
        clear hR hKp
        by_cases hlt : j < n
        · have hlt' : (j : Int) < (n : Int) := by omega
          obtain ⟨p, hp⟩ := ex_hid (kAt n back j)
          go_upto_if 75 with (fail)
          go_cut [16] from 69 to 91 (fun y wx => wx = wr ∧ y = .int .i64 p)
          case first =>
            have hpo := hp.out
            unfold kAt at hpo
            clear hp
            cases back
            · have ep : p = j := by simpa using hpo
              have EP := Lib.hid ep
              clear hpo ep
              go_wp2_with fail
              go_meet
              exact ⟨rfl, by rw [EP.out]⟩
            · have ep : (n : Int) - 1 - (j : Int) = (p : Int) := by simp at hpo; omega
              clear hpo
              go_wp2_with fail
              go_meet
              exact ⟨rfl, rfl⟩
          case rest =>
            obtain ⟨e, rfl⟩ := hcut
            subst e
            obtain ⟨W2, hW2⟩ : ∃ x, x = wc := ⟨_, rfl⟩
            subst hW2
            obtain ⟨L, hL⟩ := ex_hid (wLen n A K back j)
            have hLj := wLen_le n A K back j
            rw [← hL.out] at hLj ⊢
            have hr := HR.out
            rw [← hL.out] at hr
            by_cases hyes : j < A ∨ p ≠ K
            · obtain ⟨y1, y2⟩ := wLen_yes (at_ := A) (back := back) hlt hK (by rw [← hp.out]; exact hyes)
              rw [← hL.out, ← hp.out] at y2
              rw [← hL.out] at y1
              have k2 : Keeps [] W2 (W2.alloc (.cells #[.int .i64 p] 3)) := (Keeps.refl [] W2).alloc _
              obtain ⟨g, cap, w3, hrun, r1, r2, r3, r4⟩ := int_app9 W1.heap.size a c L (intV (wNo n A K back)) p _ W2.heap.size (hr.keeps k2 (by simp)) (has_new _ _) (by omega) (by have := HKp.out.size; have := k2.size; omega)
              have R3 := Lib.hid r1
              have K3 := Lib.hid ((HKp.out.trans k2).then r2 (by intro y hy; exact .inl (hr.blk_lt y hy).1))
              have HRun := Lib.hid hrun
              have Y1 := Lib.hid y1
              have Y2 := Lib.hid y2
              have hq : (j : Int) < (A : Int) ∨ ¬ (j : Int) < (A : Int) ∧ ((p : Int) != (K : Int)) = true := by
                by_cases h1 : j < A
                · left; omega
                · right; refine ⟨by omega, ?_⟩; simp; omega
              clear hr k2 r1 r2 r3 r4 hrun y1 y2 hyes
              rcases hq with hq1 | ⟨hq1, hq2⟩
              all_goals
                go_wp2_with (at_builtin; refine wpList_append_run rfl _ _ 22 rfl _ _ rfl rfl _ _ HRun.out ?_)
                go_roundw
                case rel =>
                  refine ⟨j + 1, cap, some ⟨g, 0, none⟩, by omega, by go_num, by rw [Y1.out], ?_, K3.out⟩
                  rw [Y1.out]
                  exact R3.out.congr (fun i hi => by
                    unfold putV intV
                    split
                    · rename_i e; rw [e, Y2.out]
                    · rfl)
                case measure => simp [intOf]; omega
            · have y1 := Lib.hid (wLen_no (at_ := A) (back := back) hlt hK (by rw [← hp.out]; exact hyes))
              have hq1 : ¬ (j : Int) < (A : Int) := by omega
              have hq2 : ((p : Int) != (K : Int)) = false := by simp; omega
              clear hr hyes
              go_wp2_with fail
              go_roundw
              case rel =>
                rw [← hL.out] at y1
                refine ⟨j + 1, c, a, by omega, by go_num, by rw [y1.out], ?_, HKp.out⟩
                rw [y1.out, hL.out]; exact HR.out
              case measure => simp [intOf]; omega
        · obtain rfl : n = j := by omega
          have hge : ¬ (n : Int) < (n : Int) := by omega
          obtain ⟨L, hL⟩ := ex_hid (wLen n A K back n)
          have hLj := wLen_le n A K back n
          have hr := HR.out
          rw [← hL.out] at hLj hr ⊢
          have HRL := Lib.hid hr
          clear hr HR
          go_upto_if 93 with (fail)
          go_cut [14] from 92 to 97 (fun y wx => ∃ (a : Option Addr) (c : Nat), y = .slice a (if back = true then L else L + 1) c ∧ ValRow 3 W1.heap.size a (if back = true then L else L + 1) c (intV (if back = true then wNo n A K back else putI (wNo n A K back) L K)) wx ∧ Keeps [] W1 wx)
          case first =>
            cases back
            · have k2 : Keeps [] wr (wr.alloc (.cells #[.int .i64 K] 3)) := (Keeps.refl [] wr).alloc _
              obtain ⟨g, cap, w3, hrun, r1, r2, r3, r4⟩ := int_app9 W1.heap.size a c L (intV (wNo n A K false)) K _ wr.heap.size (HRL.out.keeps k2 (by simp)) (has_new _ _) (by omega) (by have := HKp.out.size; have := k2.size; omega)
              have R3 := Lib.hid r1
              have K3 := Lib.hid ((HKp.out.trans k2).then r2 (by intro y hy; exact .inl (HRL.out.blk_lt y hy).1))
              have HRun := Lib.hid hrun
              clear k2 r1 r2 r3 r4 hrun
              go_wp2_with (at_builtin; refine wpList_append_run rfl _ _ 22 rfl _ _ rfl rfl _ _ HRun.out ?_)
              go_meet
              refine ⟨some ⟨g, 0, none⟩, cap, rfl, ?_, K3.out⟩
              simp only [Bool.false_eq_true, if_false]
              exact R3.out.congr (fun i hi => by unfold putV intV putI; split <;> rfl)
            · go_wp2_with fail
              go_meet
              exact ⟨a, c, rfl, HRL.out, HKp.out⟩
          case rest =>
            obtain ⟨a2, c2, rfl, hr2, hk2⟩ := hcut
            obtain ⟨W2, hW2⟩ : ∃ x, x = wc := ⟨_, rfl⟩
            subst hW2
            obtain ⟨L2, hL2⟩ := ex_hid (if back = true then L else L + 1)
            rw [← hL2.out] at hr2 ⊢
            have HR2 := Lib.hid hr2
            have HK2 := Lib.hid hk2
            have hL2j : L2 ≤ n + 1 := by rw [hL2.out]; split <;> omega
            clear hr2 hk2 HRL HKp
            go_upto_region 24 with (fail)
            go_cut [102] from 98 to 102 (fun y wx => wx = W2 ∧ y = .bool (back && decide (A = 0)))
            case first =>
              cases back
              · go_wp2_with fail
                go_meet
                exact ⟨rfl, rfl⟩
              · by_cases hA0 : A = 0
                · have e : ((A : Int) == 0) = true := by simp; omega
                  have HE := Lib.hid hA0
                  clear hA0
                  go_wp2_with fail
                  go_meet
                  exact ⟨rfl, by rw [HE.out]; rfl⟩
                · have e : ((A : Int) == 0) = false := by simp; omega
                  have HE := Lib.hid hA0
                  clear hA0
                  go_wp2_with fail
                  go_meet
                  exact ⟨rfl, by simp [HE.out]⟩
            case rest =>
              obtain ⟨e, rfl⟩ := hcut
              subst e
              obtain ⟨W3, hW3⟩ : ∃ x, x = wc := ⟨_, rfl⟩
              subst hW3
              obtain ⟨tz, htz⟩ : ∃ tz, Hid (tz = (back && decide (A = 0))) := ⟨_, Lib.hid rfl⟩
              rw [← htz.out]
              go_upto_if 102 with (fail)
              go_cut [14] from 102 to 106 (fun y wx => ∃ (a : Option Addr) (c : Nat), y = .slice a (lenM n A K back) c ∧ ValRow 3 W1.heap.size a (lenM n A K back) c (intV fun i => (keyM n A K back i : Nat)) wx ∧ Keeps [] W1 wx)
              case first =>
                have hz := htz.out
                have hl2 := hL2.out
                have HLO := Lib.hid hL.out
                clear htz hL2 hL
                cases tz
                · have FINR := Lib.hid (show L2 = lenM n A K back ∧ ∀ i, i < L2 → (if back = true then wNo n A K back else putI (wNo n A K back) L K) i = (keyM n A K back i : Nat) from by
                    cases back
                    · simp only [Bool.false_eq_true, if_false] at hl2 ⊢
                      have e := lenM_fwd n A K hA hK
                      rw [← HLO.out, ← hl2] at e
                      refine ⟨e.symm, fun i hi => ?_⟩
                      have := wFin_fwd (i := i) hA hK (by rw [e]; exact hi)
                      rw [← HLO.out] at this
                      exact this
                    · simp only [if_true] at hl2 ⊢
                      have hA0 : 0 < A := by
                        have : ¬ A = 0 := by simpa using hz
                        omega
                      have e := lenM_back n A K hA hA0 hK
                      rw [← HLO.out, ← hl2] at e
                      exact ⟨e.symm, fun i hi => wFin_back hA hA0 hK (by rw [e]; exact hi)⟩)
                  clear hz hl2
                  go_wp2_with fail
                  go_meet
                  refine ⟨a2, c2, by rw [FINR.out.1], ?_, HK2.out⟩
                  rw [← FINR.out.1]
                  exact HR2.out.congr (fun i hi => by unfold intV; rw [FINR.out.2 i hi])
                · have hb : back = true ∧ A = 0 := by simpa using hz.symm
                  obtain ⟨rfl, rfl⟩ := hb
                  simp only [if_true] at hl2 HR2
                  have e := lenM_back0 n K hK
                  rw [← HLO.out, ← hl2] at e
                  have HE := Lib.hid e
                  have k2 : Keeps [] W3 (W3.alloc (.cells #[.int .i64 K] 3)) := (Keeps.refl [] W3).alloc _
                  obtain ⟨a3, cap, w3, hrun, r1, r2⟩ := int_pre9 W1.heap.size a2 c2 L2 (wNo n 0 K true) K _ W3.heap.size (HR2.out.keeps k2 (by simp)) (has_new _ _) (by omega) (by have := HK2.out.size; omega) (by have := HK2.out.size; have := k2.size; omega)
                  have R3 := Lib.hid r1
                  have K3 := Lib.hid ((HK2.out.trans k2).then r2 (by intro y hy; simp at hy; subst hy; exact .inl HK2.out.size))
                  have HRun := Lib.hid hrun
                  clear k2 r1 r2 hrun e hz hl2
                  go_wp2_with (at_builtin; refine wpList_append_run rfl _ _ 22 rfl _ _ rfl rfl _ _ HRun.out ?_)
                  go_meet
                  refine ⟨a3, cap, by rw [HE.out], ?_, K3.out⟩
                  rw [HE.out]
                  refine R3.out.congr (fun i hi => ?_)
                  unfold intV
                  simp only
                  rw [wFin_back0 hK (by
                    have h1 : lenM n 0 K true = n := by unfold lenM cM; simp
                    have := HE.out; omega)]
              case rest =>
                obtain ⟨a4, c4, rfl, hr4, hk4⟩ := hcut
                obtain ⟨W4, hW4⟩ : ∃ x, x = wc := ⟨_, rfl⟩
                subst hW4
                obtain ⟨LM, hLM⟩ := ex_hid (lenM n A K back)
                have hLM1 : LM ≤ 2 * n := by
                  rw [hLM.out]; unfold lenM cM
                  (repeat' split) <;> omega
                rw [← hLM.out] at hr4 ⊢
                have HR4 := Lib.hid hr4
                have HK4 := Lib.hid hk4
                have FI4 := Lib.hid (FI.out.keeps hk4)
                clear hr4 hk4 HR2 HK2 htz hL2 hL hL2j hLj
                go_wp2_with fail
                refine (snew_any db t w.heap.size S (mV none) d back W4 FI4.out.dic (by have := FI4.out.ok.t.ek; omega) (by have := FI4.out.ok.v; omega)).mono ?_
                rintro r w5 ⟨b, Fs, rfl, s5, k5⟩
                have MI := Lib.hid (show MovI F1 (fun i => ((keyM n A K back i : Nat) : Int)) n K 0 n back db t w.heap.size b a4 LM c4 S Fs d (newS db d back) w5 from by
                  have z1 := K1.out.size
                  have z4 := HK4.out.size
                  have hf := FI4.out.dic.foot9
                  have hf1 := FI.out.dic.foot9
                  have hrl := HR4.out.blk_lt
                  exact ⟨FI4.out.dic.keeps k5 (by simp) (by simp), FI4.out.ok, ⟨FI4.out.run.l, FI4.out.run.b, FI4.out.run.m, FI4.out.run.o⟩, s5.mono (by omega), StrJ.new FI4.out.run.liveN FI4.out.run.o FI4.out.ok (by omega) back, (HR4.out.mono z1).keeps k5 (by simp), fun e => by have := (s5.lo _ e).1; have := (hf db (by simp)).2; omega, fun x hx e => by have := (s5.lo _ e).1; have := (hf x (by simp [hx])).2; omega,
                    fun x hx e => by have := (s5.lo _ e).1; have := (hrl x hx).2; omega, fun x hx e => by have := (hrl x hx).1; have := (hf1 x e).2; omega⟩)
                have K5 := Lib.hid ((K1.out.trans HK4.out).trans k5)
                clear s5 k5
                go_wp2_with fail
                obtain ⟨W5, hW5⟩ : ∃ x, x = w5 := ⟨_, rfl⟩
                subst hW5
                rcases Z1.out with h0 | ⟨b1, off1, rfl, hb11, hb12, hcl1⟩
                · omega
                have HC1 := Lib.hid hcl1
                clear hcl1
                go_loopw [18] (fun i wx => ∃ (m t' kk : Nat) (d : Dic) (s : Str) (S Fs : List Nat), m ≤ LM ∧ i = .int .i64 m ∧ kk ≤ n + 2 * t' ∧ t' ≤ T ∧ MovI F1 (fun i => ((keyM n A K back i : Nat) : Int)) n K t' kk back db t w.heap.size b a4 LM c4 S Fs d s wx ∧ PosI n A K T back m t' d s ∧ Keeps [] w wx) (fun i _ => LM - (intOf i).toNat)
                case atStart => exact ⟨0, 0, n, d, _, S, Fs, by omega, rfl, by omega, by omega, MI.out, .inl ⟨by omega, rfl, .inl ⟨rfl, rfl⟩⟩, K5.out⟩
                case round =>
                  obtain ⟨m, t', kk, d, s, S, Fs, hm, rfl, hkk, htT, hM, hP, hK9⟩ := hrel
                  have hm0 : (0 : Int) ≤ (m : Int) := by omega
                  have HM := Lib.hid hM
                  have HP := Lib.hid hP
                  have HK9 := Lib.hid hK9
                  clear hM hP hK9 MI K5 FI FI4 HK4 HR4 K1
                  by_cases hlt : m < LM
                  · have hlt' : (m : Int) < (LM : Int) := by omega
                    go_upto_if 120 with (fail)
                    go_cut [10, 19, 20, 21, 22] from 112 to 179 (fun y0 y1 y2 y3 y4 wx => ∃ (t'' kk' : Nat) (d' : Dic) (S' : List Nat) (P : Nat) (x : Ent), kk' ≤ n + 2 * t'' ∧ t'' ≤ T ∧ MovI F1 (fun i => ((keyM n A K back i : Nat) : Int)) n K t'' kk' back db t w.heap.size b a4 LM c4 S' Fs d' s wx ∧ NowI n A K T back m t'' d' s P x ∧ Keeps [] w wx)
                    case first =>
                      by_cases hmA : m = A
                      · obtain rfl : A = m := hmA.symm
                        clear hmA
                        have e : ((A : Int) == (A : Int)) = true := by simp
                        rw [e]
                        clear e
                        have hp := HP.out
                        have HS := Lib.hid (show t' = 0 ∧ ((A = 0 ∧ s.told = false) ∨ (0 < A ∧ s.told = true ∧ s.last = (kAt n back (A - 1) : Nat))) from by
                          rcases hp with ⟨_, h1, h2⟩ | ⟨h1, _⟩
                          · exact ⟨h1, h2⟩
                          · omega)
                        clear hp
                        go_wp2_with fail
                        obtain ⟨W6, hW6⟩ : ∃ x, x = wr := ⟨_, rfl⟩
                        subst hW6
                        go_loopw [19] (fun i wy => ∃ (u kk' : Nat) (d' : Dic) (S' : List Nat), u ≤ T ∧ i = .int .i64 u ∧ kk' ≤ n + 2 * u ∧ MovI F1 (fun i => ((keyM n A K back i : Nat) : Int)) n K u kk' back db t w.heap.size b a4 LM c4 S' Fs d' s wy ∧ Keeps [] w wy) (fun i _ => T - (intOf i).toNat)
                        case atStart => exact ⟨0, kk, d, S, by omega, rfl, by have := HS.out.1; omega, by rw [← HS.out.1]; exact HM.out, HK9.out⟩
                        case round =>
                          obtain ⟨u, kk', d', S', hu, rfl, hkk', hM', hK'⟩ := hrel
                          obtain ⟨WU, hWU⟩ : ∃ x, x = wr := ⟨_, rfl⟩
                          subst hWU
                          have hu0 : (0 : Int) ≤ (u : Int) := by omega
                          have HM' := Lib.hid hM'
                          have HK' := Lib.hid hK'
                          clear hM' hK'
                          by_cases hltu : u < T
                          · have hltu' : (u : Int) < (T : Int) := by omega
                            obtain ⟨f, hf⟩ := ex_hid (F1 K)
                            have b0 : WU.cell? ⟨b1, off1 + K, none⟩ = some (.int .i64 f) := by rw [hf.out]; exact HK'.out.cell (HC1.out K (by omega)).1 (by simp)
                            have hK0 : (0 : Int) ≤ (K : Int) := by omega
                            have hK1 : (K : Int) < (n : Int) := by omega
                            obtain ⟨ee, v1, v2, v3, v4, v5, v6⟩ := HM'.out.mv.kill hK
                            rw [← hf.out] at v1 v2 v3 v4 v5 v6
                            have TG := Lib.hid v1
                            obtain ⟨w1', w2', w3', w4'⟩ := Mv9.again (F := F1) hK (by omega) v2 v3 v4 v5
                            rw [← hf.out] at w1' w2' w3' w4'
                            have AG1 := Lib.hid w1'
                            have AG2 := Lib.hid w2'
                            have AG3 := Lib.hid w3'
                            have AG4 := Lib.hid (show d'.ver < (finD (finD d' (newM 3 f K 0) (some ee)) (newM 2 f K 7) none).ver by omega)
                            clear v1 v2 v3 v4 v5 v6 w1' w2' w3' w4'
                            go_wp2_with fail
                            refine (begin_one db t w.heap.size S' d' 3 f K 0 WU (by omega) (by omega) HM'.out.dic).mono ?_
                            rintro r x2 ⟨mb, rfl, d2, m2, l2, k2⟩
                            have D2 := Lib.hid d2
                            have M2 := Lib.hid (m2 mb)
                            have L2 := Lib.hid l2
                            have K2 := Lib.hid k2
                            clear d2 m2 l2 k2
                            go_wp2_with fail
                            refine (step_one kk' (by omega) mb mb db t w.heap.size S' d' (newM 3 f K 0) x2 D2.out M2.out HM'.out.ok (Nat.zero_le _)).mono ?_
                            rintro r x3 ⟨S3, sb3, rfl, d3, m3, k3, g3, l3⟩
                            obtain ⟨T3, hT3⟩ := ex_hid (stepM d' (newM 3 f K 0)).turn
                            rw [← hT3.out]
                            have D3 := Lib.hid d3
                            have M3 := Lib.hid m3
                            have K3 := Lib.hid (show Keeps (db :: S') WU x3 from (K2.out.mono (by simp) : Keeps (db :: S') WU x2).then k3 (fun z hz => by
                              unfold feet skS at hz
                              simp only [List.mem_cons, List.mem_append] at hz
                              rcases hz with rfl | rfl | hz | hz
                              · exact .inl L2.out
                              · exact .inr (by simp)
                              · simp [newM] at hz
                              · exact .inr (by simp [hz])))
                            have G3 := Lib.hid (show Grew S' WU S3 from fun z hz => by
                              rcases g3 z hz with h | h
                              · exact .inl h
                              · have := K2.out.size; exact .inr (by omega))
                            have L3 := Lib.hid (show WU.heap.size ≤ sb3 from by
                              rcases l3 with ⟨h1, h2⟩ | h1
                              · exact absurd rfl h2
                              · have := K2.out.size; omega)
                            clear d3 m3 k3 g3 l3
                            unfold Trn.agg
                            go_upto_region 40 with (fail)
                            refine wp_gen (fun V => V.heap[x3.heap.size]? = some (trnO T3) ∧ Keeps [] x3 V) ⟨has_new _ _, (Keeps.refl [] x3).alloc _⟩ ?_
                            rintro x4 ⟨b4, k4⟩
                            have DL := Lib.hid (show Del9 mb db t w.heap.size S' d' (newM 3 f K 0) (some ee) WU x3.heap.size 0 (stepD d' (newM 3 f K 0)) (stepM d' (newM 3 f K 0)) S3 sb3 x4 from
                              ⟨D3.out.keeps k4 (by simp) (by simp), M3.out.keeps k4 (by simp) (by simp), by rw [← hT3.out]; exact b4, Pc9.first HM'.out.ok 3 f K 0 TG.out, G3.out, K3.out.trans (k4.mono (by simp)), L3.out,
                                ⟨fun h => by have := (D3.out.t.foot _ h).2; omega, by have := M3.out.mb_lt; omega, by have := lt_of_block D3.out.b; omega, by
                                  have h1 : (stepM d' (newM 3 f K 0)).st ≠ 0 := by
                                    rcases Pc9.first HM'.out.ok 3 f K 0 TG.out with ⟨_, h, _⟩ | h
                                    · have := h.st; omega
                                    · have := h.st; omega
                                  have := M3.out.sb_lt h1; omega⟩⟩)
                            have HTL0 : WU.heap.size ≤ x3.heap.size := K3.out.size
                            obtain ⟨tl, htl⟩ := ex_hid x3.heap.size
                            have HTL := Lib.hid (show WU.heap.size ≤ tl by rw [htl.out]; exact HTL0)
                            rw [← htl.out] at DL ⊢
                            clear b4 k4 D3 M3 K3 G3 L3 D2 M2 K2 hT3 b0
                            go_wp2_with fail
                            obtain ⟨W7, hW7⟩ : ∃ x, x = x4 := ⟨_, rfl⟩
                            subst hW7
                            go_loopw [22] (fun i wz => ∃ (j : Nat) (d1 : Dic) (q : Mac) (S5 : List Nat) (sb5 : Nat), j ≤ n ∧ i = .int .i64 j ∧ Del9 mb db t w.heap.size S' d' (newM 3 f K 0) (some ee) WU tl j d1 q S5 sb5 wz) (fun i _ => n + 1 - (intOf i).toNat)
                            case atStart => exact ⟨0, _, _, S3, sb3, by omega, rfl, DL.out⟩
                            case round =>
                              obtain ⟨j, d1, q, S5, sb5, hj, rfl, hD⟩ := hrel
                              have hj0 : (0 : Int) ≤ (j : Int) := by omega
                              have hjn : (j : Int) ≤ (n : Int) := by omega
                              have HD := Lib.hid hD
                              clear hD DL
                              rcases HD.out.pc with ⟨fe, hw, rfl, hcn⟩ | he
                              · obtain ⟨y, hy1, hy2, hy3, hy4⟩ := hw.live
                                have HW := Lib.hid hw
                                have HCN := Lib.hid hcn
                                have hjf : j + 1 ≤ n := by have := hw.few hcn; rw [HM'.out.mv.liveN hK] at this; omega
                                have tu := HD.out.tu
                                rw [hy4] at tu
                                have TW := Lib.hid hy4
                                obtain ⟨t0, t1, t2, t3, t4⟩ := trn_cells tu
                                have ST := Lib.hid (show q.st ≠ 0 by have := hw.st; omega)
                                obtain ⟨F1', F2'⟩ := HD.out.ft L2.out (tellM q false)
                                have FT1 := Lib.hid F1'
                                have FT2 := Lib.hid F2'
                                clear hw hcn hy1 hy2 hy3 hy4 tu F1' F2'
                                go_wp2_with fail
                                refine (tell_one mb sb5 db t w.heap.size S5 d1 q _ HD.out.mac false).mono ?_
                                rintro r y5 ⟨rfl, m5, k5⟩
                                have D5 := Lib.hid (HD.out.dic.keeps k5 (by simp; exact HD.out.mac.n.symm) (fun x hx hq => by simp at hq; subst hq; exact HD.out.mac.s hx))
                                have B5 := Lib.hid (k5.has HD.out.tu (by simp; exact HD.out.tn.2.1))
                                have M5 := Lib.hid m5
                                have K5 := Lib.hid (HD.out.ks.then k5 (fun x hx => by simp at hx; subst hx; exact .inl L2.out))
                                have Z5 := Lib.hid k5.size
                                clear m5 k5 t0 t1 t2 t3 t4
                                go_wp2_with fail
                                refine (step_one kk' (by omega) mb sb5 db t w.heap.size S5 d1 (tellM q false) y5 D5.out M5.out HM'.out.ok (by rw [tell_sc, HW.out.sc]; omega)).mono ?_
                                rintro r y7 ⟨S7, sb7, rfl, d7, m7, k7, g7, l7⟩
                                have P7 := Lib.hid (Pc9.no HM'.out.ok TG.out HW.out HCN.out (HD.out.mac.o.sk ST.out))
                                have D7 := Lib.hid d7
                                have M7 := Lib.hid m7
                                have K7 := Lib.hid (K5.out.then k7 FT1.out)
                                have B7 := Lib.hid (k7.has B5.out FT2.out)
                                have G7 := Lib.hid (show Grew S' WU S7 from (HD.out.gr.trans (fun z hz => by
                                  rcases g7 z hz with h | h
                                  · exact .inl h
                                  · exact .inr (Nat.le_trans Z5.out h)) HD.out.ks.size))
                                have L7 := Lib.hid (show WU.heap.size ≤ sb7 from by
                                  rcases l7 with ⟨h1, _⟩ | h1
                                  · rw [h1]; exact HD.out.sb
                                  · have := K5.out.size; omega)
                                have N7 := Lib.hid (show tl ∉ S7 ∧ tl ≠ sb7 from by
                                  have hlt := lt_of_block HD.out.tu
                                  have hz := Z5.out
                                  refine ⟨fun h => ?_, fun h => ?_⟩
                                  · rcases g7 _ h with h1 | h1
                                    · exact HD.out.tn.1 h1
                                    · omega
                                  · rcases l7 with ⟨h1, _⟩ | h1
                                    · exact HD.out.tn.2.2.2 (h.trans h1)
                                    · omega)
                                clear d7 m7 k7 g7 l7
                                obtain ⟨T7, hT7⟩ := ex_hid (stepM d1 (tellM q false)).turn
                                rw [← hT7.out]
                                unfold Trn.agg
                                have b7 := B7.out
                                rw [TW.out] at b7
                                obtain ⟨t0, t1, t2, t3, t4⟩ := trn_cells b7
                                obtain ⟨u0, u1, u2, u3, u4⟩ := trn_free b7
                                have B7' := Lib.hid b7
                                clear b7
                                go_upto_region 42 with (fail)
                                refine wp_gen (fun V => V.heap[tl]? = some (trnO T7) ∧ Keeps [tl] y7 V) ⟨(trn_store _ T7 B7'.out).1, (trn_store _ T7 B7'.out).2⟩ ?_
                                rintro y8 ⟨b8, k8⟩
                                have DL8 := Lib.hid (show Del9 mb db t w.heap.size S' d1 (newM 3 f K 0) (some ee) WU tl (j + 1) (stepD d1 (tellM q false)) (stepM d1 (tellM q false)) S7 sb7 y8 from
                                  ⟨D7.out.keeps k8 (by simp; exact HD.out.tn.2.2.1.symm) (fun x hx hq => by simp at hq; subst hq; exact N7.out.1 hx), M7.out.keeps k8 (by simp; exact HD.out.tn.2.1.symm) (fun _ => by simp; exact N7.out.2.symm), by rw [← hT7.out]; exact b8, P7.out, G7.out, K7.out.then k8 (fun x hx => by simp at hx; subst hx; left; exact HTL.out), L7.out, ⟨N7.out.1, HD.out.tn.2.1, HD.out.tn.2.2.1, N7.out.2⟩⟩)
                                clear b8 k8 t0 t1 t2 t3 t4 u0 u1 u2 u3 u4
                                go_wp2_with fail
                                go_roundw
                                case rel => exact ⟨j + 1, _, _, S7, sb7, hjf, by go_num, DL8.out⟩
                                case measure => simp [intOf]; omega
                              · have htn : q.turn = hitT (d'.at_ (ee : Nat)) (ee : Nat) := he.turn
                                have hd1 : d1 = finD d' (newM 3 f K 0) (some ee) := he.d1
                                have tu := HD.out.tu
                                rw [htn] at tu
                                obtain ⟨t0, t1, t2, t3, t4⟩ := trn_cells tu
                                unfold hitT at t0 t1 t2 t3 t4
                                simp only at t0 t1 t2 t3 t4
                                have b0 : (_ : World).cell? ⟨b1, off1 + K, none⟩ = some (.int .i64 f) := (HD.out.ks.cell (by rw [hf.out]; exact HK'.out.cell (HC1.out K (by omega)).1 (by simp)) (fun h9 => by have := (HM'.out.dic.foot9 b1 h9).1; omega))
                                have HD1 := Lib.hid hd1
                                clear he htn hd1 tu
                                go_wp2_with fail
                                refine (put9_any (kk' + 1) (by omega) db t w.heap.size S5 d1 f K 7 none _ HD.out.dic (by rw [HD1.out]; exact HM'.out.ok.fin (by omega) _ _) (by rw [HD1.out]; exact AG1.out)).mono ?_
                                rintro r y9 ⟨S9, rfl, d9, k9, g9⟩
                                rw [HD1.out, AG2.out]
                                have K9 := Lib.hid (show Keeps (db :: S') WU y9 from HD.out.ks.then k9 (fun z hz => by
                                  simp only [List.mem_cons] at hz ⊢
                                  rcases hz with rfl | hz
                                  · exact .inr (.inl rfl)
                                  · rcases HD.out.gr z hz with h | h
                                    · exact .inr (.inr h)
                                    · exact .inl h))
                                have G9 := Lib.hid (HD.out.gr.trans g9 HD.out.ks.size)
                                rw [HD1.out] at d9
                                have M9 := Lib.hid (HM'.out.moved K9.out d9 G9.out ((HM'.out.ok.fin (by omega) _ _).fin (by omega) _ _) AG3.out AG4.out)
                                have KK9 := Lib.hid (HK'.out.then K9.out (fun z hz => .inl (HM'.out.dic.foot9 z hz).1))
                                clear d9 k9 g9 t0 t1 t2 t3 t4 b0
                                go_wp2_with fail
                                go_roundw
                                case rel => exact ⟨u + 1, kk' + 1 + 1, _, S9, by omega, by go_num, by omega, M9.out, KK9.out⟩
                                case measure => simp [intOf]; omega
                          · obtain rfl : u = T := by omega
                            have hge : ¬ (u : Int) < (u : Int) := by omega
                            go_wp2_with fail
                            go_meet
                            obtain ⟨P, x, hN⟩ := now_turn hA hK (by omega) HM'.out.si HM'.out.mv (by rw [← hLM.out]; exact hlt) HS.out.2
                            exact ⟨u, kk', d', S', P, x, by omega, by omega, HM'.out, hN, HK'.out⟩
                      · have e : ((m : Int) == (A : Int)) = false := by simp; omega
                        go_wp2_with fail
                        go_meet
                        have hN : ∃ P x, NowI n A K T back m t' d s P x := by
                          by_cases h1 : m < A
                          · have h2 : t' = 0 := by rcases HP.out with ⟨_, h, _⟩ | ⟨h, _⟩; exact h; omega
                            subst h2
                            exact now_before hA hK HM.out.si HM.out.mv h1 HP.out
                          · have h2 : t' = T := by rcases HP.out with ⟨h, _⟩ | ⟨_, h, _⟩; omega; exact h
                            subst h2
                            exact now_after hA hK (by omega) HM.out.si HM.out.mv (by omega) (by rw [← hLM.out]; exact hlt) HP.out
                        obtain ⟨P, x, hN⟩ := hN
                        exact ⟨t', kk, d, S, P, x, hkk, htT, HM.out, hN, HK9.out⟩
                    case rest =>
                      obtain ⟨t2, kk2, d2, S2, P, x, hkk2, ht2, hM2, hN2, hK2⟩ := hcut
                      obtain ⟨W8, hW8⟩ : ∃ x, x = wc := ⟨_, rfl⟩
                      subst hW8
                      obtain ⟨e1, e2, e3, e4, e5⟩ := hM2.si.next (hM2.mv.liveN hK) hM2.mv.o hM2.ok (by omega) hN2.1 hN2.2.1
                      have HM2 := Lib.hid hM2
                      have HK2 := Lib.hid hK2
                      have E1 := Lib.hid e1
                      have E2 := Lib.hid e2
                      have E3 := Lib.hid e3
                      have PN := Lib.hid (hN2.next e4 e5)
                      have XK := Lib.hid hN2.2.2.1
                      clear hM2 hK2 hN2 e1 e2 e3 e4 e5 HM HP HK9
                      go_wp2_with fail
                      refine (snext_any kk2 (by omega) db t w.heap.size w.heap.size b S2 Fs (mV none) d2 s W8 HM2.out.dic HM2.out.str HM2.out.si.dp HM2.out.ok HM2.out.mv.o HM2.out.si.ok ⟨HM2.out.j1, HM2.out.j2⟩).mono ?_
                      rintro r w9 ⟨F9, rfl, s9, g9, k9⟩
                      rw [E1.out, E2.out]
                      have MN := Lib.hid (HM2.out.next E3.out s9 g9 k9)
                      have K9 := Lib.hid (HK2.out.then k9 (fun z hz => .inl (HM2.out.str.lo z (HM2.out.three z hz)).1))
                      clear s9 g9 k9
                      obtain ⟨z0, z1, z2, z3, z4⟩ := x
                      unfold Ent.agg
                      simp only
                      go_upto_region 48 with (fail)
                      refine wp_gen (fun V => V.heap[w9.heap.size]? = some (ent9 ⟨z0, z1, z2, z3, z4⟩) ∧ Keeps [] w9 V) ⟨has_new _ _, (Keeps.refl [] w9).alloc _⟩ ?_
                      rintro W10 ⟨b10, k10⟩
                      have MX := Lib.hid (MN.out.keeps k10)
                      have K10 := Lib.hid (K9.out.trans k10)
                      obtain ⟨lr, hlr⟩ := ex_hid w9.heap.size
                      rw [← hlr.out] at b10 ⊢
                      obtain ⟨t0, t1, tc2, t3, t4⟩ := ent9_cells b10
                      obtain ⟨g4, rfl⟩ := MX.out.row.shape (by omega)
                      have c2 : W10.cell? ⟨g4, m, none⟩ = some (.int .i64 z2) := by
                        rw [show z2 = ((keyM n A K back m : Nat) : Int) from XK.out]
                        exact MX.out.row.cell hlt
                      have hzz : (z2 != z2) = false := by simp
                      simp only at tc2
                      clear b10 k10 t0 t1 t3 t4
                      go_region_held3 (fun w' => w'.cell? ⟨lr, 2, none⟩ = some (.int .i64 z2) ∧ w'.cell? ⟨g4, m, none⟩ = some (.int .i64 z2)) (go_keep) (fail)
                      have MY := Lib.hid (MX.out.keeps (Keeps.refl [] W10).drew)
                      have K12 := Lib.hid (K10.out.trans (Keeps.refl [] W10).drew)
                      obtain ⟨W12, hW12⟩ : ∃ W12, W10.drew = W12 := ⟨_, rfl⟩
                      rw [hW12] at MY K12 ⊢
                      clear tc2 c2 hzz
                      go_wp2_with fail
                      go_roundw
                      case rel => exact ⟨m + 1, t2, kk2, d2, _, S2, F9, by omega, by go_num, hkk2, ht2, MY.out, PN.out, K12.out⟩
                      case measure => simp [intOf]; omega
                  · obtain rfl : LM = m := by omega
                    have hge2 : ¬ (LM : Int) < (LM : Int) := by omega
                    by_cases hLA : LM ≤ A
                    · have e9 : decide ((LM : Int) ≤ (A : Int)) = true := by simp; omega
                      go_wp2_with (go_at_call 25; refine (awake9 _).mono ?_; rintro e w14 ⟨rfl, hb⟩)
                      go_ret
                      exact ⟨rfl, (HK9.out.trans (Below.keeps hb [])).below (Nat.le_refl _) (by simp)⟩
                    · have e9 : decide ((LM : Int) ≤ (A : Int)) = false := by simp; omega
                      have hE : strE d s = 10 := by
                        have h2 : t' = T := by
                          rcases HP.out with ⟨h, _⟩ | ⟨_, h, _⟩
                          · omega
                          · exact h
                        subst h2
                        have hp := HP.out
                        rw [hLM.out] at hp hLA
                        exact now_end hA hK HM.out.si HM.out.mv (by omega) hp
                      have E1 := Lib.hid hE
                      clear hE
                      go_wp2_with fail
                      refine (snext_any kk (by omega) db t w.heap.size w.heap.size b S Fs (mV none) d s wr HM.out.dic HM.out.str HM.out.si.dp HM.out.ok HM.out.mv.o HM.out.si.ok ⟨HM.out.j1, HM.out.j2⟩).mono ?_
                      rintro r w10 ⟨F10, rfl, s10, g10, k10⟩
                      rw [E1.out]
                      have K10 := Lib.hid (HK9.out.then k10 (fun z hz => .inl (HM.out.str.lo z (HM.out.three z hz)).1))
                      obtain ⟨z, hz⟩ := ex_hid (strX d s)
                      rw [← hz.out]
                      clear s10 g10 k10
                      unfold Ent.agg
                      go_upto_region 53 with (fail)
                      refine wp_gen (fun V => Keeps [] w10 V) ((Keeps.refl [] w10).alloc _) ?_
                      rintro W11 k11
                      have K11 := Lib.hid (K10.out.trans k11)
                      clear k11
                      go_wp2_with (go_at_call 25; refine (awake9 _).mono ?_; rintro e w14 ⟨rfl, hb⟩)
                      go_ret
                      exact ⟨rfl, (K11.out.trans (Below.keeps hb [])).below (Nat.le_refl _) (by simp)⟩
theorem strollMoves_walk (a0 : Option Addr) (len0 cap0 : Nat) (F0 : Nat → Int) (a1 : Bool) (a2 a3 a4 : Int) (w : World) (w0 : IntRow .i64 1 w a0 len0 F0) (w2 : (Lit.int .i64 a2).wf = true) (w3 : (Lit.int .i64 a3).wf = true) (w4 : (Lit.int .i64 a4).wf = true) :
    Calls Try.prog 8 #[.slice a0 len0 cap0, .bool a1, .int .i64 a2, .int .i64 a3, .int .i64 a4] w fun e w' => e = .returned (.bool true) ∧ Below w.heap.size w w' := by
  by_cases h : len0 = 0 ∨ 100 < len0 ∨ a4 < 1 ∨ 60 < a4
  · exact strollMoves_early a0 len0 cap0 a1 a2 a3 a4 w h
  · exact strollMoves_main a0 len0 cap0 F0 a1 a2 a3 a4 w (by omega) (by omega) (by omega) (by omega) w0 w2 w3
end Go.Proofs.Ytcakdmapnmneoaa
