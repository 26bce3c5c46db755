/- SweepCloses, walked (chapter 12). -/
import Derived.Test.YtompihlckpjbkaaCloseMath
import Derived.Deep.QuietTactic
namespace Go.Proofs.Ytompihlckpjbkaa
open Go.RowKit
set_option linter.unusedVariables false

set_option maxRecDepth 100000 in
theorem sweepCloses_early (la fa ra : Option Addr) (n lc n2 fc rn rc : Nat) (V0 : Nat → Value) (LL : Nat → List Int) (w : World) (hl : RowsAt w la n V0 LL) (h : tooLarge n rn LL) :
    Calls Try.prog 9 #[.slice la n lc, .slice fa n2 fc, .slice ra rn rc] w fun e w' => e = .returned (.bool true) ∧ Keeps [] w w' := by
  have HL := Lib.hid hl
  have HH := Lib.hid h
  clear hl h
  go_enter Try.func9, Try.ntmps9
  go_wp2_with fail
  refine (large_yes la n lc V0 LL ra rn rc _ HL.out HH.out).mono ?_
  rintro e w1 ⟨rfl, rfl⟩
  go_wp2_with fail
  refine (awake12 _).mono ?_
  rintro e w2 ⟨rfl, k2⟩
  go_wp2_with fail
  go_ret
  exact ⟨rfl, k2⟩

set_option maxRecDepth 100000 in
set_option maxHeartbeats 16000000 in
theorem sweepCloses_main (la fa ra : Option Addr) (n lc n2 fc rn rc : Nat) (V0 : Nat → Value) (LL : Nat → List Int) (F2 F3 : Nat → Int) (w : World) (hl : RowsAt w la n V0 LL) (h : ¬ tooLarge n rn LL) (hf : IntAt w fa n2 F2) (hr : IntAt w ra rn F3) :
    Calls Try.prog 9 #[.slice la n lc, .slice fa n2 fc, .slice ra rn rc] w fun e w' => e = .returned (.bool true) ∧ Keeps [] w w' := by
  obtain ⟨hn, hrn, hLL⟩ := not_large h
  have HL := Lib.hid hl
  have HLL := Lib.hid hLL
  have HF := Lib.hid hf
  have HR := Lib.hid hr
  have rn' : (rn : Int) ≤ 200 := by omega
  have n0 : (0 : Int) ≤ (n : Int) := by omega
  have n9 : (n : Int) ≤ 200 := by omega
  have hmk := fun w => make_flags w n (by omega)
  clear hl h hf hr hLL
  go_enter Try.func9, Try.ntmps9
  go_wp2_with fail
  refine (large_no la n lc V0 LL ra rn rc _ HL.out hn hrn HLL.out).mono ?_
  rintro e w0 ⟨rfl, rfl⟩
  go_wp2_with fail
  refine (laid_any la n lc V0 LL fa n2 fc F2 _ HL.out hn HLL.out HF.out).mono ?_
  rintro e w1 ⟨sb, wb, S, R, V, U, T, rfl, hS, hK, -⟩
  obtain ⟨Q, hQ⟩ := rch_ex n T LL (listOf rn F3)
  have HQ := Lib.hid hQ
  have HS := Lib.hid hS
  have HK := Lib.hid hK
  have hM := mark_any (.func (.func 28) #[] #[]) LL LL (.inl ⟨rfl, rfl⟩) sb _ n S V T (listOf rn F3) ra rc Q hQ w1 hS.st hn hS.lv.at (by rw [listOf_len]; exact (HR.out.keeps hK).rowL) (by rw [listOf_len]; omega)
  rw [listOf_len] at hM
  have HM := Lib.hid hM
  obtain ⟨N, hN⟩ := ex_hid (cntT Q n)
  have hN2 : (N : Int) ≤ 200 := by have := cntT_le Q n; have := hN.out; omega
  clear hQ hS hK hM
  go_wp2_with fail
  refine HM.out.mono ?_
  rintro e w4 ⟨a4, cap4, rfl, hown4, k4⟩
  have RN4 := Lib.hid (rowN_of hown4 (idxL_len Q n))
  have K4 := Lib.hid (HK.out.trans k4)
  have RF4 := Lib.hid (HS.out.keeps k4).rf
  rw [← hN.out]
  clear hown4 k4 HM
  have C0 : Hid (CSt w4 n (fun _ => false) (fun _ => false) ((w4.alloc (.cells (flagsA n (fun _ => false)) 4)).alloc (.cells (flagsA n (fun _ => false)) 4))) := Lib.hid ⟨((Keeps.refl _ _).alloc _).alloc _, has_alloc (has_new _ _) _, has_new' _ _ (by simp)⟩
  -- what is known of a marked number
  have mk : Hid (∀ i, i < N → SL.ixN Q n i < n ∧ Q (SL.ixN Q n i) = true ∧ T (SL.ixN Q n i) = true ∧ (idxL Q n).take (i + 1) = (idxL Q n).take i ++ [SL.ixN Q n i] ∧ SL.ixN Q n i ∉ (idxL Q n).take i) := Lib.hid fun i hi => by
    rw [hN.out] at hi
    obtain ⟨y1, y2, y3⟩ := SL.ixN_is Q n i hi
    exact ⟨y1, y2, ((HQ.out _).1 y2).lt.2, take_ix hi, ix_notin Q n i hi⟩
  have mc : Hid (∀ i W, i < N → Keeps [] w4 W → ∃ b off, a4 = some ⟨b, off, none⟩ ∧ W.cell? ⟨b, off + i, none⟩ = some (.int .i64 (SL.ixN Q n i : Int))) := Lib.hid fun i W hi hk => by
    obtain ⟨b, off, h1, h2⟩ := RN4.out i (by rw [idxL_len, ← hN.out]; exact hi)
    exact ⟨b, off, h1, hk.cell h2 (by simp)⟩
  go_wp2_with fail
  go_loopw [13] (fun i wr => ∃ k : Nat, k ≤ N ∧ i = .int .i64 k ∧ CSt w4 n (fun j => decide (j ∈ (idxL Q n).take k)) (fun _ => false) wr) (fun i _ => N - (intOf i).toNat)
  case atStart => exact ⟨0, by omega, rfl, C0.out.congrI (fun i _ => by simp)⟩
  case round =>
    clear C0
    obtain ⟨k, hk, rfl, hC⟩ := hrel
    have k0 : (0 : Int) ≤ (k : Int) := by omega
    have HC := Lib.hid hC
    clear hC
    by_cases hlt : k < N
    · have hlt' : (k : Int) < (N : Int) := by omega
      obtain ⟨y1, y2, y3, y4, y5⟩ := mk.out k hlt
      obtain ⟨b, off, rfl, c1⟩ := mc.out k wr hlt HC.out.kp
      have rf1 := Lib.hid (RF4.out.keeps HC.out.kp (by simp))
      have c2 := cell_has HC.out.ib (flagsA_get y1)
      have f2 := free_of_has HC.out.ib (SL.ixN Q n k)
      rw [show decide (SL.ixN Q n k ∈ (idxL Q n).take k) = false from decide_eq_false y5] at c2
      have nb : Hid (∀ W, Keeps [] wr W → RefS wb w.heap.size R n U T W) := Lib.hid fun W hk => rf1.out.keeps hk (by simp)
      obtain ⟨y, hy⟩ := ex_hid (SL.ixN Q n k)
      have hprev : ∀ p, k = p + 1 → ∃ z : Nat, wr.cell? ⟨b, off + p, none⟩ = some (.int .i64 (z : Int)) ∧ z < y := fun p hp => by
        obtain ⟨b', off', e1, e2⟩ := mc.out p wr (by omega) HC.out.kp
        simp at e1
        obtain ⟨rfl, rfl⟩ := e1
        refine ⟨_, e2, ?_⟩
        have hpw := idxL_pw Q n
        rw [← List.take_append_drop k (idxL Q n)] at hpw
        have h3 := (List.pairwise_append.1 hpw).2.2 (SL.ixN Q n p) (by rw [hp, take_ix (by rw [← hN.out]; omega)]; simp) (SL.ixN Q n k) (by rw [drop_ix (by rw [← hN.out]; omega)]; simp)
        rw [hy.out]; exact h3
      rw [← hy.out] at c1 c2 f2 y1 y3
      have hB : Hid (isB n T (y : Int) = true) := Lib.hid (by simp [isB, y3]; exact y1)
      have iy0 : (0 : Int) ≤ (y : Int) := by omega
      have iy1 : (y : Int) < (n : Int) := by omega
      have iy2 : decide ((n : Int) ≤ (y : Int)) = false := by simp; omega
      have iy3 : decide ((y : Int) < 0) = false := by simp
      have Y4 := Lib.hid y4
      clear y2 y3 y4 y5
      have C1 : Hid (∀ W, Keeps [] wr W → CSt w4 n (fun j => decide (j ∈ (idxL Q n).take (k + 1))) (fun _ => false) (W.setCell ⟨w4.heap.size, y, none⟩ (.bool true))) := Lib.hid fun W hk => ((HC.out.keeps hk).putI y true).congrI (fun j _ => by
        rw [Y4.out, ← hy.out]
        unfold putB
        by_cases e : j = y
        · subst e; simp
        · rw [if_neg e]; simp [e])
      by_cases h0 : 0 < k
      · obtain ⟨p, hp⟩ := ex_hid (k - 1)
        obtain ⟨z, c3, hzy⟩ := hprev p (by have := hp.out; omega)
        have e5 : IntKind.i64.wrap ((k : Int) - 1) = (p : Int) := by rw [show (k : Int) - 1 = p by have := hp.out; omega]; exact IntWalk.i64_in _ (by have := hp.out; omega)
        have p0 : (0 : Int) ≤ (p : Int) := by omega
        have p1 : (p : Int) < (N : Int) := by have := hp.out; omega
        have e6 : decide ((y : Int) ≤ (z : Int)) = false := by simp; omega
        have e7 : decide ((0 : Int) < (k : Int)) = true := by simp; omega
        have hzy2 : decide (y ≤ z) = false := by simp; omega
        clear hprev
        go_wp2_with fail
        refine wp_region_quiet_lit (by kernel_rfl) (by kernel_rfl) ?_
        iterate 48 (first | go_big_quiet_step ((go_at_call 35; exact Calls.quiet_of_same (refIs_still wb w.heap.size R n U T (y : Int) true hB.out _ rf1.out))) | quiet_step ((go_at_call 35; exact Calls.quiet_of_same (refIs_still wb w.heap.size R n U T (y : Int) true hB.out _ rf1.out))))
        refine wpQuiet_nil ?_
        intro _ hw'
        obtain ⟨nq, hw''⟩ := hw'
        subst hw''
        clear e5
        go_wp2_with fail
        go_roundw
        case rel => exact ⟨k + 1, by omega, by go_num, C1.out _ ((Keeps.refl [] wr).drewN _)⟩
        case measure => simp [intOf]; omega
      · have e7 : decide ((0 : Int) < (k : Int)) = false := by simp; omega
        clear hprev
        go_wp2_with fail
        refine wp_region_quiet_lit (by kernel_rfl) (by kernel_rfl) ?_
        iterate 48 (first | go_big_quiet_step ((go_at_call 35; exact Calls.quiet_of_same (refIs_still wb w.heap.size R n U T (y : Int) true hB.out _ rf1.out))) | quiet_step ((go_at_call 35; exact Calls.quiet_of_same (refIs_still wb w.heap.size R n U T (y : Int) true hB.out _ rf1.out))))
        refine wpQuiet_nil ?_
        intro _ hw'
        obtain ⟨nq, hw''⟩ := hw'
        subst hw''
        go_wp2_with fail
        go_roundw
        case rel => exact ⟨k + 1, by omega, by go_num, C1.out _ ((Keeps.refl [] wr).drewN _)⟩
        case measure => simp [intOf]; omega
    · have hkN : k = N := by omega
      subst hkN
      have hge : ¬ (k : Int) < (k : Int) := by omega
      have CQ : Hid (CSt w4 n Q (fun _ => false) wr) := Lib.hid (HC.out.congrI (fun j hj => by
        rw [List.take_of_length_le (by rw [idxL_len, ← hN.out]; omega), Bool.eq_iff_iff]
        simp [SL.idxL_mem, hj]))
      clear HC
      go_wp2_with fail
      go_loopw [14] (fun i wr => ∃ (q : Nat) (L : Nat → Bool), q ≤ rn ∧ i = .int .i64 q ∧ LInv n T Q ((listOf rn F3).take q) L ∧ CSt w4 n Q L wr) (fun i _ => rn - (intOf i).toNat)
      case atStart => exact ⟨0, _, by omega, rfl, ⟨fun i hi => by simp at hi, fun x hx => by simp at hx⟩, CQ.out⟩
      case round =>
        clear CQ
        obtain ⟨q, L, hq, rfl, hI, hC⟩ := hrel
        have q0 : (0 : Int) ≤ (q : Int) := by omega
        have HI := Lib.hid hI
        have HC := Lib.hid hC
        clear hI hC
        by_cases hlt2 : q < rn
        · have hlt2' : (q : Int) < (rn : Int) := by omega
          obtain ⟨b, off, rfl, c0⟩ := HR.out q hlt2
          have c1 := HC.out.kp.cell (K4.out.cell c0 (by simp)) (by simp)
          have rf1 := Lib.hid (RF4.out.keeps HC.out.kp (by simp))
          have HTK := Lib.hid (take_snoc (l := listOf rn F3) (k := q) (by rw [listOf_len]; exact hlt2))
          rw [listOf_get hlt2] at HTK
          have hmem : Hid (F3 q ∈ listOf rn F3) := Lib.hid (by simp [listOf]; exact ⟨q, hlt2, rfl⟩)
          obtain ⟨x, hx⟩ := ex_hid (F3 q)
          rw [← hx.out] at c1 HTK hmem
          clear c0
          by_cases hB : isB n T x = true
          · have hb := isB_lt hB
            obtain ⟨y, hy⟩ := Int.eq_ofNat_of_zero_le hb.1
            subst hy
            have HB := Lib.hid hB
            have hym : y < n := by omega
            have y0 : (0 : Int) ≤ (y : Int) := by omega
            have y1 : (y : Int) < (n : Int) := by omega
            have hQy : Hid (Q y = true) := Lib.hid ((HQ.out _).2 (.root hmem.out hB))
            have c2 := cell_has HC.out.ib (flagsA_get hym)
            rw [hQy.out] at c2
            have c3 := cell_has HC.out.lb (flagsA_get hym)
            have f3 := free_of_has HC.out.lb y
            obtain ⟨z, hz⟩ := ex_hid (L y)
            rw [← hz.out] at c3
            clear hb hB
            go_wp2_with fail
            refine (refIs_still _ _ _ _ _ _ _ true HB.out _ rf1.out).mono ?_
            rintro e w5 ⟨rfl, hw5⟩
            obtain rfl := hw5
            go_wp2_with fail
            go_roundw
            case rel => exact ⟨q + 1, putB L y true, by omega, by go_num, by rw [HTK.out]; exact (HI.out.put hQy.out).snoc _ (fun _ => by simp [putB]), HC.out.putL y true⟩
            case measure => simp [intOf]; omega
          · have hB' : isB n T x = false := by simpa using hB
            have HB := Lib.hid hB'
            clear hB hB'
            go_wp2_with fail
            refine (refIs_still _ _ _ _ _ _ _ false HB.out _ rf1.out).mono ?_
            rintro e w5 ⟨rfl, hw5⟩
            obtain rfl := hw5
            go_wp2_with fail
            go_roundw
            case rel => exact ⟨q + 1, L, by omega, by go_num, by rw [HTK.out]; exact HI.out.snoc _ (fun h => by rw [HB.out] at h; simp at h), HC.out⟩
            case measure => simp [intOf]; omega
        · have hqN : q = rn := by omega
          subst hqN
          have hge2 : ¬ (q : Int) < (q : Int) := by omega
          have HI2 : Hid (LInv n T Q (listOf q F3) L) := Lib.hid (by have := HI.out; rwa [List.take_of_length_le (by rw [listOf_len]; omega)] at this)
          clear HI
          go_wp2_with fail
          go_loopw [15] (fun i wr => ∃ (t : Nat) (L : Nat → Bool), t ≤ k ∧ i = .int .i64 t ∧ LInv n T Q (listOf q F3) L ∧ Turn n Q L t ∧ CSt w4 n Q L wr) (fun i _ => k - (intOf i).toNat)
          case atStart => exact ⟨0, L, by omega, rfl, HI2.out, Turn.start HQ.out HI2.out, HC.out⟩
          case round =>
            clear HI2 HC
            obtain ⟨t, L, ht, rfl, hI, hT, hC⟩ := hrel
            have t0 : (0 : Int) ≤ (t : Int) := by omega
            have HI := Lib.hid hI
            have HT := Lib.hid hT
            have HC := Lib.hid hC
            clear hI hC hT
            by_cases hlt3 : t < k
            · have hlt3' : (t : Int) < (k : Int) := by omega
              obtain ⟨wo, rfl⟩ : ∃ wo : World, wo = wr := ⟨_, rfl⟩
              go_wp2_with fail
              go_loopw [16] (fun i wr => ∃ (p : Nat) (L2 : Nat → Bool), p ≤ k ∧ i = .int .i64 p ∧ LInv n T Q (listOf q F3) L2 ∧ LPass n T LL (idxL Q n) L L2 p [] ∧ CSt w4 n Q L2 wr) (fun i _ => k - (intOf i).toNat)
              case atStart => exact ⟨0, L, by omega, rfl, HI.out, LPass.start, HC.out⟩
              case round =>
                obtain ⟨p, L2, hp, rfl, hI2, hP2, hC2⟩ := hrel
                have p0 : (0 : Int) ≤ (p : Int) := by omega
                have HI2 := Lib.hid hI2
                have HP2 := Lib.hid hP2
                have HC2 := Lib.hid hC2
                clear hI2 hP2 hC2
                by_cases hlt4 : p < k
                · have hlt4' : (p : Int) < (k : Int) := by omega
                  obtain ⟨y1, y2, y3, y4, y5⟩ := mk.out p hlt4
                  obtain ⟨b, off, rfl, c1⟩ := mc.out p wr hlt4 HC2.out.kp
                  obtain ⟨lb, loff, ra2, rc2, rfl, g1, g2, g3, g4⟩ := HL.out (SL.ixN Q n p) y1
                  have g1' := HC2.out.kp.cell (K4.out.cell g1 (by simp)) (by simp)
                  have G4 := Lib.hid g4
                  have G2 := Lib.hid g2
                  have l60 := HLL.out (SL.ixN Q n p) y1
                  obtain ⟨y, hy⟩ := ex_hid (SL.ixN Q n p)
                  rw [← hy.out] at c1 g1' y1 y2 y4 l60 G4 G2
                  have Y2 := Lib.hid y2
                  have Y4 := Lib.hid y4
                  have hQr := Lib.hid ((HQ.out y).1 y2)
                  obtain ⟨M, hM⟩ := ex_hid (LL y).length
                  have hM60 : (M : Int) ≤ 60 := by have := hM.out; omega
                  rw [← hM.out] at g1'
                  have iy0 : (0 : Int) ≤ (y : Int) := by omega
                  have iy1 : (y : Int) < (n : Int) := by omega
                  have c2 := cell_has HC2.out.lb (flagsA_get y1)
                  clear g1 g2 g3 g4 y2 y3 y4 y5 l60
                  obtain ⟨wp, rfl⟩ : ∃ wp : World, wp = wr := ⟨_, rfl⟩
                  by_cases hLy : L2 y = true
                  · have HLY := Lib.hid hLy
                    rw [hLy] at c2
                    clear hLy
                    go_wp2_with fail
                    go_loopw [17] (fun i wr => ∃ (d : Nat) (L3 : Nat → Bool), d ≤ M ∧ i = .int .i64 d ∧ LInv n T Q (listOf q F3) L3 ∧ LPass n T LL (idxL Q n) L L3 p ((LL y).take d) ∧ L3 y = true ∧ CSt w4 n Q L3 wr) (fun i _ => M - (intOf i).toNat)
                    case atStart => exact ⟨0, L2, by omega, rfl, HI2.out, by simpa using HP2.out, HLY.out, HC2.out⟩
                    case round =>
                      clear c1 c2 g1'
                      obtain ⟨d, L3, hd, rfl, hI3, hP3, hL3, hC3⟩ := hrel
                      have d0 : (0 : Int) ≤ (d : Int) := by omega
                      have HI3 := Lib.hid hI3
                      have HP3 := Lib.hid hP3
                      have HC3 := Lib.hid hC3
                      have HL3 := Lib.hid hL3
                      obtain ⟨b', off', e1, c1⟩ := mc.out p wr hlt4 hC3.kp
                      simp at e1
                      obtain ⟨rfl, rfl⟩ := e1
                      rw [← hy.out] at c1
                      obtain ⟨lb', loff', ra3, rc3, e2, g1, g2, -⟩ := HL.out y y1
                      simp at e2
                      obtain ⟨rfl, rfl⟩ := e2
                      rw [G2.out] at g2
                      simp at g2
                      obtain ⟨rfl, rfl⟩ := g2
                      have g1' := hC3.kp.cell (K4.out.cell g1 (by simp)) (by simp)
                      rw [← hM.out] at g1'
                      have c2 := cell_has hC3.lb (flagsA_get y1)
                      rw [hL3] at c2
                      have rf1 := Lib.hid (RF4.out.keeps hC3.kp (by simp))
                      clear hI3 hP3 hC3 hL3 g1
                      by_cases hlt5 : d < M
                      · have hlt5' : (d : Int) < (M : Int) := by omega
                        have hdl : d < (LL y).length := by have := hM.out; omega
                        obtain ⟨a9, c9, e9, h9⟩ := G4.out
                        rw [G2.out] at e9
                        simp at e9
                        obtain ⟨rfl, rfl⟩ := e9
                        obtain ⟨vb, voff, rfl, v0⟩ := h9 d hdl
                        have v1 := HC3.out.kp.cell (K4.out.cell v0 (by simp)) (by simp)
                        have HTK := Lib.hid (take_snoc hdl)
                        have hmem : Hid ((LL y).getD d 0 ∈ LL y) := Lib.hid (by simp [List.getD_eq_getElem?_getD, hdl])
                        obtain ⟨x, hx⟩ := ex_hid ((LL y).getD d 0)
                        rw [← hx.out] at v1 HTK hmem
                        clear h9 v0
                        by_cases hB : isB n T x = true
                        · have hb := isB_lt hB
                          obtain ⟨z, hz⟩ := Int.eq_ofNat_of_zero_le hb.1
                          subst hz
                          have HB := Lib.hid hB
                          have hzm : z < n := by omega
                          have z0 : (0 : Int) ≤ (z : Int) := by omega
                          have z1 : (z : Int) < (n : Int) := by omega
                          have hQz : Hid (Q z = true) := Lib.hid ((HQ.out _).2 (.step hQr.out hmem.out hB))
                          have c3 := cell_has HC3.out.ib (flagsA_get hzm)
                          rw [hQz.out] at c3
                          have c4 := cell_has HC3.out.lb (flagsA_get hzm)
                          have f4 := free_of_has HC3.out.lb z
                          have P4 : Hid (LPass n T LL (idxL Q n) L (putB L3 z true) p ((LL y).take (d + 1))) := Lib.hid (by
                            by_cases hlz : L3 z = true
                            · rw [putB_same hlz, HTK.out]; exact HP3.out.skip _ (fun _ => hlz)
                            · exact HP3.out.hit (z : Int) hB (by simpa using hlz) _)
                          have L4 : Hid (putB L3 z true y = true) := Lib.hid (by unfold putB; split <;> first | rfl | exact HL3.out)
                          obtain ⟨u, hu⟩ := ex_hid (L3 z)
                          rw [← hu.out] at c4
                          clear hb hB
                          go_wp2_with fail
                          refine (refIs_still _ _ _ _ _ _ _ true HB.out _ rf1.out).mono ?_
                          rintro e w5 ⟨rfl, hw5⟩
                          obtain rfl := hw5
                          go_wp2_with fail
                          go_roundw
                          case rel => exact ⟨d + 1, putB L3 z true, by omega, by go_num, HI3.out.put hQz.out, P4.out, L4.out, HC3.out.putL z true⟩
                          case measure => simp [intOf]; omega
                        · have hB' : isB n T x = false := by simpa using hB
                          have HB := Lib.hid hB'
                          clear hB hB'
                          go_wp2_with fail
                          refine (refIs_still _ _ _ _ _ _ _ false HB.out _ rf1.out).mono ?_
                          rintro e w5 ⟨rfl, hw5⟩
                          obtain rfl := hw5
                          go_wp2_with fail
                          go_roundw
                          case rel => exact ⟨d + 1, L3, by omega, by go_num, HI3.out, by rw [HTK.out]; exact HP3.out.skip _ (fun h => by rw [HB.out] at h; simp at h), HL3.out, HC3.out⟩
                          case measure => simp [intOf]; omega
                      · have hdM : d = M := by omega
                        subst hdM
                        have hge5 : ¬ (d : Int) < (d : Int) := by omega
                        have P5 : Hid (LPass n T LL (idxL Q n) L L3 (p + 1) []) := Lib.hid (LPass.row (y := y) (by have := HP3.out; rwa [hM.out, List.take_of_length_le (Nat.le_refl _)] at this) Y4.out)
                        go_wp2_with fail
                        go_roundw
                        case rel => exact ⟨p + 1, L3, by omega, by go_num, HI3.out, P5.out, HC3.out⟩
                        case measure => simp [intOf]; omega
                  · have hLf : L2 y = false := by simpa using hLy
                    have P5 : Hid (LPass n T LL (idxL Q n) L L2 (p + 1) []) := Lib.hid (HP2.out.norow hLf Y4.out)
                    rw [hLf] at c2
                    clear hLy hLf
                    go_wp2_with fail
                    go_loopw [17] (fun i wr => i = .int .i64 0 ∧ wp = wr) (fun _ _ => 0)
                    case atStart => exact ⟨rfl, rfl⟩
                    case round =>
                      obtain ⟨rfl, rfl⟩ := hrel
                      go_wp2_with fail
                      go_roundw
                      case rel => exact ⟨p + 1, L2, by omega, by go_num, HI2.out, P5.out, HC2.out⟩
                      case measure => simp [intOf]; omega
                · have hpk : p = k := by omega
                  subst hpk
                  have hge4 : ¬ (p : Int) < (p : Int) := by omega
                  have T5 : Hid (Turn n Q L2 (t + 1)) := Lib.hid (Turn.step HQ.out HI.out HI2.out HT.out (by rw [← hN.out]; exact Nat.le_refl _) HP2.out)
                  go_wp2_with fail
                  go_roundw
                  case rel => exact ⟨t + 1, L2, by omega, by go_num, HI2.out, T5.out, HC2.out⟩
                  case measure => simp [intOf]; omega
            · have htk : t = k := by omega
              subst htk
              have hge3 : ¬ (t : Int) < (t : Int) := by omega
              have FIN : Hid (∀ i, i < n → Q i = true → L i = true) := Lib.hid (HT.out.done (by rw [← hN.out]; exact Nat.le_refl _) HI.out.sub)
              obtain ⟨wo, rfl⟩ : ∃ wo : World, wo = wr := ⟨_, rfl⟩
              go_wp2_with fail
              go_loopw [19] (fun i wr => ∃ p : Nat, p ≤ t ∧ i = .int .i64 p ∧ wo = wr) (fun i _ => t - (intOf i).toNat)
              case atStart => exact ⟨0, by omega, rfl, rfl⟩
              case round =>
                obtain ⟨p, hp, rfl, rfl⟩ := hrel
                have p0 : (0 : Int) ≤ (p : Int) := by omega
                by_cases hlt4 : p < t
                · have hlt4' : (p : Int) < (t : Int) := by omega
                  obtain ⟨y1, y2, y3, y4, y5⟩ := mk.out p hlt4
                  obtain ⟨b, off, rfl, c1⟩ := mc.out p wo hlt4 HC.out.kp
                  have c2 := cell_has HC.out.lb (flagsA_get y1)
                  rw [FIN.out _ y1 y2] at c2
                  obtain ⟨y, hy⟩ := ex_hid (SL.ixN Q n p)
                  rw [← hy.out] at c1 c2 y1
                  have iy0 : (0 : Int) ≤ (y : Int) := by omega
                  have iy1 : (y : Int) < (n : Int) := by omega
                  clear y2 y3 y4 y5
                  go_wp2_with fail
                  go_roundw
                  case rel => exact ⟨p + 1, by omega, by go_num, by first | rfl | trivial⟩
                  case measure => simp [intOf]; omega
                · have hpt : p = t := by omega
                  subst hpt
                  have hge4 : ¬ (p : Int) < (p : Int) := by omega
                  have K9 := Lib.hid (K4.out.trans HC.out.kp)
                  go_wp2_with fail
                  refine (awake12 _).mono ?_
                  rintro e w9 ⟨rfl, k9⟩
                  have K10 := Lib.hid (K9.out.trans k9)
                  clear k9
                  go_wp2_with fail
                  go_ret
                  exact ⟨rfl, K10.out⟩

theorem sweepCloses_walk (la : Option Addr) (n lc : Nat) (V0 : Nat → Value) (LL : Nat → List Int) (fa : Option Addr) (n2 fc : Nat) (F2 : Nat → Int) (ra : Option Addr) (rn rc : Nat) (F3 : Nat → Int) (w : World) (hl : RowsAt w la n V0 LL) (hf : IntRow .i64 1 w fa n2 F2) (hr : IntRow .i64 1 w ra rn F3) :
    Calls Try.prog 9 #[.slice la n lc, .slice fa n2 fc, .slice ra rn rc] w fun e w' => e = .returned (.bool true) ∧ Below w.heap.size w w' := by
  have key : Calls Try.prog 9 #[.slice la n lc, .slice fa n2 fc, .slice ra rn rc] w fun e w' => e = .returned (.bool true) ∧ Keeps [] w w' := by
    by_cases h : tooLarge n rn LL
    · exact sweepCloses_early la fa ra n lc n2 fc rn rc V0 LL w hl h
    · exact sweepCloses_main la fa ra n lc n2 fc rn rc V0 LL F2 F3 w hl h (intAt_of hf) (intAt_of hr)
  exact key.mono fun e w' ⟨he, hk⟩ => ⟨he, hk.below (Nat.le_refl _) (by simp)⟩
end Go.Proofs.Ytompihlckpjbkaa
