/- SweepNothing, walked (chapter 12). -/
import Derived.Test.YtompihlckpjbkaaSweepNil
namespace Go.Proofs.Ytompihlckpjbkaa
open Go.RowKit
set_option linter.unusedVariables false

theorem sweepNothing_early (la ra : Option Addr) (n lc rn rc : Nat) (V0 : Nat → Value) (LL : Nat → List Int) (w : World) (hl : RowsAt w la n V0 LL) (h : tooLarge n rn LL) :
    Calls Try.prog 10 #[.slice la n lc, .slice ra rn rc] w fun e w' => e = .returned (.bool true) ∧ Keeps [] w w' := by
  have HL := Lib.hid hl
  have HH := Lib.hid h
  clear hl h
  go_enter Try.func10, Try.ntmps10
  go_wp2_with fail
  refine (large_yes la n lc V0 LL ra rn rc _ HL.out HH.out).mono ?_
  rintro e w1 ⟨rfl, rfl⟩
  go_wp2_with fail
  refine (awake12 _).mono ?_
  rintro e w2 ⟨rfl, k2⟩
  go_wp2_with fail
  go_ret
  exact ⟨rfl, k2⟩

set_option maxRecDepth 100000 in
set_option maxHeartbeats 4000000 in
theorem sweepNothing_main (la ra : Option Addr) (n lc rn rc : Nat) (V0 : Nat → Value) (LL : Nat → List Int) (F3 : Nat → Int) (w : World) (hl : RowsAt w la n V0 LL) (h : ¬ tooLarge n rn LL) (hr : IntAt w ra rn F3) :
    Calls Try.prog 10 #[.slice la n lc, .slice ra rn rc] w fun e w' => e = .returned (.bool true) ∧ Keeps [] w w' := by
  obtain ⟨hn, hrn, hLL⟩ := not_large h
  have HL := Lib.hid hl
  have HLL := Lib.hid hLL
  have HR := Lib.hid hr
  have hN1 := mark_nil (.func (.func 28) #[] #[]) (listOf rn F3) ra rc w (by rw [listOf_len]; exact hr.rowL) (by rw [listOf_len]; omega)
  rw [listOf_len] at hN1
  have HN1 := Lib.hid hN1
  clear hl h hr hLL hN1
  go_enter Try.func10, Try.ntmps10
  go_wp2_with fail
  refine (large_no la n lc V0 LL ra rn rc _ HL.out hn hrn HLL.out).mono ?_
  rintro e w0 ⟨rfl, rfl⟩
  go_wp2_with fail
  refine HN1.out.mono ?_
  rintro e w1 ⟨rfl, k1⟩
  have hN2 := sweep_nil (.func (.func 28) #[] #[]) (listOf rn F3) ra rc w1 (by rw [listOf_len]; exact (HR.out.keeps k1).rowL) (by rw [listOf_len]; omega)
  rw [listOf_len] at hN2
  have HN2 := Lib.hid hN2
  have K1 := Lib.hid k1
  clear hN2 k1 HN1
  go_wp2_with fail
  refine HN2.out.mono ?_
  rintro e w2 ⟨rfl, k2⟩
  have K2 := Lib.hid (K1.out.trans k2)
  clear k2 HN2
  go_wp2_with fail
  refine (laid_any la n lc V0 LL none 0 0 (fun _ => 0) _ (HL.out.keeps K2.out) hn HLL.out (fun i hi => by omega)).mono ?_
  rintro e w3 ⟨sb, wb, S, R, V, U, T, rfl, hS, hK, -⟩
  obtain ⟨Q, hQ⟩ := rch_ex n T (fun _ => []) (listOf rn F3)
  have HQ := Lib.hid hQ
  have HS := Lib.hid hS
  have K3 := Lib.hid (K2.out.trans hK)
  have hM := mark_any .nilFunc (fun _ => []) LL (.inr ⟨rfl, rfl⟩) sb _ n S V T (listOf rn F3) ra rc Q hQ w3 hS.st hn hS.lv.at (by rw [listOf_len]; exact (HR.out.keeps K3.out).rowL) (by rw [listOf_len]; omega)
  rw [listOf_len] at hM
  have HM := Lib.hid hM
  obtain ⟨N, hN⟩ := ex_hid (cntT Q n)
  have hN2 : (N : Int) ≤ 9223372036854775806 := by have := cntT_le Q n; have := hN.out; omega
  clear hQ hS hK hM
  go_wp2_with fail
  refine HM.out.mono ?_
  rintro e w4 ⟨a4, cap4, rfl, hown4, k4⟩
  have RN4 := Lib.hid (rowN_of hown4 (idxL_len Q n))
  have K4 := Lib.hid (K3.out.trans k4)
  have SW4 := Lib.hid (HS.out.keeps k4)
  have OW4 := Lib.hid hown4
  have fR : Hid (∀ x, x ∈ R → w2.heap.size ≤ x ∧ x < w3.heap.size) := Lib.hid (fun x hx => HS.out.rf.foot x hx)
  have z2 := K2.out.size
  have z4 := k4.size
  have hn' : (n : Int) ≤ 200 := by omega
  rw [← hN.out]
  clear hown4 k4 HM
  go_wp2_with fail
  go_loopw [10] (fun i wr => ∃ (k : Nat) (U' : Nat → Value), k ≤ n ∧ i = .int .i64 k ∧ RefS wb w2.heap.size R n U' T wr ∧ (∀ j, j < k → U' j = .slice none 0 0) ∧ Keeps R w4 wr) (fun i _ => n - (intOf i).toNat)
  case atStart => exact ⟨0, U, by omega, rfl, SW4.out.rf, fun j hj => by omega, Keeps.refl _ _⟩
  case round =>
    obtain ⟨k, U', hk, rfl, hrf, hU, hkp⟩ := hrel
    have k0 : (0 : Int) ≤ (k : Int) := by omega
    have HRF := Lib.hid hrf
    have HU := Lib.hid hU
    have HKP := Lib.hid hkp
    obtain ⟨La, Lc, Ta, Tc, h1, h2, h3, h4, hSR⟩ := hrf
    have c0 := cell_has h1 (i := 0) rfl
    by_cases hlt : k < n
    · have hlt' : (k : Int) < (n : Int) := by omega
      clear c0 h1 h2 h3 h4 hSR
      obtain ⟨g, q, Lc, Tc, h1, h2, h3, h4, hSR, n1, n2, n3⟩ := HRF.out.apart (by omega)
      have c0 := cell_has h1 (i := 0) rfl
      have c1 := h2.cell hlt
      have f1 := h2.free k
      obtain ⟨y, hy⟩ := ex_hid (U' k)
      rw [← hy.out] at c1
      have Z := Lib.hid (And.intro h1 (And.intro h2 (And.intro h3 (And.intro h4 (And.intro hSR (And.intro n1 (And.intro n2 n3)))))))
      clear hU hkp h1 h2 h3 h4 hSR n1 n2 n3
      go_wp2_with fail
      obtain ⟨h1, h2, h3, h4, hSR, n1, n2, n3⟩ := Z.out
      have kz : Keeps [g] wr (wr.setCell ⟨g, k, none⟩ (.slice none 0 0)) := (Keeps.refl _ _).setCell (.inr (by simp)) _
      have rf2 : Hid (RefS wb w2.heap.size R n (putV U' k (.slice none 0 0)) T (wr.setCell ⟨g, k, none⟩ (.slice none 0 0))) := Lib.hid
        ⟨_, Lc, _, Tc, kz.has h1 (by simpa using n1), h2.put k _, h3.keeps kz (by intro x hx; simp [blk] at hx; subst hx; simpa using fun e => n3 e.symm), h4, by rw [hSR]; rfl⟩
      have kz2 : Hid (Keeps R w4 (wr.setCell ⟨g, k, none⟩ (.slice none 0 0))) := Lib.hid (HKP.out.trans (kz.mono (by intro x hx; simp at hx; subst hx; rw [hSR]; simp)))
      clear h1 h2 h3 h4 hSR n1 n2 n3 kz
      go_roundw
      case rel => exact ⟨k + 1, _, by omega, by go_num, rf2.out, fun j hj => by
        unfold putV
        by_cases e : j = k
        · rw [if_pos e]
        · rw [if_neg e]; exact HU.out j (by omega), kz2.out⟩
      case measure => simp [intOf]; omega
    · obtain rfl : k = n := by omega
      have hge : ¬ (k : Int) < (k : Int) := by omega
      have hro : RowL wr (.slice ra (listOf rn F3).length rc) (listOf rn F3) := by
        rw [listOf_len]
        refine IntAt.rowL (fun q hq => ?_)
        obtain ⟨b, off, e1, e2⟩ := HR.out q hq
        refine ⟨b, off, e1, hkp.cell (K4.out.cell e2 (by simp)) (fun hx => ?_)⟩
        have := (fR.out b hx).1
        have := World.block_lt_of_cell? _ _ e2
        simp at this; omega
      have hM5 := refMark_any (fun _ => []) wb _ k R U' T (listOf rn F3) ra rc Q HQ.out wr HRF.out hn (fun i hi ht => ⟨by rw [hU i hi]; exact RowL.nil _, by simp⟩) hro (by rw [listOf_len]; omega)
      rw [listOf_len] at hM5
      have HM5 := Lib.hid hM5
      have RN5 := Lib.hid (rowN_of (own_keeps' OW4.out hkp (fun x hx hy => by have := (OW4.out.lt x hx).1; have := (fR.out x hy).2; omega)) (idxL_len Q k))
      have K5 := Lib.hid (K4.out.then hkp (fun x hx => .inl (by have := (fR.out x hx).1; omega)))
      clear hU hkp h1 h2 h3 h4 hSR hro hM5
      go_wp2_with fail
      refine HM5.out.mono ?_
      rintro e w6 ⟨a6, cap6, rfl, hown6, k6⟩
      have RN6 := Lib.hid (rowN_of hown6 (idxL_len Q k))
      have RN56 := Lib.hid (RN5.out.keeps k6)
      have K6 := Lib.hid (K5.out.trans k6)
      rw [← hN.out]
      clear hown6 k6
      go_wp2_with fail
      refine (same_eq _ a4 a6 N cap4 cap6 _ (RN56.out.reads (by rw [idxL_len]; exact hN.out)) (RN6.out.reads (by rw [idxL_len]; exact hN.out)) hN2).mono ?_
      rintro e w7 ⟨rfl, hb7⟩
      have K7 := Lib.hid (K6.out.trans (Below.keeps hb7 []))
      clear hb7
      go_wp2_with fail
      refine (awake12 _).mono ?_
      rintro e w8 ⟨rfl, k8⟩
      have K8 := Lib.hid (K7.out.trans k8)
      clear k8
      go_wp2_with fail
      go_ret
      exact ⟨rfl, K8.out⟩

theorem sweepNothing_walk (la : Option Addr) (n lc : Nat) (V0 : Nat → Value) (LL : Nat → List Int) (ra : Option Addr) (rn rc : Nat) (F3 : Nat → Int) (w : World) (hl : RowsAt w la n V0 LL) (hr : IntRow .i64 1 w ra rn F3) :
    Calls Try.prog 10 #[.slice la n lc, .slice ra rn rc] w fun e w' => e = .returned (.bool true) ∧ Below w.heap.size w w' := by
  have key : Calls Try.prog 10 #[.slice la n lc, .slice ra rn rc] w fun e w' => e = .returned (.bool true) ∧ Keeps [] w w' := by
    by_cases h : tooLarge n rn LL
    · exact sweepNothing_early la ra n lc rn rc V0 LL w hl h
    · exact sweepNothing_main la ra n lc rn rc V0 LL F3 w hl h (intAt_of hr)
  exact key.mono fun e w' ⟨he, hk⟩ => ⟨he, hk.below (Nat.le_refl _) (by simp)⟩
end Go.Proofs.Ytompihlckpjbkaa
