/- taken and large (chapter 12). -/
import Derived.Test.YtompihlckpjbkaaLaid2
namespace Go.Proofs.Ytompihlckpjbkaa
open Go.RowKit
set_option linter.unusedVariables false
attribute [local go_sem ↓] Go.wp_at_zero Go.wp_at_succ

theorem RowL.reads {w : World} {a : Option Addr} {n c : Nat} {l : List Int} (h : RowL w (.slice a n c) l) : ReadsN w a n (fun k => .int .i64 (l.getD k 0)) := by
  obtain ⟨a', c', e, h2⟩ := h
  simp at e
  obtain ⟨rfl, rfl, rfl⟩ := e
  intro k hk
  obtain ⟨b, off, h3, h4⟩ := h2 k hk
  exact ⟨b, off, h3, h4, _, rfl⟩

set_option maxRecDepth 100000 in
set_option maxHeartbeats 4000000 in
theorem taken_any (sb wb lo : Nat) (S R : List Nat) (m : Nat) (V U : Nat → Value) (T : Nat → Bool) (LL : Nat → List Int) (w : World) (H : SW sb wb lo S R m V U T LL w) (hm : m ≤ 200) :
    Calls Try.prog 31 #[.pointer (some ⟨sb, 0, none⟩), .pointer (some ⟨wb, 0, none⟩)] w fun e w' => e = .returned (.bool true) ∧ Keeps [] w w' := by
  have HH := Lib.hid H
  obtain ⟨N, hN⟩ := ex_hid (cntT T m)
  have hNm : N ≤ 200 := by rw [hN.out]; have := cntT_le T m; omega
  clear H
  go_enter Try.func31, Try.ntmps31
  go_wp2_with fail
  refine (refAll_any _ _ _ m _ T (by omega) _ HH.out.rf).mono ?_
  rintro e w1 ⟨a, cap, rfl, hown, hb1⟩
  have OW := Lib.hid hown
  have K1 := Lib.hid (Below.keeps hb1 [])
  have RN := Lib.hid (rowN_of hown (idxL_len T m))
  have st1 := Lib.hid (HH.out.st.keeps K1.out (by simp))
  clear hown hb1
  go_wp2_with fail
  refine (SL.len_st _ _ _ _ _ _ _ st1.out (by omega)).mono ?_
  rintro e w2 ⟨rfl, k2⟩
  have K2 := Lib.hid (K1.out.trans k2)
  have K12 := Lib.hid k2
  rw [← hN.out]
  clear k2
  go_wp2_with fail
  go_loopw [6] (fun i wr => ∃ k : Nat, k ≤ N ∧ i = .int .i64 k ∧ Keeps [] w2 wr) (fun i _ => N - (intOf i).toNat)
  case atStart => exact ⟨0, by omega, rfl, Keeps.refl _ _⟩
  case round =>
    obtain ⟨k, hk, rfl, hkp⟩ := hrel
    have HK := Lib.hid (K2.out.trans hkp)
    have HK2 := Lib.hid hkp
    have k0 : (0 : Int) ≤ (k : Int) := by omega
    clear hkp
    by_cases hlt : k < N
    · have hlt' : (k : Int) < (N : Int) := by omega
      have hkm : k < cntT T m := by rw [← hN.out]; exact hlt
      obtain ⟨y1, y2, y3⟩ := SL.ixN_is T m k hkm
      obtain ⟨b, off, rfl, hc⟩ := RN.out k (by rw [idxL_len]; exact hkm)
      have hc2 := (K12.out.trans HK2.out).cell hc (by simp)
      rw [show (idxL T m).getD k 0 = SL.ixN T m k from rfl] at hc2
      obtain ⟨y, hy⟩ := ex_hid (SL.ixN T m k)
      rw [← hy.out] at hc2 y1 y2 y3
      have HW := Lib.hid (HH.out.keeps HK.out)
      have hB : Hid (isB m T (y : Int) = true) := Lib.hid (by simp [isB, y2]; exact y1)
      obtain ⟨⟨va, vc, hve, hv2⟩, h60⟩ := HW.out.lv.at y y1 y2
      obtain ⟨⟨ua, uc, hue, hu2⟩, -⟩ := HW.out.lu.at y y1 y2
      have RV : Hid (RowL wr (.slice va (LL y).length vc) (LL y)) := Lib.hid ⟨va, vc, rfl, hv2⟩
      have RU : Hid (RowL wr (.slice ua (LL y).length uc) (LL y)) := Lib.hid ⟨ua, uc, rfl, hu2⟩
      have HVE := Lib.hid hve
      have yi : (y : Int) < (m : Int) := by omega
      have y0 : (0 : Int) ≤ (y : Int) := by omega
      obtain ⟨La, Lc, Ta, Tc, h1, h2, -⟩ := HW.out.rf
      obtain ⟨g, rfl⟩ := h2.shape (by omega)
      have d0 := cell_has h1 (i := 0) rfl
      have d1 := h2.cell y1
      rw [hue] at d1
      obtain ⟨M, hM⟩ := ex_hid (LL y).length
      have hM60 : (M : Int) ≤ 60 := by have := hM.out; omega
      rw [← hM.out] at d1 RV RU
      have DD := Lib.hid (And.intro d0 d1)
      have HC := Lib.hid hc2
      clear hc y3 hve hv2 hue hu2 h1 h2 y2 h60 hkm
      go_wp2_with fail
      refine (SL.get_st_in _ _ _ _ _ _ _ (.slice va M vc) _ HW.out.st hB.out (Lib.hid (by rw [Int.toNat_natCast, HVE.out, hM.out]))).mono ?_
      rintro e w4 ⟨rfl, k4⟩
      have d2 := k4.cell DD.out.1 (by simp)
      have d3 := k4.cell DD.out.2 (by simp)
      have d4 := k4.cell HC.out (by simp)
      have RV4 := Lib.hid (RV.out.keeps k4)
      have RU4 := Lib.hid (RU.out.keeps k4)
      have K4 := Lib.hid (HK2.out.trans k4)
      clear k4 d0 d1 hc2
      go_wp2_with fail
      go_region_held3 (fun w' => w'.cell? ⟨wb, 0, none⟩ = some (.slice (some ⟨g, 0, none⟩) m Lc) ∧ w'.cell? ⟨g, y, none⟩ = some (.slice ua M uc) ∧ w'.cell? ⟨b, off + k, none⟩ = some (.int .i64 (y : Int))) (go_keep) (first | (go_at_call 29; refine (same_eq (fun j => .int .i64 ((LL y).getD j 0)) va ua M vc uc _ ((RV4.out.keeps ((Keeps.refl [] w4).drew)).reads) ((RU4.out.keeps ((Keeps.refl [] w4).drew)).reads) (by omega)).mono ?_; rintro e w5 ⟨rfl, hb5⟩; have k5 := Below.keeps hb5 []; have a1 := k5.cell (w := w4.drew) d2 (by simp); have a2 := k5.cell (w := w4.drew) d3 (by simp); have a3 := k5.cell (w := w4.drew) d4 (by simp); have K5 := Lib.hid k5.undrew; clear k5 hb5))
      go_wp2_with fail
      go_roundw
      case rel => exact ⟨k + 1, by omega, by go_num, K4.out.trans K5.out⟩
      case measure => simp [intOf]; omega
    · obtain rfl : k = N := by omega
      have hge : ¬ (k : Int) < (k : Int) := by omega
      go_wp2_with fail
      go_ret
      exact ⟨rfl, HK.out⟩

/-- Small enough to be looked at. -/
theorem large_no (la : Option Addr) (n lc : Nat) (V0 : Nat → Value) (LL : Nat → List Int) (ra : Option Addr) (rn rc : Nat) (w : World) (hl : RowsAt w la n V0 LL) (hn : n ≤ 200) (hr : rn ≤ 200) (hL : ∀ i, i < n → (LL i).length ≤ 60) :
    Calls Try.prog 24 #[.slice la n lc, .slice ra rn rc] w fun e w' => e = .returned (.bool false) ∧ w = w' := by
  have HL := Lib.hid hl
  have HLL := Lib.hid hL
  have d1 : decide ((200 : Int) < (n : Int)) = false := by simp; omega
  have d2 : decide ((200 : Int) < (rn : Int)) = false := by simp; omega
  have hn' : (n : Int) ≤ 200 := by omega
  clear hl hL
  go_enter Try.func24, Try.ntmps24
  go_wp2_with fail
  go_loopw [5] (fun i wr => ∃ k : Nat, k ≤ n ∧ i = .int .i64 k ∧ w = wr) (fun i _ => n - (intOf i).toNat)
  case atStart => exact ⟨0, by omega, rfl, rfl⟩
  case round =>
    obtain ⟨k, hk, rfl, rfl⟩ := hrel
    have k0 : (0 : Int) ≤ (k : Int) := by omega
    by_cases hlt : k < n
    · have hlt' : (k : Int) < (n : Int) := by omega
      obtain ⟨b, off, a, c, rfl, g1, g2, g3, g4⟩ := HL.out k hlt
      have l60 := HLL.out k hlt
      obtain ⟨M, hM⟩ := ex_hid (LL k).length
      rw [← hM.out] at l60 g1
      have d3 : decide ((60 : Int) < (M : Int)) = false := by simp; omega
      clear g2 g3 g4
      go_wp2_with fail
      go_roundw
      case rel => exact ⟨k + 1, by omega, by go_num, by first | rfl | trivial⟩
      case measure => simp [intOf]; omega
    · obtain rfl : k = n := by omega
      have hge : ¬ (k : Int) < (k : Int) := by omega
      go_wp2_with fail
      go_ret
      exact ⟨rfl, rfl⟩
/-- Too large. -/
theorem large_yes (la : Option Addr) (n lc : Nat) (V0 : Nat → Value) (LL : Nat → List Int) (ra : Option Addr) (rn rc : Nat) (w : World) (hl : RowsAt w la n V0 LL) (h : 200 < n ∨ (n ≤ 200 ∧ 200 < rn) ∨ (n ≤ 200 ∧ rn ≤ 200 ∧ ∃ i, i < n ∧ 60 < (LL i).length)) :
    Calls Try.prog 24 #[.slice la n lc, .slice ra rn rc] w fun e w' => e = .returned (.bool true) ∧ w = w' := by
  have HL := Lib.hid hl
  clear hl
  rcases h with h | ⟨h, h2⟩ | ⟨h, h2, h3⟩
  · have d1 : decide ((200 : Int) < (n : Int)) = true := by simp; omega
    go_enter Try.func24, Try.ntmps24
    go_wp2_with fail
    go_ret
    exact ⟨rfl, rfl⟩
  · have d1 : decide ((200 : Int) < (n : Int)) = false := by simp; omega
    have d2 : decide ((200 : Int) < (rn : Int)) = true := by simp; omega
    go_enter Try.func24, Try.ntmps24
    go_wp2_with fail
    go_ret
    exact ⟨rfl, rfl⟩
  · have d1 : decide ((200 : Int) < (n : Int)) = false := by simp; omega
    have d2 : decide ((200 : Int) < (rn : Int)) = false := by simp; omega
    have H3 := Lib.hid h3
    clear h3
    go_enter Try.func24, Try.ntmps24
    go_wp2_with fail
    go_loopw [5] (fun i wr => ∃ k : Nat, k ≤ n ∧ i = .int .i64 k ∧ w = wr ∧ ∃ i, k ≤ i ∧ i < n ∧ 60 < (LL i).length) (fun i _ => n - (intOf i).toNat)
    case atStart => exact ⟨0, by omega, rfl, rfl, by obtain ⟨i, h4, h5⟩ := H3.out; exact ⟨i, by omega, h4, h5⟩⟩
    case round =>
      obtain ⟨k, hk, rfl, rfl, i0, q1, q2, q3⟩ := hrel
      have k0 : (0 : Int) ≤ (k : Int) := by omega
      have hlt' : (k : Int) < (n : Int) := by omega
      obtain ⟨b, off, a, c, rfl, g1, g2, g3, g4⟩ := HL.out k (by omega)
      obtain ⟨M, hM⟩ := ex_hid (LL k).length
      rw [← hM.out] at g1
      clear g2 g3 g4
      by_cases h60 : 60 < M
      · have d3 : decide ((60 : Int) < (M : Int)) = true := by simp; omega
        clear q3
        go_wp2_with fail
        go_ret
        exact ⟨rfl, rfl⟩
      · have d3 : decide ((60 : Int) < (M : Int)) = false := by simp; omega
        have Q3 := Lib.hid q3
        clear q3
        go_wp2_with fail
        go_roundw
        case rel => exact ⟨k + 1, by omega, by go_num, by first | rfl | trivial, i0, by
          rcases Nat.lt_or_ge k i0 with h | h
          · omega
          · obtain rfl : i0 = k := by omega
            have := Q3.out; have := hM.out; omega, q2, Q3.out⟩
        case measure => simp [intOf]; omega
end Go.Proofs.Ytompihlckpjbkaa
