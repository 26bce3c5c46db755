/- SlotsTwo, walked (chapter 11). -/
import Derived.Test.YtompihlckpjbkaaSlotPair
import Derived.Test.YtompihlckpjbkaaAppRow
import Derived.Deep.RegionLaw
namespace Go.Proofs.Ytompihlckpjbkaa
open Go.RowKit
open SI
set_option linter.unusedVariables false
attribute [local go_sem ↓] Go.wp_at_zero Go.wp_at_succ

theorem slotsTwo_early (a1 a2 : Option Addr) (n1 n2 c1 c2 : Nat) (w : World) (h : 400 < n1 ∨ (n1 ≤ 400 ∧ 400 < n2)) :
    Calls Try.prog 6 #[.slice a1 n1 c1, .slice a2 n2 c2] w fun e w' => e = .returned (.bool true) ∧ Below w.heap.size w w' := by
  rcases h with h | ⟨h, h2⟩
  · have d1 : decide ((400 : Int) < (n1 : Int)) = true := by simp; omega
    go_enter Try.func6, Try.ntmps6
    go_wp2_with (go_at_call 12; refine (awake11 _).mono ?_; rintro e w' ⟨rfl, hb⟩)
    go_ret
    exact ⟨rfl, hb⟩
  · have d1 : decide ((400 : Int) < (n1 : Int)) = false := by simp; omega
    have d2 : decide ((400 : Int) < (n2 : Int)) = true := by simp; omega
    go_enter Try.func6, Try.ntmps6
    go_wp2_with (go_at_call 12; refine (awake11 _).mono ?_; rintro e w' ⟨rfl, hb⟩)
    go_ret
    exact ⟨rfl, hb⟩

set_option maxRecDepth 100000 in
set_option maxHeartbeats 16000000 in
theorem slotsTwo_main (a1 a2 : Option Addr) (n1 n2 c1 c2 : Nat) (F1 F2 : Nat → Int) (w : World) (h1 : n1 ≤ 400) (h2 : n2 ≤ 400) (s1 : Script w a1 n1 F1) (s2 : Script w a2 n2 F2) :
    Calls Try.prog 6 #[.slice a1 n1 c1, .slice a2 n2 c2] w fun e w' => e = .returned (.bool true) ∧ Below w.heap.size w w' := by
  obtain ⟨i0, hi, hz0, hz1, hz2⟩ := info_parts infoS
  have HI := Lib.hid (And.intro hi (And.intro hz0 (And.intro hz1 hz2)))
  clear hi hz0 hz1 hz2
  obtain ⟨j0, hi, hz0, hz1, hz2⟩ := info_parts infoB
  have HJ := Lib.hid (And.intro hi (And.intro hz0 (And.intro hz1 hz2)))
  clear hi hz0 hz1 hz2
  have d1 : decide ((400 : Int) < (n1 : Int)) = false := by simp; omega
  have d2 : decide ((400 : Int) < (n2 : Int)) = false := by simp; omega
  have Z1 := Lib.hid s1
  have Z2 := Lib.hid s2
  have hn1 : (n1 : Int) ≤ 400 := by omega
  have hn2 : (n2 : Int) ≤ 400 := by omega
  clear s1 s2
  go_enter Try.func6, Try.ntmps6
  go_wp2_with fail
  refine (new_any _).mono ?_
  rintro e w0 ⟨rfl, rfl⟩
  go_wp2_with fail
  refine (new_any _).mono ?_
  rintro e w0 ⟨rfl, rfl⟩
  go_wp2_with fail
  have hP : PairT w.heap.size (w.heap.size + 1 + 1) w.heap.size [w.heap.size] [w.heap.size + 1 + 1] ([w.heap.size + 1] ++ [w.heap.size + 1 + 1 + 1]) 0 ((((w.alloc (.cells #[.slice none 0 0, .slice none 0 0, .slice none 0 0] 34)).alloc (.cells #[.slice none 0 0, .slice none 0 0, .slice none 0 0] 34)).alloc (.cells #[.slice none 0 0, .slice none 0 0] 38)).alloc (.cells #[.slice none 0 0, .slice none 0 0] 38)) :=
    pair_new (has_alloc (has_alloc (has_alloc (has_new _ _) _) _) _) (has_alloc (has_new' _ _ (by simp)) _) (by omega) (by omega) (by simp <;> omega)
  have hP2 : PairT (w.heap.size + 1) (w.heap.size + 1 + 1 + 1) w.heap.size [w.heap.size + 1] [w.heap.size + 1 + 1 + 1] ([w.heap.size] ++ [w.heap.size + 1 + 1]) 0 ((((w.alloc (.cells #[.slice none 0 0, .slice none 0 0, .slice none 0 0] 34)).alloc (.cells #[.slice none 0 0, .slice none 0 0, .slice none 0 0] 34)).alloc (.cells #[.slice none 0 0, .slice none 0 0] 38)).alloc (.cells #[.slice none 0 0, .slice none 0 0] 38)) :=
    pair_new (has_alloc (has_alloc (has_new' _ _ (by simp)) _) _) (has_new' _ _ (by simp)) (by omega) (by omega) (by simp <;> omega)
  have HP := Lib.hid hP
  have HP2 := Lib.hid hP2
  have B0 := Lib.hid (((((Below.refl w.heap.size w).alloc (Nat.le_refl _) (.cells #[.slice none 0 0, .slice none 0 0, .slice none 0 0] 34)).alloc (by simp) (.cells #[.slice none 0 0, .slice none 0 0, .slice none 0 0] 34)).alloc (by simp <;> omega) (.cells #[.slice none 0 0, .slice none 0 0] 38)).alloc (by simp <;> omega) (.cells #[.slice none 0 0, .slice none 0 0] 38))
  clear hP hP2
  go_loopw [9] (fun i wr => ∃ (k m : Nat) (S R : List Nat), k ≤ n1 ∧ m ≤ k ∧ i = .int .i64 k ∧ PairT w.heap.size (w.heap.size + 1 + 1) w.heap.size S R ([w.heap.size + 1] ++ [w.heap.size + 1 + 1 + 1]) m wr ∧ PairT (w.heap.size + 1) (w.heap.size + 1 + 1 + 1) w.heap.size [w.heap.size + 1] [w.heap.size + 1 + 1 + 1] (S ++ R) 0 wr ∧ Below w.heap.size w wr) (fun i _ => n1 - (intOf i).toNat)
  case atStart => exact ⟨0, 0, _, _, by omega, by omega, rfl, HP.out, HP2.out, B0.out⟩
  case round =>
    obtain ⟨k, m, S, R, hk, hmk, rfl, hP, hP2, hb⟩ := hrel
    clear HP HP2 B0
    have k0 : (0 : Int) ≤ (k : Int) := by omega
    have HP := Lib.hid hP
    have HP2 := Lib.hid hP2
    have HB := Lib.hid hb
    have zb := Lib.hid hb.size
    clear hP hP2
    by_cases hlt : k < n1
    · have hlt' : (k : Int) < (n1 : Int) := by omega
      obtain ⟨b, off, rfl, hbb, hcs⟩ := (Z1.out.below hb) k hlt
      have e0 := hcs 0 (by omega)
      have e1 := hcs 1 (by omega)
      have e2 := hcs 2 (by omega)
      obtain ⟨A, hA⟩ := ex_hid (F1 (k * 3 + 0))
      obtain ⟨B, hB⟩ := ex_hid (F1 (k * 3 + 1))
      obtain ⟨C, hC⟩ := ex_hid (F1 (k * 3 + 2))
      rw [← hA.out] at e0
      rw [← hB.out] at e1
      rw [← hC.out] at e2
      simp only [Nat.add_zero, ← Nat.add_assoc] at e0 e1 e2
      clear hb hcs
      go_wp2_with fail
      refine (does_any _ _ _ S R _ m A B C _ HP.out (HP2.out.lt) zb.out (by omega)).mono ?_
      rintro e w1 hD
      obtain ⟨rfl, S1, R1, m1, p1, p2, hm1, k1, fg⟩ := does_two HP2.out hD
      have P1 := Lib.hid p1
      have P2 := Lib.hid p2
      have B1 := Lib.hid (HB.out.trans (k1.below zb.out HP.out.feet))
      clear hD p1 p2 k1 fg
      go_wp2_with fail
      go_roundw
      case rel => exact ⟨k + 1, m1, S1, R1, by omega, by omega, by go_num, P1.out, P2.out, B1.out⟩
      case measure => simp [intOf]; omega
    · have hge : ¬ (k : Int) < (n1 : Int) := by omega
      have hq := neq_seq2_nil
      obtain ⟨X, VL, T, hP⟩ := HP.out
      have P := Lib.hid hP
      clear hb hP
      go_wp2_with fail
      refine (sAll_any _ w.heap.size S m X T _ P.out.st (by omega)).mono ?_
      rintro e w5 ⟨bl, al, cl, rfl, hbl, zbl, hrow, b5⟩
      have P5 := Lib.hid (P.out.keeps (Below.keeps b5 []) (by simp))
      have Q5 := Lib.hid (HP2.out.keeps (Below.keeps b5 []))
      have BL := Lib.hid hbl
      have RW := Lib.hid hrow
      have B5 := Lib.hid (HB.out.trans (b5.mono HB.out.size))
      have Z5 := Lib.hid b5.size
      clear hbl hrow b5
      have hr5 := P5.out.rf
      obtain ⟨La, Lc, Ta, Tc, r1, r2, r3, r4, r5⟩ := hr5
      have rc0 := cell_has r1 (i := 0) rfl
      have rc1 := cell_has r1 (i := 1) rfl
      have zr := lt_of_block r1
      have X1 := Lib.hid r1
      have X2 := Lib.hid r2
      have X3 := Lib.hid r3
      clear r1 r2 r3 r4 r5
      have q3 : m ≤ maxLen := by unfold maxLen; omega
      have q4 : m * 24 ≤ 140737488355328 := by omega
      have q4' : m * 1 ≤ 140737488355328 := by omega
      have q5 : w.heap.size ≤ w5.heap.size := B5.out.size
      have G := Lib.hid (And.intro q3 (And.intro q4 (And.intro q4' q5)))
      clear q3 q4 q4' q5
      go_wp2_with fail
      have bx0 := cell_has (has_new w5 (.cells #[.slice none 0 0, .slice none 0 0] 38)) (i := 0) rfl
      have bx1 := cell_has (has_new w5 (.cells #[.slice none 0 0, .slice none 0 0] 38)) (i := 1) rfl
      go_region_law ((refine step_append_row (o := ⟨some 61, _, _, _, _, _⟩) (by rfl) _ _ 36 (by rfl) w5.heap.size 22 i0 (.slice none 0 0) 24 Try.underlying36 HI.out.1 HI.out.2.1 HI.out.2.2.1 HI.out.2.2.2 rfl (by rfl) w.heap.size La m Lc VL (by rfl) (X2.out.keeps (S := []) (by repeat (first | exact Keeps.refl _ _ | refine Keeps.alloc ?_ _ | refine Keeps.drew ?_)) (by simp)) (fun k hk => by obtain ⟨a, n, c, h⟩ := P5.out.shp k hk; rw [h]; rfl) G.out.1 G.out.2.1 (by simp) ?_; intro a6 c6 w6 row6 k6; have K6 : Keeps [] w5 w6 := Keeps.trans (by repeat (first | exact Keeps.refl _ _ | refine Keeps.alloc ?_ _ | refine Keeps.drew ?_)) k6; have BW := k6.has (has_drew (has_new w5 (.cells #[.slice none 0 0, .slice none 0 0] 38))) (by simp); have y0 := cell_has BW (i := 0) rfl; have y1 := cell_has BW (i := 1) rfl; have fy0 := free_of_has BW 0; have fy1 := free_of_has BW 1; have zy := lt_of_block BW; have yc0 := K6.cell rc0 (by simp); have yc1 := K6.cell rc1 (by simp); have HK6 := Lib.hid K6; have HR6 := Lib.hid row6; have HBW := Lib.hid BW; clear row6 k6 K6 BW))
      all_goals
        go_wp2_with fail
        have HV6 := Lib.hid (has_setCell HBW.out 0 (.slice a6 m c6))
        go_region_law ((refine step_append_row (o := ⟨some 73, _, _, _, _, _⟩) (by rfl) _ _ 26 (by rfl) w5.heap.size 4 j0 (.bool false) 1 Try.underlying26 HJ.out.1 HJ.out.2.1 HJ.out.2.2.1 HJ.out.2.2.2 rfl (by rfl) w.heap.size Ta m Tc (flagV T) (by rfl) ((X3.out.keeps HK6.out (by simp)).keeps (S := [w5.heap.size]) (Keeps.drew ((Keeps.refl _ _).setCell (.inr (by simp)) _)) (fun y hy hy2 => by simp at hy2; have := (X3.out.blk_lt y hy).2; omega)) (fun k hk => rfl) G.out.1 G.out.2.2.1 (by have := HK6.out.size; simp; omega) ?_; intro a8 c8 w8 row8 k8; have BW8 := k8.has (has_drew HV6.out) (by simp); have u0 := cell_has BW8 (i := 0) rfl; have u1 := cell_has BW8 (i := 1) rfl; have fu1 := free_of_has BW8 1; have zu := lt_of_block BW8; have HK8 := Lib.hid k8; have HR8 := Lib.hid row8; have HBW8 := Lib.hid BW8; clear row8 k8 BW8))
        all_goals
          have K9 : Keeps [w5.heap.size] w5 (w8.setCell ⟨w5.heap.size, 1, none⟩ (.slice a8 m c8)) := ((((HK6.out.mono (by simp)).setCell (p := ⟨w5.heap.size, 0, none⟩) (.inr (by simp)) (.slice a6 m c6)).trans ((HK8.out.undrew).mono (by simp)))).setCell (.inr (by simp)) _
          have KL9 := Lib.hid K9
          have B9 := Lib.hid (B5.out.trans (K9.below B5.out.size (by have := B5.out.size; simp; omega)))
          have WAS : Hid (RefS w5.heap.size w.heap.size (w5.heap.size :: (blk a6 ++ blk a8)) m VL T (w8.setCell ⟨w5.heap.size, 1, none⟩ (.slice a8 m c8))) := Lib.hid (by
            have hb := has_setCell HBW8.out 1 (.slice a8 m c8)
            refine ⟨a6, c6, a8, c8, hb, ?_, ?_, B5.out.size, rfl⟩
            · refine ValRow.mono ?_ B5.out.size
              exact ((HR6.out.keeps (S := [w5.heap.size]) ((Keeps.refl _ _).setCell (p := ⟨w5.heap.size, 0, none⟩) (.inr (by simp)) (.slice a6 m c6)) (fun y hy hy2 => by simp at hy2; subst hy2; exact HR6.out.notin HBW.out (by decide) hy)).keeps HK8.out.undrew (by simp)).keeps (S := [w5.heap.size]) ((Keeps.refl _ _).setCell (.inr (by simp)) _) (fun y hy hy2 => by simp at hy2; subst hy2; exact HR6.out.notin HBW.out (by decide) hy)
            · refine ValRow.mono ?_ B5.out.size
              exact HR8.out.keeps (S := [w5.heap.size]) ((Keeps.refl _ _).setCell (.inr (by simp)) _) (fun y hy hy2 => by simp at hy2; subst hy2; exact HR8.out.notin HBW8.out (by decide) hy))
          have NEW6 : Hid (∀ x, x ∈ w5.heap.size :: (blk a6 ++ blk a8) → w5.heap.size ≤ x) := Lib.hid (by
            intro x hx
            simp at hx
            rcases hx with h | h | h
            · omega
            · exact (HR6.out.blk_lt x h).1
            · exact (HR8.out.blk_lt x h).1)
          have DL : Hid (∀ x, x ∈ (S ++ R ++ ([w.heap.size + 1] ++ [w.heap.size + 1 + 1 + 1])) → x < wr.heap.size) := Lib.hid (fun x hx => (List.mem_append.1 hx).elim (fun h => HP.out.lt x h) (fun h => HP2.out.lt x h))
          have L1 := Lib.hid (show PairT w.heap.size (w.heap.size + 1 + 1) w.heap.size S R ([w.heap.size + 1] ++ [w.heap.size + 1 + 1 + 1]) m (w8.setCell ⟨w5.heap.size, 1, none⟩ (.slice a8 m c8)) from ⟨X, VL, T, P5.out.keepsN K9 (by simp)⟩)
          have L2 := Lib.hid (show PairT (w.heap.size + 1) (w.heap.size + 1 + 1 + 1) w.heap.size [w.heap.size + 1] [w.heap.size + 1 + 1 + 1] (S ++ R) 0 (w8.setCell ⟨w5.heap.size, 1, none⟩ (.slice a8 m c8)) from by
            obtain ⟨X', VL', T', q⟩ := Q5.out
            exact ⟨X', VL', T', q.keepsN K9 (by simp)⟩)
          clear K9
          go_wp2_with fail
          go_loopw [12] (fun i wq => ∃ (k2 m1 m2 : Nat) (S1 R1 S2 R2 : List Nat), k2 ≤ n2 ∧ m1 ≤ 400 + k2 ∧ m2 ≤ k2 ∧ i = .int .i64 k2 ∧ PairT w.heap.size (w.heap.size + 1 + 1) w.heap.size S1 R1 (S2 ++ R2) m1 wq ∧ PairT (w.heap.size + 1) (w.heap.size + 1 + 1 + 1) w.heap.size S2 R2 (S1 ++ R1) m2 wq ∧ Keeps (S ++ R ++ ([w.heap.size + 1] ++ [w.heap.size + 1 + 1 + 1])) (w8.setCell ⟨w5.heap.size, 1, none⟩ (.slice a8 m c8)) wq ∧ (∀ x, x ∈ S1 ++ R1 → x ∈ (S ++ R ++ ([w.heap.size + 1] ++ [w.heap.size + 1 + 1 + 1])) ∨ (w8.setCell ⟨w5.heap.size, 1, none⟩ (.slice a8 m c8)).heap.size ≤ x) ∧ (∀ x, x ∈ S2 ++ R2 → x ∈ (S ++ R ++ ([w.heap.size + 1] ++ [w.heap.size + 1 + 1 + 1])) ∨ (w8.setCell ⟨w5.heap.size, 1, none⟩ (.slice a8 m c8)).heap.size ≤ x) ∧ Below w.heap.size w wq) (fun i _ => n2 - (intOf i).toNat)
          case atStart => exact ⟨0, m, 0, S, R, _, _, by omega, by omega, by omega, rfl, L1.out, L2.out, Keeps.refl _ _, fun x hx => .inl (by simp at hx ⊢; rcases hx with h | h <;> simp [h]), fun x hx => .inl (by simp at hx ⊢; rcases hx with h | h <;> simp [h]), B9.out⟩
          case round =>
            obtain ⟨k2, m1, m2, S1, R1, S2, R2, hk2, hm1, hm2, rfl, hA1, hA2, hKD, hf1, hf2, hbq⟩ := hrel
            clear L1 L2
            have A1 := Lib.hid hA1
            have A2 := Lib.hid hA2
            have KD := Lib.hid hKD
            have FF1 := Lib.hid hf1
            have FF2 := Lib.hid hf2
            have BQ := Lib.hid hbq
            have zq := Lib.hid hbq.size
            have k20 : (0 : Int) ≤ (k2 : Int) := by omega
            clear hA1 hA2 hKD hf1 hf2
            by_cases hlt2 : k2 < n2
            · have hlt2' : (k2 : Int) < (n2 : Int) := by omega
              obtain ⟨b, off, rfl, hbb, hcs⟩ := (Z2.out.below hbq) k2 hlt2
              have e0 := hcs 0 (by omega)
              have e1 := hcs 1 (by omega)
              have e2 := hcs 2 (by omega)
              obtain ⟨A, hA⟩ := ex_hid (F2 (k2 * 3 + 0))
              obtain ⟨B, hB⟩ := ex_hid (F2 (k2 * 3 + 1))
              obtain ⟨C, hC⟩ := ex_hid (F2 (k2 * 3 + 2))
              rw [← hA.out] at e0
              rw [← hB.out] at e1
              rw [← hC.out] at e2
              simp only [Nat.add_zero, ← Nat.add_assoc] at e0 e1 e2
              clear hbq hcs
              go_wp2_with fail
              refine (does_any _ _ _ S2 R2 _ m2 A B C _ A2.out (A1.out.lt) zq.out (by omega)).mono ?_
              rintro e w10 hD
              obtain ⟨rfl, S2', R2', m2', p2, p1, hm2', k10, fg10⟩ := does_two A1.out hD
              have P2 := Lib.hid p2
              have P1 := Lib.hid p1
              have B10 := Lib.hid (BQ.out.trans (k10.below zq.out A2.out.feet))
              have KD10 := Lib.hid (KD.out.then k10 (fun x hx => (FF2.out x hx).symm))
              have FF2' := Lib.hid (show ∀ x, x ∈ S2' ++ R2' → x ∈ (S ++ R ++ ([w.heap.size + 1] ++ [w.heap.size + 1 + 1 + 1])) ∨ (w8.setCell ⟨w5.heap.size, 1, none⟩ (.slice a8 m c8)).heap.size ≤ x from fun x hx => (fg10 x hx).elim (FF2.out x) (fun h => .inr (Nat.le_trans KD.out.size h)))
              have z10 := Lib.hid B10.out.size
              obtain ⟨b', off', hb', hbb', hcs⟩ := (Z2.out.below B10.out) k2 hlt2
              simp at hb'
              obtain ⟨rfl, rfl⟩ := hb'
              have g0 := hcs 0 (by omega)
              have g1 := hcs 1 (by omega)
              have g2 := hcs 2 (by omega)
              rw [← hA.out] at g0
              rw [← hB.out] at g1
              rw [← hC.out] at g2
              simp only [Nat.add_zero, ← Nat.add_assoc] at g0 g1 g2
              clear hD p1 p2 k10 fg10 hcs e0 e1 e2
              go_wp2_with fail
              refine (does_any _ _ _ S1 R1 _ m1 A B C _ P1.out (P2.out.lt) z10.out (by omega)).mono ?_
              rintro e w11 hD
              obtain ⟨rfl, S1', R1', m1', q1, q2, hm1', k11, fg11⟩ := does_two P2.out hD
              have Q1 := Lib.hid q1
              have Q2 := Lib.hid q2
              have B11 := Lib.hid (B10.out.trans (k11.below z10.out P1.out.feet))
              have KD11 := Lib.hid (KD10.out.then k11 (fun x hx => (FF1.out x hx).symm))
              have FF1' := Lib.hid (show ∀ x, x ∈ S1' ++ R1' → x ∈ (S ++ R ++ ([w.heap.size + 1] ++ [w.heap.size + 1 + 1 + 1])) ∨ (w8.setCell ⟨w5.heap.size, 1, none⟩ (.slice a8 m c8)).heap.size ≤ x from fun x hx => (fg11 x hx).elim (FF1.out x) (fun h => .inr (Nat.le_trans KD10.out.size h)))
              clear hD q1 q2 k11 fg11 g0 g1 g2
              go_wp2_with fail
              go_roundw
              case rel => exact ⟨k2 + 1, m1', m2', S1', R1', S2', R2', by omega, by omega, by omega, by go_num, Q1.out, Q2.out, KD11.out, FF1'.out, FF2'.out, B11.out⟩
              case measure => simp [intOf]; omega
            · have hge2 : ¬ (k2 : Int) < (n2 : Int) := by omega
              have zl5 := Lib.hid (lt_of_block BL.out)
              have BLr := Lib.hid (KD.out.has (KL9.out.has BL.out (by have := zl5.out; simp; omega)) (fun h => by have := DL.out _ h; omega))
              have RWr := Lib.hid (show ∀ k, k < cntT T m → ∃ g, al = some ⟨g, 0, none⟩ ∧ wr.cell? ⟨g, k * 2, none⟩ = some (.int .i64 (idx T m k : Int)) ∧ wr.cell? ⟨g, k * 2 + 1, none⟩ = some (.int .i64 (X (idx T m k))) from fun k hk => by
                obtain ⟨g, a1, gl, a3, a4⟩ := RW.out k hk
                have gz := World.block_lt_of_cell? _ _ a3
                simp at gz
                have gD : g ∉ (S ++ R ++ ([w.heap.size + 1] ++ [w.heap.size + 1 + 1 + 1])) := fun h => by have := DL.out _ h; omega
                exact ⟨g, a1, KD.out.cell (KL9.out.cell a3 (by simp; omega)) gD, KD.out.cell (KL9.out.cell a4 (by simp; omega)) gD⟩)
              have WASr := Lib.hid (WAS.out.keeps KD.out (fun x hx hy => by have := NEW6.out x hx; have := DL.out x hy; have := Z5.out; omega))
              have ONEr := Lib.hid (show Ones m X VL T wr from fun i hi hT => by
                obtain ⟨b, h1, h2, h3, h4, h5, h6⟩ := P5.out.one i hi hT
                have bz := lt_of_block h2
                have bD : b ∉ (S ++ R ++ ([w.heap.size + 1] ++ [w.heap.size + 1 + 1 + 1])) := fun h => by simp at h h6; rcases h with h | h | h | h; exact h4 h; exact h5 h; exact h6.1 h; exact h6.2 h
                exact ⟨b, h1, KD.out.cell (KL9.out.cell (cell_has h2 rfl) (by simp; omega)) bD⟩)
              obtain ⟨X1, VL1, T1, hA1⟩ := A1.out
              obtain ⟨X2, VL2, T2, hA2⟩ := A2.out
              have P1 := Lib.hid hA1
              have P2 := Lib.hid hA2
              clear hA1 hA2 hbq
              go_wp2_with fail
              refine (goes11 bl w5.heap.size w.heap.size (w5.heap.size :: (blk a6 ++ blk a8)) m _ X VL T al cl 0 _ (by omega) rfl BLr.out RWr.out WASr.out ONEr.out).mono ?_
              rintro e w12 ⟨rfl, b12⟩
              have P1b := Lib.hid (P1.out.keeps (Below.keeps b12 []) (by simp))
              have P2b := Lib.hid (P2.out.keeps (Below.keeps b12 []) (by simp))
              have B12 := Lib.hid (BQ.out.trans (b12.mono BQ.out.size))
              clear b12
              go_wp2_with fail
              refine (sAll_any _ w.heap.size S1 m1 X1 T1 _ P1b.out.st (by omega)).mono ?_
              rintro e w13 ⟨bl2, al2, cl2, rfl, hbl2, -, hrow2, b13⟩
              have P1c := Lib.hid (P1b.out.keeps (Below.keeps b13 []) (by simp))
              have P2c := Lib.hid (P2b.out.keeps (Below.keeps b13 []) (by simp))
              have BL2 := Lib.hid hbl2
              have RW2 := Lib.hid hrow2
              have B13 := Lib.hid (B12.out.trans (b13.mono B12.out.size))
              clear b13 hbl2 hrow2
              go_wp2_with fail
              refine (goes11 bl2 (w.heap.size + 1 + 1) w.heap.size R1 m1 _ X1 VL1 T1 al2 cl2 0 _ (by omega) rfl BL2.out (fun k hk => by obtain ⟨g, a1, -, a3⟩ := RW2.out k hk; exact ⟨g, a1, a3⟩) P1c.out.rf P1c.out.ones).mono ?_
              rintro e w14 ⟨rfl, b14⟩
              have P2d := Lib.hid (P2c.out.keeps (Below.keeps b14 []) (by simp))
              have B14 := Lib.hid (B13.out.trans (b14.mono B13.out.size))
              clear b14
              go_wp2_with fail
              refine (sAll_any _ w.heap.size S2 m2 X2 T2 _ P2d.out.st (by omega)).mono ?_
              rintro e w15 ⟨bl3, al3, cl3, rfl, hbl3, -, hrow3, b15⟩
              have P2e := Lib.hid (P2d.out.keeps (Below.keeps b15 []) (by simp))
              have BL3 := Lib.hid hbl3
              have RW3 := Lib.hid hrow3
              have B15 := Lib.hid (B14.out.trans (b15.mono B14.out.size))
              clear b15 hbl3 hrow3
              go_wp2_with fail
              refine (goes11 bl3 (w.heap.size + 1 + 1 + 1) w.heap.size R2 m2 _ X2 VL2 T2 al3 cl3 0 _ (by omega) rfl BL3.out (fun k hk => by obtain ⟨g, a1, -, a3⟩ := RW3.out k hk; exact ⟨g, a1, a3⟩) P2e.out.rf P2e.out.ones).mono ?_
              rintro e w16 ⟨rfl, b16⟩
              have B16 := Lib.hid (B15.out.trans (b16.mono B15.out.size))
              clear b16
              go_wp2_with (go_at_call 12; refine (awake11 _).mono ?_; rintro e w17 ⟨rfl, b17⟩)
              go_ret
              exact ⟨rfl, B16.out.trans (b17.mono B16.out.size)⟩

theorem slotsTwo_walk (a1 : Option Addr) (n1 c1 : Nat) (F1 : Nat → Int) (a2 : Option Addr) (n2 c2 : Nat) (F2 : Nat → Int) (w : World) (r1 : IntRow .i64 3 w a1 n1 F1) (r2 : IntRow .i64 3 w a2 n2 F2) :
    Calls Try.prog 6 #[.slice a1 n1 c1, .slice a2 n2 c2] w fun e w' => e = .returned (.bool true) ∧ Below w.heap.size w w' := by
  by_cases h1 : 400 < n1
  · exact slotsTwo_early a1 a2 n1 n2 c1 c2 w (.inl h1)
  by_cases h2 : 400 < n2
  · exact slotsTwo_early a1 a2 n1 n2 c1 c2 w (.inr ⟨by omega, h2⟩)
  exact slotsTwo_main a1 a2 n1 n2 c1 c2 F1 F2 w (by omega) (by omega) (script_of r1) (script_of r2)
end Go.Proofs.Ytompihlckpjbkaa
