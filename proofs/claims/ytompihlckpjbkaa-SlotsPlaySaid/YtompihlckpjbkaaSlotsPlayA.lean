/- SlotsPlay, walked: z = true (chapter 11). -/
import Derived.Test.YtompihlckpjbkaaSlotPair
import Derived.Deep.RegionWith
namespace Go.Proofs.Ytompihlckpjbkaa
open Go.RowKit
open SI
set_option linter.unusedVariables false
attribute [local go_sem ↓] Go.wp_at_zero Go.wp_at_succ

set_option maxRecDepth 100000 in
set_option maxHeartbeats 128000000 in
theorem slotsPlay_true (a : Option Addr) (n c : Nat) (F : Nat → Int) (s : Int) (w : World) (h : n ≤ 400) (hs : Script w a n F) :
    Calls Try.prog 4 #[.bool true, .slice a n c, .int .i64 s] w fun e w' => e = .returned (.bool true) ∧ Below w.heap.size w w' := by
  have d1 : decide ((400 : Int) < (n : Int)) = false := by simp; omega
  have HS := Lib.hid hs
  have hn : (n : Int) ≤ 400 := by omega
  clear hs
  go_enter Try.func4, Try.ntmps4
  go_wp2_with fail
  refine (new_any _).mono ?_
  rintro e w0 ⟨rfl, rfl⟩
  go_wp2_with fail
  have hP : PairT (w.heap.size + 1) (w.heap.size + 1 + 1) w.heap.size [(w.heap.size + 1)] [(w.heap.size + 1 + 1)] [] 0 (((w.alloc (.cells #[.slice none 0 0, .slice none 0 0, .slice none 0 0] 34)).alloc (.cells #[.slice none 0 0, .slice none 0 0, .slice none 0 0] 34)).alloc (.cells #[.slice none 0 0, .slice none 0 0] 38)) :=
    pair_new (has_alloc (has_new' _ _ (by simp)) _) (has_new' _ _ (by simp)) (by omega) (by omega) (by simp)
  have HP := Lib.hid hP
  have B0 := Lib.hid ((((Below.refl w.heap.size w).alloc (Nat.le_refl _) (.cells #[.slice none 0 0, .slice none 0 0, .slice none 0 0] 34)).alloc (by simp) (.cells #[.slice none 0 0, .slice none 0 0, .slice none 0 0] 34)).alloc (by simp; omega) (.cells #[.slice none 0 0, .slice none 0 0] 38))
  clear hP
  go_loopw [9] (fun i wr => ∃ (k m : Nat) (S R : List Nat), k ≤ n ∧ m ≤ k ∧ i = .int .i64 k ∧ PairT (w.heap.size + 1) (w.heap.size + 1 + 1) w.heap.size S R [] m wr ∧ Below w.heap.size w wr) (fun i _ => n - (intOf i).toNat)
  case atStart => exact ⟨0, 0, _, _, by omega, by omega, rfl, HP.out, B0.out⟩
  case round =>
    obtain ⟨k, m, S, R, hk, hmk, rfl, hP, hb⟩ := hrel
    clear HP B0
    have k0 : (0 : Int) ≤ (k : Int) := by omega
    have HP := Lib.hid hP
    have HB := Lib.hid hb
    have zb := Lib.hid hb.size
    clear hP
    by_cases hlt : k < n
    · have hlt' : (k : Int) < (n : Int) := by omega
      obtain ⟨b, off, rfl, hbb, hcs⟩ := (HS.out.below hb) k hlt
      have e0 := hcs 0 (by omega)
      have e1 := hcs 1 (by omega)
      have e2 := hcs 2 (by omega)
      obtain ⟨A, hA⟩ := ex_hid (F (k * 3 + 0))
      obtain ⟨B, hB⟩ := ex_hid (F (k * 3 + 1))
      obtain ⟨C, hC⟩ := ex_hid (F (k * 3 + 2))
      rw [← hA.out] at e0
      rw [← hB.out] at e1
      rw [← hC.out] at e2
      simp only [Nat.add_zero, ← Nat.add_assoc] at e0 e1 e2
      clear hb hcs
      go_wp2_with fail
      go_region_with (first
        | (go_at_call 18; refine (does_any (w.heap.size + 1) (w.heap.size + 1 + 1) w.heap.size S R [] m A B C _ (HP.out.keeps ((Keeps.refl [] wr).drew)) (by simp) zb.out (by omega)).mono ?_; rintro e w1 ⟨rfl, S1, R1, m1, ⟨X, VL, T, hP1⟩, hm1, k1, f1, g1⟩; have hr1 := hP1.rf; obtain ⟨La, Lc, Ta, Tc, r1, -, -, -, -⟩ := hr1; have rc1 := cell_has r1 (i := 0) rfl; have P1 := Lib.hid hP1; have B1 := Lib.hid (HB.out.trans (k1.undrew.below zb.out (HP.out.feet))); clear hP1 k1 f1 g1 r1)
        | (go_at_call 16; refine (len_st _ _ _ _ _ _ _ P1.out.st (by omega)).mono ?_; rintro e w2 ⟨rfl, k2⟩; have P2 := Lib.hid (P1.out.keeps k2 (by simp)); have rc2 := k2.cell rc1 (by simp); have B2 := Lib.hid (B1.out.trans (k2.below B1.out.size (by simp))); clear k2)
        | (go_at_call 19; refine (refAll_any _ _ _ _ _ _ (by omega) _ P2.out.rf).mono ?_; rintro e w3 ⟨a3, c3, rfl, -, b3⟩; have P3 := Lib.hid (P2.out.keeps (Below.keeps b3 []) (by simp)); have rc3 := (Below.keeps b3 []).cell rc2 (by simp); have B3 := Lib.hid (B2.out.trans (b3.mono B2.out.size)); clear b3)
        | (go_at_call 15; refine (high_st _ _ _ _ _ _ _ P3.out.st).mono ?_; rintro e w4 ⟨rfl, rfl⟩))
      all_goals
        go_wp2_with fail
        go_roundw
        case rel => exact ⟨k + 1, m1, S1, R1, by omega, by omega, by go_num, ⟨_, _, _, P3.out⟩, B3.out⟩
        case measure => simp [intOf]; omega
    · have hge : ¬ (k : Int) < (n : Int) := by omega
      have hq := neq_seq2_nil
      obtain ⟨X, VL, T, hP⟩ := HP.out
      have P := Lib.hid hP
      clear hb hP
      go_wp2_with fail
      refine (sAll_any (w.heap.size + 1) w.heap.size S m X T _ P.out.st (by omega)).mono ?_
      rintro e w5 ⟨bl, al, cl, rfl, hbl, zbl, hrow, b5⟩
      have P5 := Lib.hid (P.out.keeps (Below.keeps b5 []) (by simp))
      have BL := Lib.hid hbl
      have RW := Lib.hid hrow
      have B5 := Lib.hid (HB.out.trans (b5.mono HB.out.size))
      clear hbl hrow b5
      go_wp2_with fail
      refine (goes11 bl (w.heap.size + 1 + 1) w.heap.size R m _ X VL T al cl s _ (by omega) rfl BL.out (fun k hk => by obtain ⟨g, a1, -, a3⟩ := RW.out k hk; exact ⟨g, a1, a3⟩) P5.out.rf P5.out.ones).mono ?_
      rintro e w6 ⟨rfl, b6⟩
      have K6 := Lib.hid (Below.keeps b6 [])
      have P6 := Lib.hid (P5.out.keeps K6.out (by simp))
      have B6 := Lib.hid (B5.out.trans (b6.mono B5.out.size))
      clear b6
      go_wp2_with fail
      refine (goes11 bl (w.heap.size + 1 + 1) w.heap.size R m _ X VL T al cl 0 _ (by omega) rfl (K6.out.has BL.out (by simp)) (fun k hk => by obtain ⟨g, a1, -, a3, a4⟩ := RW.out k hk; exact ⟨g, a1, K6.out.cell a3 (by simp), K6.out.cell a4 (by simp)⟩) P6.out.rf P6.out.ones).mono ?_
      rintro e w7 ⟨rfl, b7⟩
      have B7 := Lib.hid (B6.out.trans (b7.mono B6.out.size))
      clear b7
      go_wp2_with (go_at_call 12; refine (awake11 _).mono ?_; rintro e w8 ⟨rfl, b8⟩)
      go_ret
      exact ⟨rfl, B7.out.trans (b8.mono B7.out.size)⟩
end Go.Proofs.Ytompihlckpjbkaa
