/- CellsLoad, walked (chapter 6). -/
import Derived.Test.YtlpccmokjjldlaaCellRefLoad
import Derived.Test.YtlpccmokjjldlaaCellsPlay
import Derived.Test.YtlpccmokjjldlaaValRow
namespace Go.Proofs.Ytlpccmokjjldlaa
open Go.RowKit
set_option linter.unusedVariables false

theorem load_bad (l : Int) (a : Option Addr) (len cap : Nat) (w : World) (hl : l < 3 ∨ 20 < l) :
    Calls Try.prog 43 #[.int .i64 l, .slice a len cap] w fun e w' => e = .returned (.tuple #[.pointer none, .int .i64 1]) ∧ Below w.heap.size w w' := by
  have HL := Lib.hid hl
  clear hl
  go_enter Try.func43, Try.ntmps43
  go_wp2_with fail
  refine (new_bad l _ HL.out).mono ?_
  rintro e w1 ⟨rfl, rfl⟩
  go_wp2_with fail
  go_ret2
  exact ⟨rfl, Below.refl _ _⟩
theorem load_len (L n : Nat) (h3 : 3 ≤ L) (hL : L ≤ 20) (hn : n = 2 ^ L) (a : Option Addr) (len cap : Nat) (hlen : len ≠ n * wdOf L) (hl2 : len ≤ 20000) (w : World) :
    Calls Try.prog 43 #[.int .i64 L, .slice a len cap] w fun e w' => e = .returned (.tuple #[.pointer none, .int .i64 4]) ∧ Below w.heap.size w w' := by
  have hn1 : n ≤ 1048576 := by rw [hn]; exact pow_le hL
  have HN := Lib.hid hn
  obtain ⟨wd, hwd⟩ := ex_hid (wdOf L)
  have w1' : 1 ≤ wd := by rw [hwd.out]; exact (wdOf_is L).1
  have w4' : wd ≤ 4 := by rw [hwd.out]; exact (wdOf_is L).2
  rw [← hwd.out] at hlen
  obtain ⟨tot, ht⟩ := ex_hid (n * wd)
  have hp : wrap64 ((wd : Int) * (n : Int)) = (tot : Int) := by
    rw [ht.out, Nat.mul_comm, Int.natCast_mul]
    refine IntWalk.wrap64_in _ ?_
    have := Nat.mul_le_mul w4' hn1
    have h0 : ((wd * n : Nat) : Int) ≤ 4194304 := by omega
    rw [Int.natCast_mul] at h0
    have h1 : (0 : Int) ≤ ((wd * n : Nat) : Int) := by omega
    rw [Int.natCast_mul] at h1
    omega
  have d1 : ((len : Int) != (tot : Int)) = true := by rw [← ht.out] at hlen; rw [bne_iff_ne]; omega
  have HP := Lib.hid hp
  clear hn hp hlen
  go_enter Try.func43, Try.ntmps43
  go_wp2_with fail
  refine (new_any L n _ rfl h3 hL HN.out _).mono ?_
  rintro e w1 ⟨c, r, rfl, H1, zc, zr, b1⟩
  have HC := Lib.hid H1
  have B1 := Lib.hid b1
  clear H1 b1
  go_wp2_with fail
  refine (width_any c r L n _ _ HC.out).mono ?_
  rintro e w2 ⟨rfl, b2⟩
  rw [← hwd.out]
  have HC2 := Lib.hid (HC.out.below b2)
  have B2 := Lib.hid (B1.out.trans (b2.mono B1.out.size))
  clear b2 HC B1
  go_wp2_with fail
  refine (size_any c r L n _ _ HC2.out).mono ?_
  rintro e w3 ⟨rfl, b3⟩
  have B3 := Lib.hid (B2.out.trans (b3.mono B2.out.size))
  have hp := HP.out
  clear b3 HC2 B2
  go_wp2_with fail
  go_ret2
  exact ⟨rfl, B3.out⟩
theorem rload_bad (l : Int) (a : Option Addr) (len cap : Nat) (w : World) (hl : l < 3 ∨ 20 < l) :
    Calls Try.prog 44 #[.int .i64 l, .slice a len cap] w fun e w' => e = .returned (.tuple #[.agg #[.int .i64 0, .slice none 0 0], .int .i64 1]) ∧ Below w.heap.size w w' := by
  have HL := Lib.hid hl
  clear hl
  go_enter Try.func44, Try.ntmps44
  go_wp2_with fail
  refine (rnew_bad l _ HL.out).mono ?_
  rintro e w1 ⟨rfl, b1⟩
  have hb := (Below.keeps b1 []).has (has_new _ _) (by simp)
  have r0 := cell_of_has hb
  have f0 := free_of_has hb
  have zb := lt_of_block hb
  have r1 := cell_of_has (has_alloc (has_setCell (has_setCell hb 0 (.int .i64 0)) 1 (.slice none 0 0)) (.cells #[.int .i64 0, .slice none 0 0] 64))
  have R1 := Lib.hid r1
  have B1 := Lib.hid (((Below.refl w.heap.size w).alloc (Nat.le_refl _) (.cells #[.int .i64 0, .slice none 0 0] 64)).trans (b1.mono (by simp)))
  clear hb b1 r1
  go_wp2_with fail
  refine bodyPost_ret (v := .tuple #[.agg #[.int .i64 0, .slice none 0 0], .int .i64 1]) (by have r1 := R1.out; simp [results, Try.results44, go_sem, r1]) rfl ⟨rfl, ?_⟩
  have hz := B1.out.size
  exact ((B1.out.setCell (Nat.le_refl _) _).setCell (Nat.le_refl _) _).alloc (by simp; omega) _
theorem rload_len (L n : Nat) (h3 : 3 ≤ L) (hL : L ≤ 20) (hn : n = 2 ^ L) (a : Option Addr) (len cap : Nat) (hlen : len ≠ n * wdOf L) (hl2 : len ≤ 20000) (w : World) :
    Calls Try.prog 44 #[.int .i64 L, .slice a len cap] w fun e w' => e = .returned (.tuple #[.agg #[.int .i64 0, .slice none 0 0], .int .i64 4]) ∧ Below w.heap.size w w' := by
  have hn1 : n ≤ 1048576 := by rw [hn]; exact pow_le hL
  have HN := Lib.hid hn
  obtain ⟨wd, hwd⟩ := ex_hid (wdOf L)
  have w1' : 1 ≤ wd := by rw [hwd.out]; exact (wdOf_is L).1
  have w4' : wd ≤ 4 := by rw [hwd.out]; exact (wdOf_is L).2
  rw [← hwd.out] at hlen
  obtain ⟨tot, ht⟩ := ex_hid (n * wd)
  have g0 : (0 : Int) ≤ (L : Int) := by omega
  have g1 : (L : Int) ≤ 20 := by omega
  have hp : wrap64 ((wd : Int) * 2 ^ L) = (tot : Int) := by
    have e : (2 : Int) ^ L = (n : Int) := by rw [hn]; simp
    rw [e, ht.out, Nat.mul_comm, Int.natCast_mul]
    refine IntWalk.wrap64_in _ ?_
    clear e hn
    have := Nat.mul_le_mul w4' hn1
    have h0 : ((wd * n : Nat) : Int) ≤ 4194304 := by omega
    rw [Int.natCast_mul] at h0
    have h1 : (0 : Int) ≤ ((wd * n : Nat) : Int) := by omega
    rw [Int.natCast_mul] at h1
    omega
  have d1 : ((len : Int) != (tot : Int)) = true := by rw [← ht.out] at hlen; rw [bne_iff_ne]; omega
  have HP := Lib.hid hp
  clear hn hp hlen
  go_enter Try.func44, Try.ntmps44
  go_wp2_with fail
  refine (rnew_any L n _ rfl h3 hL HN.out _).mono ?_
  rintro e w1 ⟨q, rfl, hq, zq, b1⟩
  have hb := (Below.keeps b1 []).has (has_new _ _) (by simp)
  have r0 := cell_of_has hb
  have f0 := free_of_has hb
  have zb := lt_of_block hb
  have r1 := cell_of_has (has_alloc (has_setCell (has_setCell hb 0 (.int .i64 0)) 1 (.slice none 0 0)) (.cells #[.int .i64 L, .slice (some ⟨q, 0, none⟩) n n] 64))
  have R1 := Lib.hid r1
  have B1 := Lib.hid (((Below.refl w.heap.size w).alloc (Nat.le_refl _) (.cells #[.int .i64 0, .slice none 0 0] 64)).trans (b1.mono (by simp)))
  clear hb b1 r1 hq zq
  have hp := HP.out
  go_wp2_with fail
  refine (rwidth_any L _ rfl h3 hL _).mono ?_
  rintro e w2 ⟨rfl, rfl⟩
  rw [← hwd.out]
  go_wp2_with fail
  refine bodyPost_ret (v := .tuple #[.agg #[.int .i64 0, .slice none 0 0], .int .i64 4]) (by have r1 := R1.out; simp [results, Try.results44, go_sem, r1]) rfl ⟨rfl, ?_⟩
  have hz := B1.out.size
  exact ((B1.out.setCell (Nat.le_refl _) _).setCell (Nat.le_refl _) _).alloc (by simp; omega) _
end Go.Proofs.Ytlpccmokjjldlaa
