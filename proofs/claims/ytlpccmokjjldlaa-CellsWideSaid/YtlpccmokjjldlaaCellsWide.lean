/- CellsWide, walked (chapter 6). -/
import Derived.Test.YtlpccmokjjldlaaCellPlays
import Derived.Test.YtlpccmokjjldlaaCellAlike
namespace Go.Proofs.Ytlpccmokjjldlaa
open Go.RowKit
set_option linter.unusedVariables false

theorem cellsWide_early (l : Int) (a : Option Addr) (len cap : Nat) (w : World) (hc : (300 < len) ∨ (len ≤ 300 ∧ l < 13) ∨ (len ≤ 300 ∧ 13 ≤ l ∧ 20 < l)) :
    Calls Try.prog 10 #[.int .i64 l, .slice a len cap] w fun e w' => e = .returned (.bool true) ∧ Below w.heap.size w w' := by
  rcases hc with h | ⟨h, h2⟩ | ⟨h, h2, h3⟩
  · have d1 : decide ((300 : Int) < (len : Int)) = true := by simp; omega
    go_enter Try.func10, Try.ntmps10
    go_wp2_with (go_at_call 30; refine (awake6 _).mono ?_; rintro e w' ⟨rfl, hb⟩)
    go_ret
    exact ⟨rfl, hb⟩
  · have d1 : decide ((300 : Int) < (len : Int)) = false := by simp; omega
    have d2 : decide (l < 13) = true := by simpa using h2
    go_enter Try.func10, Try.ntmps10
    go_wp2_with (go_at_call 30; refine (awake6 _).mono ?_; rintro e w' ⟨rfl, hb⟩)
    go_ret
    exact ⟨rfl, hb⟩
  · have d1 : decide ((300 : Int) < (len : Int)) = false := by simp; omega
    have d2 : decide (l < 13) = false := by simp; omega
    have d3 : decide (20 < l) = true := by simpa using h3
    go_enter Try.func10, Try.ntmps10
    go_wp2_with (go_at_call 30; refine (awake6 _).mono ?_; rintro e w' ⟨rfl, hb⟩)
    go_ret
    exact ⟨rfl, hb⟩

theorem cellsWide_main (L : Nat) (h3 : 13 ≤ L) (hL : L ≤ 20) (a : Option Addr) (len cap : Nat) (F : Nat → Int) (w : World) (hr : IntRow .i64 2 w a len F) (hl : len ≤ 300) :
    Calls Try.prog 10 #[.int .i64 L, .slice a len cap] w fun e w' => e = .returned (.bool true) ∧ Below w.heap.size w w' := by
  have d1 : decide ((300 : Int) < (len : Int)) = false := by simp; omega
  have d2 : decide ((L : Int) < 13) = false := by simp; omega
  have d3 : decide ((20 : Int) < (L : Int)) = false := by simp; omega
  have HR := Lib.hid hr
  obtain ⟨n, hn⟩ := ex_hid (2 ^ L)
  clear hr
  go_enter Try.func10, Try.ntmps10
  go_wp2_with fail
  refine (new_any L n _ rfl (by omega) hL hn.out _).mono ?_
  rintro e w1 ⟨c, r, rfl, H1, zc, zr, b1⟩
  have hc1 := lt_of_block H1.ho
  have hr1 := lt_of_block H1.hr
  have HC := Lib.hid H1
  have B1 := Lib.hid b1
  clear H1 b1
  go_wp2_with fail
  refine (rnew_any L n _ rfl (by omega) hL hn.out _).mono ?_
  rintro e w2 ⟨q, rfl, hq, zq, b2⟩
  have HC2 := Lib.hid (HC.out.below b2)
  have HQ := Lib.hid hq
  have B2 := Lib.hid (B1.out.trans (b2.mono B1.out.size))
  have z2 := Lib.hid b2.size
  clear hq b2
  go_wp2_with fail
  refine (alike_any c r L n (begun n) _ (by omega) hL hn.out _ ⟨has_alloc HC2.out.ho _, has_alloc HC2.out.hr _⟩).mono ?_
  rintro e w3 ⟨rfl, b3⟩
  have hk := Below.keeps b3 []
  have hb := hk.has (has_new w2 _) (by simp)
  have HC3 := Lib.hid ((CellsAt.mk (has_alloc HC2.out.ho _) (has_alloc HC2.out.hr _)).below b3)
  have HQ3 := Lib.hid (hk.has (has_alloc HQ.out _) (by simp))
  have B3 := Lib.hid ((B2.out.alloc B2.out.size _).trans (b3.mono (by have := B2.out.size; simp; omega)))
  have c0 := cell_has hb (i := 0) rfl
  have c1 := cell_has hb (i := 1) rfl
  clear hk hb b3
  go_wp2_with fail
  refine (plays_any c r q L n (fun V w hw => alike_any c r L n V _ (by omega) hL hn.out w hw) (begun n) (begun_fits n n) (by omega) hL hn.out _ _ _ F _ HC3.out HQ3.out (stepRow_of HR.out B3.out zr (by have := B1.out.size; omega)) hl (by omega) (by omega)).mono ?_
  rintro e w4 ⟨rfl, V, _, _, _, k4⟩
  have B4 := Lib.hid (B3.out.trans (k4.below B3.out.size (by have := B1.out.size; simp <;> omega)))
  clear k4
  go_wp2_with (go_at_call 30; refine (awake6 _).mono ?_; rintro e w5 ⟨rfl, b5⟩)
  go_ret
  exact ⟨rfl, B4.out.trans (b5.mono B4.out.size)⟩

theorem cellsWide_walk (l : Int) (a : Option Addr) (len cap : Nat) (F : Nat → Int) (w : World) (_ : (Lit.int .i64 l).wf = true) (hr : IntRow .i64 2 w a len F) :
    Calls Try.prog 10 #[.int .i64 l, .slice a len cap] w fun e w' => e = .returned (.bool true) ∧ Below w.heap.size w w' := by
  by_cases h1 : 300 < len
  · exact cellsWide_early l a len cap w (.inl h1)
  by_cases h2 : l < 13
  · exact cellsWide_early l a len cap w (.inr (.inl ⟨by omega, h2⟩))
  by_cases h3 : 20 < l
  · exact cellsWide_early l a len cap w (.inr (.inr ⟨by omega, by omega, h3⟩))
  obtain ⟨L, rfl⟩ := Int.eq_ofNat_of_zero_le (show 0 ≤ l by omega)
  exact cellsWide_main L (by omega) (by omega) a len cap F w hr (by omega)
end Go.Proofs.Ytlpccmokjjldlaa
