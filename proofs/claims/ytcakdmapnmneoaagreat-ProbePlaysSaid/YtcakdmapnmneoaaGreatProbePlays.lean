/- ProbePlays, walked (chapter 8). -/
import Derived.Test.YtcakdmapnmneoaaGreatPkP
namespace Go.Proofs.YtcakdmapnmneoaaGreat
open Go.RowKit
set_option linter.unusedVariables false
set_option linter.unusedSimpArgs false

theorem probePlays_early (most : Int) (a1 : Option Addr) (n1 c1 : Nat) (w : World) (h : 300 < n1) :
    Calls Tryz.prog 4 #[.int .i64 most, .slice a1 n1 c1] w fun e w' => e = .returned (.bool true) ∧ Below w.heap.size w w' := by
  have d1 : decide ((300 : Int) < (n1 : Int)) = true := by simp; omega
  go_enter Tryz.func4, Tryz.ntmps4
  go_wp2_with (go_at_call 11; refine (awake8 _).mono ?_; rintro e w' ⟨rfl, hb⟩)
  go_ret
  exact ⟨rfl, hb⟩
set_option maxRecDepth 100000 in
theorem probePlays_main (most : Int) (a1 : Option Addr) (n1 c1 : Nat) (F1 : Nat → Int) (B1 : Nat → Bool) (w : World) (h1 : n1 ≤ 300) (s1 : MixRow (fun j => [7].contains j) 8 w a1 n1 F1 B1) :
    Calls Tryz.prog 4 #[.int .i64 most, .slice a1 n1 c1] w fun e w' => e = .returned (.bool true) ∧ Below w.heap.size w w' := by
  have d1 : decide ((300 : Int) < (n1 : Int)) = false := by simp; omega
  have R := plays8_any w.heap.size none none ⟨0, 0, 0, 0⟩ most a1 n1 c1 F1 B1 w h1 (Nat.le_refl _) (fun b hb => by simp at hb) (fun b hb => by simp at hb) (by simp) (by simp) (by simp) (LRow.of s1)
  rw [show mV none = .pointer none from rfl] at R
  clear s1
  go_enter Tryz.func4, Tryz.ntmps4
  go_wp2_with fail
  refine R.mono ?_
  rintro r w1 (⟨rfl, _, _, bl⟩ | ⟨c, o, u, D, E, M, L, rfl, j1, bl⟩)
  all_goals
    have BL := Lib.hid bl
    clear bl R
  · go_wp2_with (go_at_call 11; refine (awake8 _).mono ?_; rintro e w' ⟨rfl, hb⟩)
    go_ret
    exact ⟨rfl, BL.out.trans (hb.mono BL.out.size)⟩
  · clear j1
    go_wp2_with (go_at_call 11; refine (awake8 _).mono ?_; rintro e w' ⟨rfl, hb⟩)
    go_ret
    exact ⟨rfl, BL.out.trans (hb.mono BL.out.size)⟩
theorem probePlays_walk (a0 : Int) (a1 : Option Addr) (len1 cap1 : Nat) (F1 : Nat → Int) (B1 : Nat → Bool) (w : World) (w0 : (Lit.int .i64 a0).wf = true) (w1 : MixRow (fun j => [7].contains j) 8 w a1 len1 F1 B1) :
    Calls Tryz.prog 4 #[.int .i64 a0, .slice a1 len1 cap1] w fun e w' => e = .returned (.bool true) ∧ Below w.heap.size w w' := by
  by_cases h : 300 < len1
  · exact probePlays_early a0 a1 len1 cap1 w h
  · exact probePlays_main a0 a1 len1 cap1 F1 B1 w (by omega) w1
end Go.Proofs.YtcakdmapnmneoaaGreat
