/- SharedPlays, walked (chapter 10). -/
import Derived.Test.YtajmfenfajbakaaGreatPkS
namespace Go.Proofs.YtajmfenfajbakaaGreat
open Go.RowKit
set_option linter.unusedVariables false
set_option linter.unusedSimpArgs false

set_option maxRecDepth 100000 in
theorem sharedPlays_walk (most al : Int) (a0 : Option Addr) (n0 c0 : Nat) (F : Nat → Int) (N : Nat → ByteArray) (w : World) (h0 : FldRow (fun j => [2].contains j) 4 w a0 n0 F N) :
    Calls Tryz.prog 3 #[.int .i64 most, .int .i64 al, .slice a0 n0 c0] w fun e w' => e = .returned (.bool true) ∧ Below w.heap.size w w' := by
  have H0 := Lib.hid h0
  have MU := much10_any a0 n0 c0 F N w h0
  have BG : Calls Tryz.prog 9 #[.int .i64 most, .int .i64 al, mV none, mV none] w (BegunP w.heap.size none none w) := by
    by_cases hb : 0 ≤ most ∧ most ≤ 256 ∧ 0 ≤ al ∧ al ≤ 65536
    · exact begun_ok w.heap.size most al none none w hb (fun b hb => by cases hb) (fun b hb => by cases hb) (Nat.le_refl _) (fun b hb => by cases hb) (fun b hb => by cases hb) (fun b hb => by cases hb)
    · exact begun_bad w.heap.size most al none none w hb
  have HBG := Lib.hid BG
  clear h0 BG
  go_enter Tryz.func3, Tryz.ntmps3
  go_wp2_with fail
  refine MU.mono ?_
  rintro r w1 ⟨rfl, (rfl | ⟨rfl, hlen, hsz⟩)⟩
  · clear MU
    go_wp2_with fail
    go_ret
    exact ⟨rfl, Below.refl _ _⟩
  · have PL := plays10_any w most al none none a0 n0 c0 F N w H0.out hsz hlen (Below.refl _ _) HBG.out (fun b hb => by cases hb) (fun b hb => by cases hb)
    rw [show mV none = .pointer none from rfl] at PL
    unfold PlaysP10 at PL
    clear MU hlen hsz
    go_wp2_with fail
    refine PL.mono ?_
    rintro r w2 ⟨rfl, b2, _⟩
    have B2 := Lib.hid b2
    clear PL b2
    go_wp2_with fail
    refine (awake10 w2).mono ?_
    rintro r w3 ⟨rfl, k3⟩
    have K3 := Lib.hid k3
    clear k3
    go_wp2_with fail
    go_ret
    exact ⟨rfl, B2.out.trans (K3.out.below B2.out.size (by simp))⟩
end Go.Proofs.YtajmfenfajbakaaGreat
