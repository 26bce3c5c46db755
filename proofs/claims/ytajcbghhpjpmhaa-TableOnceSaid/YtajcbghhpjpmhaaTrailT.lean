/- The trail: First and Next (chapter 5), for the seats whose program has no Shifts. -/
import Derived.Test.YtajcbghhpjpmhaaProg
import Derived.Test.YtajcbghhpjpmhaaMem
import Derived.Test.YtajcbghhpjpmhaaTrailMath
namespace Go.Proofs.Ytajcbghhpjpmhaa
open Go.RowKit
set_option linter.unusedVariables false

theorem ret_int {k : IntKind} {a b : Int} (h : a = b) : Ending.returned (.int k a) = .returned (.int k b) := by rw [h]
theorem ret_pair {k l : IntKind} {a b c d : Int} (h : a = b) (h' : c = d) : Ending.returned (.tuple #[.int k a, .int l c]) = .returned (.tuple #[.int k b, .int l d]) := by rw [h, h']
theorem first_any (h l : Int) (w : World) (L : Nat) (hl : l = (L : Int)) (hL : L ≤ 20) :
    Calls Try.prog 49 #[.int .i64 h, .int .i64 l] w fun e w' => e = .returned (.int .i64 (trC L (uh h) 0 : Nat)) ∧ w = w' := by
  subst hl
  have hv : wrap64 (bits BinOp.and IntKind.u64 (IntKind.u64.wrap h) (IntKind.u64.wrap (IntKind.u64.wrap (2 ^ L) - 1))) = ((uh h % 2 ^ L : Nat) : Int) := by
    have h1 := pow_le hL
    have h2 := pow_pos L
    rw [u64_pow L hL, and_mask L (uh h) hL (uh_lt h) _ _ (uh_cast h) (by rw [IntKind.wrap_u64]; generalize 2 ^ L = M at *; omega)]
    have := Nat.mod_lt (uh h) h2
    generalize uh h % 2 ^ L = X at *
    generalize 2 ^ L = M at *
    exact IntWalk.wrap64_in _ (by omega)
  have HV := Lib.hid hv
  have h0 : (0 : Int) ≤ (L : Int) := by omega
  have h1 : (L : Int) ≤ 20 := by omega
  clear hv hL
  go_enter Try.func49, Try.ntmps49
  go_wp2_with fail
  go_ret
  exact ⟨ret_int (HV.out.trans rfl), rfl⟩
theorem first_none (h l : Int) (w : World) (hl : l < 0 ∨ 20 < l) :
    Calls Try.prog 49 #[.int .i64 h, .int .i64 l] w fun e w' => e = .returned (.int .i64 0) ∧ w = w' := by
  rcases hl with h0 | h0
  · have hd : decide (l < 0) = true := by simpa using h0
    go_enter Try.func49, Try.ntmps49
    go_wp2_with fail
    go_ret
    exact ⟨rfl, rfl⟩
  · have hd : decide (l < 0) = false := by simp; omega
    go_enter Try.func49, Try.ntmps49
    go_wp2_with fail
    go_ret
    exact ⟨rfl, rfl⟩
theorem rfirst_any (h l : Int) (w : World) (L : Nat) (hl : l = (L : Int)) (hL : L ≤ 20) :
    Calls Try.prog 25 #[.int .i64 h, .int .i64 l] w fun e w' => e = .returned (.int .i64 (trC L (uh h) 0 : Nat)) ∧ w = w' := by
  subst hl
  obtain ⟨M, hM⟩ := ex_hid (2 ^ L)
  have e1 : IntKind.u64.wrap ((2 : Int) ^ L) = (M : Int) := by rw [hM.out]; exact u64_pow L hL
  have m1 : 0 < (M : Int) := by have := pow_pos L; rw [hM.out]; omega
  have m2 : (M : Int) ≤ 1048576 := by have := pow_le hL; rw [hM.out]; omega
  have h0 : (0 : Int) ≤ (L : Int) := by omega
  have h1 : (L : Int) ≤ 20 := by omega
  have HU := Lib.hid (uh_cast h)
  have hU := uh_lt h
  clear hL
  go_enter Try.func25, Try.ntmps25
  go_wp2_with fail
  go_ret
  have hv : wrap64 ((IntKind.u64.wrap h).tmod ↑M) = ((uh h % 2 ^ L : Nat) : Int) := by
    rw [HU.out, ← hM.out, Int.tmod_eq_emod_of_nonneg (by omega), ← Int.natCast_emod]
    have := Nat.mod_lt (uh h) (show 0 < M by omega)
    exact IntWalk.wrap64_in _ (by omega)
  exact ⟨ret_int (hv.trans rfl), rfl⟩
theorem rfirst_none (h l : Int) (w : World) (hl : l < 0 ∨ 20 < l) :
    Calls Try.prog 25 #[.int .i64 h, .int .i64 l] w fun e w' => e = .returned (.int .i64 0) ∧ w = w' := by
  rcases hl with h0 | h0
  · have hd : decide (l < 0) = true := by simpa using h0
    go_enter Try.func25, Try.ntmps25
    go_wp2_with fail
    go_ret
    exact ⟨rfl, rfl⟩
  · have hd : decide (l < 0) = false := by simp; omega
    go_enter Try.func25, Try.ntmps25
    go_wp2_with fail
    go_ret
    exact ⟨rfl, rfl⟩
theorem rnext_any (c p L : Nat) (cc pp l : Int) (w : World) (hc : cc = (c : Int)) (hp : pp = (p : Int)) (hl : l = (L : Int)) (hc1 : c ≤ 1048576) (hp1 : p < 18446744073709551616) (hL : L ≤ 20) :
    Calls Try.prog 88 #[.int .i64 cc, .int .u64 pp, .int .i64 l] w fun e w' => e = .returned (.tuple #[.int .i64 (nxtC L c p : Nat), .int .u64 (p / 32 : Nat)]) ∧ w = w' := by
  subst hl hc hp
  obtain ⟨M, hM⟩ := ex_hid (2 ^ L)
  have e1 : IntKind.u64.wrap ((2 : Int) ^ L) = (M : Int) := by rw [hM.out]; exact u64_pow L hL
  have m1 : 0 < (M : Int) := by have := pow_pos L; rw [hM.out]; omega
  have m2 : (M : Int) ≤ 1048576 := by have := pow_le hL; rw [hM.out]; omega
  have h0 : (0 : Int) ≤ (L : Int) := by omega
  have h1 : (L : Int) ≤ 20 := by omega
  clear hL
  go_enter Try.func88, Try.ntmps88
  go_wp2_with fail
  go_ret2
  have hv : wrap64 ((↑c * 5 + ↑p / 32 + 1) % ↑M) = ((nxtC L c p : Nat) : Int) := by
    unfold nxtC
    rw [← hM.out, show ((c : Int) * 5 + (p : Int) / 32 + 1) = ((5 * c + p / 32 + 1 : Nat) : Int) by omega, ← Int.natCast_emod]
    have := Nat.mod_lt (5 * c + p / 32 + 1) (show 0 < M by omega)
    exact IntWalk.wrap64_in _ (by omega)
  exact ⟨ret_pair hv (by omega), rfl⟩
end Go.Proofs.Ytajcbghhpjpmhaa
