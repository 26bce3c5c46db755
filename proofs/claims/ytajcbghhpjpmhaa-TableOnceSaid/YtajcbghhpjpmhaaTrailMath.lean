/- The trail of a hash, in plain numbers (chapter 5). No program in sight. -/
import Derived.WalkKit
namespace Go.Proofs.Ytajcbghhpjpmhaa
open Go.RowKit

/-- A hash as an unsigned number. -/
def uh (h : Int) : Nat := (h % 18446744073709551616).toNat
/-- The cell behind cell c, p being what was left of the hash. -/
def nxtC (L c p : Nat) : Nat := (5 * c + p / 32 + 1) % 2 ^ L
/-- Cell number i of the trail of h in a table of 2^L cells. -/
def trC (L h : Nat) : Nat → Nat
  | 0 => h % 2 ^ L
  | i + 1 => nxtC L (trC L h i) (h / 32 ^ i)
theorem uh_lt (h : Int) : uh h < 18446744073709551616 := by unfold uh; omega
theorem uh_cast (h : Int) : IntKind.u64.wrap h = (uh h : Int) := by rw [IntKind.wrap_u64]; unfold uh; omega
theorem pow_le {L : Nat} (hL : L ≤ 20) : 2 ^ L ≤ 1048576 := Nat.pow_le_pow_right (by omega) hL (n := 2)
theorem pow_pos (L : Nat) : 0 < 2 ^ L := Nat.pow_pos (by omega)
theorem nxtC_lt (L c p : Nat) : nxtC L c p < 2 ^ L := Nat.mod_lt _ (pow_pos L)
theorem trC_lt (L h i : Nat) : trC L h i < 2 ^ L := by
  cases i with
  | zero => exact Nat.mod_lt _ (pow_pos L)
  | succ i => exact nxtC_lt _ _ _
theorem and_mask (L a : Nat) (hL : L ≤ 20) (ha : a < 18446744073709551616) (x m : Int) (hx : x = (a : Int)) (hm : m = ((2 ^ L : Nat) : Int) - 1) : bits .and .u64 x m = ((a % 2 ^ L : Nat) : Int) := by
  have h1 := pow_le hL
  have h2 := pow_pos L
  subst hx
  rw [hm, show ((2 ^ L : Nat) : Int) - 1 = ((2 ^ L - 1 : Nat) : Int) by omega, bits_and_u64_nat a (2 ^ L - 1) ha (by omega), Nat.and_two_pow_sub_one_eq_mod]
theorem u64_pow (L : Nat) (hL : L ≤ 20) : IntKind.u64.wrap ((2 : Int) ^ L) = ((2 ^ L : Nat) : Int) := by
  have h1 := pow_le hL
  rw [IntKind.wrap_u64, show ((2 : Int) ^ L) = ((2 ^ L : Nat) : Int) by simp]
  generalize 2 ^ L = M at *
  omega
theorem i64_pow (L : Nat) (hL : L ≤ 20) : IntKind.i64.wrap ((2 : Int) ^ L) = ((2 ^ L : Nat) : Int) := by
  have h1 := pow_le hL
  rw [IntKind.wrap_i64, show ((2 : Int) ^ L) = ((2 ^ L : Nat) : Int) by simp]
  generalize 2 ^ L = M at *
  omega

/-- How many shifts by 5 leave nothing of p (f of them at most). -/
def shF : Nat → Nat → Nat
  | 0, _ => 0
  | f + 1, p => if p = 0 then 0 else shF f (p / 32) + 1
def shN (h : Nat) : Nat := shF 13 h
theorem shF_spec (f : Nat) : ∀ p k, p < 32 ^ f → (p / 32 ^ k = 0 ↔ shF f p ≤ k) := by
  induction f with
  | zero => intro p k hp; simp at hp; subst hp; simp [shF]
  | succ f ih =>
    intro p k hp
    unfold shF
    by_cases h0 : p = 0
    · subst h0; simp
    · rw [if_neg h0]
      cases k with
      | zero => simp [h0]
      | succ k =>
        have hd : p / 32 < 32 ^ f := by rw [Nat.div_lt_iff_lt_mul (by omega)]; rw [Nat.pow_succ] at hp; exact hp
        rw [show p / 32 ^ (k + 1) = p / 32 / 32 ^ k by rw [Nat.div_div_eq_div_mul, Nat.pow_succ, Nat.mul_comm], ih _ k hd]
        omega
theorem shN_spec {h : Nat} (hh : h < 18446744073709551616) (k : Nat) : h / 32 ^ k = 0 ↔ shN h ≤ k := by
  refine shF_spec 13 h k ?_
  have : (32 : Nat) ^ 13 = 36893488147419103232 := by decide
  omega
theorem shF_le (f : Nat) : ∀ p, shF f p ≤ f := by
  induction f with
  | zero => intro p; simp [shF]
  | succ f ih => intro p; unfold shF; split; omega; have := ih (p / 32); omega
theorem shN_le (h : Nat) : shN h ≤ 13 := shF_le 13 h
theorem div_pow_succ (h k : Nat) : h / 32 ^ (k + 1) = h / 32 ^ k / 32 := by rw [Nat.div_div_eq_div_mul, Nat.pow_succ]
end Go.Proofs.Ytajcbghhpjpmhaa
