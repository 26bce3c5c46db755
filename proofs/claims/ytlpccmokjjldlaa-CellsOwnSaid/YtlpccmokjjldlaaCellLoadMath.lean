/- Numbers out of their bytes, the least one first: plain facts (chapter 6). -/
import Derived.Test.YtlpccmokjjldlaaCellRefBytes
namespace Go.Proofs.Ytlpccmokjjldlaa
set_option linter.unusedVariables false

/-- The number that m bytes from o on make. -/
def leN (B : Nat → Nat) : Nat → Nat → Nat
  | _, 0 => 0
  | o, m + 1 => B o + 256 * leN B (o + 1) m
theorem leN_lt {B : Nat → Nat} (hB : ∀ i, B i < 256) (m : Nat) : ∀ o, leN B o m < 256 ^ m := by
  induction m with
  | zero => intro o; simp [leN]
  | succ m ih =>
    intro o
    have h := ih (o + 1)
    have h2 := hB o
    simp only [leN, Nat.pow_succ]
    omega
theorem leN_back (B : Nat → Nat) (m : Nat) : ∀ o, leN B o (m + 1) = leN B o m + B (o + m) * 256 ^ m := by
  induction m with
  | zero => intro o; simp [leN]
  | succ m ih =>
    intro o
    have h := ih (o + 1)
    rw [leN, h, leN, Nat.pow_succ, show o + 1 + m = o + (m + 1) by omega, Nat.mul_add, ← Nat.add_assoc]
    congr 1
    rw [Nat.mul_left_comm, Nat.mul_comm 256]
theorem leN_byte {B : Nat → Nat} (hB : ∀ i, B i < 256) (m : Nat) : ∀ o k, k < m → leN B o m / 256 ^ k % 256 = B (o + k) := by
  induction m with
  | zero => intro o k hk; omega
  | succ m ih =>
    intro o k hk
    have h2 := hB o
    simp only [leN]
    cases k with
    | zero => simp; omega
    | succ k =>
      rw [Nat.pow_succ, Nat.mul_comm (256 ^ k), ← Nat.div_div_eq_div_mul, show (B o + 256 * leN B (o + 1) m) / 256 = leN B (o + 1) m by omega, ih (o + 1) k (by omega)]
      congr 1; omega

theorem or_front (u b : Nat) (h : b < 256) : (u * 256 ||| b) = u * 256 + b := by
  have := Nat.two_pow_add_eq_or_of_lt (b := b) (i := 8) h u
  rw [Nat.mul_comm] at this
  exact this.symm
theorem or_back (u b k : Nat) (h : u < 256 ^ k) : (u ||| b * 256 ^ k) = u + b * 256 ^ k := by
  have e : (256 : Nat) ^ k = 2 ^ (8 * k) := by rw [Nat.pow_mul]
  rw [e] at h ⊢
  have := Nat.two_pow_add_eq_or_of_lt h b
  rw [Nat.mul_comm, Nat.or_comm] at this
  omega

/-- The number of so many bytes with its sign. -/
def sgnV (wd u : Nat) : Int := if 2 * u < 256 ^ wd then (u : Int) else (u : Int) - 256 ^ wd
theorem wdOf_cases (L : Nat) : (wdOf L = 1 ∧ kiOf L = .i8) ∨ (wdOf L = 2 ∧ kiOf L = .i16) ∨ (wdOf L = 4 ∧ kiOf L = .i32) := by
  unfold wdOf kiOf
  by_cases h1 : L ≤ 7
  · simp [h1]
  · by_cases h2 : L ≤ 15
    · simp [h1, h2]
    · simp [h1, h2]
theorem sgn_byte (wd u k : Nat) (hw : wd = 1 ∨ wd = 2 ∨ wd = 4) (hk : k < wd) : byteOf (sgnV wd u) k = ((u / 256 ^ k % 256 : Nat) : Int) := by
  unfold byteOf sgnV
  rcases hw with rfl | rfl | rfl
  · obtain rfl : k = 0 := by omega
    simp only [Nat.pow_zero, Nat.pow_one, Int.pow_zero, Int.reducePow]; split <;> omega
  · obtain rfl | rfl : k = 0 ∨ k = 1 := by omega
    all_goals (simp only [Nat.reducePow, Int.reducePow]; split <;> omega)
  · obtain rfl | rfl | rfl | rfl : k = 0 ∨ k = 1 ∨ k = 2 ∨ k = 3 := by omega
    all_goals (simp only [Nat.reducePow, Int.reducePow]; split <;> omega)
theorem sgn_wrap (L u : Nat) (hu : u < 256 ^ wdOf L) : (kiOf L).wrap (IntKind.wrap .i32 (u : Int)) = sgnV (wdOf L) u := by
  rcases wdOf_cases L with ⟨h1, h2⟩ | ⟨h1, h2⟩ | ⟨h1, h2⟩ <;> rw [h1] at hu ⊢ <;> rw [h2] <;> simp only [IntKind.wrap, IntKind.bits, IntKind.signed, sgnV] <;> simp at hu ⊢ <;> split <;> omega
theorem sgn_bounds (wd u : Nat) (hw : wd = 1 ∨ wd = 2 ∨ wd = 4) (hu : u < 256 ^ wd) : -2147483648 ≤ sgnV wd u ∧ sgnV wd u ≤ 2147483647 := by
  unfold sgnV
  rcases hw with rfl | rfl | rfl <;> simp at hu ⊢ <;> split <;> omega

/-- What the bytes say of cell i. -/
def valB (wd : Nat) (B : Nat → Nat) (i : Nat) : Int := sgnV wd (leN B (i * wd) wd)
theorem valB_byte (wd : Nat) (B : Nat → Nat) (hB : ∀ i, B i < 256) (hw : wd = 1 ∨ wd = 2 ∨ wd = 4) (t : Nat) : byteOf (valB wd B (t / wd)) (t % wd) = (B t : Int) := by
  have hp : 0 < wd := by omega
  have hlt := Nat.mod_lt t hp
  unfold valB
  rw [sgn_byte wd _ _ hw hlt, leN_byte hB wd _ _ hlt, Nat.mul_comm, Nat.div_add_mod]
end Go.Proofs.Ytlpccmokjjldlaa
