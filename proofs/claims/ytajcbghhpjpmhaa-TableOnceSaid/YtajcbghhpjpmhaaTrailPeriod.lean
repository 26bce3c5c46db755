/- x -> 5x+1 goes through all numbers below 2^L (chapter 5): plain numbers. -/
import Derived.Test.YtajcbghhpjpmhaaTrailMath
namespace Go.Proofs.Ytajcbghhpjpmhaa

/-- 1 + 5 + .. + 5^(n-1). -/
def S5 : Nat → Nat
  | 0 => 0
  | n + 1 => 5 * S5 n + 1
theorem S5_add (n m : Nat) : S5 (n + m) = S5 n + (4 * S5 n + 1) * S5 m := by
  induction m with
  | zero => simp [S5]
  | succ m ih =>
    show 5 * S5 (n + m) + 1 = S5 n + (4 * S5 n + 1) * (5 * S5 m + 1)
    rw [ih]
    generalize S5 n = a
    generalize S5 m = b
    simp only [Nat.mul_add, Nat.add_mul, Nat.mul_one, Nat.one_mul]
    have : 4 * a * (5 * b) = 5 * (4 * a * b) := by rw [Nat.mul_left_comm]
    omega
theorem S5_par (n : Nat) : S5 n % 2 = n % 2 := by
  induction n with
  | zero => rfl
  | succ n ih => show (5 * S5 n + 1) % 2 = _; omega
theorem S5_double (m : Nat) : S5 (m + m) = 2 * (S5 m * (2 * S5 m + 1)) := by
  rw [S5_add]
  generalize S5 m = a
  have h1 : (4 * a + 1) * a = 4 * (a * a) + a := by rw [Nat.add_mul, Nat.mul_assoc, Nat.one_mul]
  have h2 : a * (2 * a + 1) = 2 * (a * a) + a := by rw [Nat.mul_add, Nat.mul_left_comm, Nat.mul_one]
  rw [h1, h2]
  omega
theorem odd_coprime (L a : Nat) (ha : a % 2 = 1) : Nat.Coprime (2 ^ L) a := by
  refine Nat.Coprime.pow_left L ?_
  show Nat.gcd 2 a = 1
  rw [Nat.gcd_rec, ha]
  decide
/-- A power of two that divides S5 n divides n. -/
theorem S5_dvd (L : Nat) : ∀ n, 2 ^ L ∣ S5 n → 2 ^ L ∣ n := by
  induction L with
  | zero => intro n _; simp
  | succ L ih =>
    intro n h
    have hp : n % 2 = 0 := by
      rw [← S5_par]
      have : 2 ∣ S5 n := Nat.dvd_trans ⟨2 ^ L, by rw [Nat.pow_succ, Nat.mul_comm]⟩ h
      omega
    obtain ⟨m, rfl⟩ : ∃ m, n = m + m := ⟨n / 2, by omega⟩
    rw [S5_double, Nat.pow_succ, Nat.mul_comm (2 ^ L) 2] at h
    have h1 : 2 ^ L ∣ S5 m * (2 * S5 m + 1) := Nat.dvd_of_mul_dvd_mul_left (by omega) h
    have h2 := ih m ((odd_coprime L _ (by omega)).dvd_of_dvd_mul_right h1)
    rw [Nat.pow_succ]
    obtain ⟨q, hq⟩ := h2
    exact ⟨q, by rw [hq, Nat.mul_assoc, Nat.mul_comm 2 q, ← Nat.mul_assoc, Nat.mul_two]⟩

/-- Behind the shifts a trail goes by 5x+1. -/
theorem trC_iter (L h : Nat) (hh : h < 18446744073709551616) (s : Nat) (hs : shN h ≤ s) (i : Nat) : trC L h (s + i) % 2 ^ L = (trC L h s + S5 i * (4 * trC L h s + 1)) % 2 ^ L := by
  induction i with
  | zero => simp [S5]
  | succ i ih =>
    have hz : h / 32 ^ (s + i) = 0 := (shN_spec hh _).2 (by omega)
    show nxtC L (trC L h (s + i)) (h / 32 ^ (s + i)) % 2 ^ L = _
    unfold nxtC
    rw [hz, Nat.zero_div, Nat.add_zero, Nat.mod_mod, Nat.add_mod, Nat.mul_mod, ih, ← Nat.mul_mod, ← Nat.add_mod]
    congr 1
    show 5 * (trC L h s + S5 i * (4 * trC L h s + 1)) + 1 = trC L h s + (5 * S5 i + 1) * (4 * trC L h s + 1)
    generalize trC L h s = x
    generalize S5 i = y
    have h1 : (5 * y + 1) * (4 * x + 1) = 5 * (y * (4 * x + 1)) + (4 * x + 1) := by rw [Nat.add_mul, Nat.mul_assoc, Nat.one_mul]
    rw [h1]
    omega
theorem trC_apart (L h : Nat) (hh : h < 18446744073709551616) (s : Nat) (hs : shN h ≤ s) (i j : Nat) (hij : i < j) (hj : j < 2 ^ L) : trC L h (s + i) ≠ trC L h (s + j) := by
  intro e
  have e1 : trC L h (s + i) % 2 ^ L = trC L h (s + j) % 2 ^ L := by rw [e]
  rw [trC_iter L h hh s hs i, trC_iter L h hh s hs j] at e1
  obtain ⟨k, rfl⟩ : ∃ k, j = i + k := ⟨j - i, by omega⟩
  rw [S5_add] at e1
  generalize trC L h s = x at *
  have e2 : x + (S5 i + (4 * S5 i + 1) * S5 k) * (4 * x + 1) = (x + S5 i * (4 * x + 1)) + (4 * S5 i + 1) * S5 k * (4 * x + 1) := by
    rw [Nat.add_mul, Nat.add_assoc]
  rw [e2] at e1
  have e3 : 2 ^ L ∣ (4 * S5 i + 1) * S5 k * (4 * x + 1) := by
    have h1 := Nat.sub_mod_eq_zero_of_mod_eq e1.symm
    rw [Nat.add_sub_cancel_left] at h1
    exact Nat.dvd_of_mod_eq_zero h1
  have e4 : 2 ^ L ∣ (4 * S5 i + 1) * S5 k := (odd_coprime L _ (by omega)).dvd_of_dvd_mul_right e3
  have e5 : 2 ^ L ∣ S5 k := (odd_coprime L _ (by omega)).dvd_of_dvd_mul_left e4
  have e6 := Nat.le_of_dvd (by omega) (S5_dvd L k e5)
  omega
end Go.Proofs.Ytajcbghhpjpmhaa
