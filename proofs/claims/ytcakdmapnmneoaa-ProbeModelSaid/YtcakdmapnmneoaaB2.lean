/- The trail of a hash, in plain numbers (chapter 5). No program in sight. x -> 5x+1 goes through all numbers below 2^L (chapter 5): plain numbers. The rows of cells of the three widths (chapter 6). Index cells: what each call does (chapter 6). Index cells: Get and Set (chapter 6). Index cells: a new table (chapter 6). The document's own cells, a new table (chapter 6). Both Sets and Gets as one answer (chapter 6). All of index cells: a list of what they hold (chapter 6). All of index cells as an iterator (chapter 6). The trail: First and Next (chapter 5), for the seats whose program has no Shifts. The trail as an iterator (chapter 5). -/
import Derived.WalkKit
import Derived.Test.YtcakdmapnmneoaaProg
import Derived.Test.YtcakdmapnmneoaaB1
import Derived.WalkSmall
import Derived.Deep.RegionHeld3
import Derived.Deep.DrawnRows
section
namespace Go.Proofs.Ytcakdmapnmneoaa
open Go.RowKit

/-- A hash as an unsigned number. -/
def uh (h : Int) : Nat := (h % 18446744073709551616).toNat
/-- The cell behind cell c, p being what was left of the hash. -/
def nxtC (L c p : Nat) : Nat := (5 * c + p / 32 + 1) % 2 ^ L
/-- Cell number i of the trail of h in a table of 2^L cells. -/
def trC (L h : Nat) : Nat → Nat
  | 0 => h % 2 ^ L
  | i + 1 => nxtC L (trC L h i) (h / 32 ^ i)
theorem uh_lt (h : Int) : uh h < 18446744073709551616 := by unfold uh; omega
theorem uh_cast (h : Int) : IntKind.u64.wrap h = (uh h : Int) := by rw [IntKind.wrap_u64]; unfold uh; omega
theorem pow_le {L : Nat} (hL : L ≤ 20) : 2 ^ L ≤ 1048576 := Nat.pow_le_pow_right (by omega) hL (n := 2)
theorem pow_pos (L : Nat) : 0 < 2 ^ L := Nat.pow_pos (by omega)
theorem nxtC_lt (L c p : Nat) : nxtC L c p < 2 ^ L := Nat.mod_lt _ (pow_pos L)
theorem trC_lt (L h i : Nat) : trC L h i < 2 ^ L := by
  cases i with
  | zero => exact Nat.mod_lt _ (pow_pos L)
  | succ i => exact nxtC_lt _ _ _
theorem and_mask (L a : Nat) (hL : L ≤ 20) (ha : a < 18446744073709551616) (x m : Int) (hx : x = (a : Int)) (hm : m = ((2 ^ L : Nat) : Int) - 1) : bits .and .u64 x m = ((a % 2 ^ L : Nat) : Int) := by
  have h1 := pow_le hL
  have h2 := pow_pos L
  subst hx
  rw [hm, show ((2 ^ L : Nat) : Int) - 1 = ((2 ^ L - 1 : Nat) : Int) by omega, bits_and_u64_nat a (2 ^ L - 1) ha (by omega), Nat.and_two_pow_sub_one_eq_mod]
theorem u64_pow (L : Nat) (hL : L ≤ 20) : IntKind.u64.wrap ((2 : Int) ^ L) = ((2 ^ L : Nat) : Int) := by
  have h1 := pow_le hL
  rw [IntKind.wrap_u64, show ((2 : Int) ^ L) = ((2 ^ L : Nat) : Int) by simp]
  generalize 2 ^ L = M at *
  omega
theorem i64_pow (L : Nat) (hL : L ≤ 20) : IntKind.i64.wrap ((2 : Int) ^ L) = ((2 ^ L : Nat) : Int) := by
  have h1 := pow_le hL
  rw [IntKind.wrap_i64, show ((2 : Int) ^ L) = ((2 ^ L : Nat) : Int) by simp]
  generalize 2 ^ L = M at *
  omega

/-- How many shifts by 5 leave nothing of p (f of them at most). -/
def shF : Nat → Nat → Nat
  | 0, _ => 0
  | f + 1, p => if p = 0 then 0 else shF f (p / 32) + 1
def shN (h : Nat) : Nat := shF 13 h
theorem shF_spec (f : Nat) : ∀ p k, p < 32 ^ f → (p / 32 ^ k = 0 ↔ shF f p ≤ k) := by
  induction f with
  | zero => intro p k hp; simp at hp; subst hp; simp [shF]
  | succ f ih =>
    intro p k hp
    unfold shF
    by_cases h0 : p = 0
    · subst h0; simp
    · rw [if_neg h0]
      cases k with
      | zero => simp [h0]
      | succ k =>
        have hd : p / 32 < 32 ^ f := by rw [Nat.div_lt_iff_lt_mul (by omega)]; rw [Nat.pow_succ] at hp; exact hp
        rw [show p / 32 ^ (k + 1) = p / 32 / 32 ^ k by rw [Nat.div_div_eq_div_mul, Nat.pow_succ, Nat.mul_comm], ih _ k hd]
        omega
theorem shN_spec {h : Nat} (hh : h < 18446744073709551616) (k : Nat) : h / 32 ^ k = 0 ↔ shN h ≤ k := by
  refine shF_spec 13 h k ?_
  have : (32 : Nat) ^ 13 = 36893488147419103232 := by decide
  omega
theorem shF_le (f : Nat) : ∀ p, shF f p ≤ f := by
  induction f with
  | zero => intro p; simp [shF]
  | succ f ih => intro p; unfold shF; split; omega; have := ih (p / 32); omega
theorem shN_le (h : Nat) : shN h ≤ 13 := shF_le 13 h
theorem div_pow_succ (h k : Nat) : h / 32 ^ (k + 1) = h / 32 ^ k / 32 := by rw [Nat.div_div_eq_div_mul, Nat.pow_succ]
end Go.Proofs.Ytcakdmapnmneoaa
end

section
namespace Go.Proofs.Ytcakdmapnmneoaa

/-- 1 + 5 + .. + 5^(n-1). -/
def S5 : Nat → Nat
  | 0 => 0
  | n + 1 => 5 * S5 n + 1
theorem S5_add (n m : Nat) : S5 (n + m) = S5 n + (4 * S5 n + 1) * S5 m := by
  induction m with
  | zero => simp [S5]
  | succ m ih =>
    show 5 * S5 (n + m) + 1 = S5 n + (4 * S5 n + 1) * (5 * S5 m + 1)
    rw [ih]
    generalize S5 n = a
    generalize S5 m = b
    simp only [Nat.mul_add, Nat.add_mul, Nat.mul_one, Nat.one_mul]
    have : 4 * a * (5 * b) = 5 * (4 * a * b) := by rw [Nat.mul_left_comm]
    omega
theorem S5_par (n : Nat) : S5 n % 2 = n % 2 := by
  induction n with
  | zero => rfl
  | succ n ih => show (5 * S5 n + 1) % 2 = _; omega
theorem S5_double (m : Nat) : S5 (m + m) = 2 * (S5 m * (2 * S5 m + 1)) := by
  rw [S5_add]
  generalize S5 m = a
  have h1 : (4 * a + 1) * a = 4 * (a * a) + a := by rw [Nat.add_mul, Nat.mul_assoc, Nat.one_mul]
  have h2 : a * (2 * a + 1) = 2 * (a * a) + a := by rw [Nat.mul_add, Nat.mul_left_comm, Nat.mul_one]
  rw [h1, h2]
  omega
theorem odd_coprime (L a : Nat) (ha : a % 2 = 1) : Nat.Coprime (2 ^ L) a := by
  refine Nat.Coprime.pow_left L ?_
  show Nat.gcd 2 a = 1
  rw [Nat.gcd_rec, ha]
  decide
/-- A power of two that divides S5 n divides n. -/
theorem S5_dvd (L : Nat) : ∀ n, 2 ^ L ∣ S5 n → 2 ^ L ∣ n := by
  induction L with
  | zero => intro n _; simp
  | succ L ih =>
    intro n h
    have hp : n % 2 = 0 := by
      rw [← S5_par]
      have : 2 ∣ S5 n := Nat.dvd_trans ⟨2 ^ L, by rw [Nat.pow_succ, Nat.mul_comm]⟩ h
      omega
    obtain ⟨m, rfl⟩ : ∃ m, n = m + m := ⟨n / 2, by omega⟩
    rw [S5_double, Nat.pow_succ, Nat.mul_comm (2 ^ L) 2] at h
    have h1 : 2 ^ L ∣ S5 m * (2 * S5 m + 1) := Nat.dvd_of_mul_dvd_mul_left (by omega) h
    have h2 := ih m ((odd_coprime L _ (by omega)).dvd_of_dvd_mul_right h1)
    rw [Nat.pow_succ]
    obtain ⟨q, hq⟩ := h2
    exact ⟨q, by rw [hq, Nat.mul_assoc, Nat.mul_comm 2 q, ← Nat.mul_assoc, Nat.mul_two]⟩

/-- Behind the shifts a trail goes by 5x+1. -/
theorem trC_iter (L h : Nat) (hh : h < 18446744073709551616) (s : Nat) (hs : shN h ≤ s) (i : Nat) : trC L h (s + i) % 2 ^ L = (trC L h s + S5 i * (4 * trC L h s + 1)) % 2 ^ L := by
  induction i with
  | zero => simp [S5]
  | succ i ih =>
    have hz : h / 32 ^ (s + i) = 0 := (shN_spec hh _).2 (by omega)
    show nxtC L (trC L h (s + i)) (h / 32 ^ (s + i)) % 2 ^ L = _
    unfold nxtC
    rw [hz, Nat.zero_div, Nat.add_zero, Nat.mod_mod, Nat.add_mod, Nat.mul_mod, ih, ← Nat.mul_mod, ← Nat.add_mod]
    congr 1
    show 5 * (trC L h s + S5 i * (4 * trC L h s + 1)) + 1 = trC L h s + (5 * S5 i + 1) * (4 * trC L h s + 1)
    generalize trC L h s = x
    generalize S5 i = y
    have h1 : (5 * y + 1) * (4 * x + 1) = 5 * (y * (4 * x + 1)) + (4 * x + 1) := by rw [Nat.add_mul, Nat.mul_assoc, Nat.one_mul]
    rw [h1]
    omega
theorem trC_apart (L h : Nat) (hh : h < 18446744073709551616) (s : Nat) (hs : shN h ≤ s) (i j : Nat) (hij : i < j) (hj : j < 2 ^ L) : trC L h (s + i) ≠ trC L h (s + j) := by
  intro e
  have e1 : trC L h (s + i) % 2 ^ L = trC L h (s + j) % 2 ^ L := by rw [e]
  rw [trC_iter L h hh s hs i, trC_iter L h hh s hs j] at e1
  obtain ⟨k, rfl⟩ : ∃ k, j = i + k := ⟨j - i, by omega⟩
  rw [S5_add] at e1
  generalize trC L h s = x at *
  have e2 : x + (S5 i + (4 * S5 i + 1) * S5 k) * (4 * x + 1) = (x + S5 i * (4 * x + 1)) + (4 * S5 i + 1) * S5 k * (4 * x + 1) := by
    rw [Nat.add_mul, Nat.add_assoc]
  rw [e2] at e1
  have e3 : 2 ^ L ∣ (4 * S5 i + 1) * S5 k * (4 * x + 1) := by
    have h1 := Nat.sub_mod_eq_zero_of_mod_eq e1.symm
    rw [Nat.add_sub_cancel_left] at h1
    exact Nat.dvd_of_mod_eq_zero h1
  have e4 : 2 ^ L ∣ (4 * S5 i + 1) * S5 k := (odd_coprime L _ (by omega)).dvd_of_dvd_mul_right e3
  have e5 : 2 ^ L ∣ S5 k := (odd_coprime L _ (by omega)).dvd_of_dvd_mul_left e4
  have e6 := Nat.le_of_dvd (by omega) (S5_dvd L k e5)
  omega
end Go.Proofs.Ytcakdmapnmneoaa
end

section
namespace Go.Proofs.Ytcakdmapnmneoaa
open Go.RowKit
set_option linter.unusedVariables false

/-- A row of numbers of one kind. -/
def numA (k : IntKind) (n : Nat) (V : Nat → Int) : Array Value := ((List.range n).map fun v => Value.int k (V v)).toArray
theorem numA_size (k : IntKind) (n : Nat) (V : Nat → Int) : (numA k n V).size = n := by simp [numA]
theorem numA_get {k : IntKind} {n : Nat} {V : Nat → Int} {v : Nat} (h : v < n) : (numA k n V)[v]? = some (.int k (V v)) := by simp [numA, h]
theorem numA_ext {k : IntKind} {n : Nat} {B C : Nat → Int} (h : ∀ v, v < n → B v = C v) : numA k n B = numA k n C := by
  unfold numA
  congr 1
  exact List.map_congr_left fun v hv => by rw [h v (List.mem_range.1 hv)]
/-- One number laid anew. -/
def putN (V : Nat → Int) (i : Nat) (x : Int) : Nat → Int := fun j => if j = i then x else V j
theorem numA_set {k : IntKind} {n : Nat} {V : Nat → Int} {v : Nat} (b : Int) : (numA k n V).setIfInBounds v (.int k b) = numA k n (putN V v b) := by
  apply Array.ext_getElem?
  intro i
  rw [Array.getElem?_setIfInBounds]
  by_cases hi : i < n
  · rw [numA_get hi, numA_size]
    by_cases hv : v = i
    · subst hv; rw [numA_get hi]; simp [hi, putN]
    · rw [if_neg hv, numA_get hi]; simp only [putN]; rw [if_neg (fun e => hv e.symm)]
  · have h1 : ∀ C : Nat → Int, (numA k n C)[i]? = none := fun C => by simp [numA]; omega
    rw [h1, h1]
    split
    · rename_i h; subst h; rw [numA_size, if_neg hi]
    · rfl
theorem made_nums (k : IntKind) (n : Nat) : madeCells #[.int k 0] n = numA k n (fun _ => 0) := by
  apply Array.ext_getElem?
  intro i
  by_cases hi : i < n
  · rw [numA_get hi]; simp [madeCells, hi, Nat.mod_one]
  · simp [madeCells, numA, hi]

/-! of[int8] -/
theorem get_8 (r n i : Nat) (V : Nat → Int) (ii : Int) (hii : ii = (i : Int)) (wd : Int) (w : World) (hr : w.heap[r]? = some (.cells (numA .i8 n V) 187 (0, 0))) (hi : i < n) (hV : -2147483648 ≤ V i ∧ V i ≤ 2147483647) :
    Calls Try.prog 124 #[.agg #[.slice (some ⟨r, 0, none⟩) n n, .int .i64 wd], .int .i64 ii] w fun e w' => e = .returned (.int .i64 (V i)) ∧ Below w.heap.size w w' := by
  subst hii
  have c0 : w.cell? ⟨r, i, none⟩ = some (.int .i8 (V i)) := cell_has hr (numA_get hi)
  have z := lt_of_block hr
  have h1 : (0 : Int) ≤ (i : Int) := by omega
  have h2 : (i : Int) < (n : Int) := by omega
  obtain ⟨x, hx⟩ := ex_hid (V i)
  rw [← hx.out] at c0 hV ⊢
  obtain ⟨v1, v2⟩ := hV
  clear hr
  go_enter Try.func124, Try.ntmps124
  go_wp2_with fail
  go_ret
  exact ⟨rfl, (Below.refl _ _).alloc (Nat.le_refl _) _⟩
theorem set_8 (r n i : Nat) (V : Nat → Int) (ii : Int) (hii : ii = (i : Int)) (wd x : Int) (w : World) (hr : w.heap[r]? = some (.cells (numA .i8 n V) 187 (0, 0))) (hi : i < n) :
    Calls Try.prog 126 #[.agg #[.slice (some ⟨r, 0, none⟩) n n, .int .i64 wd], .int .i64 ii, .int .i64 x] w fun e w' => e = .returned (.tuple #[]) ∧ Keeps [r] w w' ∧ w'.heap[r]? = some (.cells (numA .i8 n (putN V i (IntKind.wrap .i8 x))) 187 (0, 0)) := by
  subst hii
  have c0 : w.cell? ⟨r, i, none⟩ = some (.int .i8 (V i)) := cell_has hr (numA_get hi)
  have f0 := free_of_has hr i
  have z := lt_of_block hr
  have h1 : (0 : Int) ≤ (i : Int) := by omega
  have h2 : (i : Int) < (n : Int) := by omega
  obtain ⟨y, hy⟩ := ex_hid (V i)
  rw [← hy.out] at c0
  have H := Lib.hid hr
  obtain ⟨q, hq⟩ := ex_hid (IntKind.wrap .i8 x)
  have e1 : IntKind.wrap .i8 x = q := hq.out.symm
  clear hr
  go_enter Try.func126, Try.ntmps126
  go_wp2_with fail
  go_end0
  refine ⟨rfl, ((Keeps.refl [r] _).setCell (.inr List.mem_cons_self) _).alloc _, ?_⟩
  have h := has_setCell H.out i (.int .i8 q)
  rw [numA_set] at h
  rw [← hq.out]
  exact has_alloc h _
theorem len_8 (a : Option Addr) (n : Nat) (wd : Int) (w : World) :
    Calls Try.prog 125 #[.agg #[.slice a n n, .int .i64 wd]] w fun e w' => e = .returned (.int .i64 n) ∧ Below w.heap.size w w' := by
  go_enter Try.func125, Try.ntmps125
  go_wp2_with fail
  go_ret
  exact ⟨rfl, (Below.refl _ _).alloc (Nat.le_refl _) _⟩
theorem width_8 (a : Option Addr) (n : Nat) (wd : Int) (w : World) :
    Calls Try.prog 127 #[.agg #[.slice a n n, .int .i64 wd]] w fun e w' => e = .returned (.int .i64 wd) ∧ Below w.heap.size w w' := by
  go_enter Try.func127, Try.ntmps127
  go_wp2_with fail
  go_ret
  exact ⟨rfl, (Below.refl _ _).alloc (Nat.le_refl _) _⟩

/-! of[int16] -/
theorem get_16 (r n i : Nat) (V : Nat → Int) (ii : Int) (hii : ii = (i : Int)) (wd : Int) (w : World) (hr : w.heap[r]? = some (.cells (numA .i16 n V) 188 (0, 0))) (hi : i < n) (hV : -2147483648 ≤ V i ∧ V i ≤ 2147483647) :
    Calls Try.prog 128 #[.agg #[.slice (some ⟨r, 0, none⟩) n n, .int .i64 wd], .int .i64 ii] w fun e w' => e = .returned (.int .i64 (V i)) ∧ Below w.heap.size w w' := by
  subst hii
  have c0 : w.cell? ⟨r, i, none⟩ = some (.int .i16 (V i)) := cell_has hr (numA_get hi)
  have z := lt_of_block hr
  have h1 : (0 : Int) ≤ (i : Int) := by omega
  have h2 : (i : Int) < (n : Int) := by omega
  obtain ⟨x, hx⟩ := ex_hid (V i)
  rw [← hx.out] at c0 hV ⊢
  obtain ⟨v1, v2⟩ := hV
  clear hr
  go_enter Try.func128, Try.ntmps128
  go_wp2_with fail
  go_ret
  exact ⟨rfl, (Below.refl _ _).alloc (Nat.le_refl _) _⟩
theorem set_16 (r n i : Nat) (V : Nat → Int) (ii : Int) (hii : ii = (i : Int)) (wd x : Int) (w : World) (hr : w.heap[r]? = some (.cells (numA .i16 n V) 188 (0, 0))) (hi : i < n) :
    Calls Try.prog 130 #[.agg #[.slice (some ⟨r, 0, none⟩) n n, .int .i64 wd], .int .i64 ii, .int .i64 x] w fun e w' => e = .returned (.tuple #[]) ∧ Keeps [r] w w' ∧ w'.heap[r]? = some (.cells (numA .i16 n (putN V i (IntKind.wrap .i16 x))) 188 (0, 0)) := by
  subst hii
  have c0 : w.cell? ⟨r, i, none⟩ = some (.int .i16 (V i)) := cell_has hr (numA_get hi)
  have f0 := free_of_has hr i
  have z := lt_of_block hr
  have h1 : (0 : Int) ≤ (i : Int) := by omega
  have h2 : (i : Int) < (n : Int) := by omega
  obtain ⟨y, hy⟩ := ex_hid (V i)
  rw [← hy.out] at c0
  have H := Lib.hid hr
  obtain ⟨q, hq⟩ := ex_hid (IntKind.wrap .i16 x)
  have e1 : IntKind.wrap .i16 x = q := hq.out.symm
  clear hr
  go_enter Try.func130, Try.ntmps130
  go_wp2_with fail
  go_end0
  refine ⟨rfl, ((Keeps.refl [r] _).setCell (.inr List.mem_cons_self) _).alloc _, ?_⟩
  have h := has_setCell H.out i (.int .i16 q)
  rw [numA_set] at h
  rw [← hq.out]
  exact has_alloc h _
theorem len_16 (a : Option Addr) (n : Nat) (wd : Int) (w : World) :
    Calls Try.prog 129 #[.agg #[.slice a n n, .int .i64 wd]] w fun e w' => e = .returned (.int .i64 n) ∧ Below w.heap.size w w' := by
  go_enter Try.func129, Try.ntmps129
  go_wp2_with fail
  go_ret
  exact ⟨rfl, (Below.refl _ _).alloc (Nat.le_refl _) _⟩
theorem width_16 (a : Option Addr) (n : Nat) (wd : Int) (w : World) :
    Calls Try.prog 131 #[.agg #[.slice a n n, .int .i64 wd]] w fun e w' => e = .returned (.int .i64 wd) ∧ Below w.heap.size w w' := by
  go_enter Try.func131, Try.ntmps131
  go_wp2_with fail
  go_ret
  exact ⟨rfl, (Below.refl _ _).alloc (Nat.le_refl _) _⟩

/-! of[int32] -/
theorem get_32 (r n i : Nat) (V : Nat → Int) (ii : Int) (hii : ii = (i : Int)) (wd : Int) (w : World) (hr : w.heap[r]? = some (.cells (numA .i32 n V) 21 (0, 0))) (hi : i < n) (hV : -2147483648 ≤ V i ∧ V i ≤ 2147483647) :
    Calls Try.prog 132 #[.agg #[.slice (some ⟨r, 0, none⟩) n n, .int .i64 wd], .int .i64 ii] w fun e w' => e = .returned (.int .i64 (V i)) ∧ Below w.heap.size w w' := by
  subst hii
  have c0 : w.cell? ⟨r, i, none⟩ = some (.int .i32 (V i)) := cell_has hr (numA_get hi)
  have z := lt_of_block hr
  have h1 : (0 : Int) ≤ (i : Int) := by omega
  have h2 : (i : Int) < (n : Int) := by omega
  obtain ⟨x, hx⟩ := ex_hid (V i)
  rw [← hx.out] at c0 hV ⊢
  obtain ⟨v1, v2⟩ := hV
  clear hr
  go_enter Try.func132, Try.ntmps132
  go_wp2_with fail
  go_ret
  exact ⟨rfl, (Below.refl _ _).alloc (Nat.le_refl _) _⟩
theorem set_32 (r n i : Nat) (V : Nat → Int) (ii : Int) (hii : ii = (i : Int)) (wd x : Int) (w : World) (hr : w.heap[r]? = some (.cells (numA .i32 n V) 21 (0, 0))) (hi : i < n) :
    Calls Try.prog 134 #[.agg #[.slice (some ⟨r, 0, none⟩) n n, .int .i64 wd], .int .i64 ii, .int .i64 x] w fun e w' => e = .returned (.tuple #[]) ∧ Keeps [r] w w' ∧ w'.heap[r]? = some (.cells (numA .i32 n (putN V i (IntKind.wrap .i32 x))) 21 (0, 0)) := by
  subst hii
  have c0 : w.cell? ⟨r, i, none⟩ = some (.int .i32 (V i)) := cell_has hr (numA_get hi)
  have f0 := free_of_has hr i
  have z := lt_of_block hr
  have h1 : (0 : Int) ≤ (i : Int) := by omega
  have h2 : (i : Int) < (n : Int) := by omega
  obtain ⟨y, hy⟩ := ex_hid (V i)
  rw [← hy.out] at c0
  have H := Lib.hid hr
  obtain ⟨q, hq⟩ := ex_hid (IntKind.wrap .i32 x)
  have e1 : IntKind.wrap .i32 x = q := hq.out.symm
  clear hr
  go_enter Try.func134, Try.ntmps134
  go_wp2_with fail
  go_end0
  refine ⟨rfl, ((Keeps.refl [r] _).setCell (.inr List.mem_cons_self) _).alloc _, ?_⟩
  have h := has_setCell H.out i (.int .i32 q)
  rw [numA_set] at h
  rw [← hq.out]
  exact has_alloc h _
theorem len_32 (a : Option Addr) (n : Nat) (wd : Int) (w : World) :
    Calls Try.prog 133 #[.agg #[.slice a n n, .int .i64 wd]] w fun e w' => e = .returned (.int .i64 n) ∧ Below w.heap.size w w' := by
  go_enter Try.func133, Try.ntmps133
  go_wp2_with fail
  go_ret
  exact ⟨rfl, (Below.refl _ _).alloc (Nat.le_refl _) _⟩
theorem width_32 (a : Option Addr) (n : Nat) (wd : Int) (w : World) :
    Calls Try.prog 135 #[.agg #[.slice a n n, .int .i64 wd]] w fun e w' => e = .returned (.int .i64 wd) ∧ Below w.heap.size w w' := by
  go_enter Try.func135, Try.ntmps135
  go_wp2_with fail
  go_ret
  exact ⟨rfl, (Below.refl _ _).alloc (Nat.le_refl _) _⟩
end Go.Proofs.Ytcakdmapnmneoaa
end

section
namespace Go.Proofs.Ytcakdmapnmneoaa
open Go.RowKit
set_option linter.unusedVariables false

theorem ret_num {k : IntKind} {a b : Int} (h : a = b) : Ending.returned (.int k a) = .returned (.int k b) := by rw [h]
theorem ret_boo {a b : Bool} (h : a = b) : Ending.returned (.bool a) = .returned (.bool b) := by rw [h]
/-- A call of a function of the program is entered. -/
def EntersF (P : Program) (g : FuncId) : Prop := ∀ args W, (callFunc g args).run P W = .ok (.enter g args) W
theorem entersF_of {P : Program} {g : FuncId} {fn : Func} (hg : P.funcs[g]? = some fn) (hn : (fn.name == "runtime.NumGoroutine") = false) (hb : fn.body.isNone = false) : EntersF P g := by
  intro args W
  have hn' : ¬ fn.name = "runtime.NumGoroutine" := by simpa using hn
  have hb' : ¬ fn.body = none := by intro h; rw [h] at hb; cases hb
  simp [callFunc, hg, hn', hb']

/-- A kind of rows: its type, its elements' type and kind, and its four methods. -/
structure RowKind (T E : TypeId) (k : IntKind) (g s l x : FuncId) : Prop where
  mg : ∀ v w, (method 291 T v "lexicon/cells.get").run Try.prog w = .ok (g, v) w
  ms : ∀ v w, (method 291 T v "lexicon/cells.set").run Try.prog w = .ok (s, v) w
  ml : ∀ v w, (method 291 T v "lexicon/cells.len").run Try.prog w = .ok (l, v) w
  mx : ∀ v w, (method 291 T v "lexicon/cells.width").run Try.prog w = .ok (x, v) w
  eg : EntersF Try.prog g
  es : EntersF Try.prog s
  el : EntersF Try.prog l
  ex : EntersF Try.prog x
  cg : ∀ (r n i : Nat) (V : Nat → Int) (ii : Int) (_ : ii = (i : Int)) (wd : Int) (w : World) (_ : w.heap[r]? = some (.cells (numA k n V) E (0, 0))) (_ : i < n) (_ : -2147483648 ≤ V i ∧ V i ≤ 2147483647),
    Calls Try.prog g #[.agg #[.slice (some ⟨r, 0, none⟩) n n, .int .i64 wd], .int .i64 ii] w fun e w' => e = .returned (.int .i64 (V i)) ∧ Below w.heap.size w w'
  cs : ∀ (r n i : Nat) (V : Nat → Int) (ii : Int) (_ : ii = (i : Int)) (wd x : Int) (w : World) (_ : w.heap[r]? = some (.cells (numA k n V) E (0, 0))) (_ : i < n),
    Calls Try.prog s #[.agg #[.slice (some ⟨r, 0, none⟩) n n, .int .i64 wd], .int .i64 ii, .int .i64 x] w fun e w' => e = .returned (.tuple #[]) ∧ Keeps [r] w w' ∧ w'.heap[r]? = some (.cells (numA k n (putN V i (k.wrap x))) E (0, 0))
  cl : ∀ (a : Option Addr) (n : Nat) (wd : Int) (w : World), Calls Try.prog l #[.agg #[.slice a n n, .int .i64 wd]] w fun e w' => e = .returned (.int .i64 n) ∧ Below w.heap.size w w'
  cx : ∀ (a : Option Addr) (n : Nat) (wd : Int) (w : World), Calls Try.prog x #[.agg #[.slice a n n, .int .i64 wd]] w fun e w' => e = .returned (.int .i64 wd) ∧ Below w.heap.size w w'

theorem rk8 : RowKind 162 187 .i8 124 126 125 127 :=
  ⟨fun v w => by kernel_rfl, fun v w => by kernel_rfl, fun v w => by kernel_rfl, fun v w => by kernel_rfl, entersF_of Try.func124 (by kernel_rfl) (by kernel_rfl), entersF_of Try.func126 (by kernel_rfl) (by kernel_rfl), entersF_of Try.func125 (by kernel_rfl) (by kernel_rfl), entersF_of Try.func127 (by kernel_rfl) (by kernel_rfl), get_8, set_8, len_8, width_8⟩
theorem rk16 : RowKind 165 188 .i16 128 130 129 131 :=
  ⟨fun v w => by kernel_rfl, fun v w => by kernel_rfl, fun v w => by kernel_rfl, fun v w => by kernel_rfl, entersF_of Try.func128 (by kernel_rfl) (by kernel_rfl), entersF_of Try.func130 (by kernel_rfl) (by kernel_rfl), entersF_of Try.func129 (by kernel_rfl) (by kernel_rfl), entersF_of Try.func131 (by kernel_rfl) (by kernel_rfl), get_16, set_16, len_16, width_16⟩
theorem rk32 : RowKind 168 21 .i32 132 134 133 135 :=
  ⟨fun v w => by kernel_rfl, fun v w => by kernel_rfl, fun v w => by kernel_rfl, fun v w => by kernel_rfl, entersF_of Try.func132 (by kernel_rfl) (by kernel_rfl), entersF_of Try.func134 (by kernel_rfl) (by kernel_rfl), entersF_of Try.func133 (by kernel_rfl) (by kernel_rfl), entersF_of Try.func135 (by kernel_rfl) (by kernel_rfl), get_32, set_32, len_32, width_32⟩

/-! The kind by the logarithm. -/
def tyOf (L : Nat) : TypeId := if L ≤ 7 then 162 else if L ≤ 15 then 165 else 168
def elOf (L : Nat) : TypeId := if L ≤ 7 then 187 else if L ≤ 15 then 188 else 21
def kiOf (L : Nat) : IntKind := if L ≤ 7 then .i8 else if L ≤ 15 then .i16 else .i32
def wdOf (L : Nat) : Nat := if L ≤ 7 then 1 else if L ≤ 15 then 2 else 4
def gF (L : Nat) : FuncId := if L ≤ 7 then 124 else if L ≤ 15 then 128 else 132
def sF (L : Nat) : FuncId := if L ≤ 7 then 126 else if L ≤ 15 then 130 else 134
def lF (L : Nat) : FuncId := if L ≤ 7 then 125 else if L ≤ 15 then 129 else 133
def xF (L : Nat) : FuncId := if L ≤ 7 then 127 else if L ≤ 15 then 131 else 135
theorem rowKind (L : Nat) : RowKind (tyOf L) (elOf L) (kiOf L) (gF L) (sF L) (lF L) (xF L) := by
  unfold tyOf elOf kiOf gF sF lF xF
  by_cases h1 : L ≤ 7
  · simp only [if_pos h1]; exact rk8
  · simp only [if_neg h1]
    by_cases h2 : L ≤ 15
    · simp only [if_pos h2]; exact rk16
    · simp only [if_neg h2]; exact rk32

/-- Cells in memory: the object at c, its row at r, 2^L = n cells that hold V. -/
structure CellsAt (c r L n : Nat) (V : Nat → Int) (w : World) : Prop where
  ho : w.heap[c]? = some (.cells #[.int .i64 L, .iface (tyOf L) (.agg #[.slice (some ⟨r, 0, none⟩) n n, .int .i64 (wdOf L)])] 148 (0, 0))
  hr : w.heap[r]? = some (.cells (numA (kiOf L) n V) (elOf L) (0, 0))
theorem CellsAt.keeps {c r L n : Nat} {V : Nat → Int} {w w' : World} {S : List Nat} (h : CellsAt c r L n V w) (k : Keeps S w w') (h1 : c ∉ S) (h2 : r ∉ S) : CellsAt c r L n V w' := ⟨k.has h.ho h1, k.has h.hr h2⟩
theorem CellsAt.below {c r L n : Nat} {V : Nat → Int} {w w' : World} (h : CellsAt c r L n V w) (k : Below w.heap.size w w') : CellsAt c r L n V w' := h.keeps (Below.keeps k []) (by simp) (by simp)
theorem CellsAt.apart {c r L n : Nat} {V : Nat → Int} {w : World} (h : CellsAt c r L n V w) : c ≠ r := by
  intro e
  have h1 := h.ho
  rw [e, h.hr] at h1
  simp only [Option.some.injEq, Obj.cells.injEq] at h1
  have h2 := h1.2.1
  unfold elOf at h2
  by_cases a : L ≤ 7
  · rw [if_pos a] at h2; revert h2; decide
  · rw [if_neg a] at h2
    by_cases b : L ≤ 15
    · rw [if_pos b] at h2; revert h2; decide
    · rw [if_neg b] at h2; revert h2; decide

theorem none_any (T : TypeId) (c : Nat) (v : Value) (L : Int) (w : World) (h : w.heap[c]? = some (.cells #[.int .i64 L, .iface T v] 148 (0, 0))) :
    Calls Try.prog 99 #[.pointer (some ⟨c, 0, none⟩)] w fun e w' => e = .returned (.bool false) ∧ w = w' := by
  have c0 := cell_has h (i := 0) rfl
  have c1 := cell_has h (i := 1) rfl
  clear h
  go_enter Try.func99, Try.ntmps99
  go_wp2_with fail
  go_ret
  exact ⟨rfl, rfl⟩

set_option maxRecDepth 100000 in
theorem size_any (c r L n : Nat) (V : Nat → Int) (w : World) (H : CellsAt c r L n V w) :
    Calls Try.prog 102 #[.pointer (some ⟨c, 0, none⟩)] w fun e w' => e = .returned (.int .i64 n) ∧ Below w.heap.size w w' := by
  have c0 := cell_has H.ho (i := 0) rfl
  have c1 := cell_has H.ho (i := 1) rfl
  have hm := (rowKind L).ml
  have he := fun args W => (rowKind L).el args W
  have HH := Lib.hid H
  clear H
  go_enter Try.func102, Try.ntmps102
  go_wp2_with fail
  refine (none_any _ _ _ _ _ HH.out.ho).mono ?_
  rintro e w1 ⟨rfl, rfl⟩
  go_wp2_with fail
  refine ((rowKind L).cl _ _ _ _).mono ?_
  rintro e w2 ⟨rfl, b2⟩
  go_wp2_with fail
  go_ret
  exact ⟨rfl, b2⟩

set_option maxRecDepth 100000 in
theorem width_any (c r L n : Nat) (V : Nat → Int) (w : World) (H : CellsAt c r L n V w) :
    Calls Try.prog 83 #[.pointer (some ⟨c, 0, none⟩)] w fun e w' => e = .returned (.int .i64 (wdOf L)) ∧ Below w.heap.size w w' := by
  have c0 := cell_has H.ho (i := 0) rfl
  have c1 := cell_has H.ho (i := 1) rfl
  have hm := (rowKind L).mx
  have he := fun args W => (rowKind L).ex args W
  have HH := Lib.hid H
  clear H
  go_enter Try.func83, Try.ntmps83
  go_wp2_with fail
  refine (none_any _ _ _ _ _ HH.out.ho).mono ?_
  rintro e w1 ⟨rfl, rfl⟩
  go_wp2_with fail
  refine ((rowKind L).cx _ _ _ _).mono ?_
  rintro e w2 ⟨rfl, b2⟩
  go_wp2_with fail
  go_ret
  exact ⟨rfl, b2⟩

theorem log_any (c r L n : Nat) (V : Nat → Int) (w : World) (H : CellsAt c r L n V w) :
    Calls Try.prog 76 #[.pointer (some ⟨c, 0, none⟩)] w fun e w' => e = .returned (.int .i64 L) ∧ w = w' := by
  have c0 := cell_has H.ho (i := 0) rfl
  have HH := Lib.hid H
  clear H
  go_enter Try.func76, Try.ntmps76
  go_wp2_with fail
  refine (none_any _ _ _ _ _ HH.out.ho).mono ?_
  rintro e w1 ⟨rfl, rfl⟩
  go_wp2_with fail
  go_ret
  exact ⟨rfl, rfl⟩
theorem room_any (c r L n : Nat) (V : Nat → Int) (w : World) (H : CellsAt c r L n V w) (hn : n ≤ 1048576) :
    Calls Try.prog 95 #[.pointer (some ⟨c, 0, none⟩)] w fun e w' => e = .returned (.int .i64 (2 * n / 3 : Nat)) ∧ Below w.heap.size w w' := by
  have HH := Lib.hid H
  have hi : (n : Int) ≤ 1048576 := by omega
  have hv : (2 : Int) * (n : Int) / 3 = ((2 * n / 3 : Nat) : Int) := by omega
  have HV := Lib.hid hv
  clear H hn hv
  go_enter Try.func95, Try.ntmps95
  go_wp2_with fail
  refine (size_any _ _ _ _ _ _ HH.out).mono ?_
  rintro e w1 ⟨rfl, b1⟩
  go_wp2_with fail
  go_ret
  exact ⟨ret_num HV.out, b1⟩

theorem wrong_in (c r L n : Nat) (V : Nat → Int) (i : Int) (w : World) (H : CellsAt c r L n V w) (h0 : 0 ≤ i) (h1 : i < n) :
    Calls Try.prog 100 #[.pointer (some ⟨c, 0, none⟩), .int .i64 i] w fun e w' => e = .returned (.int .i64 0) ∧ Below w.heap.size w w' := by
  have HH := Lib.hid H
  have d1 : decide (i < 0) = false := by simp; omega
  have d2 : decide ((n : Int) ≤ i) = false := by simp; omega
  clear H
  go_enter Try.func100, Try.ntmps100
  go_wp2_with fail
  refine (none_any _ _ _ _ _ HH.out.ho).mono ?_
  rintro e w1 ⟨rfl, rfl⟩
  go_wp2_with fail
  refine (size_any _ _ _ _ _ _ HH.out).mono ?_
  rintro e w1 ⟨rfl, b1⟩
  go_wp2_with fail
  go_ret
  exact ⟨rfl, b1⟩
theorem wrong_out (c r L n : Nat) (V : Nat → Int) (i : Int) (w : World) (H : CellsAt c r L n V w) (h : i < 0 ∨ (0 ≤ i ∧ (n : Int) ≤ i)) :
    Calls Try.prog 100 #[.pointer (some ⟨c, 0, none⟩), .int .i64 i] w fun e w' => e = .returned (.int .i64 5) ∧ Below w.heap.size w w' := by
  have HH := Lib.hid H
  clear H
  rcases h with h | ⟨h, h2⟩
  · have d1 : decide (i < 0) = true := by simpa using h
    go_enter Try.func100, Try.ntmps100
    go_wp2_with fail
    refine (none_any _ _ _ _ _ HH.out.ho).mono ?_
    rintro e w1 ⟨rfl, rfl⟩
    go_wp2_with fail
    go_ret
    exact ⟨rfl, Below.refl _ _⟩
  · have d1 : decide (i < 0) = false := by simp; omega
    have d2 : decide ((n : Int) ≤ i) = true := by simpa using h2
    go_enter Try.func100, Try.ntmps100
    go_wp2_with fail
    refine (none_any _ _ _ _ _ HH.out.ho).mono ?_
    rintro e w1 ⟨rfl, rfl⟩
    go_wp2_with fail
    refine (size_any _ _ _ _ _ _ HH.out).mono ?_
    rintro e w1 ⟨rfl, b1⟩
    go_wp2_with fail
    go_ret
    exact ⟨rfl, b1⟩

/-- What a cell may hold. -/
def mayB (n : Nat) (v : Int) : Bool := decide (v = -1 ∨ v = -2 ∨ (0 ≤ v ∧ v < (2 * n / 3 : Nat)))
theorem may_any (c r L n : Nat) (V : Nat → Int) (v : Int) (w : World) (H : CellsAt c r L n V w) (hn : n ≤ 1048576) :
    Calls Try.prog 106 #[.pointer (some ⟨c, 0, none⟩), .int .i64 v] w fun e w' => e = .returned (.bool (mayB n v)) ∧ Below w.heap.size w w' := by
  have HH := Lib.hid H
  have HN := Lib.hid hn
  clear H hn
  by_cases h1 : v = -1
  · subst h1
    rw [show mayB n (-1) = true by simp [mayB]]
    go_enter Try.func106, Try.ntmps106
    go_wp2_with fail
    go_ret
    exact ⟨rfl, Below.refl _ _⟩
  have d1 : (v == -1) = false := by simpa using h1
  by_cases h2 : v = -2
  · subst h2
    rw [show mayB n (-2) = true by simp [mayB]]
    go_enter Try.func106, Try.ntmps106
    go_wp2_with fail
    go_ret
    exact ⟨rfl, Below.refl _ _⟩
  have d2 : (v == -2) = false := by simpa using h2
  by_cases h3 : 0 ≤ v
  · have d3 : decide (0 ≤ v) = true := by simpa using h3
    obtain ⟨b, hb⟩ := ex_hid (mayB n v)
    have hx : decide (v < 2 * (n : Int) / 3) = b := by
      rw [hb.out]
      have e : ((2 * n / 3 : Nat) : Int) = 2 * (n : Int) / 3 := by omega
      simp only [mayB, h1, h2, h3, e, false_or, true_and]
    have HX := Lib.hid hx
    rw [← hb.out]
    clear hx h1 h2
    go_enter Try.func106, Try.ntmps106
    go_wp2_with fail
    refine (room_any _ _ _ _ _ _ HH.out HN.out).mono ?_
    rintro e w1 ⟨rfl, b1⟩
    go_wp2_with fail
    go_ret
    exact ⟨ret_boo HX.out, b1⟩
  · have d3 : decide (0 ≤ v) = false := by simpa using h3
    rw [show mayB n v = false by simp [mayB, h1, h2, h3]]
    clear h1 h2 h3
    go_enter Try.func106, Try.ntmps106
    go_wp2_with fail
    go_ret
    exact ⟨rfl, Below.refl _ _⟩
end Go.Proofs.Ytcakdmapnmneoaa
end

section
namespace Go.Proofs.Ytcakdmapnmneoaa
open Go.RowKit
set_option linter.unusedVariables false

/-- The numbers that cells hold fit their width. -/
def Fits (n : Nat) (V : Nat → Int) : Prop := ∀ i, mayB n (V i) = true ∨ V i = 0
theorem Fits.bounds {n : Nat} {V : Nat → Int} (h : Fits n V) (hn : n ≤ 1048576) (i : Nat) : -2147483648 ≤ V i ∧ V i ≤ 2147483647 := by
  rcases h i with h | h
  · simp [mayB] at h; omega
  · omega
theorem Fits.put {n : Nat} {V : Nat → Int} (h : Fits n V) (i : Nat) {v : Int} (hv : mayB n v = true) : Fits n (putN V i v) := by
  intro j
  unfold putN
  split
  · exact .inl hv
  · exact h j
theorem wrap_may (L n : Nat) (hL : L ≤ 20) (hn : n = 2 ^ L) (v : Int) (hv : mayB n v = true) : (kiOf L).wrap v = v := by
  have h : v = -1 ∨ v = -2 ∨ (0 ≤ v ∧ v < ((2 * n / 3 : Nat) : Int)) := by simpa [mayB] using hv
  unfold kiOf
  by_cases h1 : L ≤ 7
  · have h3 : n ≤ 2 ^ 7 := by rw [hn]; exact Nat.pow_le_pow_right (by omega) h1
    rw [if_pos h1]; simp only [IntKind.wrap, IntKind.bits, IntKind.signed]; simp; omega
  · rw [if_neg h1]
    by_cases h2 : L ≤ 15
    · have h3 : n ≤ 2 ^ 15 := by rw [hn]; exact Nat.pow_le_pow_right (by omega) h2
      rw [if_pos h2]; simp only [IntKind.wrap, IntKind.bits, IntKind.signed]; simp; omega
    · have h3 : n ≤ 2 ^ 20 := by rw [hn]; exact Nat.pow_le_pow_right (by omega) hL
      rw [if_neg h2]; simp only [IntKind.wrap, IntKind.bits, IntKind.signed]; simp; omega

set_option maxRecDepth 100000 in
theorem getc_in (c r L n : Nat) (V : Nat → Int) (i : Int) (w : World) (H : CellsAt c r L n V w) (hF : Fits n V) (hn : n ≤ 1048576) (h0 : 0 ≤ i) (h1 : i < n) :
    Calls Try.prog 77 #[.pointer (some ⟨c, 0, none⟩), .int .i64 i] w fun e w' => e = .returned (.tuple #[.int .i64 (V i.toNat), .int .i64 0]) ∧ Below w.heap.size w w' := by
  have HH := Lib.hid H
  have hm := (rowKind L).mg
  have he := fun args W => (rowKind L).eg args W
  obtain ⟨x, hx⟩ := ex_hid (V i.toNat)
  have HB := Lib.hid (hF.bounds hn i.toNat)
  clear H hF
  go_enter Try.func77, Try.ntmps77
  go_wp2_with fail
  refine (wrong_in _ _ _ _ _ _ _ HH.out h0 h1).mono ?_
  rintro e w1 ⟨rfl, b1⟩
  have H1 := Lib.hid (HH.out.below b1)
  have c1 := cell_has H1.out.ho (i := 1) rfl
  have B1 := Lib.hid b1
  clear b1
  go_wp2_with fail
  refine ((rowKind L).cg r n i.toNat V _ (by omega) _ _ H1.out.hr (by omega) HB.out).mono ?_
  rintro e w2 ⟨rfl, b2⟩
  rw [← hx.out]
  go_wp2_with fail
  go_ret2
  exact ⟨by rw [← hx.out]; rfl, B1.out.trans (b2.mono B1.out.size)⟩
theorem getc_out (c r L n : Nat) (V : Nat → Int) (i : Int) (w : World) (H : CellsAt c r L n V w) (h : i < 0 ∨ (0 ≤ i ∧ (n : Int) ≤ i)) :
    Calls Try.prog 77 #[.pointer (some ⟨c, 0, none⟩), .int .i64 i] w fun e w' => e = .returned (.tuple #[.int .i64 0, .int .i64 5]) ∧ Below w.heap.size w w' := by
  have HH := Lib.hid H
  have HC := Lib.hid h
  clear H h
  go_enter Try.func77, Try.ntmps77
  go_wp2_with fail
  refine (wrong_out _ _ _ _ _ _ _ HH.out HC.out).mono ?_
  rintro e w1 ⟨rfl, b1⟩
  go_wp2_with fail
  go_ret2
  exact ⟨rfl, b1⟩

/-- Behind a Set. -/
def SetC (c r L n : Nat) (V : Nat → Int) (x : Int) (w : World) (e : Ending) (w' : World) : Prop := e = .returned (.int .i64 x) ∧ Keeps [r] w w' ∧ CellsAt c r L n V w'
set_option maxRecDepth 100000 in
theorem setc_in (c r L n : Nat) (V : Nat → Int) (i v : Int) (w : World) (H : CellsAt c r L n V w) (hL : L ≤ 20) (hnL : n = 2 ^ L) (h0 : 0 ≤ i) (h1 : i < n) (hv : mayB n v = true) :
    Calls Try.prog 94 #[.pointer (some ⟨c, 0, none⟩), .int .i64 i, .int .i64 v] w (SetC c r L n (putN V i.toNat v) 0 w) := by
  have hn : n ≤ 1048576 := by rw [hnL]; exact pow_le hL
  have HH := Lib.hid H
  have hm := (rowKind L).ms
  have he := fun args W => (rowKind L).es args W
  have HW := Lib.hid (wrap_may L n hL hnL v hv)
  have HV := Lib.hid hv
  have HA := Lib.hid H.apart
  clear H hv hnL
  go_enter Try.func94, Try.ntmps94
  go_wp2_with fail
  refine (wrong_in _ _ _ _ _ _ _ HH.out h0 h1).mono ?_
  rintro e w1 ⟨rfl, b1⟩
  have H1 := Lib.hid (HH.out.below b1)
  have B1 := Lib.hid b1
  clear b1
  go_wp2_with fail
  refine (may_any _ _ _ _ _ _ _ H1.out hn).mono ?_
  rintro e w2 ⟨rfl, b2⟩
  rw [HV.out]
  have H2 := Lib.hid (H1.out.below b2)
  have c2 := cell_has H2.out.ho (i := 1) rfl
  have B2 := Lib.hid (B1.out.trans (b2.mono B1.out.size))
  clear b2
  go_wp2_with fail
  refine ((rowKind L).cs r n i.toNat V _ (by omega) _ v _ H2.out.hr (by omega)).mono ?_
  rintro e w3 ⟨rfl, k3, h3⟩
  rw [HW.out] at h3
  have K3 := Lib.hid k3
  have H3 := Lib.hid h3
  clear k3 h3
  go_wp2_with fail
  go_ret
  exact ⟨rfl, (Below.keeps B2.out [r]).trans K3.out, K3.out.has H2.out.ho (by simpa using HA.out), H3.out⟩
theorem setc_not (c r L n : Nat) (V : Nat → Int) (i v : Int) (w : World) (H : CellsAt c r L n V w) (hn : n ≤ 1048576) (h0 : 0 ≤ i) (h1 : i < n) (hv : mayB n v = false) :
    Calls Try.prog 94 #[.pointer (some ⟨c, 0, none⟩), .int .i64 i, .int .i64 v] w (SetC c r L n V 1 w) := by
  have HH := Lib.hid H
  have HV := Lib.hid hv
  clear H hv
  go_enter Try.func94, Try.ntmps94
  go_wp2_with fail
  refine (wrong_in _ _ _ _ _ _ _ HH.out h0 h1).mono ?_
  rintro e w1 ⟨rfl, b1⟩
  have H1 := Lib.hid (HH.out.below b1)
  have B1 := Lib.hid b1
  clear b1
  go_wp2_with fail
  refine (may_any _ _ _ _ _ _ _ H1.out hn).mono ?_
  rintro e w2 ⟨rfl, b2⟩
  rw [HV.out]
  have H2 := Lib.hid (H1.out.below b2)
  have B2 := Lib.hid (B1.out.trans (b2.mono B1.out.size))
  clear b2
  go_wp2_with fail
  go_ret
  exact ⟨rfl, Below.keeps B2.out [r], H2.out⟩
theorem setc_out (c r L n : Nat) (V : Nat → Int) (i v : Int) (w : World) (H : CellsAt c r L n V w) (h : i < 0 ∨ (0 ≤ i ∧ (n : Int) ≤ i)) :
    Calls Try.prog 94 #[.pointer (some ⟨c, 0, none⟩), .int .i64 i, .int .i64 v] w (SetC c r L n V 5 w) := by
  have HH := Lib.hid H
  have HC := Lib.hid h
  clear H h
  go_enter Try.func94, Try.ntmps94
  go_wp2_with fail
  refine (wrong_out _ _ _ _ _ _ _ HH.out HC.out).mono ?_
  rintro e w1 ⟨rfl, b1⟩
  go_wp2_with fail
  go_ret
  exact ⟨rfl, Below.keeps b1 [r], HH.out.below b1⟩
end Go.Proofs.Ytcakdmapnmneoaa
end

section
namespace Go.Proofs.Ytcakdmapnmneoaa
open Go.RowKit
set_option linter.unusedVariables false

theorem info8 : (Try.prog.info? 187).map (fun i => (i.zero, i.size, i.bytes)) = some (some (.int .i8 0), 1, 1) := by kernel_rfl
theorem make_8 (w : World) (n : Nat) (hn : n ≤ 1048576) : (Instr.makeSlice 160 (.int .i64 (n : Int)) (.int .i64 (n : Int))).run Try.prog w = .ok (.slice (some ⟨w.heap.size, 0, none⟩) n n) (w.alloc (.cells (numA .i8 n (fun _ => 0)) 187)) := by
  obtain ⟨i0, hi, hz0, hz1, hz2⟩ := info_parts info8
  have h := run_make (P := Try.prog) w 160 187 i0 (.int .i8 0) Try.underlying160 hi hz0 .i64 .i64 (n : Int) (n : Int) (by omega) (Int.le_refl _) (by rw [hz2]; omega) (by omega)
  rw [h, hz1]
  simp only [Int.toNat_natCast, Nat.mul_one]
  rw [show (Value.int .i8 0).cells = #[.int .i8 0] from rfl, made_nums]
theorem info16 : (Try.prog.info? 188).map (fun i => (i.zero, i.size, i.bytes)) = some (some (.int .i16 0), 1, 2) := by kernel_rfl
theorem make_16 (w : World) (n : Nat) (hn : n ≤ 1048576) : (Instr.makeSlice 163 (.int .i64 (n : Int)) (.int .i64 (n : Int))).run Try.prog w = .ok (.slice (some ⟨w.heap.size, 0, none⟩) n n) (w.alloc (.cells (numA .i16 n (fun _ => 0)) 188)) := by
  obtain ⟨i0, hi, hz0, hz1, hz2⟩ := info_parts info16
  have h := run_make (P := Try.prog) w 163 188 i0 (.int .i16 0) Try.underlying163 hi hz0 .i64 .i64 (n : Int) (n : Int) (by omega) (Int.le_refl _) (by rw [hz2]; omega) (by omega)
  rw [h, hz1]
  simp only [Int.toNat_natCast, Nat.mul_one]
  rw [show (Value.int .i16 0).cells = #[.int .i16 0] from rfl, made_nums]
theorem info32 : (Try.prog.info? 21).map (fun i => (i.zero, i.size, i.bytes)) = some (some (.int .i32 0), 1, 4) := by kernel_rfl
theorem make_32 (w : World) (n : Nat) (hn : n ≤ 1048576) : (Instr.makeSlice 166 (.int .i64 (n : Int)) (.int .i64 (n : Int))).run Try.prog w = .ok (.slice (some ⟨w.heap.size, 0, none⟩) n n) (w.alloc (.cells (numA .i32 n (fun _ => 0)) 21)) := by
  obtain ⟨i0, hi, hz0, hz1, hz2⟩ := info_parts info32
  have h := run_make (P := Try.prog) w 166 21 i0 (.int .i32 0) Try.underlying166 hi hz0 .i64 .i64 (n : Int) (n : Int) (by omega) (Int.le_refl _) (by rw [hz2]; omega) (by omega)
  rw [h, hz1]
  simp only [Int.toNat_natCast, Nat.mul_one]
  rw [show (Value.int .i32 0).cells = #[.int .i32 0] from rfl, made_nums]
theorem info64 : (Try.prog.info? 3).map (fun i => (i.zero, i.size, i.bytes)) = some (some (.int .i64 0), 1, 8) := by kernel_rfl
theorem make_ints (w : World) (n : Nat) (hn : n ≤ 1048576) : (Instr.makeSlice 22 (.int .i64 (n : Int)) (.int .i64 (n : Int))).run Try.prog w = .ok (.slice (some ⟨w.heap.size, 0, none⟩) n n) (w.alloc (.cells (numA .i64 n (fun _ => 0)) 3)) := by
  obtain ⟨i0, hi, hz0, hz1, hz2⟩ := info_parts info64
  have h := run_make (P := Try.prog) w 22 3 i0 (.int .i64 0) Try.underlying22 hi hz0 .i64 .i64 (n : Int) (n : Int) (by omega) (Int.le_refl _) (by rw [hz2]; omega) (by omega)
  rw [h, hz1]
  simp only [Int.toNat_natCast, Nat.mul_one]
  rw [show (Value.int .i64 0).cells = #[.int .i64 0] from rfl, made_nums]

theorem made_any (L n : Nat) (l : Int) (hl : l = (L : Int)) (hL : L ≤ 20) (hn : n = 2 ^ L) (w : World) :
    Calls Try.prog 104 #[.int .i64 l] w fun e w' => e = .returned (.iface (tyOf L) (.agg #[.slice (some ⟨w.heap.size, 0, none⟩) n n, .int .i64 (wdOf L)])) ∧ w.alloc (.cells (numA (kiOf L) n (fun _ => 0)) (elOf L)) = w' := by
  subst hl
  have e2 : wrap64 ((2 : Int) ^ L) = (n : Int) := by rw [hn, ← IntWalk.i64_left]; exact i64_pow L hL
  have hn1 : n ≤ 1048576 := by rw [hn]; exact pow_le hL
  have h0 : (0 : Int) ≤ (L : Int) := by omega
  have h9 : (L : Int) ≤ 20 := by omega
  clear hn
  by_cases h1 : L ≤ 7
  · rw [show tyOf L = 162 by simp [tyOf, h1], show elOf L = 187 by simp [elOf, h1], show kiOf L = .i8 by simp [kiOf, h1], show wdOf L = 1 by simp [wdOf, h1]]
    have d1 : decide ((L : Int) ≤ 7) = true := by simp; omega
    have hm := make_8 w n hn1
    clear h1
    go_enter Try.func104, Try.ntmps104
    go_wp2_with fail
    go_ret
    exact ⟨rfl, rfl⟩
  · have d1 : decide ((L : Int) ≤ 7) = false := by simp; omega
    by_cases h2 : L ≤ 15
    · rw [show tyOf L = 165 by simp [tyOf, h1, h2], show elOf L = 188 by simp [elOf, h1, h2], show kiOf L = .i16 by simp [kiOf, h1, h2], show wdOf L = 2 by simp [wdOf, h1, h2]]
      have d2 : decide ((L : Int) ≤ 15) = true := by simp; omega
      have hm := make_16 w n hn1
      clear h1 h2
      go_enter Try.func104, Try.ntmps104
      go_wp2_with fail
      go_ret
      exact ⟨rfl, rfl⟩
    · rw [show tyOf L = 168 by simp [tyOf, h1, h2], show elOf L = 21 by simp [elOf, h1, h2], show kiOf L = .i32 by simp [kiOf, h1, h2], show wdOf L = 4 by simp [wdOf, h1, h2]]
      have d2 : decide ((L : Int) ≤ 15) = false := by simp; omega
      have hm := make_32 w n hn1
      clear h1 h2
      go_enter Try.func104, Try.ntmps104
      go_wp2_with fail
      go_ret
      exact ⟨rfl, rfl⟩

theorem wrap_m1 (k : IntKind) (hk : k = .i8 ∨ k = .i16 ∨ k = .i32) : k.wrap (-1) = -1 := by rcases hk with rfl | rfl | rfl <;> decide
theorem kiOf_is (L : Nat) : kiOf L = .i8 ∨ kiOf L = .i16 ∨ kiOf L = .i32 := by
  unfold kiOf
  by_cases h1 : L ≤ 7
  · rw [if_pos h1]; simp
  · rw [if_neg h1]
    by_cases h2 : L ≤ 15
    · rw [if_pos h2]; simp
    · rw [if_neg h2]; simp

/-- The first i cells are empty. -/
def begun (i : Nat) : Nat → Int := fun j => if j < i then -1 else 0
theorem begun_put (i : Nat) : putN (begun i) i (-1) = begun (i + 1) := by
  funext j
  unfold putN begun
  by_cases h : j = i
  · rw [if_pos h, if_pos (by omega)]
  · rw [if_neg h]
    by_cases h2 : j < i
    · rw [if_pos h2, if_pos (by omega)]
    · rw [if_neg h2, if_neg (by omega)]
theorem begun_fits (n i : Nat) : Fits n (begun i) := by
  intro j
  unfold begun
  split
  · exact .inl (by simp [mayB])
  · exact .inr rfl

/-- Behind New: a table of empty cells. -/
def NewC (L n : Nat) (V : Nat → Int) (w : World) (e : Ending) (w' : World) : Prop :=
  ∃ c r, e = .returned (.tuple #[.pointer (some ⟨c, 0, none⟩), .int .i64 0]) ∧ CellsAt c r L n V w' ∧ w.heap.size ≤ c ∧ w.heap.size ≤ r ∧ Below w.heap.size w w'
theorem new_bad (l : Int) (w : World) (hl : l < 3 ∨ 20 < l) :
    Calls Try.prog 91 #[.int .i64 l] w fun e w' => e = .returned (.tuple #[.pointer none, .int .i64 1]) ∧ w = w' := by
  rcases hl with h | h
  · have d1 : decide (l < 3) = true := by simpa using h
    go_enter Try.func91, Try.ntmps91
    go_wp2_with fail
    go_ret2
    exact ⟨rfl, rfl⟩
  · have d1 : decide (l < 3) = false := by simp; omega
    have d2 : decide (20 < l) = true := by simpa using h
    go_enter Try.func91, Try.ntmps91
    go_wp2_with fail
    go_ret2
    exact ⟨rfl, rfl⟩
set_option maxRecDepth 100000 in
theorem new_any (L n : Nat) (l : Int) (hl : l = (L : Int)) (h3 : 3 ≤ L) (hL : L ≤ 20) (hn : n = 2 ^ L) (w : World) :
    Calls Try.prog 91 #[.int .i64 l] w (NewC L n (begun n) w) := by
  subst hl
  have d1 : decide ((L : Int) < 3) = false := by simp; omega
  have d2 : decide ((20 : Int) < (L : Int)) = false := by simp; omega
  have hn1 : n ≤ 1048576 := by rw [hn]; exact pow_le hL
  have HN := Lib.hid hn
  clear hn
  go_enter Try.func91, Try.ntmps91
  go_wp2_with fail
  refine (made_any L n _ rfl hL HN.out _).mono ?_
  rintro e w1 ⟨rfl, rfl⟩
  have hml := (rowKind L).ml
  have hel := fun args W => (rowKind L).el args W
  go_wp2_with fail
  refine ((rowKind L).cl _ _ _ _).mono ?_
  rintro e w2 ⟨rfl, b2⟩
  clear hml hel
  have hI : CellsAt (w.heap.size + 1) w.heap.size L n (begun 0) w2 := by
    refine CellsAt.below (w := (w.alloc (.cells (numA (kiOf L) n (fun _ => 0)) (elOf L))).alloc (.cells #[.int .i64 L, .iface (tyOf L) (.agg #[.slice (some ⟨w.heap.size, 0, none⟩) n n, .int .i64 (wdOf L)])] 148)) ⟨has_new' _ _ (by simp), has_alloc (has_new _ _) _⟩ b2
  have HI := Lib.hid hI
  have HB := Lib.hid ((((Below.refl w.heap.size w).alloc (Nat.le_refl _) _).alloc (by simp) _).trans (b2.mono (by simp <;> omega)))
  clear b2 hI d1 d2
  go_wp2_with fail
  go_loopw [22] (fun i wr => ∃ k : Nat, k ≤ n ∧ i = .int .i64 k ∧ CellsAt (w.heap.size + 1) w.heap.size L n (begun k) wr ∧ Below w.heap.size w wr) (fun i _ => n - (intOf i).toNat)
  case atStart => exact ⟨0, by omega, rfl, HI.out, HB.out⟩
  case round =>
    obtain ⟨k, hk, rfl, hC, hb⟩ := hrel
    clear HI HB
    by_cases hlt : k < n
    · have hlt' : (k : Int) < (n : Int) := by omega
      have hm := (rowKind L).ms
      have he := fun args W => (rowKind L).es args W
      have c1 := cell_has hC.ho (i := 1) rfl
      have HC := Lib.hid hC
      have HB := Lib.hid hb
      clear hC hb
      go_wp2_with fail
      refine ((rowKind L).cs w.heap.size n k (begun k) _ rfl _ (-1) _ HC.out.hr hlt).mono ?_
      rintro e w3 ⟨rfl, k3, h3⟩
      rw [wrap_m1 _ (kiOf_is L), begun_put] at h3
      have HD := Lib.hid (CellsAt.mk (k3.has HC.out.ho (by simp)) h3)
      have HB3 := Lib.hid (HB.out.trans (k3.below HB.out.size (by simp)))
      clear k3 h3 hm he
      go_wp2_with fail
      go_roundw
      case rel => exact ⟨k + 1, by omega, by go_num, HD.out, HB3.out⟩
      case measure => simp [intOf]; omega
    · have hge : (n : Int) ≤ (k : Int) := by omega
      have hke : k = n := by omega
      have HC := Lib.hid (hke ▸ hC)
      have HB := Lib.hid hb
      clear hC hb hke
      go_wp2_with fail
      go_ret2
      exact ⟨w.heap.size + 1, w.heap.size, rfl, HC.out, by omega, Nat.le_refl _, HB.out⟩

end Go.Proofs.Ytcakdmapnmneoaa
end

section
namespace Go.Proofs.Ytcakdmapnmneoaa
open Go.RowKit
set_option linter.unusedVariables false

set_option linter.unusedVariables false
/-- The document's row. -/
abbrev RefAt (q n : Nat) (V : Nat → Int) (w : World) : Prop := w.heap[q]? = some (.cells (numA .i64 n V) 3 (0, 0))
def RNewC (L n : Nat) (V : Nat → Int) (w : World) (e : Ending) (w' : World) : Prop :=
  ∃ q, e = .returned (.tuple #[.agg #[.int .i64 L, .slice (some ⟨q, 0, none⟩) n n], .int .i64 0]) ∧ RefAt q n V w' ∧ w.heap.size ≤ q ∧ Below w.heap.size w w'
end Go.Proofs.Ytcakdmapnmneoaa
end

section
namespace Go.Proofs.Ytcakdmapnmneoaa
open Go.RowKit
set_option linter.unusedVariables false

def setE (n : Nat) (i v : Int) : Int := if i < 0 ∨ (n : Int) ≤ i then 5 else if mayB n v then 0 else 1
def setV (n : Nat) (V : Nat → Int) (i v : Int) : Nat → Int := if i < 0 ∨ (n : Int) ≤ i then V else if mayB n v then putN V i.toNat v else V
def getE (n : Nat) (i : Int) : Int := if i < 0 ∨ (n : Int) ≤ i then 5 else 0
def getV (n : Nat) (V : Nat → Int) (i : Int) : Int := if i < 0 ∨ (n : Int) ≤ i then 0 else V i.toNat
theorem setV_fits {n : Nat} {V : Nat → Int} (h : Fits n V) (i v : Int) : Fits n (setV n V i v) := by
  unfold setV
  split
  · exact h
  · split
    · rename_i hv; exact h.put _ hv
    · exact h
theorem setc_any (c r L n : Nat) (V : Nat → Int) (i v : Int) (w : World) (H : CellsAt c r L n V w) (hL : L ≤ 20) (hn : n = 2 ^ L) :
    Calls Try.prog 94 #[.pointer (some ⟨c, 0, none⟩), .int .i64 i, .int .i64 v] w (SetC c r L n (setV n V i v) (setE n i v) w) := by
  have hn1 : n ≤ 1048576 := by rw [hn]; exact pow_le hL
  unfold setV setE
  by_cases h : i < 0 ∨ (n : Int) ≤ i
  · rw [if_pos h, if_pos h]; exact setc_out c r L n V i v w H (by omega)
  · rw [if_neg h, if_neg h]
    cases hv : mayB n v
    · simp only [Bool.false_eq_true, if_false]; exact setc_not c r L n V i v w H hn1 (by omega) (by omega) hv
    · simp only [if_true]; exact setc_in c r L n V i v w H hL hn (by omega) (by omega) hv
theorem getc_any (c r L n : Nat) (V : Nat → Int) (i : Int) (w : World) (H : CellsAt c r L n V w) (hF : Fits n V) (hn1 : n ≤ 1048576) :
    Calls Try.prog 77 #[.pointer (some ⟨c, 0, none⟩), .int .i64 i] w fun e w' => e = .returned (.tuple #[.int .i64 (getV n V i), .int .i64 (getE n i)]) ∧ Below w.heap.size w w' := by
  unfold getV getE
  by_cases h : i < 0 ∨ (n : Int) ≤ i
  · rw [if_pos h, if_pos h]; exact getc_out c r L n V i w H (by omega)
  · rw [if_neg h, if_neg h]; exact getc_in c r L n V i w H hF hn1 (by omega) (by omega)
end Go.Proofs.Ytcakdmapnmneoaa
end

section
namespace Go.Proofs.Ytcakdmapnmneoaa
open Go.RowKit
set_option linter.unusedVariables false
attribute [local go_sem ↓] Go.wp_at_zero Go.wp_at_succ

/-- Behind All: a closure over a list of its own. -/
def AllC (n : Nat) (V : Nat → Int) (w : World) (e : Ending) (w' : World) : Prop :=
  ∃ bl g, e = .returned (.func (.func 103) #[] #[.pointer (some ⟨bl, 0, none⟩)]) ∧ w'.heap[bl]? = some (.cells #[.slice (some ⟨g, 0, none⟩) n n] 22 (0, 0)) ∧ RefAt g n V w' ∧ w.heap.size ≤ bl ∧ w.heap.size ≤ g ∧ Below w.heap.size w w'

/-- The first i numbers have been read. -/
def readN (V : Nat → Int) (i : Nat) : Nat → Int := fun j => if j < i then V j else 0
theorem readN_put (V : Nat → Int) (i : Nat) : putN (readN V i) i (V i) = readN V (i + 1) := by
  funext j
  unfold putN readN
  by_cases h : j = i
  · subst h; rw [if_pos rfl, if_pos (by omega)]
  · rw [if_neg h]
    by_cases h2 : j < i
    · rw [if_pos h2, if_pos (by omega)]
    · rw [if_neg h2, if_neg (by omega)]
theorem readN_all (k : IntKind) (n : Nat) (V : Nat → Int) : numA k n (readN V n) = numA k n V := numA_ext fun v hv => by simp [readN, hv]

set_option maxRecDepth 100000 in
set_option maxHeartbeats 1000000 in
theorem allc_any (c r L n : Nat) (V : Nat → Int) (w : World) (H : CellsAt c r L n V w) (hF : Fits n V) (hn1 : n ≤ 1048576) :
    Calls Try.prog 84 #[.pointer (some ⟨c, 0, none⟩)] w (AllC n V w) := by
  have HH := Lib.hid H
  have hm := fun w => make_ints w n hn1
  have HF := Lib.hid hF
  clear H hF
  go_enter Try.func84, Try.ntmps84
  go_wp2_with fail
  refine (size_any c r L n V _ HH.out).mono ?_
  rintro e w1 ⟨rfl, b1⟩
  have H1 := Lib.hid (HH.out.below b1)
  have B1 := Lib.hid b1
  have z1 := b1.size
  clear b1
  go_wp2_with fail
  have hK := Lib.hid (((Keeps.refl [] w1).alloc (.cells (numA .i64 n (fun _ => 0)) 3)).alloc (.cells #[.slice (some ⟨w1.heap.size, 0, none⟩) n n] 22))
  clear hm
  go_loopw [10] (fun i wr => ∃ k : Nat, k ≤ n ∧ i = .int .i64 k ∧ wr.heap[w1.heap.size + 1]? = some (.cells #[.slice (some ⟨w1.heap.size, 0, none⟩) n n] 22 (0, 0)) ∧ RefAt w1.heap.size n (readN V k) wr ∧ Keeps [] w1 wr) (fun i _ => n - (intOf i).toNat)
  case atStart =>
    refine ⟨0, by omega, rfl, has_new' _ _ (by simp), ?_, hK.out⟩
    rw [show readN V 0 = fun _ => 0 by funext j; simp [readN]]
    exact has_alloc (has_new _ _) _
  case round =>
    obtain ⟨k, hk, rfl, hl, hq, kw⟩ := hrel
    clear hK
    have hk0 : (0 : Int) ≤ (k : Int) := by omega
    by_cases hlt : k < n
    · have hlt' : (k : Int) < (n : Int) := by omega
      have HC := H1.out.keeps kw (by simp) (by simp)
      have c0 := cell_has hl (i := 0) rfl
      have c1 := cell_has HC.ho (i := 1) rfl
      have hmg := (rowKind L).mg
      have heg := fun args W => (rowKind L).eg args W
      have HCd := Lib.hid HC
      have zc : w1.heap.size ≠ c := by have := lt_of_block H1.out.ho; omega
      have HL := Lib.hid hl
      have HQ := Lib.hid hq
      have KW := Lib.hid kw
      have z3 := Lib.hid (lt_of_block hl)
      have HB := Lib.hid (HF.out.bounds hn1 k)
      obtain ⟨x, hx⟩ := ex_hid (V k)
      clear HC hl hq kw
      go_wp2_with fail
      go_region_held3 (fun w' => w'.cell? ⟨w1.heap.size + 1, 0, none⟩ = some (.slice (some ⟨w1.heap.size, 0, none⟩) n n) ∧ w'.cell? ⟨c, 1, none⟩ = some (.iface (tyOf L) (.agg #[.slice (some ⟨r, 0, none⟩) n n, .int .i64 (wdOf L)]))) (go_keep)
        (first | (refine ((rowKind L).cg r n k V _ rfl _ _ (has_drew HCd.out.hr) hlt HB.out).mono ?_; rintro e w2 ⟨rfl, b2⟩; rw [← hx.out]; have p0 := (Below.keeps b2 []).cell (w := wr.drew) c0 (by simp); have p1 := (Below.keeps b2 []).cell (w := wr.drew) c1 (by simp); have hq2 := (Below.keeps b2 []).has (has_drew HQ.out) (by simp); have p2 := cell_has hq2 (numA_get hlt); have f2 := free_of_has hq2 k; have HQ2 := Lib.hid hq2; have B2 := Lib.hid b2; clear hq2 b2))
      go_wp2_with fail
      go_roundw
      case rel =>
        refine ⟨k + 1, by omega, by go_num, ?_, ?_, ?_⟩
        · exact has_setCell_other ((Below.keeps B2.out []).has (has_drew HL.out) (by simp)) (by simp) _
        · have h := has_setCell HQ2.out k (.int .i64 x)
          rw [numA_set, hx.out, readN_put] at h
          rw [hx.out]
          exact h
        · exact (KW.out.drew.trans (Below.keeps B2.out [])).setCell (.inl (Nat.le_refl _)) _
      case measure => simp [intOf]; omega
    · have hge : (n : Int) ≤ (k : Int) := by omega
      have hke : k = n := by omega
      have hq2 : wr.heap[w1.heap.size]? = some (.cells (numA .i64 n (readN V k)) 3 (0, 0)) := hq
      rw [hke, readN_all] at hq2
      have HQ : Hid (RefAt w1.heap.size n V wr) := Lib.hid hq2
      clear hq2
      have HL := Lib.hid hl
      have KW := Lib.hid kw
      clear hl hq kw hke
      go_wp2_with fail
      go_ret
      exact ⟨w1.heap.size + 1, w1.heap.size, rfl, HL.out, HQ.out, by omega, z1, B1.out.trans (KW.out.below z1 (by simp))⟩

end Go.Proofs.Ytcakdmapnmneoaa
end

section
namespace Go.Proofs.Ytcakdmapnmneoaa
open Go.RowKit Go.Shelf
set_option linter.unusedVariables false
attribute [local go_sem] Oper.semAt_some

theorem enters_cells : ∀ args w, (callFunc 103 args).run Try.prog w = .ok (.enter 103 args) w := entersF_of Try.func103 (by kernel_rfl) (by kernel_rfl)
/-- What the cells' iterator leans on. -/
def CePriv (bl g n : Nat) (V : Nat → Int) (W : World) : Prop := W.cell? ⟨bl, 0, none⟩ = some (.slice (some ⟨g, 0, none⟩) n n) ∧ RefAt g n V W
set_option maxRecDepth 100000 in
set_option maxHeartbeats 2000000 in
theorem ceIter (bl g n : Nat) (V : Nat → Int) (hn : n ≤ 1048576) :
    IterN Try.prog 103 #[.pointer (some ⟨bl, 0, none⟩)] n (fun k => #[.int .i64 (k : Int), .int .i64 (V k)]) (CePriv bl g n V) := by
  intro l J Jx W hJ hJx hP hY h0
  have HJ := Lib.hid hJ
  have HP := Lib.hid hP
  have HY := Lib.hid hY
  have H0 := Lib.hid h0
  have c0 := (hP 0 W h0).1
  clear hJ hJx hP hY h0
  refine callsIn_of_wp Try.func103 rfl trivial ?_ rfl
  simp only [Try.ntmps103, List.size_toArray, List.length_cons, List.length_nil, Nat.reduceAdd, Nat.reduceSub, Array.replicate_succ, Array.replicate_zero, List.push_toArray, List.append_toArray, List.nil_append, List.cons_append]
  gi_wp2
  gi_loopw [7] (fun i wr => ∃ k : Nat, k ≤ n ∧ i = .int .i64 k ∧ J k wr) (fun i _ => n - (intOf i).toNat)
  case atStart => exact ⟨0, by omega, rfl, H0.out⟩
  case round =>
    obtain ⟨k, hk, rfl, hj⟩ := hrel
    have k0 : (0 : Int) ≤ (k : Int) := by omega
    by_cases hlt : k < n
    · have hlt' : (k : Int) < (n : Int) := by omega
      have g2 := cell_has (HP.out k wr hj).2 (numA_get hlt)
      obtain ⟨x, hx⟩ := ex_hid (V k)
      rw [← hx.out] at g2
      obtain ⟨fn, tmps, assign, body, hy, hR⟩ := HY.out k _ hlt hj
      rw [← hx.out] at hy
      clear hj
      gi_wp2
      refine hR.mono ?_
      rintro e W3 (⟨rfl, hJ3⟩ | ⟨rfl, hJx3⟩)
      · gi_wp2
        go_roundw
        case rel => exact ⟨k + 1, by omega, by go_num, hJ3⟩
        case measure => simp [intOf]; omega
      · gi_wp2
        refine bodyPost_ret (results_none rfl _ _ _) rfl ?_
        exact ⟨⟨_, rfl⟩, .inr ⟨k, hlt, hJx3⟩⟩
    · obtain rfl : k = n := by omega
      have hge : ¬ (k : Int) < (k : Int) := by omega
      gi_wp2
      go_end0
      exact ⟨⟨_, rfl⟩, .inl hj⟩
end Go.Proofs.Ytcakdmapnmneoaa
end

section
namespace Go.Proofs.Ytcakdmapnmneoaa
open Go.RowKit
set_option linter.unusedVariables false

theorem ret_int {k : IntKind} {a b : Int} (h : a = b) : Ending.returned (.int k a) = .returned (.int k b) := by rw [h]
theorem ret_pair {k l : IntKind} {a b c d : Int} (h : a = b) (h' : c = d) : Ending.returned (.tuple #[.int k a, .int l c]) = .returned (.tuple #[.int k b, .int l d]) := by rw [h, h']
theorem first_any (h l : Int) (w : World) (L : Nat) (hl : l = (L : Int)) (hL : L ≤ 20) :
    Calls Try.prog 75 #[.int .i64 h, .int .i64 l] w fun e w' => e = .returned (.int .i64 (trC L (uh h) 0 : Nat)) ∧ w = w' := by
  subst hl
  have hv : wrap64 (bits BinOp.and IntKind.u64 (IntKind.u64.wrap h) (IntKind.u64.wrap (IntKind.u64.wrap (2 ^ L) - 1))) = ((uh h % 2 ^ L : Nat) : Int) := by
    have h1 := pow_le hL
    have h2 := pow_pos L
    rw [u64_pow L hL, and_mask L (uh h) hL (uh_lt h) _ _ (uh_cast h) (by rw [IntKind.wrap_u64]; generalize 2 ^ L = M at *; omega)]
    have := Nat.mod_lt (uh h) h2
    generalize uh h % 2 ^ L = X at *
    generalize 2 ^ L = M at *
    exact IntWalk.wrap64_in _ (by omega)
  have HV := Lib.hid hv
  have h0 : (0 : Int) ≤ (L : Int) := by omega
  have h1 : (L : Int) ≤ 20 := by omega
  clear hv hL
  go_enter Try.func75, Try.ntmps75
  go_wp2_with fail
  go_ret
  exact ⟨ret_int (HV.out.trans rfl), rfl⟩
theorem first_none (h l : Int) (w : World) (hl : l < 0 ∨ 20 < l) :
    Calls Try.prog 75 #[.int .i64 h, .int .i64 l] w fun e w' => e = .returned (.int .i64 0) ∧ w = w' := by
  rcases hl with h0 | h0
  · have hd : decide (l < 0) = true := by simpa using h0
    go_enter Try.func75, Try.ntmps75
    go_wp2_with fail
    go_ret
    exact ⟨rfl, rfl⟩
  · have hd : decide (l < 0) = false := by simp; omega
    go_enter Try.func75, Try.ntmps75
    go_wp2_with fail
    go_ret
    exact ⟨rfl, rfl⟩
end Go.Proofs.Ytcakdmapnmneoaa
end

section
namespace Go.Proofs.Ytcakdmapnmneoaa
open Go.RowKit Go.Shelf
set_option linter.unusedVariables false
attribute [local go_sem] Oper.semAt_some

theorem trail_all (h l : Int) (w : World) : Calls Try.prog 93 #[.int .i64 h, .int .i64 l] w fun e w' =>
    e = .returned (.func (.func 105) #[] #[.pointer (some ⟨w.heap.size + 1, 0, none⟩), .pointer (some ⟨w.heap.size, 0, none⟩)]) ∧ (w.alloc (.cells #[.int .i64 h] 3)).alloc (.cells #[.int .i64 l] 3) = w' := by
  go_enter Try.func93, Try.ntmps93
  go_wp2_with fail
  go_ret
  exact ⟨rfl, rfl⟩
theorem enters_trail : ∀ args w, (callFunc 105 args).run Try.prog w = .ok (.enter 105 args) w := entersF_of Try.func105 (by kernel_rfl) (by kernel_rfl)

/-- What the trail leans on. -/
def TrPriv (bl bh L : Nat) (hi : Int) (W : World) : Prop := W.cell? ⟨bl, 0, none⟩ = some (.int .i64 L) ∧ W.cell? ⟨bh, 0, none⟩ = some (.int .i64 hi)
set_option maxRecDepth 100000 in
set_option maxHeartbeats 2000000 in
theorem trIter (bl bh L : Nat) (hL : L ≤ 20) (hi : Int) :
    IterN Try.prog 105 #[.pointer (some ⟨bl, 0, none⟩), .pointer (some ⟨bh, 0, none⟩)] (2 ^ L + 13) (fun k => #[.int .i64 (trC L (uh hi) k : Nat)]) (TrPriv bl bh L hi) := by
  intro l J Jx W hJ hJx hP hY h0
  have hh := uh_cast hi
  have hlt := uh_lt hi
  obtain ⟨h1, h2⟩ := hP 0 W h0
  generalize uh hi = h at *
  have HJ := Lib.hid hJ
  have HY := Lib.hid hY
  have H0 := Lib.hid h0
  obtain ⟨M, hM⟩ := ex_hid (2 ^ L)
  have e1 : IntKind.u64.wrap ((2 : Int) ^ L) = (M : Int) := by rw [hM.out]; exact u64_pow L hL
  have e2 : wrap64 ((2 : Int) ^ L) = (M : Int) := by rw [hM.out]; rw [← IntWalk.i64_left]; exact i64_pow L hL
  have m1 : 0 < (M : Int) := by have := pow_pos L; rw [hM.out]; omega
  have m2 : (M : Int) ≤ 1048576 := by have := pow_le hL; rw [hM.out]; omega
  have m3 : (0 : Int) ≤ (M : Int) - 1 := by omega
  have l0 : (0 : Int) ≤ (L : Int) := by omega
  have l1 : (L : Int) ≤ 20 := by omega
  rw [← hM.out]
  clear hJ hJx hP hY h0
  refine callsIn_of_wp Try.func105 rfl trivial ?_ rfl
  simp only [Try.ntmps105, List.size_toArray, List.length_cons, List.length_nil, Nat.reduceAdd, Nat.reduceSub, Array.replicate_succ, Array.replicate_zero, List.push_toArray, List.append_toArray, List.nil_append, List.cons_append]
  have d1 : decide ((L : Int) < 0) = false := by simp
  have d2 : decide ((20 : Int) < (L : Int)) = false := by simp; omega
  gi_wp2
  clear e1 e2 d1 d2 h1 h2
  have HU := Lib.hid hh
  clear hh
  gi_loopw [5, 6, 24] (fun p c i wr => ∃ k q d : Nat, k ≤ M + 13 ∧ i = .int .i64 k ∧ p = .int .u64 q ∧ c = .int .u64 d ∧ q < 18446744073709551616 ∧ d < M ∧ Hid (q = h / 32 ^ k) ∧ Hid (d = trC L h k) ∧ J k wr)
    (fun _ _ i _ => M + 13 - (intOf i).toNat)
  case atStart =>
    have hx : bits BinOp.and IntKind.u64 (h : Int) ((M : Int) - 1) = ((h % M : Nat) : Int) := by
      rw [and_mask L h hL hlt _ _ rfl (by rw [hM.out]), hM.out]
    exact ⟨0, h, h % M, by omega, rfl, rfl, by rw [hx], hlt, Nat.mod_lt _ (by omega), Lib.hid (by simp), Lib.hid (by rw [hM.out]; rfl), H0.out⟩
  case round =>
    obtain ⟨k, q, d, hk, rfl, rfl, rfl, hq, hd, HQ, HD, hj⟩ := hrel
    have hdi : (d : Int) < 1048576 := by omega
    by_cases hlt' : k < M + 13
    · have hki : (k : Int) < (M : Int) + 13 := by omega
      have w1 : wrap64 (d : Int) = (d : Int) := IntWalk.wrap64_in _ (by omega)
      obtain ⟨fn, tmps, assign, body, hy, hR⟩ := HY.out k wr (by rw [← hM.out]; exact hlt') hj
      rw [← HD.out] at hy
      clear hj
      gi_wp2
      refine hR.mono ?_
      rintro e W3 (⟨rfl, hJ3⟩ | ⟨rfl, hJx3⟩)
      · have HJ3 := Lib.hid hJ3
        clear hJ3 hy
        gi_wp2
        go_roundw
        case rel =>
          refine ⟨k + 1, q / 32, trC L h (k + 1), by omega, by go_num, by go_num, ?_, by omega, by rw [hM.out]; exact trC_lt _ _ _, Lib.hid (by rw [div_pow_succ, HQ.out]), Lib.hid rfl, HJ3.out⟩
          have hx : bits BinOp.and IntKind.u64 (5 * (d : Int) + (q : Int) / 32 + 1) ((M : Int) - 1) = ((trC L h (k + 1) : Nat) : Int) := by
            rw [and_mask L (5 * d + q / 32 + 1) hL (by omega) _ _ (by omega) (by rw [hM.out])]
            show _ = ((nxtC L (trC L h k) (h / 32 ^ k) : Nat) : Int)
            rw [← HD.out, ← HQ.out]
            rfl
          rw [hx]
        case measure => simp [intOf]; omega
      · have HJ3 := Lib.hid hJx3
        clear hJx3 hy
        gi_wp2
        refine bodyPost_ret (results_none rfl _ _ _) rfl ?_
        exact ⟨⟨_, rfl⟩, .inr ⟨k, hlt', HJ3.out⟩⟩
    · have hki : (M : Int) + 13 ≤ (k : Int) := by omega
      have hke : k = M + 13 := by omega
      have HJ2 := Lib.hid (show J (M + 13) wr by rw [← hke]; exact hj)
      have hdx : decide ((k : Int) < (M : Int) + 13) = false := by simp; omega
      clear hj hke hlt' HY m3
      gi_wp2
      go_end0
      exact ⟨⟨_, rfl⟩, .inl HJ2.out⟩
end Go.Proofs.Ytcakdmapnmneoaa
end
