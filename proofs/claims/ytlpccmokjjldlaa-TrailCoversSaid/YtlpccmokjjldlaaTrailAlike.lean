/- TrailAlike, walked (chapter 5). -/
import Derived.Test.YtlpccmokjjldlaaTrailGoes
namespace Go.Proofs.Ytlpccmokjjldlaa
open Go.RowKit

theorem div_mod_pow (h h' a b : Nat) (e : h % 2 ^ (a + b) = h' % 2 ^ (a + b)) : h / 2 ^ a % 2 ^ b = h' / 2 ^ a % 2 ^ b := by
  rw [← Nat.mod_mul_right_div_self, ← Nat.mod_mul_right_div_self, ← Nat.pow_add, e]
theorem pow32 (k : Nat) : 32 ^ k = 2 ^ (5 * k) := by rw [Nat.pow_mul]
theorem mod_of_mod {h h' a b : Nat} (hab : a ≤ b) (e : h % 2 ^ b = h' % 2 ^ b) : h % 2 ^ a = h' % 2 ^ a := by
  have d : 2 ^ a ∣ 2 ^ b := Nat.pow_dvd_pow 2 hab
  rw [← Nat.mod_mod_of_dvd h d, ← Nat.mod_mod_of_dvd h' d, e]
/-- Hashes with the same low digits begin with the same cells. -/
theorem trC_alike (L h h' : Nat) (i : Nat) : h % 2 ^ (L + 5 * i) = h' % 2 ^ (L + 5 * i) → trC L h i = trC L h' i := by
  induction i with
  | zero => intro e; exact e
  | succ i ih =>
    intro e
    have e1 : h % 2 ^ (L + 5 * i) = h' % 2 ^ (L + 5 * i) := mod_of_mod (by omega) e
    have e2 : h / 32 ^ (i + 1) % 2 ^ L = h' / 32 ^ (i + 1) % 2 ^ L := by
      rw [pow32]; exact div_mod_pow _ _ _ _ (by rw [Nat.add_comm]; exact e)
    show nxtC L (trC L h i) (h / 32 ^ i) = nxtC L (trC L h' i) (h' / 32 ^ i)
    unfold nxtC
    rw [ih e1, ← div_pow_succ, ← div_pow_succ, Nat.add_right_comm, Nat.add_mod, e2, ← Nat.add_mod, Nat.add_right_comm]
theorem trL_alike (L h h' n : Nat) (hn : 0 < n) (e : h % 2 ^ (L + 5 * (n - 1)) = h' % 2 ^ (L + 5 * (n - 1))) : trL L h n = trL L h' n := by
  unfold trL
  refine List.map_congr_left fun i hi => ?_
  have : i < n := List.mem_range.1 hi
  rw [trC_alike L h h' i (mod_of_mod (by omega) e)]

theorem andnot_low (b e : Nat) (he : e ≤ 63) : ∃ n : Nat, bits .andNot .u64 (b : Int) (((2 ^ e - 1 : Nat) : Nat) : Int) = (n : Int) ∧ n < 18446744073709551616 ∧ n % 2 ^ e = 0 := by
  have hp : 2 ^ e ≤ 2 ^ 63 := Nat.pow_le_pow_right (by omega) he
  have hp0 := pow_pos e
  have h2 : (BitVec.ofInt 64 ((2 ^ e - 1 : Nat) : Int)).toNat = 2 ^ e - 1 := by
    rw [BitVec.ofInt_natCast, BitVec.toNat_ofNat]; exact Nat.mod_eq_of_lt (by omega)
  refine ⟨(BitVec.ofInt 64 (b : Int) &&& ~~~ BitVec.ofInt 64 ((2 ^ e - 1 : Nat) : Int)).toNat, ?_, BitVec.isLt _, ?_⟩
  · show IntKind.u64.wrap ((BitVec.ofInt 64 (b : Int) &&& ~~~ BitVec.ofInt 64 ((2 ^ e - 1 : Nat) : Int)).toNat : Int) = _
    have := (BitVec.ofInt 64 (b : Int) &&& ~~~ BitVec.ofInt 64 ((2 ^ e - 1 : Nat) : Int)).isLt
    rw [IntKind.wrap_u64]
    omega
  · apply Nat.eq_of_testBit_eq
    intro i
    rw [Nat.testBit_mod_two_pow, Nat.zero_testBit]
    by_cases hi : i < e
    · simp only [hi, decide_true, Bool.true_and]
      rw [BitVec.testBit_toNat, BitVec.getLsbD_and, BitVec.getLsbD_not]
      rw [show (BitVec.ofInt 64 ((2 ^ e - 1 : Nat) : Int)).getLsbD i = true from by
        rw [← BitVec.testBit_toNat, h2, Nat.testBit_two_pow_sub_one]; simpa using hi]
      simp
    · simp [hi]

theorem uh_wrap (X : Nat) (hX : X < 18446744073709551616) : uh (wrap64 (X : Int)) = X := by
  unfold uh
  rw [← IntWalk.i64_left, IntKind.wrap_i64]
  omega
/-- The twin of a hash: it has its low digits. -/
theorem twin_low (h o : Int) (e : Nat) (he : e ≤ 63) :
    uh (wrap64 (bits .or .u64 (bits .and .u64 (IntKind.u64.wrap h) (((2 ^ e - 1 : Nat) : Nat) : Int)) (bits .andNot .u64 (IntKind.u64.wrap o) (((2 ^ e - 1 : Nat) : Nat) : Int)))) % 2 ^ e = uh h % 2 ^ e := by
  have hp : 2 ^ e ≤ 2 ^ 63 := Nat.pow_le_pow_right (by omega) he
  have hp0 := pow_pos e
  have hu := uh_lt h
  obtain ⟨n, e1, e2, e3⟩ := andnot_low (uh o) e he
  have hm : 2 ^ e - 1 < 18446744073709551616 := Nat.lt_of_le_of_lt (Nat.le_trans (Nat.sub_le _ _) hp) (by decide)
  rw [uh_cast h, uh_cast o, e1, bits_and_u64_nat (uh h) (2 ^ e - 1) hu hm, Nat.and_two_pow_sub_one_eq_mod]
  have h3 := Nat.mod_le (uh h) (2 ^ e)
  rw [bits_or_u64_nat _ n (Nat.lt_of_le_of_lt h3 hu) e2]
  have h4 : uh h % 2 ^ e ||| n < 2 ^ 64 := Nat.or_lt_two_pow (Nat.lt_of_lt_of_eq (Nat.lt_of_le_of_lt h3 hu) (by decide)) (Nat.lt_of_lt_of_eq e2 (by decide))
  rw [uh_wrap _ (Nat.lt_of_lt_of_eq h4 (by decide)), Nat.or_mod_two_pow, e3, Nat.mod_mod, Nat.or_zero]

theorem trailAlike_early0 (h o l k : Int) (w : World) (h1 : l < 0) :
    Calls Try.prog 9 #[.int .i64 h, .int .i64 o, .int .i64 l, .int .i64 k] w fun e w' => e = .returned (.bool true) ∧ Below w.heap.size w w' := by
  have d0 : decide (l < 0) = true := by simp <;> omega
  go_enter Try.func9, Try.ntmps9
  go_wp2_with (go_at_call 26; refine (awake5 _).mono ?_; rintro e w' ⟨rfl, rfl⟩)
  go_ret
  exact ⟨rfl, Below.refl _ _⟩
theorem trailAlike_early1 (h o l k : Int) (w : World) (h1 : 0 ≤ l) (h2 : 20 < l) :
    Calls Try.prog 9 #[.int .i64 h, .int .i64 o, .int .i64 l, .int .i64 k] w fun e w' => e = .returned (.bool true) ∧ Below w.heap.size w w' := by
  have d0 : decide (l < 0) = false := by simp <;> omega
  have d1 : decide (20 < l) = true := by simp <;> omega
  go_enter Try.func9, Try.ntmps9
  go_wp2_with (go_at_call 26; refine (awake5 _).mono ?_; rintro e w' ⟨rfl, rfl⟩)
  go_ret
  exact ⟨rfl, Below.refl _ _⟩
theorem trailAlike_early2 (h o l k : Int) (w : World) (h1 : 0 ≤ l) (h2 : l ≤ 20) (h3 : k < 0) :
    Calls Try.prog 9 #[.int .i64 h, .int .i64 o, .int .i64 l, .int .i64 k] w fun e w' => e = .returned (.bool true) ∧ Below w.heap.size w w' := by
  have d0 : decide (l < 0) = false := by simp <;> omega
  have d1 : decide (20 < l) = false := by simp <;> omega
  have d2 : decide (k < 0) = true := by simp <;> omega
  go_enter Try.func9, Try.ntmps9
  go_wp2_with (go_at_call 26; refine (awake5 _).mono ?_; rintro e w' ⟨rfl, rfl⟩)
  go_ret
  exact ⟨rfl, Below.refl _ _⟩
theorem trailAlike_early3 (h o l k : Int) (w : World) (h1 : 0 ≤ l) (h2 : l ≤ 20) (h3 : 0 ≤ k) (h4 : 11 < k) :
    Calls Try.prog 9 #[.int .i64 h, .int .i64 o, .int .i64 l, .int .i64 k] w fun e w' => e = .returned (.bool true) ∧ Below w.heap.size w w' := by
  have d0 : decide (l < 0) = false := by simp <;> omega
  have d1 : decide (20 < l) = false := by simp <;> omega
  have d2 : decide (k < 0) = false := by simp <;> omega
  have d3 : decide (11 < k) = true := by simp <;> omega
  go_enter Try.func9, Try.ntmps9
  go_wp2_with (go_at_call 26; refine (awake5 _).mono ?_; rintro e w' ⟨rfl, rfl⟩)
  go_ret
  exact ⟨rfl, Below.refl _ _⟩
theorem trailAlike_early4 (h o l k : Int) (w : World) (h1 : 0 ≤ l) (h2 : l ≤ 20) (h3 : 0 ≤ k) (h4 : k ≤ 11) (h5 : 63 < l + 5 * k) :
    Calls Try.prog 9 #[.int .i64 h, .int .i64 o, .int .i64 l, .int .i64 k] w fun e w' => e = .returned (.bool true) ∧ Below w.heap.size w w' := by
  have d0 : decide (l < 0) = false := by simp <;> omega
  have d1 : decide (20 < l) = false := by simp <;> omega
  have d2 : decide (k < 0) = false := by simp <;> omega
  have d3 : decide (11 < k) = false := by simp <;> omega
  have d4 : decide (63 < l + 5 * k) = true := by simp <;> omega
  go_enter Try.func9, Try.ntmps9
  go_wp2_with (go_at_call 26; refine (awake5 _).mono ?_; rintro e w' ⟨rfl, rfl⟩)
  go_ret
  exact ⟨rfl, Below.refl _ _⟩
theorem low_val (e : Nat) (he : e ≤ 63) : IntKind.u64.wrap (IntKind.u64.wrap (2 ^ e) - 1) = ((2 ^ e - 1 : Nat) : Int) := by
  have hp : 2 ^ e ≤ 2 ^ 63 := Nat.pow_le_pow_right (by omega) he
  have hp0 := pow_pos e
  rw [IntKind.wrap_u64, IntKind.wrap_u64, show ((2 : Int) ^ e) = ((2 ^ e : Nat) : Int) by simp]
  generalize 2 ^ e = M at *
  omega
theorem twin_list (h o : Int) (L K : Nat) (hL : L ≤ 20) (hLK : L + 5 * K ≤ 63) :
    trList (wrap64 (bits BinOp.or IntKind.u64 (bits BinOp.and IntKind.u64 (IntKind.u64.wrap h) (IntKind.u64.wrap (IntKind.u64.wrap (2 ^ (L + 5 * K)) - 1)))
      (bits BinOp.andNot IntKind.u64 (IntKind.u64.wrap o) (IntKind.u64.wrap (IntKind.u64.wrap (2 ^ (L + 5 * K)) - 1))))) L (K + 1) = trList h L (K + 1) := by
  rw [low_val _ hLK]
  have e := twin_low h o (L + 5 * K) hLK
  unfold trList
  rw [if_neg (by omega), if_neg (by omega)]
  rw [Int.toNat_natCast]
  have h1 : ∀ M : Nat, min (K + 1) (M + 13) - 1 ≤ K ∧ 0 < min (K + 1) (M + 13) := fun M => by omega
  have h2 := h1 (2 ^ L)
  exact trL_alike _ _ _ _ h2.2 (mod_of_mod (Nat.add_le_add_left (Nat.mul_le_mul_left 5 h2.1) L) e)

theorem trailAlike_main (h o : Int) (L K : Nat) (w : World) (hL : L ≤ 20) (hK : K ≤ 11) (hLK : L + 5 * K ≤ 63) :
    Calls Try.prog 9 #[.int .i64 h, .int .i64 o, .int .i64 L, .int .i64 K] w fun e w' => e = .returned (.bool true) ∧ Below w.heap.size w w' := by
  obtain ⟨n, hn⟩ : ∃ n, n = (trList h L (K + 1)).length := ⟨_, rfl⟩
  have hnl : n ≤ 12 := by rw [hn]; exact Nat.le_trans (trList_le _ _ _) (by omega)
  obtain ⟨xs, hxs⟩ := ex_hid (trList h L (K + 1))
  have HX := Lib.hid hxs.out.symm
  have HN : Hid (xs.length = n) := Lib.hid (by rw [hn, hxs.out])
  have HY := Lib.hid ((twin_list h o L K hL hLK).trans hxs.out.symm)
  clear hn hxs
  have d1 : decide ((L : Int) < 0) = false := by simp
  have d2 : decide ((20 : Int) < (L : Int)) = false := by simp; omega
  have d3 : decide ((K : Int) < 0) = false := by simp
  have d4 : decide ((11 : Int) < (K : Int)) = false := by simp; omega
  have d5 : decide ((63 : Int) < (L : Int) + 5 * (K : Int)) = false := by simp; omega
  have g0 : (0 : Int) ≤ (L : Int) := by omega
  have g1 : (L : Int) ≤ 20 := by omega
  have g2 : (0 : Int) ≤ (K : Int) := by omega
  have g3 : (K : Int) ≤ 11 := by omega
  have g4 : (L : Int) + 5 * (K : Int) ≤ 63 := by omega
  go_enter Try.func9, Try.ntmps9
  go_wp2_with fail
  refine (cells_any h L _ (K + 1) (by omega) (by omega) (by omega) _).mono ?_
  rintro e w1 ⟨a, cap, rfl, o1, b1⟩
  rw [HX.out, HN.out] at o1 ⊢
  have O1 := Lib.hid o1
  have B1 := Lib.hid b1
  clear o1 b1
  go_wp2_with fail
  refine (cells_any _ L _ (K + 1) (by omega) (by omega) (by omega) _).mono ?_
  rintro e w2 ⟨a', cap', rfl, o2, b2⟩
  rw [HY.out, HN.out] at o2 ⊢
  have R2 := Lib.hid (reads_own o2)
  have R1 := Lib.hid ((reads_own O1.out).below b2)
  have B2 := Lib.hid (B1.out.trans (b2.mono B1.out.size))
  clear o2 b2 O1 B1
  go_wp2_with fail
  refine (same_eq xs _ _ n _ _ _ R1.out R2.out (by omega)).mono ?_
  rintro e w3 ⟨rfl, b3⟩
  have B3 := Lib.hid (B2.out.trans (b3.mono B2.out.size))
  clear b3 B2 R1 R2
  go_wp2_with (go_at_call 26; refine (awake5 _).mono ?_; rintro e w' ⟨rfl, rfl⟩)
  go_ret
  exact ⟨rfl, B3.out⟩

theorem trailAlike_walk (h o l k : Int) (w : World) (_ : (Lit.int .i64 h).wf = true) (_ : (Lit.int .i64 o).wf = true) (_ : (Lit.int .i64 l).wf = true) (_ : (Lit.int .i64 k).wf = true) :
    Calls Try.prog 9 #[.int .i64 h, .int .i64 o, .int .i64 l, .int .i64 k] w fun e w' => e = .returned (.bool true) ∧ Below w.heap.size w w' := by
  by_cases h1 : l < 0
  · exact trailAlike_early0 h o l k w h1
  by_cases h2 : 20 < l
  · exact trailAlike_early1 h o l k w (by omega) h2
  by_cases h3 : k < 0
  · exact trailAlike_early2 h o l k w (by omega) (by omega) h3
  by_cases h4 : 11 < k
  · exact trailAlike_early3 h o l k w (by omega) (by omega) (by omega) h4
  by_cases h5 : 63 < l + 5 * k
  · exact trailAlike_early4 h o l k w (by omega) (by omega) (by omega) (by omega) h5
  obtain ⟨L, rfl⟩ := Int.eq_ofNat_of_zero_le (show 0 ≤ l by omega)
  obtain ⟨K, rfl⟩ := Int.eq_ofNat_of_zero_le (show 0 ≤ k by omega)
  exact trailAlike_main h o L K w (by omega) (by omega) (by omega)
end Go.Proofs.Ytlpccmokjjldlaa
