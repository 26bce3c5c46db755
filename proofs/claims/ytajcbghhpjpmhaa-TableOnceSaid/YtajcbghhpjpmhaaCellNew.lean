/- Index cells: a new table (chapter 6). -/
import Derived.Test.YtajcbghhpjpmhaaCellGet
namespace Go.Proofs.Ytajcbghhpjpmhaa
open Go.RowKit
set_option linter.unusedVariables false

theorem info8 : (Try.prog.info? 172).map (fun i => (i.zero, i.size, i.bytes)) = some (some (.int .i8 0), 1, 1) := by kernel_rfl
theorem make_8 (w : World) (n : Nat) (hn : n ≤ 1048576) : (Instr.makeSlice 147 (.int .i64 (n : Int)) (.int .i64 (n : Int))).run Try.prog w = .ok (.slice (some ⟨w.heap.size, 0, none⟩) n n) (w.alloc (.cells (numA .i8 n (fun _ => 0)) 172)) := by
  obtain ⟨i0, hi, hz0, hz1, hz2⟩ := info_parts info8
  have h := run_make (P := Try.prog) w 147 172 i0 (.int .i8 0) Try.underlying147 hi hz0 .i64 .i64 (n : Int) (n : Int) (by omega) (Int.le_refl _) (by rw [hz2]; omega) (by omega)
  rw [h, hz1]
  simp only [Int.toNat_natCast, Nat.mul_one]
  rw [show (Value.int .i8 0).cells = #[.int .i8 0] from rfl, made_nums]
theorem info16 : (Try.prog.info? 173).map (fun i => (i.zero, i.size, i.bytes)) = some (some (.int .i16 0), 1, 2) := by kernel_rfl
theorem make_16 (w : World) (n : Nat) (hn : n ≤ 1048576) : (Instr.makeSlice 150 (.int .i64 (n : Int)) (.int .i64 (n : Int))).run Try.prog w = .ok (.slice (some ⟨w.heap.size, 0, none⟩) n n) (w.alloc (.cells (numA .i16 n (fun _ => 0)) 173)) := by
  obtain ⟨i0, hi, hz0, hz1, hz2⟩ := info_parts info16
  have h := run_make (P := Try.prog) w 150 173 i0 (.int .i16 0) Try.underlying150 hi hz0 .i64 .i64 (n : Int) (n : Int) (by omega) (Int.le_refl _) (by rw [hz2]; omega) (by omega)
  rw [h, hz1]
  simp only [Int.toNat_natCast, Nat.mul_one]
  rw [show (Value.int .i16 0).cells = #[.int .i16 0] from rfl, made_nums]
theorem info32 : (Try.prog.info? 21).map (fun i => (i.zero, i.size, i.bytes)) = some (some (.int .i32 0), 1, 4) := by kernel_rfl
theorem make_32 (w : World) (n : Nat) (hn : n ≤ 1048576) : (Instr.makeSlice 153 (.int .i64 (n : Int)) (.int .i64 (n : Int))).run Try.prog w = .ok (.slice (some ⟨w.heap.size, 0, none⟩) n n) (w.alloc (.cells (numA .i32 n (fun _ => 0)) 21)) := by
  obtain ⟨i0, hi, hz0, hz1, hz2⟩ := info_parts info32
  have h := run_make (P := Try.prog) w 153 21 i0 (.int .i32 0) Try.underlying153 hi hz0 .i64 .i64 (n : Int) (n : Int) (by omega) (Int.le_refl _) (by rw [hz2]; omega) (by omega)
  rw [h, hz1]
  simp only [Int.toNat_natCast, Nat.mul_one]
  rw [show (Value.int .i32 0).cells = #[.int .i32 0] from rfl, made_nums]
theorem info64 : (Try.prog.info? 3).map (fun i => (i.zero, i.size, i.bytes)) = some (some (.int .i64 0), 1, 8) := by kernel_rfl
theorem make_ints (w : World) (n : Nat) (hn : n ≤ 1048576) : (Instr.makeSlice 22 (.int .i64 (n : Int)) (.int .i64 (n : Int))).run Try.prog w = .ok (.slice (some ⟨w.heap.size, 0, none⟩) n n) (w.alloc (.cells (numA .i64 n (fun _ => 0)) 3)) := by
  obtain ⟨i0, hi, hz0, hz1, hz2⟩ := info_parts info64
  have h := run_make (P := Try.prog) w 22 3 i0 (.int .i64 0) Try.underlying22 hi hz0 .i64 .i64 (n : Int) (n : Int) (by omega) (Int.le_refl _) (by rw [hz2]; omega) (by omega)
  rw [h, hz1]
  simp only [Int.toNat_natCast, Nat.mul_one]
  rw [show (Value.int .i64 0).cells = #[.int .i64 0] from rfl, made_nums]

theorem made_any (L n : Nat) (l : Int) (hl : l = (L : Int)) (hL : L ≤ 20) (hn : n = 2 ^ L) (w : World) :
    Calls Try.prog 94 #[.int .i64 l] w fun e w' => e = .returned (.iface (tyOf L) (.agg #[.slice (some ⟨w.heap.size, 0, none⟩) n n, .int .i64 (wdOf L)])) ∧ w.alloc (.cells (numA (kiOf L) n (fun _ => 0)) (elOf L)) = w' := by
  subst hl
  have e2 : wrap64 ((2 : Int) ^ L) = (n : Int) := by rw [hn, ← IntWalk.i64_left]; exact i64_pow L hL
  have hn1 : n ≤ 1048576 := by rw [hn]; exact pow_le hL
  have h0 : (0 : Int) ≤ (L : Int) := by omega
  have h9 : (L : Int) ≤ 20 := by omega
  clear hn
  by_cases h1 : L ≤ 7
  · rw [show tyOf L = 149 by simp [tyOf, h1], show elOf L = 172 by simp [elOf, h1], show kiOf L = .i8 by simp [kiOf, h1], show wdOf L = 1 by simp [wdOf, h1]]
    have d1 : decide ((L : Int) ≤ 7) = true := by simp; omega
    have hm := make_8 w n hn1
    clear h1
    go_enter Try.func94, Try.ntmps94
    go_wp2_with fail
    go_ret
    exact ⟨rfl, rfl⟩
  · have d1 : decide ((L : Int) ≤ 7) = false := by simp; omega
    by_cases h2 : L ≤ 15
    · rw [show tyOf L = 152 by simp [tyOf, h1, h2], show elOf L = 173 by simp [elOf, h1, h2], show kiOf L = .i16 by simp [kiOf, h1, h2], show wdOf L = 2 by simp [wdOf, h1, h2]]
      have d2 : decide ((L : Int) ≤ 15) = true := by simp; omega
      have hm := make_16 w n hn1
      clear h1 h2
      go_enter Try.func94, Try.ntmps94
      go_wp2_with fail
      go_ret
      exact ⟨rfl, rfl⟩
    · rw [show tyOf L = 155 by simp [tyOf, h1, h2], show elOf L = 21 by simp [elOf, h1, h2], show kiOf L = .i32 by simp [kiOf, h1, h2], show wdOf L = 4 by simp [wdOf, h1, h2]]
      have d2 : decide ((L : Int) ≤ 15) = false := by simp; omega
      have hm := make_32 w n hn1
      clear h1 h2
      go_enter Try.func94, Try.ntmps94
      go_wp2_with fail
      go_ret
      exact ⟨rfl, rfl⟩

theorem wrap_m1 (k : IntKind) (hk : k = .i8 ∨ k = .i16 ∨ k = .i32) : k.wrap (-1) = -1 := by rcases hk with rfl | rfl | rfl <;> decide
theorem kiOf_is (L : Nat) : kiOf L = .i8 ∨ kiOf L = .i16 ∨ kiOf L = .i32 := by
  unfold kiOf
  by_cases h1 : L ≤ 7
  · rw [if_pos h1]; simp
  · rw [if_neg h1]
    by_cases h2 : L ≤ 15
    · rw [if_pos h2]; simp
    · rw [if_neg h2]; simp

/-- The first i cells are empty. -/
def begun (i : Nat) : Nat → Int := fun j => if j < i then -1 else 0
theorem begun_put (i : Nat) : putN (begun i) i (-1) = begun (i + 1) := by
  funext j
  unfold putN begun
  by_cases h : j = i
  · rw [if_pos h, if_pos (by omega)]
  · rw [if_neg h]
    by_cases h2 : j < i
    · rw [if_pos h2, if_pos (by omega)]
    · rw [if_neg h2, if_neg (by omega)]
theorem begun_fits (n i : Nat) : Fits n (begun i) := by
  intro j
  unfold begun
  split
  · exact .inl (by simp [mayB])
  · exact .inr rfl

/-- Behind New: a table of empty cells. -/
def NewC (L n : Nat) (V : Nat → Int) (w : World) (e : Ending) (w' : World) : Prop :=
  ∃ c r, e = .returned (.tuple #[.pointer (some ⟨c, 0, none⟩), .int .i64 0]) ∧ CellsAt c r L n V w' ∧ w.heap.size ≤ c ∧ w.heap.size ≤ r ∧ Below w.heap.size w w'
theorem new_bad (l : Int) (w : World) (hl : l < 3 ∨ 20 < l) :
    Calls Try.prog 83 #[.int .i64 l] w fun e w' => e = .returned (.tuple #[.pointer none, .int .i64 1]) ∧ w = w' := by
  rcases hl with h | h
  · have d1 : decide (l < 3) = true := by simpa using h
    go_enter Try.func83, Try.ntmps83
    go_wp2_with fail
    go_ret2
    exact ⟨rfl, rfl⟩
  · have d1 : decide (l < 3) = false := by simp; omega
    have d2 : decide (20 < l) = true := by simpa using h
    go_enter Try.func83, Try.ntmps83
    go_wp2_with fail
    go_ret2
    exact ⟨rfl, rfl⟩
set_option maxRecDepth 100000 in
theorem new_any (L n : Nat) (l : Int) (hl : l = (L : Int)) (h3 : 3 ≤ L) (hL : L ≤ 20) (hn : n = 2 ^ L) (w : World) :
    Calls Try.prog 83 #[.int .i64 l] w (NewC L n (begun n) w) := by
  subst hl
  have d1 : decide ((L : Int) < 3) = false := by simp; omega
  have d2 : decide ((20 : Int) < (L : Int)) = false := by simp; omega
  have hn1 : n ≤ 1048576 := by rw [hn]; exact pow_le hL
  have HN := Lib.hid hn
  clear hn
  go_enter Try.func83, Try.ntmps83
  go_wp2_with fail
  refine (made_any L n _ rfl hL HN.out _).mono ?_
  rintro e w1 ⟨rfl, rfl⟩
  have hml := (rowKind L).ml
  have hel := fun args W => (rowKind L).el args W
  go_wp2_with fail
  refine ((rowKind L).cl _ _ _ _).mono ?_
  rintro e w2 ⟨rfl, b2⟩
  clear hml hel
  have hI : CellsAt (w.heap.size + 1) w.heap.size L n (begun 0) w2 := by
    refine CellsAt.below (w := (w.alloc (.cells (numA (kiOf L) n (fun _ => 0)) (elOf L))).alloc (.cells #[.int .i64 L, .iface (tyOf L) (.agg #[.slice (some ⟨w.heap.size, 0, none⟩) n n, .int .i64 (wdOf L)])] 133)) ⟨has_new' _ _ (by simp), has_alloc (has_new _ _) _⟩ b2
  have HI := Lib.hid hI
  have HB := Lib.hid ((((Below.refl w.heap.size w).alloc (Nat.le_refl _) _).alloc (by simp) _).trans (b2.mono (by simp <;> omega)))
  clear b2 hI d1 d2
  go_wp2_with fail
  go_loopw [22] (fun i wr => ∃ k : Nat, k ≤ n ∧ i = .int .i64 k ∧ CellsAt (w.heap.size + 1) w.heap.size L n (begun k) wr ∧ Below w.heap.size w wr) (fun i _ => n - (intOf i).toNat)
  case atStart => exact ⟨0, by omega, rfl, HI.out, HB.out⟩
  case round =>
    obtain ⟨k, hk, rfl, hC, hb⟩ := hrel
    clear HI HB
    by_cases hlt : k < n
    · have hlt' : (k : Int) < (n : Int) := by omega
      have hm := (rowKind L).ms
      have he := fun args W => (rowKind L).es args W
      have c1 := cell_has hC.ho (i := 1) rfl
      have HC := Lib.hid hC
      have HB := Lib.hid hb
      clear hC hb
      go_wp2_with fail
      refine ((rowKind L).cs w.heap.size n k (begun k) _ rfl _ (-1) _ HC.out.hr hlt).mono ?_
      rintro e w3 ⟨rfl, k3, h3⟩
      rw [wrap_m1 _ (kiOf_is L), begun_put] at h3
      have HD := Lib.hid (CellsAt.mk (k3.has HC.out.ho (by simp)) h3)
      have HB3 := Lib.hid (HB.out.trans (k3.below HB.out.size (by simp)))
      clear k3 h3 hm he
      go_wp2_with fail
      go_roundw
      case rel => exact ⟨k + 1, by omega, by go_num, HD.out, HB3.out⟩
      case measure => simp [intOf]; omega
    · have hge : (n : Int) ≤ (k : Int) := by omega
      have hke : k = n := by omega
      have HC := Lib.hid (hke ▸ hC)
      have HB := Lib.hid hb
      clear hC hb hke
      go_wp2_with fail
      go_ret2
      exact ⟨w.heap.size + 1, w.heap.size, rfl, HC.out, by omega, Nat.le_refl _, HB.out⟩

/-! The document's own cells: values, and a row of ints. -/
theorem rroom_any (L n : Nat) (l : Int) (hl : l = (L : Int)) (h3 : 3 ≤ L) (hL : L ≤ 20) (hn : n = 2 ^ L) (w : World) :
    Calls Try.prog 54 #[.int .i64 l] w fun e w' => e = .returned (.int .i64 (2 * n / 3 : Nat)) ∧ w = w' := by
  subst hl
  have d1 : decide ((L : Int) < 3) = false := by simp; omega
  have d2 : decide ((20 : Int) < (L : Int)) = false := by simp; omega
  have g0 : (0 : Int) ≤ (L : Int) := by omega
  have g1 : (L : Int) ≤ 20 := by omega
  go_enter Try.func54, Try.ntmps54
  go_wp2_with fail
  go_ret
  have hv : wrap64 ((wrap64 (2 * 2 ^ L)).tdiv 3) = ((2 * n / 3 : Nat) : Int) := by
    have hn1 : n ≤ 1048576 := by rw [hn]; exact pow_le hL
    have e : (2 : Int) ^ L = (n : Int) := by rw [hn]; simp
    rw [e, IntWalk.wrap64_in (2 * (n : Int)) (by omega), Int.tdiv_eq_ediv_of_nonneg (by omega), IntWalk.wrap64_in _ (by omega)]
    omega
  exact ⟨ret_num hv, rfl⟩
theorem rroom_bad (l : Int) (w : World) (hl : l < 3 ∨ 20 < l) :
    Calls Try.prog 54 #[.int .i64 l] w fun e w' => e = .returned (.int .i64 0) ∧ w = w' := by
  rcases hl with h | h
  · have d1 : decide (l < 3) = true := by simpa using h
    go_enter Try.func54, Try.ntmps54
    go_wp2_with fail
    go_ret
    exact ⟨rfl, rfl⟩
  · have d1 : decide (l < 3) = false := by simp; omega
    have d2 : decide (20 < l) = true := by simpa using h
    go_enter Try.func54, Try.ntmps54
    go_wp2_with fail
    go_ret
    exact ⟨rfl, rfl⟩
theorem rwidth_any (L : Nat) (l : Int) (hl : l = (L : Int)) (h3 : 3 ≤ L) (hL : L ≤ 20) (w : World) :
    Calls Try.prog 65 #[.int .i64 l] w fun e w' => e = .returned (.int .i64 (wdOf L)) ∧ w = w' := by
  subst hl
  have d1 : decide ((L : Int) < 3) = false := by simp; omega
  have d2 : decide ((20 : Int) < (L : Int)) = false := by simp; omega
  by_cases h1 : L ≤ 7
  · rw [show wdOf L = 1 by simp [wdOf, h1]]
    have d3 : decide ((L : Int) ≤ 7) = true := by simp; omega
    go_enter Try.func65, Try.ntmps65
    go_wp2_with fail
    go_ret
    exact ⟨rfl, rfl⟩
  · have d3 : decide ((L : Int) ≤ 7) = false := by simp; omega
    by_cases h2 : L ≤ 15
    · rw [show wdOf L = 2 by simp [wdOf, h1, h2]]
      have d4 : decide ((L : Int) ≤ 15) = true := by simp; omega
      go_enter Try.func65, Try.ntmps65
      go_wp2_with fail
      go_ret
      exact ⟨rfl, rfl⟩
    · rw [show wdOf L = 4 by simp [wdOf, h1, h2]]
      have d4 : decide ((L : Int) ≤ 15) = false := by simp; omega
      go_enter Try.func65, Try.ntmps65
      go_wp2_with fail
      go_ret
      exact ⟨rfl, rfl⟩
theorem rwidth_bad (l : Int) (w : World) (hl : l < 3 ∨ 20 < l) :
    Calls Try.prog 65 #[.int .i64 l] w fun e w' => e = .returned (.int .i64 0) ∧ w = w' := by
  rcases hl with h | h
  · have d1 : decide (l < 3) = true := by simpa using h
    go_enter Try.func65, Try.ntmps65
    go_wp2_with fail
    go_ret
    exact ⟨rfl, rfl⟩
  · have d1 : decide (l < 3) = false := by simp; omega
    have d2 : decide (20 < l) = true := by simpa using h
    go_enter Try.func65, Try.ntmps65
    go_wp2_with fail
    go_ret
    exact ⟨rfl, rfl⟩
end Go.Proofs.Ytajcbghhpjpmhaa
