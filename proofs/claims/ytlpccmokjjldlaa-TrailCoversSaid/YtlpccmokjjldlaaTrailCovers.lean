/- TrailCovers, walked (chapter 5). -/
import Derived.Test.YtlpccmokjjldlaaTrailStops2
import Derived.Test.YtlpccmokjjldlaaTrailPeriod
namespace Go.Proofs.Ytlpccmokjjldlaa
open Go.RowKit
set_option linter.unusedVariables false

/-- A row of bools. -/
def boolsA (n : Nat) (B : Nat → Bool) : Array Value := ((List.range n).map fun v => Value.bool (B v)).toArray
theorem boolsA_size (n : Nat) (B : Nat → Bool) : (boolsA n B).size = n := by simp [boolsA]
theorem boolsA_get {n : Nat} {B : Nat → Bool} {v : Nat} (h : v < n) : (boolsA n B)[v]? = some (.bool (B v)) := by simp [boolsA, h]
theorem boolsA_ext {n : Nat} {B C : Nat → Bool} (h : ∀ v, v < n → B v = C v) : boolsA n B = boolsA n C := by
  unfold boolsA
  congr 1
  exact List.map_congr_left fun v hv => by rw [h v (List.mem_range.1 hv)]
theorem boolsA_set {n : Nat} {B : Nat → Bool} {v : Nat} (b : Bool) : (boolsA n B).setIfInBounds v (.bool b) = boolsA n (fun x => if x = v then b else B x) := by
  apply Array.ext_getElem?
  intro i
  rw [Array.getElem?_setIfInBounds]
  by_cases hi : i < n
  · rw [boolsA_get hi, boolsA_size]
    by_cases hv : v = i
    · subst hv; rw [boolsA_get hi]; simp [hi]
    · rw [if_neg hv, boolsA_get hi, if_neg (fun e => hv e.symm)]
  · have h1 : ∀ C : Nat → Bool, (boolsA n C)[i]? = none := fun C => by simp [boolsA]; omega
    rw [h1, h1]
    split
    · rename_i h; subst h; rw [boolsA_size, if_neg hi]
    · rfl
theorem made_bools (n : Nat) : madeCells #[.bool false] n = boolsA n (fun _ => false) := by
  apply Array.ext_getElem?
  intro i
  by_cases hi : i < n
  · rw [boolsA_get hi]; simp [madeCells, hi, Nat.mod_one]
  · simp [madeCells, boolsA, hi]

theorem infoB : (Try.prog.info? 4).map (fun i => (i.zero, i.size, i.bytes)) = some (some (.bool false), 1, 1) := by kernel_rfl
theorem make_bools (w : World) (n : Nat) (hn : n ≤ 1048576) : (Instr.makeSlice 54 (.int .i64 (n : Int)) (.int .i64 (n : Int))).run Try.prog w = .ok (.slice (some ⟨w.heap.size, 0, none⟩) n n) (w.alloc (.cells (boolsA n (fun _ => false)) 4)) := by
  obtain ⟨i0, hi, hz0, hz1, hz2⟩ := info_parts infoB
  have h := run_make (P := Try.prog) w 54 4 i0 (.bool false) Try.underlying54 hi hz0 .i64 .i64 (n : Int) (n : Int) (by omega) (Int.le_refl _) (by rw [hz2]; omega) (by omega)
  rw [h, hz1]
  simp only [Int.toNat_natCast, Nat.mul_one]
  rw [show (Value.bool false).cells = #[.bool false] from rfl, made_bools]

/-- Which cells have been met between round k and round i. -/
def seenB (L h k i : Nat) (x : Nat) : Bool := (List.range i).any fun q => decide (k ≤ q) && (trC L h q == x)
theorem seenB_iff (L h k i x : Nat) : seenB L h k i x = true ↔ ∃ q, k ≤ q ∧ q < i ∧ trC L h q = x := by
  simp only [seenB, List.any_eq_true, List.mem_range, Bool.and_eq_true, decide_eq_true_eq, beq_iff_eq]
  constructor
  · rintro ⟨q, h1, h2, h3⟩; exact ⟨q, h2, h1, h3⟩
  · rintro ⟨q, h1, h2, h3⟩; exact ⟨q, h2, h1, h3⟩
theorem seenB_start (L h k x : Nat) : seenB L h k k x = false := by
  rw [Bool.eq_false_iff]
  intro e
  obtain ⟨q, h1, h2, _⟩ := (seenB_iff _ _ _ _ _).1 e
  omega
theorem seenB_next (L h : Nat) (hh : h < 18446744073709551616) (k i : Nat) (hk : shN h ≤ k) (hki : k ≤ i) (hi : i < k + 2 ^ L) : seenB L h k i (trC L h i) = false := by
  rw [Bool.eq_false_iff]
  intro e
  obtain ⟨q, q1, q2, q3⟩ := (seenB_iff _ _ _ _ _).1 e
  obtain ⟨x, rfl⟩ : ∃ x, q = k + x := ⟨q - k, by omega⟩
  obtain ⟨y, rfl⟩ : ∃ y, i = k + y := ⟨i - k, by omega⟩
  exact trC_apart L h hh k hk x y (by omega) (by omega) q3
theorem seenB_succ (L h k i x : Nat) (hki : k ≤ i) : (if x = trC L h i then true else seenB L h k i x) = seenB L h k (i + 1) x := by
  rw [Bool.eq_iff_iff, seenB_iff]
  by_cases hx : x = trC L h i
  · rw [if_pos hx]
    simp only [true_iff]
    exact ⟨i, hki, by omega, hx.symm⟩
  · rw [if_neg hx, seenB_iff]
    constructor
    · rintro ⟨q, q1, q2, q3⟩; exact ⟨q, q1, by omega, q3⟩
    · rintro ⟨q, q1, q2, q3⟩
      refine ⟨q, q1, ?_, q3⟩
      rcases Nat.lt_or_ge q i with h5 | h5
      · exact h5
      · exact absurd (by rw [← q3]; congr 1; omega) hx

theorem boolsA_start (M L h k : Nat) : boolsA M (fun _ => false) = boolsA M (seenB L h k k) := boolsA_ext fun v _ => (seenB_start _ _ _ _).symm
theorem boolsA_step (M L h k i : Nat) (hki : k ≤ i) : boolsA M (fun x => if x = trC L h i then true else seenB L h k i x) = boolsA M (seenB L h k (i + 1)) := boolsA_ext fun x _ => seenB_succ _ _ _ _ _ hki

theorem trailCovers_early (h l : Int) (w : World) (hc : l < 0 ∨ 11 < l) :
    Calls Try.prog 8 #[.int .i64 h, .int .i64 l] w fun e w' => e = .returned (.bool true) ∧ Below w.heap.size w w' := by
  rcases hc with h1 | h1
  · have d1 : decide (l < 0) = true := by simpa using h1
    go_enter Try.func8, Try.ntmps8
    go_wp2_with (go_at_call 26; refine (awake5 _).mono ?_; rintro e w' ⟨rfl, rfl⟩)
    go_ret
    exact ⟨rfl, Below.refl _ _⟩
  · have d1 : decide (l < 0) = false := by simp; omega
    have d2 : decide (11 < l) = true := by simpa using h1
    go_enter Try.func8, Try.ntmps8
    go_wp2_with (go_at_call 26; refine (awake5 _).mono ?_; rintro e w' ⟨rfl, rfl⟩)
    go_ret
    exact ⟨rfl, Below.refl _ _⟩

set_option maxRecDepth 100000 in
set_option maxHeartbeats 1000000 in
theorem trailCovers_main (h : Int) (L : Nat) (w : World) (hL : L ≤ 11) :
    Calls Try.prog 8 #[.int .i64 h, .int .i64 L] w fun e w' => e = .returned (.bool true) ∧ Below w.heap.size w w' := by
  have d1 : decide ((L : Int) < 0) = false := by simp
  have d2 : decide ((11 : Int) < (L : Int)) = false := by simp; omega
  have g0 : (0 : Int) ≤ (L : Int) := by omega
  have g1 : (L : Int) ≤ 11 := by omega
  have e2 : wrap64 ((2 : Int) ^ L) = ((2 ^ L : Nat) : Int) := by rw [← IntWalk.i64_left]; exact i64_pow L (by omega)
  have hM : 2 ^ L ≤ 2048 := Nat.pow_le_pow_right (by omega) hL (n := 2)
  have hM0 := pow_pos L
  obtain ⟨M, hM2⟩ := ex_hid (2 ^ L)
  rw [← hM2.out] at e2 hM hM0
  have hM3 : (M : Int) ≤ 2048 := by omega
  have hM4 : (0 : Int) < (M : Int) := by omega
  go_enter Try.func8, Try.ntmps8
  go_wp2_with fail
  refine (cells_some h L L (M + 13) rfl (by omega) (by omega) (by omega) _ (by omega) _).mono ?_
  rintro e w1 ⟨a, cap, rfl, o1, b1⟩
  obtain ⟨n, hn⟩ := ex_hid (M + 13)
  rw [hM2.out, Nat.min_self, trL_len, ← hM2.out, ← hn.out] at o1 ⊢
  have hnn : (n : Int) = (M : Int) + 13 := by have := hn.out; omega
  have R1 := readsLo_own o1 (Nat.le_refl _)
  obtain ⟨_, h0 | ⟨g, off, rfl, hg, hcell⟩⟩ := R1
  · omega
  have hcell' : ∀ i, i < n → w1.cell? ⟨g, off + i, none⟩ = some (.int .i64 ((trC L (uh h) i : Nat) : Int)) := fun i hi => by rw [← trL_getD L (uh h) n i hi]; exact hcell i hi
  have c0 : w1.cell? ⟨g, off, none⟩ = some (.int .i64 ((trC L (uh h) 0 : Nat) : Int)) := hcell' 0 (by omega)
  have HC := Lib.hid hcell'
  have B1 := Lib.hid b1
  have HNN := Lib.hid hnn
  have hn0 : (0 : Int) < (n : Int) := by omega
  have hn1 : (n : Int) ≤ 2061 := by omega
  have dn : ((n : Int) != (M : Int) + 13) = false := by simp; omega
  clear hcell hcell' b1 o1 hnn
  go_wp2_with (first | (go_at_call 22; refine (first_any h L _ L rfl (by omega)).mono ?_; rintro e w' ⟨rfl, rfl⟩))
  go_quiet ((go_at_call 22; exact Calls.quiet_of_same (quietC (first_any h L _ L rfl (by omega)))))
  have hsh : shN (uh h) ≤ 13 := shN_le _
  have ds1 : decide (((shN (uh h) : Nat) : Int) < 0) = false := by simp
  have ds2 : decide ((13 : Int) < ((shN (uh h) : Nat) : Int)) = false := by simp; omega
  go_wp2_with (first | (go_at_call 24; refine (shifts_any h _).mono ?_; rintro e w' ⟨rfl, rfl⟩))
  obtain ⟨w2, hw2⟩ := ex_hid (w1.drewN nq)
  rw [← hw2.out]
  have HC2 : Hid (∀ i, i < n → w2.cell? ⟨g, off + i, none⟩ = some (.int .i64 ((trC L (uh h) i : Nat) : Int))) := Lib.hid (by rw [hw2.out]; exact HC.out)
  have B2 : Hid (Below w.heap.size w w2) := Lib.hid (by rw [hw2.out]; exact below_drewN B1.out _)
  have hg2 : g < w2.heap.size := by rw [hw2.out]; exact hg
  have HM := Lib.hid (fun w n hn => make_bools w n hn)
  clear HC B1 c0 dn d1 d2 e2 ds1 ds2
  go_loopw [9] (fun f wr => ∃ k : Nat, shN (uh h) ≤ k ∧ k ≤ 14 ∧ f = .int .i64 k ∧ Below w2.heap.size w2 wr) (fun f _ => 14 - (intOf f).toNat)
  case atStart => exact ⟨shN (uh h), by omega, by omega, rfl, Below.refl _ _⟩
  case round =>
    obtain ⟨k, hk, hk2, rfl, hb⟩ := hrel
    by_cases hlt : k + M ≤ n
    · have hlt' : (k : Int) + (M : Int) ≤ (n : Int) := by omega
      have hdx : decide ((k : Int) + (M : Int) ≤ (n : Int)) = true := by simp; omega
      obtain ⟨wo, rfl⟩ : ∃ wo : World, wo = wr := ⟨_, rfl⟩
      have hmk := HM.out wo M (by omega)
      have HB := Lib.hid hb
      have hz := hb.size
      clear hb
      go_wp2_with fail
      go_loopw [11] (fun j ws => ∃ i : Nat, k ≤ i ∧ i ≤ k + M ∧ j = .int .i64 i ∧ ws.heap[wo.heap.size]? = some (.cells (boolsA M (seenB L (uh h) k i)) 4 (0, 0)) ∧ Below w2.heap.size w2 ws) (fun j _ => k + M - (intOf j).toNat)
      case atStart =>
        refine ⟨k, by omega, by omega, rfl, ?_, HB.out.alloc hz _⟩
        rw [has_new, boolsA_start M L (uh h) k]
      case round =>
        obtain ⟨i, hi1, hi2, rfl, ha, hb⟩ := hrel
        by_cases hli : i < k + M
        · have hli' : (i : Int) < (k : Int) + (M : Int) := by omega
          have hdx : decide ((i : Int) < (k : Int) + (M : Int)) = true := by simp; omega
          have c1 := (hb.cell (p := ⟨g, off + i, none⟩) hg2).trans (HC2.out i (by omega))
          obtain ⟨v, hv⟩ := ex_hid (trC L (uh h) i)
          rw [← hv.out] at c1
          have hvM : v < M := by rw [hv.out, hM2.out]; exact trC_lt _ _ _
          have hvM' : (v : Int) < (M : Int) := by omega
          have hin : (i : Int) < (n : Int) := by omega
          have hne : seenB L (uh h) k i v = false := by rw [hv.out]; exact seenB_next L (uh h) (uh_lt h) k i hk hi1 (by rw [← hM2.out]; omega)
          have c2 : wr.cell? ⟨wo.heap.size, v, none⟩ = some (.bool false) := by rw [cell_of_has ha, boolsA_get hvM, hne]
          have f2 := free_of_has ha v
          have HA := Lib.hid ha
          have HB2 := Lib.hid hb
          clear ha hb hne
          go_wp2_with fail
          go_roundw
          case rel =>
            refine ⟨i + 1, by omega, by omega, by go_num, ?_, HB2.out.setCell hz _⟩
            have hx := boolsA_step M L (uh h) k i hi1
            rw [← hv.out] at hx
            rw [has_setCell HA.out, boolsA_set, hx]
          case measure => simp [intOf]; omega
        · have hge : (k : Int) + (M : Int) ≤ (i : Int) := by omega
          have hdx : decide ((i : Int) < (k : Int) + (M : Int)) = false := by simp; omega
          have HB2 := Lib.hid hb
          clear ha hb
          go_wp2_with fail
          go_roundw
          case rel => exact ⟨k + 1, by omega, by have := HNN.out; omega, by go_num, HB2.out⟩
          case measure => simp [intOf]; have := HNN.out; omega
    · have hge : (n : Int) < (k : Int) + (M : Int) := by omega
      have hdx : decide ((k : Int) + (M : Int) ≤ (n : Int)) = false := by simp; omega
      have HB := Lib.hid hb
      clear hb
      go_wp2_with (go_at_call 26; refine (awake5 _).mono ?_; rintro e w' ⟨rfl, rfl⟩)
      go_ret
      exact ⟨rfl, B2.out.trans (HB.out.mono B2.out.size)⟩

theorem trailCovers_walk (h l : Int) (w : World) (_ : (Lit.int .i64 h).wf = true) (_ : (Lit.int .i64 l).wf = true) :
    Calls Try.prog 8 #[.int .i64 h, .int .i64 l] w fun e w' => e = .returned (.bool true) ∧ Below w.heap.size w w' := by
  by_cases h1 : l < 0 ∨ 11 < l
  · exact trailCovers_early h l w h1
  · obtain ⟨L, rfl⟩ := Int.eq_ofNat_of_zero_le (show 0 ≤ l by omega)
    exact trailCovers_main h L w (by omega)
end Go.Proofs.Ytlpccmokjjldlaa
