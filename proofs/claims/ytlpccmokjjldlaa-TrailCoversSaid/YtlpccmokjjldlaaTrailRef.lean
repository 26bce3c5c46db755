/- The document's own list of a trail's cells, and the comparison of two lists (chapter 5). -/
import Derived.Test.YtlpccmokjjldlaaTrailCells
import Derived.BigQuiet
import Derived.WalkSmall
namespace Go.Proofs.Ytlpccmokjjldlaa
open Go.RowKit

/-- A slice of ints that reads as a list. -/
def Reads (w : World) (a : Option Addr) (n : Nat) (xs : List Int) : Prop :=
  xs.length = n ∧ (n = 0 ∨ ∃ b off, a = some ⟨b, off, none⟩ ∧ ∀ i, i < n → w.cell? ⟨b, off + i, none⟩ = some (.int .i64 (xs.getD i 0)))

theorem reads_own {w : World} {lo : Nat} {e : TypeId} {a : Option Addr} {n cap : Nat} {xs : List Int} (h : w.ownsRow lo e 1 (.slice a n cap) n (ints xs)) : Reads w a n xs := by
  have hl : xs.length = n := by have := h.1; simpa [ints_len] using this
  refine ⟨hl, ?_⟩
  rcases h.2 with ⟨_, h0⟩ | ⟨g, cap', cur, hv, _⟩
  · exact .inl h0
  · cases hv
    refine .inr ⟨g, 0, rfl, fun i hi => ?_⟩
    rw [Nat.zero_add, h.cellAt i (by omega)]
    simp [ints, List.getD_eq_getElem?_getD, List.getElem?_eq_getElem (show i < xs.length by omega)]
theorem Reads.below {w w' : World} {a : Option Addr} {n : Nat} {xs : List Int} (h : Reads w a n xs) (hb : Below w.heap.size w w') : Reads w' a n xs := by
  refine ⟨h.1, ?_⟩
  rcases h.2 with h0 | ⟨b, off, h1, h2⟩
  · exact .inl h0
  · exact .inr ⟨b, off, h1, fun i hi => (hb.cell (p := ⟨b, off + i, none⟩) (World.block_lt_of_cell? _ _ (h2 i hi))).trans (h2 i hi)⟩

theorem same_eq (xs : List Int) (a b : Option Addr) (n ca cb : Nat) (w : World) (h1 : Reads w a n xs) (h2 : Reads w b n xs) (hn : (n : Int) ≤ 9223372036854775806) :
    Calls Try.prog 20 #[.slice a n ca, .slice b n cb] w fun e w' => e = .returned (.bool true) ∧ Below w.heap.size w w' := by
  have H1 := Lib.hid h1
  have H2 := Lib.hid h2
  clear h1 h2
  go_enter Try.func20, Try.ntmps20
  go_wp2_with fail
  go_loopw [5] (fun i wr => ∃ k : Nat, k ≤ n ∧ i = .int .i64 k ∧ Below w.heap.size w wr) (fun i _ => n - (intOf i).toNat)
  case atStart => exact ⟨0, by omega, rfl, Below.refl _ _⟩
  case round =>
    obtain ⟨k, hk, rfl, hb⟩ := hrel
    have hk0 : (0 : Int) ≤ (k : Int) := by omega
    by_cases hlt : k < n
    · have hlt' : (k : Int) < (n : Int) := by omega
      rcases (H1.out.below hb).2 with h0 | ⟨b1, o1, rfl, g1⟩
      · omega
      rcases (H2.out.below hb).2 with h0 | ⟨b2, o2, rfl, g2⟩
      · omega
      have c1 := g1 k hlt
      have c2 := g2 k hlt
      have HB := Lib.hid hb
      clear hb g1 g2 H1 H2
      go_wp2_with fail
      go_quiet (fail)
      go_wp2_with fail
      go_roundw
      case rel => exact ⟨k + 1, by omega, by go_num, below_drewN HB.out _⟩
      case measure => simp [intOf]; omega
    · have hge : (n : Int) ≤ (k : Int) := by omega
      have HB := Lib.hid hb
      clear hb H1 H2
      go_wp2_with fail
      go_ret
      exact ⟨rfl, HB.out⟩

/-- The document's list: a list of its own. -/
def RefGot (N : Nat) (xs : List Int) (w : World) (e : Ending) (w' : World) : Prop :=
  ∃ a cap, e = .returned (.slice a xs.length cap) ∧ w'.ownsRow N 3 1 (.slice a xs.length cap) xs.length (ints xs) ∧ Below N w w'

theorem ref_none (h l m : Int) (hl : l < 0 ∨ 20 < l) (w : World) :
    Calls Try.prog 21 #[.int .i64 h, .int .i64 l, .int .i64 m] w (RefGot w.heap.size [] w) := by
  rcases hl with h0 | h0
  · have hd : decide (l < 0) = true := by simpa using h0
    go_enter Try.func21, Try.ntmps21
    go_wp2_with fail
    go_ret
    exact ⟨none, 0, rfl, World.ownsRow_nil _ _ _ _, Below.refl _ _⟩
  · have hd : decide (l < 0) = false := by simp; omega
    go_enter Try.func21, Try.ntmps21
    go_wp2_with fail
    go_ret
    exact ⟨none, 0, rfl, World.ownsRow_nil _ _ _ _, Below.refl _ _⟩

set_option maxRecDepth 100000 in
theorem ref_some (h l : Int) (L most : Nat) (hl : l = (L : Int)) (hL : L ≤ 20) (m : Int) (hm : m = (most : Int)) (hm1 : most ≤ 2000000) (w : World) :
    Calls Try.prog 21 #[.int .i64 h, .int .i64 l, .int .i64 m] w (RefGot w.heap.size (trL L (uh h) (min most (2 ^ L + 13))) w) := by
  subst hl hm
  have hh := uh_cast h
  have hlt := uh_lt h
  obtain ⟨M, hM⟩ := ex_hid (2 ^ L)
  have e2 : wrap64 ((2 : Int) ^ L) = (M : Int) := by rw [hM.out]; rw [← IntWalk.i64_left]; exact i64_pow L hL
  have m1 : 0 < (M : Int) := by have := pow_pos L; rw [hM.out]; omega
  have m2 : (M : Int) ≤ 1048576 := by have := pow_le hL; rw [hM.out]; omega
  have l0 : (0 : Int) ≤ (L : Int) := by omega
  have l1 : (L : Int) ≤ 20 := by omega
  have d1 : decide ((L : Int) < 0) = false := by simp
  have d2 : decide ((20 : Int) < (L : Int)) = false := by simp; omega
  go_enter Try.func21, Try.ntmps21
  go_wp2_with (go_at_call 23; refine (rfirst_any h L _ L rfl hL).mono ?_; rintro e w' ⟨rfl, rfl⟩)
  have HH := Lib.hid hh
  have HE := Lib.hid e2
  clear hh e2
  obtain ⟨i0, hi, hz0, hz1, hz2⟩ := info_parts infoI
  have HI := Lib.hid (And.intro hi (And.intro hz0 (And.intro hz1 hz2)))
  clear hi hz0 hz1 hz2
  go_loopw [7, 8, 9, 10] (fun out c p i wr => ∃ (k d q : Nat) (a : Option Addr) (cap : Nat), k ≤ most ∧ k ≤ M + 13 ∧ i = .int .i64 k ∧ c = .int .i64 d ∧ p = .int .u64 q ∧ out = .slice a k cap ∧ q < 18446744073709551616 ∧ d < M ∧ Hid (q = uh h / 32 ^ k) ∧ Hid (d = trC L (uh h) k) ∧ wr.ownsRow w.heap.size 3 1 (.slice a k cap) k (ints (trL L (uh h) k)) ∧ Below w.heap.size w wr)
    (fun _ _ _ i _ => most - (intOf i).toNat)
  case atStart => exact ⟨0, trC L (uh h) 0, uh h, none, 0, by omega, by omega, rfl, rfl, rfl, rfl, hlt, by rw [hM.out]; exact trC_lt _ _ _, Lib.hid (by simp), Lib.hid rfl, World.ownsRow_nil _ _ _ _, Below.refl _ _⟩
  case round =>
    obtain ⟨k, d, q, a, cap, hk, hk2, rfl, rfl, rfl, rfl, hq, hd, HQ, HD, hrow, hb⟩ := hrel
    have hk0 : (0 : Int) ≤ (k : Int) := by omega
    have HR := Lib.hid hrow
    have HB := Lib.hid hb
    have hz := hb.size
    clear hrow hb
    have e2 := HE.out
    by_cases h1 : k < M + 13
    · have g1 : (k : Int) < (M : Int) + 13 := by omega
      have g1' : decide ((k : Int) < (M : Int) + 13) = true := by simp; omega
      by_cases h2 : k < most
      · have g2 : (k : Int) < (most : Int) := by omega
        have q2 : ∀ u ∈ [Value.int .i64 (d : Int)], u.oneCell' = true := by intro u hu; simp at hu; subst hu; rfl
        have q3 : k + 1 ≤ maxLen := by unfold maxLen; omega
        have q4 : (k + 1) * 8 ≤ 140737488355328 := by omega
        have q5 : w.heap.size ≤ wr.heap.size + 1 := by omega
        have G := Lib.hid (And.intro q2 (And.intro q3 (And.intro q4 q5)))
        clear q2 q3 q4 q5
        go_wp2_with (first | (at_builtin; refine wpList_append_lies _ rfl _ _ 42 rfl w.heap.size 3 i0 (.int .i64 0) 1 8 Try.underlying42 HI.out.1 HI.out.2.1 HI.out.2.2.1 HI.out.2.2.2 rfl (by decide) _ k (ints (trL L (uh h) k)) rfl (HR.out.alloc _) ⟨wr.heap.size, 0, none⟩ 1 1 [.int .i64 (d : Int)] rfl rfl (cell_one_new _ _ _) G.out.1 (by decide) G.out.2.1 G.out.2.2.1 (by simpa using G.out.2.2.2) (wr.heap.size + 1) (by simp) ?_; intro g cap' w1 hown hgrow _ _; have K1 := Lib.hid (append_kept HR.out hz hgrow); have H1 := Lib.hid hown; clear hgrow hown) | (go_at_call 56; refine (rnext_any d q L _ _ _ _ rfl rfl rfl (by omega) hq hL).mono ?_; rintro e w' ⟨rfl, rfl⟩))
        go_roundw
        case rel =>
          refine ⟨k + 1, trC L (uh h) (k + 1), q / 32, some ⟨g, 0, none⟩, cap', by omega, by omega, by go_num, ?_, by go_num, rfl, by omega, by rw [hM.out]; exact trC_lt _ _ _, Lib.hid (by rw [div_pow_succ, HQ.out]), Lib.hid rfl, ?_, HB.out.trans (K1.out.below (Nat.le_refl _) (by simp))⟩
          · show _ = Value.int .i64 ((nxtC L (trC L (uh h) k) (uh h / 32 ^ k) : Nat) : Int)
            rw [← HD.out, ← HQ.out]
          · have hy : ints (trL L (uh h) (k + 1)) = ints (trL L (uh h) k) ++ [.int .i64 (d : Int)] := by rw [trL_succ, HD.out]; simp [ints]
            rw [hy]; exact H1.out
        case measure => simp [intOf]; omega
      · have g2 : (most : Int) ≤ (k : Int) := by omega
        have hke : min most (2 ^ L + 13) = k := by rw [← hM.out]; omega
        have HK := Lib.hid hke
        clear hke
        go_wp2_with fail
        go_ret
        refine ⟨a, cap, ?_, ?_, HB.out⟩
        · rw [HK.out, trL_len]; rfl
        · rw [HK.out, trL_len]; exact HR.out
    · have g1 : (M : Int) + 13 ≤ (k : Int) := by omega
      have g1' : decide ((k : Int) < (M : Int) + 13) = false := by simp; omega
      have hke : min most (2 ^ L + 13) = k := by rw [← hM.out]; omega
      have HK := Lib.hid hke
      clear hke
      go_wp2_with fail
      go_ret
      refine ⟨a, cap, ?_, ?_, HB.out⟩
      · rw [HK.out, trL_len]; rfl
      · rw [HK.out, trL_len]; exact HR.out
end Go.Proofs.Ytlpccmokjjldlaa
