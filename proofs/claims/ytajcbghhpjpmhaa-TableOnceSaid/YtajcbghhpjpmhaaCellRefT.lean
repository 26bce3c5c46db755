/- The document's own cells, a new table (chapter 6). -/
import Derived.Test.YtajcbghhpjpmhaaCellNew
namespace Go.Proofs.Ytajcbghhpjpmhaa
open Go.RowKit
set_option linter.unusedVariables false

set_option linter.unusedVariables false
/-- The document's row. -/
abbrev RefAt (q n : Nat) (V : Nat → Int) (w : World) : Prop := w.heap[q]? = some (.cells (numA .i64 n V) 3 (0, 0))
def RNewC (L n : Nat) (V : Nat → Int) (w : World) (e : Ending) (w' : World) : Prop :=
  ∃ q, e = .returned (.tuple #[.agg #[.int .i64 L, .slice (some ⟨q, 0, none⟩) n n], .int .i64 0]) ∧ RefAt q n V w' ∧ w.heap.size ≤ q ∧ Below w.heap.size w w'
theorem rnew_bad (l : Int) (w : World) (hl : l < 3 ∨ 20 < l) :
    Calls Try.prog 87 #[.int .i64 l] w fun e w' => e = .returned (.tuple #[.agg #[.int .i64 0, .slice none 0 0], .int .i64 1]) ∧ Below w.heap.size w w' := by
  rcases hl with h | h
  · have d1 : decide (l < 3) = true := by simpa using h
    go_enter Try.func87, Try.ntmps87
    go_wp2_with fail
    exact bodyPost_ret (v := .tuple #[.agg #[.int .i64 0, .slice none 0 0], .int .i64 1]) (by simp [results, Try.results87, go_sem]) rfl ⟨rfl, (Below.refl _ _).alloc (Nat.le_refl _) _⟩
  · have d1 : decide (l < 3) = false := by simp; omega
    have d2 : decide (20 < l) = true := by simpa using h
    go_enter Try.func87, Try.ntmps87
    go_wp2_with fail
    exact bodyPost_ret (v := .tuple #[.agg #[.int .i64 0, .slice none 0 0], .int .i64 1]) (by simp [results, Try.results87, go_sem]) rfl ⟨rfl, (Below.refl _ _).alloc (Nat.le_refl _) _⟩
set_option maxRecDepth 100000 in
theorem rnew_any (L n : Nat) (l : Int) (hl : l = (L : Int)) (h3 : 3 ≤ L) (hL : L ≤ 20) (hn : n = 2 ^ L) (w : World) :
    Calls Try.prog 87 #[.int .i64 l] w (RNewC L n (begun n) w) := by
  subst hl
  have d1 : decide ((L : Int) < 3) = false := by simp; omega
  have d2 : decide ((20 : Int) < (L : Int)) = false := by simp; omega
  have g0 : (0 : Int) ≤ (L : Int) := by omega
  have g1 : (L : Int) ≤ 20 := by omega
  have hn1 : n ≤ 1048576 := by rw [hn]; exact pow_le hL
  have e2 : wrap64 ((2 : Int) ^ L) = (n : Int) := by rw [hn, ← IntWalk.i64_left]; exact i64_pow L hL
  have hm := fun w => make_ints w n hn1
  clear hn
  go_enter Try.func87, Try.ntmps87
  go_wp2_with fail
  have hB := Lib.hid ((((Below.refl w.heap.size w).alloc (Nat.le_refl _) (.cells #[.int .i64 0, .slice none 0 0] 83)).alloc (by simp) (.cells (numA .i64 n (fun _ => 0)) 3)).alloc (by simp <;> omega) (.cells #[.int .i64 L, .slice (some ⟨w.heap.size + 1, 0, none⟩) n n] 83))
  clear hm e2 d1 d2
  go_loopw [5] (fun i wr => ∃ k : Nat, k ≤ n ∧ i = .int .i64 k ∧ RefAt (w.heap.size + 1) n (begun k) wr ∧ wr.heap[w.heap.size]? = some (.cells #[.int .i64 0, .slice none 0 0] 83 (0, 0)) ∧ wr.heap[w.heap.size + 1 + 1]? = some (.cells #[.int .i64 L, .slice (some ⟨w.heap.size + 1, 0, none⟩) n n] 83 (0, 0)) ∧ Below w.heap.size w wr) (fun i _ => n - (intOf i).toNat)
  case atStart => exact ⟨0, by omega, rfl, has_alloc (has_new' _ _ (by simp)) _, has_alloc (has_alloc (has_new _ _) _) _, has_new' _ _ (by simp), hB.out⟩
  case round =>
    obtain ⟨k, hk, rfl, hq, h0, h2, hb⟩ := hrel
    clear hB
    have hk0 : (0 : Int) ≤ (k : Int) := by omega
    have c1 := cell_has h2 (i := 1) rfl
    have c0 := cell_has h2 (i := 0) rfl
    have HQ := Lib.hid hq
    have H2 := Lib.hid h2
    have HB := Lib.hid hb
    by_cases hlt : k < n
    · have hlt' : (k : Int) < (n : Int) := by omega
      have cq := cell_has hq (numA_get hlt)
      obtain ⟨y, hy⟩ := ex_hid (begun k k)
      rw [← hy.out] at cq
      have fq := free_of_has hq k
      have H0 := Lib.hid h0
      clear hq h2 hb h0
      go_wp2_with fail
      go_roundw
      case rel =>
        refine ⟨k + 1, by omega, by go_num, ?_, has_setCell_other H0.out (by simp) _, has_setCell_other H2.out (by simp) _, HB.out.setCell (by simp) _⟩
        have h := has_setCell HQ.out k (.int .i64 (-1))
        rw [numA_set, begun_put] at h
        exact h
      case measure => simp [intOf]; omega
    · have hge : (n : Int) ≤ (k : Int) := by omega
      have hke : k = n := by omega
      have HQ2 : Hid (RefAt (w.heap.size + 1) n (begun n) wr) := Lib.hid (by rw [show begun n = begun k by rw [hke]]; exact hq)
      have r0 := cell_of_has h0
      have f0 := free_of_has h0
      clear hq h2 hb h0 hke HQ
      go_wp2_with fail
      refine bodyPost_ret (v := .tuple #[.agg #[.int .i64 L, .slice (some ⟨w.heap.size + 1, 0, none⟩) n n], .int .i64 0]) (by simp [results, Try.results87, go_sem, r0]) rfl ⟨w.heap.size + 1, rfl, ?_, by omega, ?_⟩
      · exact has_setCell_other (has_setCell_other HQ2.out (by simp) _) (by simp) _
      · exact (HB.out.setCell (Nat.le_refl _) _).setCell (Nat.le_refl _) _
end Go.Proofs.Ytajcbghhpjpmhaa
