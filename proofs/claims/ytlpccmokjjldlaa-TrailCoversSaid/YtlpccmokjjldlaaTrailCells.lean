/- The law's list of a trail's cells (chapter 5). -/
import Derived.Test.YtlpccmokjjldlaaTrailAll
import Derived.Deep.DeepMust
namespace Go.Proofs.Ytlpccmokjjldlaa
open Go.RowKit

theorem infoI : (Try.prog.info? 3).map (fun i => (i.zero, i.size, i.bytes)) = some (some (.int .i64 0), 1, 8) := by kernel_rfl

theorem ret_bool {a b : Bool} (h : a = b) : Ending.returned (.bool a) = .returned (.bool b) := by rw [h]
/-- A list of ints as values. -/
def ints (xs : List Int) : List Value := xs.map (Value.int .i64)
theorem ints_len (xs : List Int) : (ints xs).length = xs.length := by simp [ints]

/-- Behind a round: the list has one cell more; all else below lo is as it was. -/
def CellsStep (lo bl : Nat) (n : Nat) (xs : List Int) (b : Bool) (w : World) (e : Ending) (w' : World) : Prop :=
  e = .returned (.bool b) ∧ ∃ a cap, w'.heap[bl]? = some (.cells #[.slice a n cap] 42 (0, 0)) ∧ w'.ownsRow lo 3 1 (.slice a n cap) n (ints xs) ∧ KeptLo lo [bl] w w'

set_option maxRecDepth 100000 in
theorem cellsf_any (lo bl bm most n : Nat) (xs : List Int) (a : Option Addr) (cap : Nat) (c : Int) (b : Bool) (w : World) (hbl : w.heap[bl]? = some (.cells #[.slice a n cap] 42 (0, 0))) (hbm : w.heap[bm]? = some (.cells #[.int .i64 most] 3 (0, 0)))
    (hrow : w.ownsRow lo 3 1 (.slice a n cap) n (ints xs)) (h1 : bl < lo) (h2 : bm < lo) (h3 : lo ≤ w.heap.size) (h4 : bl ≠ bm) (hn : n < most) (hm : most ≤ 3000) (hb : decide (n + 1 < most) = b) :
    Calls Try.prog 55 #[.int .i64 c, .pointer (some ⟨bl, 0, none⟩), .pointer (some ⟨bm, 0, none⟩)] w (CellsStep lo bl (n + 1) (xs ++ [c]) b w) := by
  obtain ⟨i0, hi, hz0, hz1, hz2⟩ := info_parts infoI
  have c1 := cell_has hbl (i := 0) rfl
  have c2 := cell_has hbm (i := 0) rfl
  have HL := Lib.hid hbl
  have HM := Lib.hid hbm
  have f1 := free_of_has hbl 0
  have hlt : (n : Int) < (most : Int) := by omega
  have HB := Lib.hid hb
  have HR := Lib.hid hrow
  have HI := Lib.hid hi
  have Hz0 := Lib.hid hz0
  have Hz1 := Lib.hid hz1
  have Hz2 := Lib.hid hz2
  clear hbl hbm hb hrow hi hz0 hz1 hz2
  go_enter Try.func55, Try.ntmps55
  have g1 : [Value.int .i64 c].length = 1 * 1 := rfl
  have g2 : ∀ u ∈ [Value.int .i64 c], u.oneCell' = true := by intro u hu; simp at hu; subst hu; rfl
  have g3 : n + 1 ≤ maxLen := by unfold maxLen; omega
  have g4 : (n + 1) * 8 ≤ 140737488355328 := by omega
  have g5 : lo ≤ w.heap.size + 1 := by omega
  have G := Lib.hid (And.intro g1 (And.intro g2 (And.intro g3 (And.intro g4 g5))))
  clear g1 g2 g3 g4 g5
  go_wp2_with (at_builtin; go_must (refine wpList_append_lies _ rfl _ _ 42 rfl lo 3 i0 (.int .i64 0) 1 8 Try.underlying42 HI.out Hz0.out Hz1.out Hz2.out rfl (by decide) _ n (ints xs) rfl (HR.out.alloc _) ⟨w.heap.size, 0, none⟩ 1 1 [.int .i64 c] rfl G.out.1 (cell_one_new _ _ _) G.out.2.1 (by decide) G.out.2.2.1 G.out.2.2.2.1 (by simpa using G.out.2.2.2.2) (w.heap.size + 1) (by simp) ?_); go_must (intro g cap' w1 hown hgrow _ _; have k1 := append_kept HR.out h3 hgrow; have K1 := Lib.hid k1; have H1 := Lib.hid hown; have hL := k1.has HL.out h1 List.not_mem_nil; have hM := k1.has HM.out h2 List.not_mem_nil; have c3 := cell_has hL (i := 0) rfl; have c4 := cell_has hM (i := 0) rfl; have f3 := free_of_has hL 0; have L1 := Lib.hid hL; clear hgrow hown k1 hL hM))
  go_ret
  have hx : decide ((n : Int) + 1 < (most : Int)) = b := by rw [← HB.out]; simp; omega
  have hy : ints (xs ++ [c]) = ints xs ++ [.int .i64 c] := by simp [ints]
  refine ⟨ret_bool hx, some ⟨g, 0, none⟩, cap', has_setCell L1.out 0 _, ?_, (K1.out.mono (Nat.le_refl _) (by simp)).setCell (.inr (by simp)) _⟩
  rw [hy]
  exact ownsRow_setCell_below H1.out h1 _

theorem all_any (h l : Int) (w : World) : Calls Try.prog 27 #[.int .i64 h, .int .i64 l] w fun e w' =>
    e = .returned (.func (.func 57) #[] #[.pointer (some ⟨w.heap.size + 1, 0, none⟩), .pointer (some ⟨w.heap.size, 0, none⟩)]) ∧ (w.alloc (.cells #[.int .i64 h] 3)).alloc (.cells #[.int .i64 l] 3) = w' := by
  go_enter Try.func27, Try.ntmps27
  go_wp2_with fail
  go_ret
  exact ⟨rfl, rfl⟩

theorem all1_none (f : Value) (bl bh : Nat) (l : Int) (w : World) (hl : l < 0 ∨ 20 < l) (h1 : w.cell? ⟨bl, 0, none⟩ = some (.int .i64 l)) :
    Calls Try.prog 57 #[f, .pointer (some ⟨bl, 0, none⟩), .pointer (some ⟨bh, 0, none⟩)] w fun e w' => e = .returned (.tuple #[]) ∧ w = w' := by
  rcases hl with h0 | h0
  · have hd : decide (l < 0) = true := by simpa using h0
    go_enter Try.func57, Try.ntmps57
    go_wp2_with fail
    refine bodyPost_ret (results_none rfl _ _ _) rfl ⟨rfl, rfl⟩
  · have hd : decide (l < 0) = false := by simp; omega
    go_enter Try.func57, Try.ntmps57
    go_wp2_with fail
    refine bodyPost_ret (results_none rfl _ _ _) rfl ⟨rfl, rfl⟩

theorem enters55 : Enters Try.prog 55 := enters_of Try.func55 (by kernel_rfl) (by kernel_rfl)

/-- The first n cells of a trail, as ints. -/
def trL (L h n : Nat) : List Int := (List.range n).map fun i => ((trC L h i : Nat) : Int)
theorem trL_succ (L h n : Nat) : trL L h (n + 1) = trL L h n ++ [((trC L h n : Nat) : Int)] := by simp [trL, List.range_succ]
theorem trL_len (L h n : Nat) : (trL L h n).length = n := by simp [trL]

theorem eql_seq_nil (f : Fn) (a b : Array Value) (w : World) : (binOp .eql 51 (.func f a b) .nilFunc).run Try.prog w = .ok (.bool false) w := by kernel_rfl

/-- Between two rounds of the law's cells. -/
def TrJ (N L h most : Nat) (w3 : World) (i : Nat) (W : World) : Prop :=
  ∃ a cap, W.heap[N + 1 + 1 + 1]? = some (.cells #[.slice a i cap] 42 (0, 0)) ∧ W.ownsRow (N + 1 + 1 + 1 + 1) 3 1 (.slice a i cap) i (ints (trL L h i)) ∧ W.heap[N]? = some (.cells #[.int .i64 most] 3 (0, 0)) ∧
    KeptLo (N + 1 + 1 + 1 + 1) [N + 1 + 1 + 1] w3 W

theorem trJ_step (N L h most : Nat) (hm : most ≤ 3000) (w3 : World) (hw3 : N + 1 + 1 + 1 + 1 ≤ w3.heap.size) (i : Nat) (W : World) (hi : i < most) (hJ : TrJ N L h most w3 i W) :
    Calls Try.prog 55 #[.int .i64 (trC L h i : Nat), .pointer (some ⟨N + 1 + 1 + 1, 0, none⟩), .pointer (some ⟨N, 0, none⟩)] W
      (Stepped1 (fun i W => i < most ∧ TrJ N L h most w3 i W) (fun i W => i = most ∧ TrJ N L h most w3 i W) i) := by
  obtain ⟨a, cap, h1, h2, h3, h4⟩ := hJ
  have hx := h4.size
  refine (cellsf_any (N + 1 + 1 + 1 + 1) (N + 1 + 1 + 1) N most i (trL L h i) a cap _ _ W h1 h3 h2 (by omega) (by omega) (by omega) (by omega) hi hm rfl).mono ?_
  rintro e W' ⟨rfl, a', cap', g1, g2, g3⟩
  have hT : TrJ N L h most w3 (i + 1) W' := ⟨a', cap', g1, by rw [trL_succ]; exact g2, g3.has h3 (by omega) (by simp <;> omega), h4.trans g3⟩
  by_cases hlt : i + 1 < most
  · exact .inl ⟨by simp [hlt], hlt, hT⟩
  · exact .inr ⟨by simp [hlt], by omega, hT⟩

/-- What the law's cells hands back: a list of its own, the first of the trail's cells. -/
def CellsGot (N : Nat) (xs : List Int) (w : World) (e : Ending) (w' : World) : Prop :=
  ∃ a cap, e = .returned (.tuple #[.slice a xs.length cap, .bool true]) ∧ w'.ownsRow N 3 1 (.slice a xs.length cap) xs.length (ints xs) ∧ Below N w w'

set_option maxRecDepth 100000 in
theorem cells_some (h l : Int) (L most : Nat) (hl : l = (L : Int)) (hL : L ≤ 20) (h1 : 1 ≤ most) (h2 : most ≤ 3000) (m : Int) (hm : m = (most : Int)) (w : World) :
    Calls Try.prog 19 #[.int .i64 h, .int .i64 l, .int .i64 m] w (CellsGot w.heap.size (trL L (uh h) (min most (2 ^ L + 13))) w) := by
  subst hl hm
  have hh := Lib.hid (uh_cast h)
  have hlt := uh_lt h
  have hq := eql_seq_nil
  go_enter Try.func19, Try.ntmps19
  go_wp2_with (go_at_call 27; refine (all_any _ _ _).mono ?_; rintro e w' ⟨rfl, rfl⟩)
  obtain ⟨w3, hw3⟩ := ex_hid ((((w.alloc (.cells #[.int .i64 most] 3)).alloc (.cells #[.int .i64 h] 3)).alloc (.cells #[.int .i64 L] 3)).alloc (.cells #[.slice none 0 0] 42))
  rw [← hw3.out]
  have hz : w.heap.size + 1 + 1 + 1 + 1 = w3.heap.size := by rw [hw3.out]; simp
  have p0 : w3.heap[w.heap.size]? = some (.cells #[.int .i64 most] 3 (0, 0)) := by rw [hw3.out]; exact has_alloc (has_alloc (has_alloc (has_new _ _) _) _) _
  have p1 : w3.heap[w.heap.size + 1]? = some (.cells #[.int .i64 h] 3 (0, 0)) := by rw [hw3.out]; exact has_alloc (has_alloc (has_new' _ _ (by simp)) _) _
  have p2 : w3.heap[w.heap.size + 1 + 1]? = some (.cells #[.int .i64 L] 3 (0, 0)) := by rw [hw3.out]; exact has_alloc (has_new' _ _ (by simp)) _
  have p3 : w3.heap[w.heap.size + 1 + 1 + 1]? = some (.cells #[.slice none 0 0] 42 (0, 0)) := by rw [hw3.out]; exact has_new' _ _ (by simp)
  have hB : Below w.heap.size w w3 := by rw [hw3.out]; exact ((((Below.refl _ _).alloc (Nat.le_refl _) _).alloc (by simp) _).alloc (by simp <;> omega) _).alloc (by simp <;> omega) _
  refine (all1_any 55 #[.pointer (some ⟨w.heap.size + 1 + 1 + 1, 0, none⟩), .pointer (some ⟨w.heap.size, 0, none⟩)] enters55 L (uh h) hL h hh.out hlt (w.heap.size + 1 + 1) (w.heap.size + 1)
    (fun i W => i < most ∧ TrJ w.heap.size L (uh h) most w3 i W) (fun i W => i = most ∧ TrJ w.heap.size L (uh h) most w3 i W)
    (fun i W _ hJ => trJ_step _ _ _ _ h2 w3 (by omega) i W hJ.1 hJ.2) w3 (cell_has p2 rfl) (cell_has p1 rfl) ⟨by omega, none, 0, p3, World.ownsRow_nil _ _ _ _, p0, KeptLo.refl _ _ _⟩).mono ?_
  rintro e w4 ⟨rfl, hj⟩
  have hn : TrJ w.heap.size L (uh h) most w3 (min most (2 ^ L + 13)) w4 := by
    rcases hj with ⟨h3, h4⟩ | ⟨i, h3, h4, h5, h6⟩
    · rw [Nat.min_eq_right (by omega)]; exact h4
    · rw [show min most (2 ^ L + 13) = i by omega]; exact h6
  obtain ⟨a, cap, q1, q2, q3, q4⟩ := hn
  have c1 := cell_has q1 (i := 0) rfl
  have Q2 := Lib.hid q2
  have HB := Lib.hid (hB.trans (q4.below (B := w.heap.size) (by omega) (by simp <;> omega)))
  clear q1 q2 q3 q4 p0 p1 p2 p3 hB hz hj
  go_wp2_with fail
  go_ret2
  refine ⟨a, cap, ?_, ?_, HB.out⟩
  · rw [trL_len]; rfl
  · rw [trL_len]; exact ownsRow_base Q2.out (by omega)
end Go.Proofs.Ytlpccmokjjldlaa
