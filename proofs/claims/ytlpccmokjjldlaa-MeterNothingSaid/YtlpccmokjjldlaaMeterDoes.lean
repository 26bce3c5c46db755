/- The law's step on a meter (chapter 4): what one call does to the meter and to what is reckoned beside it. -/
import Derived.Test.YtlpccmokjjldlaaMeter
namespace Go.Proofs.Ytlpccmokjjldlaa
open Go.RowKit

theorem count_yes (b i : Nat) (hi : i < 4) (k : Int) (hk : k = (i : Int)) (x n : Int) (w : World) (cs : Array Value) (t : TypeId) (h : w.heap[b]? = some (.cells cs t (0, 0))) (hx : cs[i]? = some (.int .i64 x)) (hn : 1 ≤ n) (hm : n ≤ 2147483647) :
    Calls Try.prog 72 #[.pointer (some ⟨b, 0, none⟩), .int .i64 k, .int .i64 n] w fun e w' => e = .returned (.tuple #[]) ∧ Keeps [b] w w' ∧ w'.heap[b]? = some (.cells (cs.setIfInBounds i (.int .i64 (wrap64 (x + n)))) t (0, 0)) := by
  subst hk
  have h1 : (0 : Int) ≤ (i : Int) := by omega
  have h2 : (i : Int) < 4 := by omega
  have hc := cell_has h hx
  have hf := free_of_has h i
  have H := Lib.hid h
  clear h hx
  go_enter Try.func72, Try.ntmps72
  go_wp2_with (go_at_call 75; refine (add_any _ _ _ _ _ hc hf).mono ?_; rintro e w' ⟨rfl, rfl⟩)
  go_end0
  exact ⟨rfl, (Keeps.refl _ _).setCell (.inr (by simp)) _, has_setCell H.out _ _⟩

theorem count_no (a : Option Addr) (k n : Int) (w : World) (hn : ¬ (1 ≤ n ∧ n ≤ 2147483647)) :
    Calls Try.prog 72 #[.pointer a, .int .i64 k, .int .i64 n] w fun e w' => e = .returned (.tuple #[]) ∧ w = w' := by
  by_cases h1 : n < 1
  · cases a
    all_goals
      go_enter Try.func72, Try.ntmps72
      go_wp2_with fail
      go_end0
      exact ⟨rfl, rfl⟩
  · have h2 : 2147483647 < n := by omega
    clear hn
    cases a
    all_goals
      go_enter Try.func72, Try.ntmps72
      go_wp2_with fail
      go_end0
      exact ⟨rfl, rfl⟩

theorem count_nil (k n : Int) (w : World) :
    Calls Try.prog 72 #[.pointer none, .int .i64 k, .int .i64 n] w fun e w' => e = .returned (.tuple #[]) ∧ w = w' := by
  go_enter Try.func72, Try.ntmps72
  go_wp2_with fail
  go_end0
  exact ⟨rfl, rfl⟩

/-- Does an n count? -/
def cntB (n : Int) : Bool := decide (1 ≤ n ∧ n ≤ 2147483647)

def bumpB (c : C4) (n : Int) : C4 := if cntB n then { c with b := wrap64 (c.b + n) } else c
def bumpC (c : C4) (n : Int) : C4 := if cntB n then { c with c := wrap64 (c.c + n) } else c
theorem bumpB_yes {c : C4} {n : Int} (h : cntB n = true) : bumpB c n = { c with b := wrap64 (c.b + n) } := by simp [bumpB, h]
theorem bumpB_no {c : C4} {n : Int} (h : cntB n = false) : bumpB c n = c := by simp [bumpB, h]
theorem bumpC_yes {c : C4} {n : Int} (h : cntB n = true) : bumpC c n = { c with c := wrap64 (c.c + n) } := by simp [bumpC, h]
theorem bumpC_no {c : C4} {n : Int} (h : cntB n = false) : bumpC c n = c := by simp [bumpC, h]
/-- counts: the law's own word. -/
theorem counts_any (n : Int) (w : World) :
    Calls Try.prog 47 #[.int .i64 n] w fun e w' => e = .returned (.bool (cntB n)) ∧ w = w' := by
  by_cases h1 : 1 ≤ n
  · by_cases h2 : n ≤ 2147483647
    · have e1 : cntB n = true := by simp [cntB, h1, h2]
      rw [e1]
      go_enter Try.func47, Try.ntmps47
      go_wp2_with fail
      go_ret
      exact ⟨rfl, rfl⟩
    · have e1 : cntB n = false := by simp [cntB]; omega
      rw [e1]
      go_enter Try.func47, Try.ntmps47
      go_wp2_with fail
      go_ret
      exact ⟨rfl, rfl⟩
  · have e1 : cntB n = false := by simp [cntB]; omega
    rw [e1]
    go_enter Try.func47, Try.ntmps47
    go_wp2_with fail
    go_ret
    exact ⟨rfl, rfl⟩

/-- What a step makes of what was counted. -/
def stepC (c : C4) (k n : Int) : C4 :=
  if k = 1 then { c with a := wrap64 (c.a + 1) }
  else if k = 2 then bumpB c n
  else if k = 3 then bumpC c n
  else if k = 4 then { c with d := wrap64 (c.d + 1) }
  else if k = 6 then ⟨0, 0, 0, 0⟩ else c

/-- What the step's call comes to. -/
def DidC (b : Nat) (c : C4) (w : World) (e : Ending) (w' : World) : Prop :=
  e = .returned (.tuple #[.agg #[.int .i64 c.a, .int .i64 c.b, .int .i64 c.c, .int .i64 c.d], .bool true]) ∧ Keeps [b] w w' ∧ w'.heap[b]? = some (mtr c)

theorem tbl_any (b : Nat) (c : C4) (w : World) (h : w.heap[b]? = some (mtr c)) :
    Calls Try.prog 45 #[.pointer (some ⟨b, 0, none⟩)] w fun e w' => e = .returned (.tuple #[]) ∧ Keeps [b] w w' ∧ w'.heap[b]? = some (mtr { c with a := wrap64 (c.a + 1) }) := by
  have H := Lib.hid h
  clear h
  go_enter Try.func45, Try.ntmps45
  go_wp2_with fail
  refine (count_yes b 0 (by omega) 0 rfl c.a 1 _ _ _ H.out rfl (by omega) (by omega)).mono ?_
  rintro e w1 ⟨rfl, k1, h1⟩
  go_wp2_with fail
  go_end0
  exact ⟨rfl, k1, h1⟩
theorem turn_any (b : Nat) (c : C4) (w : World) (h : w.heap[b]? = some (mtr c)) :
    Calls Try.prog 49 #[.pointer (some ⟨b, 0, none⟩)] w fun e w' => e = .returned (.tuple #[]) ∧ Keeps [b] w w' ∧ w'.heap[b]? = some (mtr { c with d := wrap64 (c.d + 1) }) := by
  have H := Lib.hid h
  clear h
  go_enter Try.func49, Try.ntmps49
  go_wp2_with fail
  refine (count_yes b 3 (by omega) 3 rfl c.d 1 _ _ _ H.out rfl (by omega) (by omega)).mono ?_
  rintro e w1 ⟨rfl, k1, h1⟩
  go_wp2_with fail
  go_end0
  exact ⟨rfl, k1, h1⟩
theorem visit_any (b : Nat) (c : C4) (n : Int) (w : World) (h : w.heap[b]? = some (mtr c)) :
    Calls Try.prog 46 #[.pointer (some ⟨b, 0, none⟩), .int .i64 n] w fun e w' => e = .returned (.tuple #[]) ∧ Keeps [b] w w' ∧ w'.heap[b]? = some (mtr (bumpB c n)) := by
  have H := Lib.hid h
  clear h
  by_cases hn : 1 ≤ n ∧ n ≤ 2147483647
  · have hb : cntB n = true := by simp [cntB, hn]
    have HB := Lib.hid hb
    clear hb
    go_enter Try.func46, Try.ntmps46
    go_wp2_with fail
    refine (count_yes b 1 (by omega) 1 rfl c.b n _ _ _ H.out rfl hn.1 hn.2).mono ?_
    rintro e w1 ⟨rfl, k1, h1⟩
    go_wp2_with fail
    go_end0
    exact ⟨rfl, k1, by rw [bumpB_yes HB.out]; exact h1⟩
  · have hb : cntB n = false := by simpa [cntB] using hn
    have HB := Lib.hid hb
    clear hb
    go_enter Try.func46, Try.ntmps46
    go_wp2_with fail
    refine (count_no _ 1 n _ hn).mono ?_
    rintro e w1 ⟨rfl, rfl⟩
    go_wp2_with fail
    go_end0
    exact ⟨rfl, Keeps.refl _ _, by rw [bumpB_no HB.out]; exact H.out⟩
theorem charge_any (b : Nat) (c : C4) (n : Int) (w : World) (h : w.heap[b]? = some (mtr c)) :
    Calls Try.prog 48 #[.pointer (some ⟨b, 0, none⟩), .int .i64 n] w fun e w' => e = .returned (.tuple #[]) ∧ Keeps [b] w w' ∧ w'.heap[b]? = some (mtr (bumpC c n)) := by
  have H := Lib.hid h
  clear h
  by_cases hn : 1 ≤ n ∧ n ≤ 2147483647
  · have hb : cntB n = true := by simp [cntB, hn]
    have HB := Lib.hid hb
    clear hb
    go_enter Try.func48, Try.ntmps48
    go_wp2_with fail
    refine (count_yes b 2 (by omega) 2 rfl c.c n _ _ _ H.out rfl hn.1 hn.2).mono ?_
    rintro e w1 ⟨rfl, k1, h1⟩
    go_wp2_with fail
    go_end0
    exact ⟨rfl, k1, by rw [bumpC_yes HB.out]; exact h1⟩
  · have hb : cntB n = false := by simpa [cntB] using hn
    have HB := Lib.hid hb
    clear hb
    go_enter Try.func48, Try.ntmps48
    go_wp2_with fail
    refine (count_no _ 2 n _ hn).mono ?_
    rintro e w1 ⟨rfl, rfl⟩
    go_wp2_with fail
    go_end0
    exact ⟨rfl, Keeps.refl _ _, by rw [bumpC_no HB.out]; exact H.out⟩

theorem does_1 (b : Nat) (c : C4) (n : Int) (w : World) (h : w.heap[b]? = some (mtr c)) :
    Calls Try.prog 16 #[.pointer (some ⟨b, 0, none⟩), .agg #[.int .i64 c.a, .int .i64 c.b, .int .i64 c.c, .int .i64 c.d], .agg #[.int .i64 1, .int .i64 n]] w (DidC b (stepC c 1 n) w) := by
  obtain ⟨c0, c1, c2, c3⟩ := c
  have hlt := Lib.hid (lt_of_block h)
  have H := Lib.hid h
  clear h
  go_enter Try.func16, Try.ntmps16
  go_wp2_with fail
  refine (tbl_any b ⟨c0, c1, c2, c3⟩ _ (has_alloc (has_alloc (has_alloc H.out _) _) _)).mono ?_
  rintro e w1 ⟨rfl, k1, h1⟩
  obtain ⟨ha, hb, hc⟩ := has_three hlt.out k1
  have ra := cell_of_has ha
  have fa := free_of_has ha
  have rb := cell_of_has hb
  have rc := cell_of_has hc
  have fc := free_of_has hc
  have K := Lib.hid k1
  have H1 := Lib.hid h1
  clear ha hb hc k1 h1
  go_wp2_with fail
  refine bodyPost_ret (v := .tuple #[.agg #[.int .i64 (wrap64 (c0 + 1)), .int .i64 c1, .int .i64 c2, .int .i64 c3], .bool true]) (by simp [results, Try.results16, go_sem, rc]) rfl ⟨rfl, ?_, ?_⟩
  · have K1 := ((((Keeps.refl [b] w).alloc _).alloc _).alloc _).trans K.out
    have hs : w.heap.size ≤ w.heap.size + 2 := by omega
    exact ((((K1.setCell (.inl (Nat.le_refl _)) _).setCell (.inl hs) _).setCell (.inl hs) _).setCell (.inl hs) _).setCell (.inl hs) _
  · have hs : b ≠ w.heap.size + 2 := by have := hlt.out; omega
    have hs0 : b ≠ w.heap.size := by have := hlt.out; omega
    exact has_setCell_other (has_setCell_other (has_setCell_other (has_setCell_other (has_setCell_other H1.out hs0 _) hs _) hs _) hs _) hs _
theorem does_4 (b : Nat) (c : C4) (n : Int) (w : World) (h : w.heap[b]? = some (mtr c)) :
    Calls Try.prog 16 #[.pointer (some ⟨b, 0, none⟩), .agg #[.int .i64 c.a, .int .i64 c.b, .int .i64 c.c, .int .i64 c.d], .agg #[.int .i64 4, .int .i64 n]] w (DidC b (stepC c 4 n) w) := by
  obtain ⟨c0, c1, c2, c3⟩ := c
  have hlt := Lib.hid (lt_of_block h)
  have H := Lib.hid h
  clear h
  go_enter Try.func16, Try.ntmps16
  go_wp2_with fail
  refine (turn_any b ⟨c0, c1, c2, c3⟩ _ (has_alloc (has_alloc (has_alloc H.out _) _) _)).mono ?_
  rintro e w1 ⟨rfl, k1, h1⟩
  obtain ⟨ha, hb, hc⟩ := has_three hlt.out k1
  have ra := cell_of_has ha
  have fa := free_of_has ha
  have rb := cell_of_has hb
  have rc := cell_of_has hc
  have fc := free_of_has hc
  have K := Lib.hid k1
  have H1 := Lib.hid h1
  clear ha hb hc k1 h1
  go_wp2_with fail
  refine bodyPost_ret (v := .tuple #[.agg #[.int .i64 c0, .int .i64 c1, .int .i64 c2, .int .i64 (wrap64 (c3 + 1))], .bool true]) (by simp [results, Try.results16, go_sem, rc]) rfl ⟨rfl, ?_, ?_⟩
  · have K1 := ((((Keeps.refl [b] w).alloc _).alloc _).alloc _).trans K.out
    have hs : w.heap.size ≤ w.heap.size + 2 := by omega
    exact ((((K1.setCell (.inl (Nat.le_refl _)) _).setCell (.inl hs) _).setCell (.inl hs) _).setCell (.inl hs) _).setCell (.inl hs) _
  · have hs : b ≠ w.heap.size + 2 := by have := hlt.out; omega
    have hs0 : b ≠ w.heap.size := by have := hlt.out; omega
    exact has_setCell_other (has_setCell_other (has_setCell_other (has_setCell_other (has_setCell_other H1.out hs0 _) hs _) hs _) hs _) hs _
theorem does_2yes (b : Nat) (c : C4) (n : Int) (w : World) (h : w.heap[b]? = some (mtr c)) (hn : cntB n = true) :
    Calls Try.prog 16 #[.pointer (some ⟨b, 0, none⟩), .agg #[.int .i64 c.a, .int .i64 c.b, .int .i64 c.c, .int .i64 c.d], .agg #[.int .i64 2, .int .i64 n]] w (DidC b (bumpB c n) w) := by
  obtain ⟨c0, c1, c2, c3⟩ := c
  have hlt := Lib.hid (lt_of_block h)
  have H := Lib.hid h
  have HN := Lib.hid hn
  clear h hn
  go_enter Try.func16, Try.ntmps16
  go_wp2_with fail
  refine (visit_any b ⟨c0, c1, c2, c3⟩ n _ (has_alloc (has_alloc (has_alloc H.out _) _) _)).mono ?_
  rintro e w1 ⟨rfl, k1, h1⟩
  obtain ⟨ha, hb, hc⟩ := has_three hlt.out k1
  have ra := cell_of_has ha
  have fa := free_of_has ha
  have rb := cell_of_has hb
  have rc := cell_of_has hc
  have fc := free_of_has hc
  have K := Lib.hid k1
  have H1 := Lib.hid h1
  clear ha hb hc k1 h1
  go_wp2_with fail
  refine (counts_any n _).mono ?_
  rintro e w2 ⟨rfl, rfl⟩
  rw [HN.out]
  go_wp2_with fail
  refine bodyPost_ret (v := .tuple #[.agg #[.int .i64 c0, .int .i64 (wrap64 (c1 + n)), .int .i64 c2, .int .i64 c3], .bool true]) (by simp [results, Try.results16, go_sem, rc]) rfl ?_
  rw [bumpB_yes HN.out] at *
  refine ⟨rfl, ?_, ?_⟩
  · have K1 := ((((Keeps.refl [b] w).alloc _).alloc _).alloc _).trans K.out
    have hs : w.heap.size ≤ w.heap.size + 2 := by omega
    exact ((((K1.setCell (.inl (Nat.le_refl _)) _).setCell (.inl hs) _).setCell (.inl hs) _).setCell (.inl hs) _).setCell (.inl hs) _
  · have hs : b ≠ w.heap.size + 2 := by have := hlt.out; omega
    have hs0 : b ≠ w.heap.size := by have := hlt.out; omega
    exact has_setCell_other (has_setCell_other (has_setCell_other (has_setCell_other (has_setCell_other H1.out hs0 _) hs _) hs _) hs _) hs _
theorem does_2no (b : Nat) (c : C4) (n : Int) (w : World) (h : w.heap[b]? = some (mtr c)) (hn : cntB n = false) :
    Calls Try.prog 16 #[.pointer (some ⟨b, 0, none⟩), .agg #[.int .i64 c.a, .int .i64 c.b, .int .i64 c.c, .int .i64 c.d], .agg #[.int .i64 2, .int .i64 n]] w (DidC b (bumpB c n) w) := by
  obtain ⟨c0, c1, c2, c3⟩ := c
  have hlt := Lib.hid (lt_of_block h)
  have H := Lib.hid h
  have HN := Lib.hid hn
  clear h hn
  go_enter Try.func16, Try.ntmps16
  go_wp2_with fail
  refine (visit_any b ⟨c0, c1, c2, c3⟩ n _ (has_alloc (has_alloc (has_alloc H.out _) _) _)).mono ?_
  rintro e w1 ⟨rfl, k1, h1⟩
  obtain ⟨ha, hb, hc⟩ := has_three hlt.out k1
  have ra := cell_of_has ha
  have fa := free_of_has ha
  have rb := cell_of_has hb
  have rc := cell_of_has hc
  have fc := free_of_has hc
  have K := Lib.hid k1
  have H1 := Lib.hid h1
  clear ha hb hc k1 h1
  go_wp2_with fail
  refine (counts_any n _).mono ?_
  rintro e w2 ⟨rfl, rfl⟩
  rw [HN.out]
  go_wp2_with fail
  refine bodyPost_ret (v := .tuple #[.agg #[.int .i64 c0, .int .i64 c1, .int .i64 c2, .int .i64 c3], .bool true]) (by simp [results, Try.results16, go_sem, rc]) rfl ?_
  rw [bumpB_no HN.out] at *
  refine ⟨rfl, ?_, ?_⟩
  · have K1 := ((((Keeps.refl [b] w).alloc _).alloc _).alloc _).trans K.out
    have hs : w.heap.size ≤ w.heap.size + 2 := by omega
    exact (((K1.setCell (.inl hs) _).setCell (.inl hs) _).setCell (.inl hs) _).setCell (.inl hs) _
  · have hs : b ≠ w.heap.size + 2 := by have := hlt.out; omega
    exact has_setCell_other (has_setCell_other (has_setCell_other (has_setCell_other H1.out hs _) hs _) hs _) hs _
theorem does_3yes (b : Nat) (c : C4) (n : Int) (w : World) (h : w.heap[b]? = some (mtr c)) (hn : cntB n = true) :
    Calls Try.prog 16 #[.pointer (some ⟨b, 0, none⟩), .agg #[.int .i64 c.a, .int .i64 c.b, .int .i64 c.c, .int .i64 c.d], .agg #[.int .i64 3, .int .i64 n]] w (DidC b (bumpC c n) w) := by
  obtain ⟨c0, c1, c2, c3⟩ := c
  have hlt := Lib.hid (lt_of_block h)
  have H := Lib.hid h
  have HN := Lib.hid hn
  clear h hn
  go_enter Try.func16, Try.ntmps16
  go_wp2_with fail
  refine (charge_any b ⟨c0, c1, c2, c3⟩ n _ (has_alloc (has_alloc (has_alloc H.out _) _) _)).mono ?_
  rintro e w1 ⟨rfl, k1, h1⟩
  obtain ⟨ha, hb, hc⟩ := has_three hlt.out k1
  have ra := cell_of_has ha
  have fa := free_of_has ha
  have rb := cell_of_has hb
  have rc := cell_of_has hc
  have fc := free_of_has hc
  have K := Lib.hid k1
  have H1 := Lib.hid h1
  clear ha hb hc k1 h1
  go_wp2_with fail
  refine (counts_any n _).mono ?_
  rintro e w2 ⟨rfl, rfl⟩
  rw [HN.out]
  go_wp2_with fail
  refine bodyPost_ret (v := .tuple #[.agg #[.int .i64 c0, .int .i64 c1, .int .i64 (wrap64 (c2 + n)), .int .i64 c3], .bool true]) (by simp [results, Try.results16, go_sem, rc]) rfl ?_
  rw [bumpC_yes HN.out] at *
  refine ⟨rfl, ?_, ?_⟩
  · have K1 := ((((Keeps.refl [b] w).alloc _).alloc _).alloc _).trans K.out
    have hs : w.heap.size ≤ w.heap.size + 2 := by omega
    exact ((((K1.setCell (.inl (Nat.le_refl _)) _).setCell (.inl hs) _).setCell (.inl hs) _).setCell (.inl hs) _).setCell (.inl hs) _
  · have hs : b ≠ w.heap.size + 2 := by have := hlt.out; omega
    have hs0 : b ≠ w.heap.size := by have := hlt.out; omega
    exact has_setCell_other (has_setCell_other (has_setCell_other (has_setCell_other (has_setCell_other H1.out hs0 _) hs _) hs _) hs _) hs _
theorem does_3no (b : Nat) (c : C4) (n : Int) (w : World) (h : w.heap[b]? = some (mtr c)) (hn : cntB n = false) :
    Calls Try.prog 16 #[.pointer (some ⟨b, 0, none⟩), .agg #[.int .i64 c.a, .int .i64 c.b, .int .i64 c.c, .int .i64 c.d], .agg #[.int .i64 3, .int .i64 n]] w (DidC b (bumpC c n) w) := by
  obtain ⟨c0, c1, c2, c3⟩ := c
  have hlt := Lib.hid (lt_of_block h)
  have H := Lib.hid h
  have HN := Lib.hid hn
  clear h hn
  go_enter Try.func16, Try.ntmps16
  go_wp2_with fail
  refine (charge_any b ⟨c0, c1, c2, c3⟩ n _ (has_alloc (has_alloc (has_alloc H.out _) _) _)).mono ?_
  rintro e w1 ⟨rfl, k1, h1⟩
  obtain ⟨ha, hb, hc⟩ := has_three hlt.out k1
  have ra := cell_of_has ha
  have fa := free_of_has ha
  have rb := cell_of_has hb
  have rc := cell_of_has hc
  have fc := free_of_has hc
  have K := Lib.hid k1
  have H1 := Lib.hid h1
  clear ha hb hc k1 h1
  go_wp2_with fail
  refine (counts_any n _).mono ?_
  rintro e w2 ⟨rfl, rfl⟩
  rw [HN.out]
  go_wp2_with fail
  refine bodyPost_ret (v := .tuple #[.agg #[.int .i64 c0, .int .i64 c1, .int .i64 c2, .int .i64 c3], .bool true]) (by simp [results, Try.results16, go_sem, rc]) rfl ?_
  rw [bumpC_no HN.out] at *
  refine ⟨rfl, ?_, ?_⟩
  · have K1 := ((((Keeps.refl [b] w).alloc _).alloc _).alloc _).trans K.out
    have hs : w.heap.size ≤ w.heap.size + 2 := by omega
    exact (((K1.setCell (.inl hs) _).setCell (.inl hs) _).setCell (.inl hs) _).setCell (.inl hs) _
  · have hs : b ≠ w.heap.size + 2 := by have := hlt.out; omega
    exact has_setCell_other (has_setCell_other (has_setCell_other (has_setCell_other H1.out hs _) hs _) hs _) hs _

end Go.Proofs.Ytlpccmokjjldlaa
