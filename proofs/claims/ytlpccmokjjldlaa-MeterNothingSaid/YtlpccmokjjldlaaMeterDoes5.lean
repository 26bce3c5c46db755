/- The law's step on a meter: Read and Take. -/
import Derived.Test.YtlpccmokjjldlaaMeterDoes
import Derived.Deep.RegionWith
import Derived.Deep.DrawnRows
namespace Go.Proofs.Ytlpccmokjjldlaa
open Go.RowKit
attribute [local go_sem ↓] Go.wp_at_zero Go.wp_at_succ

set_option maxHeartbeats 1000000 in
theorem does_5 (b : Nat) (c : C4) (n : Int) (w : World) (h : w.heap[b]? = some (mtr c)) :
    Calls Try.prog 16 #[.pointer (some ⟨b, 0, none⟩), .agg #[.int .i64 c.a, .int .i64 c.b, .int .i64 c.c, .int .i64 c.d], .agg #[.int .i64 5, .int .i64 n]] w (DidC b c w) := by
  obtain ⟨c0, c1, c2, c3⟩ := c
  have hlt := Lib.hid (lt_of_block h)
  have H := Lib.hid h
  clear h
  go_enter Try.func16, Try.ntmps16
  go_wp2_with fail
  go_region_with (go_at_call 18; refine (read_any b ⟨c0, c1, c2, c3⟩ _ (has_drew (has_alloc (has_alloc (has_alloc H.out _) _) _))).mono ?_; rintro e w1 ⟨rfl, k1⟩; obtain ⟨ha, hb, hc⟩ := has_three hlt.out (Below.keeps k1 [b]).undrew; have ra := cell_of_has ha; have rc := cell_of_has hc; have fc := free_of_has hc; have K := Lib.hid k1; clear ha hb hc k1)
  all_goals
    go_wp2_with fail
    refine bodyPost_ret (v := .tuple #[.agg #[.int .i64 c0, .int .i64 c1, .int .i64 c2, .int .i64 c3], .bool true]) (by simp [results, Try.results16, go_sem, rc]) rfl ⟨rfl, ?_, ?_⟩
    · have K1 := ((((Keeps.refl [b] w).alloc _).alloc _).alloc _).trans ((Below.keeps K.out [b]).undrew)
      have hs : w.heap.size ≤ w.heap.size + 2 := by omega
      exact (((K1.setCell (.inl hs) _).setCell (.inl hs) _).setCell (.inl hs) _).setCell (.inl hs) _
    · have hs : b ≠ w.heap.size + 2 := by have := hlt.out; omega
      exact has_setCell_other (has_setCell_other (has_setCell_other (has_setCell_other ((Below.keeps K.out []).has (has_drew (has_alloc (has_alloc (has_alloc H.out _) _) _)) (by simp)) hs _) hs _) hs _) hs _

set_option maxHeartbeats 1000000 in
theorem does_6 (b : Nat) (c : C4) (n : Int) (w : World) (h : w.heap[b]? = some (mtr c)) :
    Calls Try.prog 16 #[.pointer (some ⟨b, 0, none⟩), .agg #[.int .i64 c.a, .int .i64 c.b, .int .i64 c.c, .int .i64 c.d], .agg #[.int .i64 6, .int .i64 n]] w (DidC b ⟨0, 0, 0, 0⟩ w) := by
  obtain ⟨c0, c1, c2, c3⟩ := c
  have hlt := Lib.hid (lt_of_block h)
  have H := Lib.hid h
  clear h
  go_enter Try.func16, Try.ntmps16
  go_wp2_with fail
  go_region_with (go_at_call 17; refine (take_any b ⟨c0, c1, c2, c3⟩ _ (has_drew (has_alloc (has_alloc (has_alloc H.out _) _) _))).mono ?_; rintro e w1 ⟨rfl, k1, h1⟩; obtain ⟨ha, hb, hc⟩ := has_three hlt.out k1.undrew; have ra := cell_of_has ha; have rc := cell_of_has hc; have fc := free_of_has hc; have K := Lib.hid k1; have H1 := Lib.hid h1; clear ha hb hc k1 h1)
  all_goals
    go_wp2_with fail
    refine bodyPost_ret (v := .tuple #[.agg #[.int .i64 0, .int .i64 0, .int .i64 0, .int .i64 0], .bool true]) (by simp [results, Try.results16, go_sem, rc]) rfl ⟨rfl, ?_, ?_⟩
    · have K1 := ((((Keeps.refl [b] w).alloc _).alloc _).alloc _).trans K.out.undrew
      have hs : w.heap.size ≤ w.heap.size + 2 := by omega
      exact (((K1.setCell (.inl hs) _).setCell (.inl hs) _).setCell (.inl hs) _).setCell (.inl hs) _
    · have hs : b ≠ w.heap.size + 2 := by have := hlt.out; omega
      exact has_setCell_other (has_setCell_other (has_setCell_other (has_setCell_other H1.out hs _) hs _) hs _) hs _

theorem does_0 (b : Nat) (c : C4) (k n : Int) (w : World) (h : w.heap[b]? = some (mtr c)) (hk : k < 1 ∨ 6 < k) :
    Calls Try.prog 16 #[.pointer (some ⟨b, 0, none⟩), .agg #[.int .i64 c.a, .int .i64 c.b, .int .i64 c.c, .int .i64 c.d], .agg #[.int .i64 k, .int .i64 n]] w (DidC b c w) := by
  obtain ⟨c0, c1, c2, c3⟩ := c
  have hlt := Lib.hid (lt_of_block h)
  have H := Lib.hid h
  clear h
  have h1 : (k == 1) = false := by simp; omega
  have h2 : (k == 2) = false := by simp; omega
  have h3 : (k == 3) = false := by simp; omega
  have h4 : (k == 4) = false := by simp; omega
  have h5 : (k == 5) = false := by simp; omega
  have h6 : (k == 6) = false := by simp; omega
  clear hk
  go_enter Try.func16, Try.ntmps16
  go_wp2_with fail
  refine bodyPost_ret (v := .tuple #[.agg #[.int .i64 c0, .int .i64 c1, .int .i64 c2, .int .i64 c3], .bool true]) (by simp [results, Try.results16, go_sem]) rfl ⟨rfl, ?_, ?_⟩
  · exact (((Keeps.refl [b] w).alloc _).alloc _).alloc _
  · exact has_alloc (has_alloc (has_alloc H.out _) _) _

/-- ANY STEP. -/
theorem does_any (b : Nat) (c : C4) (k n : Int) (w : World) (h : w.heap[b]? = some (mtr c)) :
    Calls Try.prog 16 #[.pointer (some ⟨b, 0, none⟩), .agg #[.int .i64 c.a, .int .i64 c.b, .int .i64 c.c, .int .i64 c.d], .agg #[.int .i64 k, .int .i64 n]] w (DidC b (stepC c k n) w) := by
  by_cases h1 : k = 1
  · subst h1; exact does_1 b c n w h
  by_cases h2 : k = 2
  · subst h2
    rw [show stepC c 2 n = bumpB c n from rfl]
    cases hc : cntB n
    · exact does_2no b c n w h hc
    · exact does_2yes b c n w h hc
  by_cases h3 : k = 3
  · subst h3
    rw [show stepC c 3 n = bumpC c n from rfl]
    cases hc : cntB n
    · exact does_3no b c n w h hc
    · exact does_3yes b c n w h hc
  by_cases h4 : k = 4
  · subst h4; exact does_4 b c n w h
  by_cases h5 : k = 5
  · subst h5; exact does_5 b c n w h
  by_cases h6 : k = 6
  · subst h6; exact does_6 b c n w h
  rw [show stepC c k n = c by simp [stepC, h1, h2, h3, h4, h6]]
  exact does_0 b c k n w h (by omega)
end Go.Proofs.Ytlpccmokjjldlaa
