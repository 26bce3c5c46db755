/- Sights of none; the document's new table; going through nothing (chapter 7). -/
import Derived.Test.YtajcbghhpjpmhaaTabNil2
import Derived.Test.YtajcbghhpjpmhaaCellRefT
namespace Go.Proofs.Ytajcbghhpjpmhaa
open Go.RowKit
set_option linter.unusedVariables false

set_option maxRecDepth 100000 in
theorem sight_empty (w : World) : Calls Try.prog 16 #[noSight, noSight] w fun r w' => r = .returned (.bool true) ∧ Below w.heap.size w w' := by
  unfold noSight
  go_enter Try.func16, Try.ntmps16
  go_wp2_with fail
  obtain ⟨W, hW⟩ : ∃ W, ((w.alloc (.cells #[.int .i64 0, .int .i64 0, .slice none 0 0, .slice none 0 0, .int .i64 0, .int .i64 0, .int .i64 0] 29)).alloc (.cells #[.int .i64 0, .int .i64 0, .slice none 0 0, .slice none 0 0, .int .i64 0, .int .i64 0, .int .i64 0] 29)) = W := ⟨_, rfl⟩
  have bW : Below w.heap.size w W := by rw [← hW]; exact ((Below.refl _ _).alloc (Nat.le_refl _) _).alloc (by simp) _
  have c1 : W.cell? ⟨w.heap.size, 2, none⟩ = some (.slice none 0 0) := by rw [← hW]; exact cell_has (has_alloc (has_new _ _) _) (i := 2) rfl
  have c2 : W.cell? ⟨w.heap.size, 3, none⟩ = some (.slice none 0 0) := by rw [← hW]; exact cell_has (has_alloc (has_new _ _) _) (i := 3) rfl
  have c3 : W.cell? ⟨w.heap.size + 1, 3, none⟩ = some (.slice none 0 0) := by rw [← hW]; exact cell_has (has_new' _ _ (by simp)) (i := 3) rfl
  rw [hW]
  clear hW
  go_loopw [5] (fun i wr => i = .int .i64 0 ∧ W = wr) (fun _ _ => 0)
  case atStart => exact ⟨rfl, rfl⟩
  case round =>
    obtain ⟨rfl, rfl⟩ := hrel
    go_wp2_with fail
    refine (entries_empty none none 0 0 _).mono ?_
    rintro r w1 ⟨rfl, rfl⟩
    go_wp2_with fail
    go_ret
    exact ⟨rfl, bW⟩

/-- The document's table as a block. -/
def rtabO (ev : Value) (L : Nat) (cl lv bi ma tu m : Value) : Obj := .cells #[ev, .int .i64 L, cl, lv, bi, ma, tu, m] 85 (0, 0)
theorem rindex_none (t L n : Nat) (l : Int) (hl : l = (L : Int)) (ev lv bi tu : Value) (L0 : Nat) (cl : Value) (ma : Int) (w : World) (h : w.heap[t]? = some (rtabO ev L0 cl lv bi (.int .i64 ma) tu (.pointer none))) (h3 : 3 ≤ L) (hL : L ≤ 20) (hn : n = 2 ^ L) (hma0 : 0 ≤ ma) (hma : ma ≤ 1000000) (hcl : ∃ a b c, cl = .slice a b c) :
    Calls Try.prog 55 #[.pointer (some ⟨t, 0, none⟩), .int .i64 l] w fun r w' => r = .returned (.tuple #[]) ∧ ∃ q, w'.heap[t]? = some (rtabO ev L (.slice (some ⟨q, 0, none⟩) n n) lv bi (.int .i64 (ma + 1)) tu (.pointer none)) ∧ RefAt q n (begun n) w' ∧ w.heap.size ≤ q ∧ Keeps [t] w w' := by
  subst hl
  obtain ⟨ca, cb, cc, rfl⟩ := hcl
  have H := Lib.hid h
  have HN := Lib.hid hn
  clear h hn
  go_enter Try.func55, Try.ntmps55
  go_wp2_with fail
  refine (rnew_any L n _ rfl h3 hL HN.out _).mono ?_
  rintro r w1 ⟨q, rfl, hq, zq, b1⟩
  have k1 := Below.keeps b1 []
  have h1 := k1.has H.out (by simp)
  have c1 : w1.cell? ⟨t, 1, none⟩ = some (.int .i64 L0) := cell_has h1 (i := 1) rfl
  have c2 : w1.cell? ⟨t, 2, none⟩ = some (.slice ca cb cc) := cell_has h1 (i := 2) rfl
  have c4 : w1.cell? ⟨t, 5, none⟩ = some (.int .i64 ma) := cell_has h1 (i := 5) rfl
  have c7 : w1.cell? ⟨t, 7, none⟩ = some (.pointer none) := cell_has h1 (i := 7) rfl
  have f1 := free_of_has h1 1
  have f2 := free_of_has h1 2
  have f4 := free_of_has h1 5
  have H1 := Lib.hid h1
  have K1 := Lib.hid k1
  have HQ := Lib.hid hq
  clear b1 k1 h1 hq
  go_wp2_with fail
  go_end0
  have hb := has_setCell (has_setCell (has_setCell H1.out 1 (.int .i64 L)) 2 (.slice (some ⟨q, 0, none⟩) n n)) 5 (.int .i64 (ma + 1))
  unfold rtabO at hb
  simp only [List.setIfInBounds_toArray, List.set_cons_zero, List.set_cons_succ] at hb
  have kt : Keeps [t] w1 (((w1.setCell ⟨t, 1, none⟩ (.int .i64 L)).setCell ⟨t, 2, none⟩ (.slice (some ⟨q, 0, none⟩) n n)).setCell ⟨t, 5, none⟩ (.int .i64 (ma + 1))) := (((Keeps.refl _ _).setCell (.inr (by simp)) _).setCell (.inr (by simp)) _).setCell (.inr (by simp)) _
  have ht := lt_of_block H.out
  exact ⟨rfl, q, hb, kt.has HQ.out (by simp; omega), zq, (K1.out.mono (by simp)).trans kt⟩

/-- The document's new table. -/
theorem rnewt_none (w : World) : Calls Try.prog 38 #[.pointer none] w fun r w' => ∃ t q, r = .returned (.pointer (some ⟨t, 0, none⟩)) ∧ w'.heap[t]? = some (rtabO (.slice none 0 0) 3 (.slice (some ⟨q, 0, none⟩) 8 8) (.int .i64 0) (.int .i64 0) (.int .i64 1) (.int .i64 0) (.pointer none)) ∧ RefAt q 8 (begun 8) w' ∧ w.heap.size ≤ t ∧ w.heap.size ≤ q ∧ Below w.heap.size w w' := by
  go_enter Try.func38, Try.ntmps38
  go_wp2_with fail
  refine (rindex_none w.heap.size 3 8 3 rfl (.slice none 0 0) (.int .i64 0) (.int .i64 0) (.int .i64 0) 0 (.slice none 0 0) 0 _ (has_new _ _) (by omega) (by omega) rfl (by omega) (by omega) ⟨_, _, _, rfl⟩).mono ?_
  rintro r w1 ⟨rfl, q, h1, h2, h3, h4⟩
  have H1 := Lib.hid h1
  have H2 := Lib.hid h2
  have K := Lib.hid h4
  simp only [World.size_alloc] at h3
  clear h1 h2 h4
  go_wp2_with fail
  go_ret
  exact ⟨w.heap.size, q, rfl, H1.out, H2.out, Nat.le_refl _, by omega, ((Below.refl _ _).alloc (Nat.le_refl _) _).trans (K.out.below (by simp) (by simp))⟩
theorem rall_empty (t : Nat) (L : Nat) (cl lv bi ma tu m : Value) (w : World) (h : w.heap[t]? = some (rtabO (.slice none 0 0) L cl lv bi ma tu m)) : Calls Try.prog 56 #[.pointer (some ⟨t, 0, none⟩)] w fun r w' => r = .returned (.slice none 0 0) ∧ w = w' := by
  have c0 : w.cell? ⟨t, 0, none⟩ = some (.slice none 0 0) := cell_has h (i := 0) rfl
  clear h
  go_enter Try.func56, Try.ntmps56
  go_wp2_with fail
  go_loopw [3, 4] (fun l i wr => l = .slice none 0 0 ∧ i = .int .i64 0 ∧ w = wr) (fun _ _ _ => 0)
  case atStart => exact ⟨rfl, rfl, rfl⟩
  case round =>
    obtain ⟨rfl, rfl, rfl⟩ := hrel
    go_wp2_with fail
    go_ret
    exact ⟨rfl, rfl⟩
theorem rnumbers_empty (t : Nat) (L : Nat) (cl lv bi ma tu m : Value) (w : World) (h : w.heap[t]? = some (rtabO (.slice none 0 0) L cl lv bi ma tu m)) : Calls Try.prog 72 #[.pointer (some ⟨t, 0, none⟩)] w fun r w' => r = .returned (.slice none 0 0) ∧ w = w' := by
  have c0 : w.cell? ⟨t, 0, none⟩ = some (.slice none 0 0) := cell_has h (i := 0) rfl
  clear h
  go_enter Try.func72, Try.ntmps72
  go_wp2_with fail
  go_loopw [3, 4] (fun l i wr => l = .slice none 0 0 ∧ i = .int .i64 0 ∧ w = wr) (fun _ _ _ => 0)
  case atStart => exact ⟨rfl, rfl, rfl⟩
  case round =>
    obtain ⟨rfl, rfl, rfl⟩ := hrel
    go_wp2_with fail
    go_ret
    exact ⟨rfl, rfl⟩
theorem goes_empty (f : FuncId) (hf : EntersF Try.prog f) (b t L : Nat) (cl lv bi ma tu m : Value) (bk : Bool) (w : World) (hb : w.heap[b]? = some (.cells #[.slice none 0 0] 121 (0, 0))) (h : w.heap[t]? = some (rtabO (.slice none 0 0) L cl lv bi ma tu m))
    (hc : ∀ v W, W.cell? ⟨b, 0, none⟩ = some (.slice none 0 0) → Calls Try.prog f #[v, .pointer (some ⟨b, 0, none⟩)] W fun r w' => r = .returned (.tuple #[]) ∧ W = w') :
    Calls Try.prog 33 #[.func (.func f) #[] #[.pointer (some ⟨b, 0, none⟩)], .pointer (some ⟨t, 0, none⟩), .bool bk, .int .i64 0] w fun r w' => r = .returned (.bool true) ∧ Below w.heap.size w w' := by
  have H := Lib.hid h
  have HB := Lib.hid hb
  have HC := Lib.hid hc
  have hrun := fun args W => hf args W
  clear h hb hc
  go_enter Try.func33, Try.ntmps33
  go_wp2_with fail
  refine (rall_empty t L cl lv bi ma tu m _ (has_alloc (has_alloc H.out _) _)).mono ?_
  rintro r w1 ⟨rfl, rfl⟩
  go_wp2_with fail
  refine (rnumbers_empty t L cl lv bi ma tu m _ (has_alloc (has_alloc (has_alloc H.out _) _) _)).mono ?_
  rintro r w1 ⟨rfl, rfl⟩
  go_wp2_with fail
  refine (HC.out _ _ (cell_has (has_alloc (has_alloc (has_alloc (has_alloc (has_alloc (has_alloc (has_alloc HB.out _) _) _) _) _) _) _) (i := 0) rfl)).mono ?_
  rintro r w1 ⟨rfl, rfl⟩
  go_wp2_with fail
  go_ret
  exact ⟨rfl, (((((((Below.refl w.heap.size w).alloc (Nat.le_refl _) _).alloc (by simp) _).alloc (by simp <;> omega) _).alloc (by simp <;> omega) _).alloc (by simp <;> omega) _).alloc (by simp <;> omega) _).alloc (by simp <;> omega) _⟩
end Go.Proofs.Ytajcbghhpjpmhaa
