/- The numbers of a heap in memory: their methods (chapter 11). -/
import Derived.Test.YtompihlckpjbkaaProg
import Derived.Test.YtompihlckpjbkaaHeapMath
import Derived.Deep.RegionHeld3
import Derived.Deep.DrawnRows
namespace Go.Proofs.Ytompihlckpjbkaa
open Go.RowKit
set_option linter.unusedVariables false
attribute [local go_sem ↓] Go.wp_at_zero Go.wp_at_succ

/-- The first n cells of block g are the numbers F. -/
def NumRow (g n cap : Nat) (F : Nat → Nat) (w : World) : Prop :=
  ∃ cur : Array Value, w.heap[g]? = some (.cells cur 3 (0, 0)) ∧ cur.size = cap ∧ n ≤ cap ∧ cap ≤ maxLen ∧ ∀ k, k < n → cur[k]? = some (.int .i64 (F k : Int))
theorem NumRow.cell {g n cap : Nat} {F : Nat → Nat} {w : World} (h : NumRow g n cap F w) {k : Nat} (hk : k < n) : w.cell? ⟨g, k, none⟩ = some (.int .i64 (F k : Int)) := by
  obtain ⟨cur, h1, _, _, _, h2⟩ := h
  exact cell_has h1 (h2 k hk)
theorem NumRow.free {g n cap : Nat} {F : Nat → Nat} {w : World} (h : NumRow g n cap F w) (k : Nat) : w.frozen? ⟨g, k, none⟩ = false := by
  obtain ⟨cur, h1, _⟩ := h
  exact free_of_has h1 k
theorem NumRow.lt {g n cap : Nat} {F : Nat → Nat} {w : World} (h : NumRow g n cap F w) : g < w.heap.size := by
  obtain ⟨cur, h1, _⟩ := h
  exact lt_of_block h1
theorem NumRow.keeps {g n cap : Nat} {F : Nat → Nat} {w w' : World} {S : List Nat} (h : NumRow g n cap F w) (k : Keeps S w w') (hg : g ∉ S) : NumRow g n cap F w' := by
  obtain ⟨cur, h1, h2⟩ := h
  exact ⟨cur, k.has h1 hg, h2⟩
theorem NumRow.put {g n cap : Nat} {F : Nat → Nat} {w : World} (h : NumRow g n cap F w) (i x : Nat) : NumRow g n cap (fun k => if k = i then x else F k) (w.setCell ⟨g, i, none⟩ (.int .i64 (x : Int))) := by
  obtain ⟨cur, h1, h2, h3, h4, h5⟩ := h
  refine ⟨_, has_setCell h1 i _, by simpa using h2, h3, h4, fun k hk => ?_⟩
  rw [Array.getElem?_setIfInBounds]
  by_cases e : i = k
  · subst e; rw [if_pos rfl, if_pos (by omega)]; simp
  · rw [if_neg e]; simp only [show ¬ k = i by omega, if_false]; exact h5 k hk
theorem NumRow.less {g n n' cap : Nat} {F : Nat → Nat} {w : World} (h : NumRow g n cap F w) (hn : n' ≤ n) : NumRow g n' cap F w := by
  obtain ⟨cur, h1, h2, h3, h4, h5⟩ := h
  exact ⟨cur, h1, h2, by omega, h4, fun k hk => h5 k (by omega)⟩
theorem NumRow.congr {g n cap : Nat} {F G : Nat → Nat} {w : World} (h : NumRow g n cap F w) (hG : ∀ k, k < n → G k = F k) : NumRow g n cap G w := by
  obtain ⟨cur, h1, h2, h3, h4, h5⟩ := h
  exact ⟨cur, h1, h2, h3, h4, fun k hk => by rw [hG k hk]; exact h5 k hk⟩

theorem numsLen_any (a : Option Addr) (n cap : Nat) (w : World) :
    Calls Try.prog 78 #[.slice a n cap] w fun e w' => e = .returned (.int .i64 n) ∧ w = w' := by
  go_enter Try.func78, Try.ntmps78
  go_wp2_with fail
  go_ret
  exact ⟨rfl, rfl⟩

theorem numsLess_any (g n cap : Nat) (F : Nat → Nat) (i j : Nat) (ii jj : Int) (hii : ii = (i : Int)) (hjj : jj = (j : Int)) (b : Bool) (w : World) (H : NumRow g n cap F w) (hi : i < n) (hj : j < n) (hb : decide (F i < F j) = b) :
    Calls Try.prog 79 #[.slice (some ⟨g, 0, none⟩) n cap, .int .i64 ii, .int .i64 jj] w fun e w' => e = .returned (.bool b) ∧ Keeps [] w w' := by
  subst hii hjj
  have c1 := H.cell hi
  have c2 := H.cell hj
  obtain ⟨x, hx⟩ := ex_hid (F i)
  obtain ⟨y, hy⟩ := ex_hid (F j)
  rw [← hx.out] at c1
  rw [← hy.out] at c2
  rw [← hx.out, ← hy.out] at hb
  have i0 : (0 : Int) ≤ (i : Int) := by omega
  have j0 : (0 : Int) ≤ (j : Int) := by omega
  have i1 : (i : Int) < (n : Int) := by omega
  have j1 : (j : Int) < (n : Int) := by omega
  have HB := Lib.hid hb
  clear hb H
  go_enter Try.func79, Try.ntmps79
  go_wp2_with fail
  go_quiet (fail)
  go_wp2_with fail
  go_ret
  exact ⟨by rw [← HB.out]; rfl, (Keeps.refl _ _).drewN _⟩

theorem numsSwap_any (g n cap : Nat) (F : Nat → Nat) (i j : Nat) (ii jj : Int) (hii : ii = (i : Int)) (hjj : jj = (j : Int)) (w : World) (H : NumRow g n cap F w) (hi : i < n) (hj : j < n) :
    Calls Try.prog 80 #[.slice (some ⟨g, 0, none⟩) n cap, .int .i64 ii, .int .i64 jj] w fun e w' => e = .returned (.tuple #[]) ∧ Keeps [g] w w' ∧ NumRow g n cap (swapF F i j) w' := by
  subst hii hjj
  have c1 := H.cell hi
  have c2 := H.cell hj
  have f1 := H.free i
  have f2 := H.free j
  have z := H.lt
  obtain ⟨x, hx⟩ := ex_hid (F i)
  obtain ⟨y, hy⟩ := ex_hid (F j)
  rw [← hx.out] at c1
  rw [← hy.out] at c2
  have i0 : (0 : Int) ≤ (i : Int) := by omega
  have j0 : (0 : Int) ≤ (j : Int) := by omega
  have i1 : (i : Int) < (n : Int) := by omega
  have j1 : (j : Int) < (n : Int) := by omega
  have HH := Lib.hid H
  obtain ⟨v', hv'⟩ := cell?_setCell_some (w := w) (p := ⟨g, i, none⟩) (x := .int .i64 (y : Int)) (q := ⟨g, j, none⟩) (v := .int .i64 (y : Int)) (by go_simp)
  clear H
  go_enter Try.func80, Try.ntmps80
  go_wp2_with fail
  go_region
  all_goals
    go_wp2_with fail
    go_end0
    refine ⟨rfl, ?_, ?_⟩
    · exact ((((Keeps.refl _ _).drew).setCell (.inr (by simp)) _).setCell (.inr (by simp)) _)
    · have h1 := (HH.out.put i y).put j x
      refine NumRow.congr (F := fun k => if k = j then x else if k = i then y else F k) h1 fun k hk => ?_
      unfold swapF
      rw [hx.out, hy.out]
      by_cases e1 : k = i <;> by_cases e2 : k = j
      · subst e1; subst e2; simp
      · simp [e1, show ¬ i = j by omega]
      · simp [e2, show ¬ j = i by omega]
      · simp [e1, e2]
end Go.Proofs.Ytompihlckpjbkaa
