/- Slots that are none: Mark and Sweep (chapter 12). -/
import Derived.Test.YtompihlckpjbkaaSweepMarks
namespace Go.Proofs.Ytompihlckpjbkaa
open Go.RowKit Go.Shelf
set_option linter.unusedVariables false
attribute [local go_sem] Oper.semAt_some

theorem nHasL (i : Int) (w : World) : Calls Try.prog 60 #[.pointer none, .int .i64 i] w fun e w' => e = .returned (.bool false) ∧ w = w' := by
  go_enter Try.func60, Try.ntmps60
  go_wp2_with fail
  go_ret
  exact ⟨rfl, rfl⟩
theorem nGetL (i : Int) (w : World) : Calls Try.prog 54 #[.pointer none, .int .i64 i] w fun e w' => e = .returned (.tuple #[.slice none 0 0, .bool false]) ∧ Keeps [] w w' := by
  go_enter Try.func54, Try.ntmps54
  go_wp2_with fail
  refine (nHasL _ _).mono ?_
  rintro e w1 ⟨rfl, rfl⟩
  go_wp2_with fail
  go_ret2
  exact ⟨rfl, (Keeps.refl _ _).alloc _⟩
theorem nHighL (w : World) : Calls Try.prog 52 #[.pointer none] w fun e w' => e = .returned (.int .i64 0) ∧ w = w' := by
  go_enter Try.func52, Try.ntmps52
  go_wp2_with fail
  go_ret
  exact ⟨rfl, rfl⟩
theorem nAllL (w : World) : Calls Try.prog 57 #[.pointer none] w fun e w' => e = .returned (.func (.func 61) #[] #[.pointer (some ⟨w.heap.size, 0, none⟩)]) ∧ w.alloc (.cells #[.slice none 0 0] 99) = w' := by
  go_enter Try.func57, Try.ntmps57
  go_wp2_with fail
  refine (nHighL _).mono ?_
  rintro e w1 ⟨rfl, rfl⟩
  go_wp2_with fail
  go_loopw [7] (fun i wr => i = .int .i64 0 ∧ wr = w.alloc (.cells #[.slice none 0 0] 99)) (fun _ _ => 0)
  case atStart => exact ⟨rfl, rfl⟩
  case round =>
    obtain ⟨rfl, rfl⟩ := hrel
    go_wp2_with fail
    go_ret
    exact ⟨rfl, rfl⟩
theorem reach_nil (H v k : Nat) (xs : List Int) (a : Option Addr) (c : Nat) (W : World) (hb : W.heap[H]? = some (.cells #[.pointer none] 54 (0, 0))) (hxs : RowL W (.slice a xs.length c) xs) (hlen : xs.length ≤ 100000) :
    Calls Try.prog 53 #[.slice a xs.length c, .pointer (some ⟨H, 0, none⟩), .pointer (some ⟨v, 0, none⟩), .pointer (some ⟨k, 0, none⟩)] W fun e w' => e = .returned (.tuple #[]) ∧ Keeps [] W w' := by
  have HB := Lib.hid hb
  have HX := Lib.hid hxs
  clear hb hxs
  go_enter Try.func53, Try.ntmps53
  go_wp2_with fail
  go_loopw [11] (fun i wr => ∃ j : Nat, j ≤ xs.length ∧ i = .int .i64 j ∧ Keeps [] W wr) (fun i _ => xs.length - (intOf i).toNat)
  case atStart => exact ⟨0, by omega, rfl, Keeps.refl _ _⟩
  case round =>
    obtain ⟨j, hj, rfl, hk⟩ := hrel
    have j0 : (0 : Int) ≤ (j : Int) := by omega
    have HK := Lib.hid hk
    by_cases hlt : j < xs.length
    · have hlt' : (j : Int) < (xs.length : Int) := by omega
      obtain ⟨a', c', he, hx2⟩ := HX.out.keeps hk
      obtain ⟨b, off, e2, hc⟩ := hx2 j hlt
      simp at he
      obtain ⟨rfl, rfl⟩ := he
      subst e2
      have d1 := cell_has (HK.out.has HB.out (by simp)) (i := 0) rfl
      obtain ⟨x, hx⟩ := ex_hid (xs.getD j 0)
      rw [← hx.out] at hc
      clear hx2 hk
      go_wp2_with fail
      refine (nGetL _ _).mono ?_
      rintro e w1 ⟨rfl, k1⟩
      have K1 := Lib.hid (HK.out.trans k1)
      clear k1
      go_wp2_with fail
      go_roundw
      case rel => exact ⟨j + 1, by omega, by go_num, K1.out⟩
      case measure => simp [intOf]; omega
    · obtain rfl : j = xs.length := by omega
      clear hk
      go_wp2_with fail
      go_end0
      exact ⟨rfl, HK.out⟩

set_option maxRecDepth 100000 in
set_option maxHeartbeats 2000000 in
theorem mark_nil (LV : Value) (rs : List Int) (ra : Option Addr) (rc : Nat) (w : World) (hr : RowL w (.slice ra rs.length rc) rs) (hrs : rs.length ≤ 100000) :
    Calls Try.prog 27 #[.pointer none, .slice ra rs.length rc, LV] w fun e w' => e = .returned (.slice none 0 0) ∧ Keeps [] w w' := by
  have HR := Lib.hid hr
  have hmk := fun w => make_words w 1 1 (by omega) (by omega)
  clear hr
  go_enter Try.func27, Try.ntmps27
  go_wp2_with fail
  refine (nHighL _).mono ?_
  rintro e w1 ⟨rfl, rfl⟩
  go_wp2_with fail
  have k0 := ((((Keeps.refl [] w).alloc (.cells #[.pointer none] 54)).alloc (.cells (wordsA 1 (fun _ => 0)) 98)).alloc (.cells #[.slice (some ⟨w.heap.size + 1, 0, none⟩) 1 1] 82)).alloc (.cells #[.slice none 0 0] 22)
  have b0 := has_alloc (has_alloc (has_alloc (has_new w (.cells #[.pointer none] 54)) (.cells (wordsA 1 (fun _ => 0)) 98)) (.cells #[.slice (some ⟨w.heap.size + 1, 0, none⟩) 1 1] 82)) (.cells #[.slice none 0 0] 22)
  have b1 := has_alloc (has_alloc (has_new' (w.alloc (.cells #[.pointer none] 54)) (.cells (wordsA 1 (fun _ => 0)) 98) (b := w.heap.size + 1) (by simp)) (.cells #[.slice (some ⟨w.heap.size + 1, 0, none⟩) 1 1] 82)) (.cells #[.slice none 0 0] 22)
  have b2 := has_alloc (has_new' ((w.alloc (.cells #[.pointer none] 54)).alloc (.cells (wordsA 1 (fun _ => 0)) 98)) (.cells #[.slice (some ⟨w.heap.size + 1, 0, none⟩) 1 1] 82) (b := w.heap.size + 1 + 1) (by simp)) (.cells #[.slice none 0 0] 22)
  have b3 := has_new' (((w.alloc (.cells #[.pointer none] 54)).alloc (.cells (wordsA 1 (fun _ => 0)) 98)).alloc (.cells #[.slice (some ⟨w.heap.size + 1, 0, none⟩) 1 1] 82)) (.cells #[.slice none 0 0] 22) (b := w.heap.size + 1 + 1 + 1) (by simp)
  refine (reach_nil _ _ _ rs ra rc _ b0 (HR.out.keeps k0) hrs).mono ?_
  rintro e w2 ⟨rfl, k2⟩
  have c0 := cell_has (k2.has b0 (by simp)) (i := 0) rfl
  have c2 := cell_has (k2.has b2 (by simp)) (i := 0) rfl
  have c3 := cell_has (k2.has b3 (by simp)) (i := 0) rfl
  have B1 := Lib.hid (k2.has b1 (by simp))
  have K2 := Lib.hid (k0.trans k2)
  clear b0 b1 b2 b3 k0 k2
  go_wp2_with fail
  go_loopw [10] (fun _ wr => w2 = wr) (fun _ _ => 0)
  case atStart => rfl
  case round =>
    obtain rfl := hrel
    go_wp2_with fail
    refine (nHighL _).mono ?_
    rintro e w1 ⟨rfl, rfl⟩
    go_wp2_with fail
    go_loopw [12, 51] (fun out i wr => out = .slice none 0 0 ∧ i = .int .i64 0 ∧ w2 = wr) (fun _ _ _ => 0)
    case atStart => exact ⟨rfl, rfl, rfl⟩
    case round =>
      obtain ⟨rfl, rfl, rfl⟩ := hrel
      have hcl := fun ty => clear_words w2 (w.heap.size + 1) 1 _ (by omega) B1.out ty
      go_wp2_with fail
      go_ret
      exact ⟨rfl, K2.out.then (keeps_setCells _ _ _ _) (by intro x hx; simp at hx; left; omega)⟩

set_option maxRecDepth 100000 in
set_option maxHeartbeats 2000000 in
theorem sweep_nil (LV : Value) (rs : List Int) (ra : Option Addr) (rc : Nat) (w : World) (hr : RowL w (.slice ra rs.length rc) rs) (hrs : rs.length ≤ 100000) :
    Calls Try.prog 32 #[.pointer none, .slice ra rs.length rc, LV] w fun e w' => e = .returned (.slice none 0 0) ∧ Keeps [] w w' := by
  have HR := Lib.hid hr
  clear hr
  refine calls_of_wp_ranges Try.func32 rfl ?_
  simp only [Try.ntmps32, List.size_toArray, List.length_cons, List.length_nil, Nat.reduceAdd, Nat.reduceSub, Array.replicate_succ, Array.replicate_zero, List.push_toArray, List.append_toArray, List.nil_append, List.cons_append]
  go_wp2_with fail
  refine (mark_nil LV rs ra rc w HR.out hrs).mono ?_
  rintro e w1 ⟨rfl, k1⟩
  have K1 := Lib.hid k1
  clear k1
  go_wp2_with fail
  refine (nAllL _).mono ?_
  rintro e w2 ⟨rfl, rfl⟩
  go_wp2_with fail
  have X : Hid (∃ w2, w2 = ((w1.alloc (.cells #[.slice none 0 0] 22)).alloc (.cells #[.slice none 0 0] 22)).alloc (.cells #[.slice none 0 0] 99)) := Lib.hid ⟨_, rfl⟩
  obtain ⟨w2, hw2⟩ := X.out
  rw [← hw2]
  have q2 : w2.heap[w1.heap.size + 1]? = some (.cells #[.slice none 0 0] 22 (0, 0)) := by rw [hw2]; exact has_alloc (has_new' _ _ (by simp)) _
  have q3 : w2.heap[w1.heap.size + 1 + 1]? = some (.cells #[.slice none 0 0] 99 (0, 0)) := by rw [hw2]; exact has_new' _ _ (by simp)
  have K2 : Hid (Keeps [] w w2) := Lib.hid (by rw [hw2]; exact K1.out.trans ((((Keeps.refl _ _).alloc _).alloc _).alloc _))
  have Q2 := Lib.hid q2
  have Q3 := Lib.hid q3
  have z3 := lt_of_block q3
  clear hw2 X q2 q3
  refine wp_rangeN (gf := 61) (lb := #[.pointer (some ⟨w1.heap.size + 1 + 1, 0, none⟩)]) rfl (enters_of Try.func61 (by kernel_rfl) rfl) (SL.sIter (w1.heap.size + 1 + 1) 0 0 none (fun _ => .slice none 0 0) (fun _ => false) (by omega) (fun i hi => by omega)) (fun _ => rfl)
    (fun i W => Keeps [] w2 W) (fun _ _ _ => False) (fun i A B h k => h.then k (by intro x hx; simp at hx; left; omega)) (fun _ _ _ _ h _ => h) ?priv (Keeps.refl _ _) ?round ?done ?stop
  case priv =>
    intro i A h
    exact ⟨cell_has (h.has Q3.out (by simp)) rfl, fun k hk => by simp [cntT] at hk⟩
  case stop => intro c i W _ h; exact h.elim
  case round =>
    intro l i W K hi
    simp [cntT] at hi
  case done =>
    intro W hW hD
    have e1 := cell_has (hW.has Q2.out (by simp)) (i := 0) rfl
    have KW := Lib.hid (K2.out.trans hW)
    have HD := Lib.hid hD
    have hzw := K2.out.size
    clear hW hD
    go_wp2_with fail
    go_loopw [38] (fun j wr => j = .int .i64 0 ∧ wr = W) (fun _ _ => 0)
    case atStart => exact ⟨rfl, rfl⟩
    case round =>
      obtain ⟨rfl, rfl⟩ := hrel
      go_wp2_with fail
      refine bodyPostR_ret1 (fun w => results_tmp rfl _ _ _) rfl HD.out fun w' kD => ?_
      exact ⟨rfl, KW.out.then kD (by intro x hx; simp at hx; left; omega)⟩
end Go.Proofs.Ytompihlckpjbkaa
