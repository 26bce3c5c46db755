/- Walks through a dictionary that is changed meanwhile (chapter 9): the law's own walk. -/
import Derived.Test.YtcakdmapnmneoaaGreatPkA
import Derived.Test.YtcakdmapnmneoaaGreatStrH
import Derived.Test.YtcakdmapnmneoaaGreatMixRow
namespace Go.Proofs.YtcakdmapnmneoaaGreat
open Go.RowKit
set_option linter.unusedVariables false
set_option linter.unusedSimpArgs false

theorem mix9_int (F : Nat → Int) (B : Nat → Bool) (k i : Nat) (hi : i < 6) (h4 : i ≠ 4) : mixV (fun j => [4].contains j) 6 F B (k * 6 + i) = .int .i64 (F (k * 6 + i)) := by
  unfold mixV
  have e : (k * 6 + i) % 6 = i := by omega
  rw [e]
  rw [if_neg]
  simp; omega
theorem mix9_bool (F : Nat → Int) (B : Nat → Bool) (k : Nat) : mixV (fun j => [4].contains j) 6 F B (k * 6 + 4) = .bool (B (k * 6 + 4)) := by
  unfold mixV
  have e : (k * 6 + 4) % 6 = 4 := by omega
  rw [e]
  rfl
set_option maxRecDepth 100000 in
theorem strollPlays_early (most : Int) (a : Option Addr) (n c : Nat) (w : World) (h : 300 < n ∨ most < 0 ∨ 1000 < most) :
    Calls Tryz.prog 3 #[.int .i64 most, .slice a n c] w fun e w' => e = .returned (.bool true) ∧ Below w.heap.size w w' := by
  by_cases h1 : (300 : Int) < (n : Int)
  · clear h
    go_enter Tryz.func3, Tryz.ntmps3
    go_wp2_with (go_at_call 7; refine (awake9 _).mono ?_; rintro e w1 ⟨rfl, hb⟩)
    go_ret
    exact ⟨rfl, hb⟩
  · by_cases h2 : most < 0
    · clear h
      go_enter Tryz.func3, Tryz.ntmps3
      go_wp2_with (go_at_call 7; refine (awake9 _).mono ?_; rintro e w1 ⟨rfl, hb⟩)
      go_ret
      exact ⟨rfl, hb⟩
    · have h3 : 1000 < most := by omega
      clear h
      go_enter Tryz.func3, Tryz.ntmps3
      go_wp2_with (go_at_call 7; refine (awake9 _).mono ?_; rintro e w1 ⟨rfl, hb⟩)
      go_ret
      exact ⟨rfl, hb⟩
def I9 (B xb db t lo wb tw lo2 k : Nat) (w wr : World) : Prop := ∃ S R d l, l.length ≤ 20 ∧ S9 B B xb db t lo wb tw lo2 S R d l wr ∧ DicOk k d ∧ Below B w wr
set_option maxRecDepth 100000 in
set_option maxHeartbeats 4000000 in
theorem strollPlays_main (most : Int) (a : Option Addr) (n c : Nat) (F : Nat → Int) (B : Nat → Bool) (w : World) (hn : n ≤ 300) (h0 : 0 ≤ most) (h1 : most ≤ 1000) (w1 : MixRow (fun j => [4].contains j) 6 w a n F B) :
    Calls Tryz.prog 3 #[.int .i64 most, .slice a n c] w fun e w' => e = .returned (.bool true) ∧ Below w.heap.size w w' := by
  have Z1 := Lib.hid w1
  obtain ⟨bs, hbs⟩ := ex_hid w.heap.size
  rw [← hbs.out]
  have n1 : ¬ (300 : Int) < (n : Int) := by omega
  have n2 : ¬ most < 0 := by omega
  have n3 : ¬ 1000 < most := by omega
  have n4 : decide ((300 : Int) < (n : Int)) = false := by simp; omega
  have n5 : decide (most < 0) = false := by simp; omega
  have n6 : decide (1000 < most) = false := by simp; omega
  have H0 := Lib.hid (And.intro h0 h1)
  clear w1 h0 h1
  go_enter Tryz.func3, Tryz.ntmps3
  go_wp2_with fail
  refine (new8_any most none ⟨0, 0, 0, 0⟩ w (fun b hb => by simp at hb) H0.out.1 (by have := H0.out; omega)).mono ?_
  rintro r w2 ⟨db, t, S, rfl, d2, c2, k2, l2⟩
  have D2 := Lib.hid d2
  have K2 := Lib.hid (show Keeps [] w w2 from k2.mono (by simp [mS]))
  clear d2 c2 k2 l2
  go_wp2_with fail
  refine (rnew8_any most none ⟨0, 0, 0, 0⟩ w2 (fun b hb => by simp at hb) H0.out.1 (by have := H0.out; omega)).mono ?_
  rintro r w3 ⟨wb, tw, R, rfl, d3, c3, k3⟩
  have D3 := Lib.hid d3
  have K3 := Lib.hid (show Keeps [] w2 w3 from k3.mono (by simp [mS]))
  clear d3 c3 k3
  go_upto_region 8 with (fail)
  refine wp_gen (fun V => V.heap[w3.heap.size]? = some (two9O db wb (.slice none 0 0) (.slice none 0 0)) ∧ Keeps [] w3 V) ⟨has_new _ _, (Keeps.refl [] w3).alloc _⟩ ?_
  rintro w4 ⟨b4, k4⟩
  have st : I9 bs w3.heap.size db t w.heap.size wb tw w2.heap.size 0 w w4 := by
    have hbs' := hbs.out
    have d3 := D3.out
    have d2 := D2.out.keeps K3.out (by simp) (by simp)
    have z2 := K2.out.size
    have z3 := K3.out.size
    have l2 : ∀ x, x ∈ db :: S → x < w2.heap.size := fun x hx => by
      rcases List.mem_cons.1 hx with rfl | hx
      · exact lt_of_block D2.out.b
      · exact (D2.out.t.foot x hx).2
    have l3 : ∀ x, x ∈ wb :: R → w2.heap.size ≤ x ∧ x < w3.heap.size := fun x hx => by
      rcases List.mem_cons.1 hx with rfl | hx
      · exact ⟨d3.l, lt_of_block d3.b⟩
      · exact d3.foot x (List.mem_cons_of_mem _ hx)
    refine ⟨S, R, newD most, [], by simp, ⟨⟨d2.keeps k4 (by simp) (by simp), d3.keeps k4 (by simp) (by simp), fun x hx hy => by have := l2 x hx; have := l3 x hy; omega⟩, BirOk.new most, ⟨none, 0, none, 0, b4, ValRow.nil _ _ _ _, ValRow.nil _ _ _ _, fun x hx => by simp [blk] at hx, fun x hx => by simp [blk] at hx⟩, fun i hi => by simp at hi, List.Pairwise.nil, fun hx => ?_, ⟨by omega, by omega, Nat.le_refl _, by omega⟩⟩, newD_ok most, ((K2.out.trans K3.out).trans k4).below (by omega) (by simp)⟩
    simp only [List.mem_cons, List.mem_append] at hx
    rcases hx with hx | hx | hx | hx
    · have := l2 db (by simp); omega
    · have := l3 wb (by simp); omega
    · have := l2 _ (List.mem_cons_of_mem _ hx); omega
    · have := l3 _ (List.mem_cons_of_mem _ hx); omega
  have ST := Lib.hid st
  obtain ⟨xb, hxb⟩ := ex_hid w3.heap.size
  rw [← hxb.out] at ST ⊢
  obtain ⟨lo, hlo⟩ := ex_hid w.heap.size
  rw [← hlo.out] at ST
  obtain ⟨lo2, hlo2⟩ := ex_hid w2.heap.size
  rw [← hlo2.out] at ST
  clear b4 k4 st D2 D3 K2 K3
  go_wp2_with fail
  go_loopw [10] (fun i wr => ∃ k : Nat, k ≤ n ∧ i = .int .i64 k ∧ I9 bs xb db t lo wb tw lo2 k w wr) (fun i _ => n - (intOf i).toNat)
  case atStart => exact ⟨0, by omega, rfl, ST.out⟩
  case round =>
    obtain ⟨k, hk, rfl, hI⟩ := hrel
    have hk0 : (0 : Int) ≤ (k : Int) := by omega
    have HI := Lib.hid hI
    clear hI ST
    by_cases hlt : k < n
    · have hlt' : (k : Int) < (n : Int) := by omega
      rcases Z1.out with h0 | ⟨b, off, rfl, hb1, hb2, hcl⟩
      · omega
      obtain ⟨S', R', d, l, i1, i2, i3, i4⟩ := HI.out
      have hcell : ∀ i, i < 6 → wr.cell? ⟨b, off + (k * 6 + i), none⟩ = some (mixV (fun j => [4].contains j) 6 F B (k * 6 + i)) := fun i hi => (i4.cell (p := ⟨b, off + (k * 6 + i), none⟩) (by rw [hbs.out]; exact hb1)).trans (hcl (k * 6 + i) (by omega))
      obtain ⟨x0, hx0⟩ := ex_hid (F (k * 6 + 0))
      obtain ⟨x1, hx1⟩ := ex_hid (F (k * 6 + 1))
      obtain ⟨x2, hx2⟩ := ex_hid (F (k * 6 + 2))
      obtain ⟨x3, hx3⟩ := ex_hid (F (k * 6 + 3))
      obtain ⟨x4, hx4⟩ := ex_hid (B (k * 6 + 4))
      obtain ⟨x5, hx5⟩ := ex_hid (F (k * 6 + 5))
      have q0 : wr.cell? ⟨b, off + k * 6, none⟩ = some (.int .i64 x0) := by have h9 := hcell 0 (by omega); rw [mix9_int F B k 0 (by omega) (by omega)] at h9; rw [hx0.out]; exact h9
      have q1 : wr.cell? ⟨b, off + k * 6 + 1, none⟩ = some (.int .i64 x1) := by have h9 := hcell 1 (by omega); rw [mix9_int F B k 1 (by omega) (by omega)] at h9; rw [hx1.out]; exact h9
      have q2 : wr.cell? ⟨b, off + k * 6 + 2, none⟩ = some (.int .i64 x2) := by have h9 := hcell 2 (by omega); rw [mix9_int F B k 2 (by omega) (by omega)] at h9; rw [hx2.out]; exact h9
      have q3 : wr.cell? ⟨b, off + k * 6 + 3, none⟩ = some (.int .i64 x3) := by have h9 := hcell 3 (by omega); rw [mix9_int F B k 3 (by omega) (by omega)] at h9; rw [hx3.out]; exact h9
      have q4 : wr.cell? ⟨b, off + k * 6 + 4, none⟩ = some (.bool x4) := by have h9 := hcell 4 (by omega); rw [mix9_bool F B k] at h9; rw [hx4.out]; exact h9
      have q5 : wr.cell? ⟨b, off + k * 6 + 5, none⟩ = some (.int .i64 x5) := by have h9 := hcell 5 (by omega); rw [mix9_int F B k 5 (by omega) (by omega)] at h9; rw [hx5.out]; exact h9
      have S9R := Lib.hid (And.intro i2 (And.intro i3 (And.intro i1 i4)))
      clear hcell hcl i1 i2 i3 i4
      go_wp2_with fail
      refine (does9_any bs xb db t lo wb tw lo2 S' R' d l k (by omega) x0 x1 x2 x3 x5 x4 _ S9R.out.1 S9R.out.2.1 S9R.out.2.2.1).mono ?_
      rintro r w5 ⟨S5, R5, e5, l5, rfl, j1, j2, j3, j4⟩
      have J := Lib.hid (show I9 bs xb db t lo wb tw lo2 (k + 1) w w5 from ⟨S5, R5, e5, l5, j1, j2, j3, S9R.out.2.2.2.trans j4⟩)
      clear j1 j2 j3 j4 q0 q1 q2 q3 q4 q5
      go_wp2_with fail
      go_roundw
      case rel => exact ⟨k + 1, by omega, by go_num, J.out⟩
      case measure => simp [intOf]; omega
    · obtain rfl : k = n := by omega
      have hge : ¬ (k : Int) < (k : Int) := by omega
      go_wp2_with (go_at_call 7; refine (awake9 _).mono ?_; rintro e w13 ⟨rfl, hb⟩)
      go_ret
      obtain ⟨S', R', d, l, i1, i2, i3, i4⟩ := HI.out
      exact ⟨rfl, i4.trans (hb.mono (by rw [hbs.out]; have := i4.size; exact this))⟩
theorem strollPlays_walk (a0 : Int) (a1 : Option Addr) (len1 cap1 : Nat) (F1 : Nat → Int) (B1 : Nat → Bool) (w : World) (w0 : (Lit.int .i64 a0).wf = true) (w1 : MixRow (fun j => [4].contains j) 6 w a1 len1 F1 B1) :
    Calls Tryz.prog 3 #[.int .i64 a0, .slice a1 len1 cap1] w fun e w' => e = .returned (.bool true) ∧ Below w.heap.size w w' := by
  by_cases h : 300 < len1 ∨ a0 < 0 ∨ 1000 < a0
  · exact strollPlays_early a0 a1 len1 cap1 w h
  · exact strollPlays_main a0 a1 len1 cap1 F1 B1 w (by omega) (by omega) (by omega) w1
end Go.Proofs.YtcakdmapnmneoaaGreat
