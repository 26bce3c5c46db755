/- The laws of the meter, walked (chapter 4). -/
import Derived.Test.YtlpccmokjjldlaaMeterDoes5
import Derived.Test.YtlpccmokjjldlaaArgs
namespace Go.Proofs.Ytlpccmokjjldlaa
open Go.RowKit
attribute [local go_sem ↓] Go.wp_at_zero Go.wp_at_succ

/-- The law's own closed call. -/
theorem awake4 (w : World) : Calls Try.prog 15 #[] w fun e w' => e = .returned (.bool true) ∧ Below w.heap.size w w' := by
  go_enter Try.func15, Try.ntmps15
  go_wp2_with fail
  refine (tbl_any w.heap.size ⟨0, 0, 0, 0⟩ _ (has_new _ _)).mono ?_
  rintro e w1 ⟨rfl, k1, h1⟩
  have H1 := Lib.hid h1
  clear h1
  go_wp2_with fail
  refine (visit_any w.heap.size _ 3 _ H1.out).mono ?_
  rintro e w2 ⟨rfl, k2, h2⟩
  have k3 := k1.trans k2
  have e1 : bumpB { a := wrap64 (0 + 1), b := 0, c := 0, d := 0 } 3 = ⟨1, 3, 0, 0⟩ := by
    rw [bumpB_yes (by decide)]
    simp [IntWalk.wrap64_in 1 (by omega), IntWalk.wrap64_in 3 (by omega)]
  have H2 := Lib.hid (show w2.heap[w.heap.size]? = some (mtr ⟨1, 3, 0, 0⟩) from e1 ▸ h2)
  clear e1
  clear h2 k1 k2 H1
  go_wp2_with fail
  refine (read_any w.heap.size _ _ H2.out).mono ?_
  rintro e w4 ⟨rfl, k4⟩
  go_wp2_with fail
  go_ret
  refine ⟨rfl, ?_⟩
  exact ((Keeps.refl [w.heap.size] w).alloc _ |>.trans k3).below (Nat.le_refl _) (by simp) |>.trans (k4.mono (by have := k3.size; simp at this; omega))

/-- MeterPlays, walked. -/
theorem meterPlays_walk (a : Option Addr) (len cap : Nat) (F : Nat → Int) (w : World) (hr : IntRow .i64 2 w a len F) :
    Calls Try.prog 3 #[.slice a len cap] w fun e w' => e = .returned (.bool true) ∧ Below w.heap.size w w' := by
  by_cases hl : 3000 < len
  · have h1 : (3000 : Int) < (len : Int) := by omega
    clear hr hl
    go_enter Try.func3, Try.ntmps3
    go_wp2_with (go_at_call 15; refine (awake4 _).mono ?_; rintro e w' ⟨rfl, hb⟩)
    go_ret
    exact ⟨rfl, hb⟩
  · have h1 : (len : Int) ≤ 3000 := by omega
    have hd : decide ((3000 : Int) < (len : Int)) = false := by simp; omega
    have HR := Lib.hid hr
    clear hr hl
    go_enter Try.func3, Try.ntmps3
    go_wp2_with fail
    go_loopw [5] (fun i wr => ∃ (k : Nat) (c : C4), k ≤ len ∧ i = .int .i64 k ∧ wr.heap[w.heap.size]? = some (mtr c) ∧ wr.heap[w.heap.size + 1]? = some (.cells #[.int .i64 c.a, .int .i64 c.b, .int .i64 c.c, .int .i64 c.d] 34 (0, 0)) ∧ Below w.heap.size w wr)
      (fun i _ => len - (intOf i).toNat)
    case atStart => exact ⟨0, ⟨0, 0, 0, 0⟩, by omega, rfl, has_alloc (has_new _ _) _, has_new' _ _ (by simp), ((Below.refl _ _).alloc (Nat.le_refl _) _).alloc (by simp) _⟩
    case round =>
      obtain ⟨k, ⟨c0, c1, c2, c3⟩, hk, rfl, hm, hc, hb⟩ := hrel
      by_cases hlt : k < len
      · rcases HR.out with h0 | ⟨b, off, rfl, hbl, _, hcell⟩
        · omega
        have e0 := (hb.cell (p := ⟨b, off + (k * 2 + 0), none⟩) hbl).trans (hcell (k * 2 + 0) (by omega)).1
        have e1 := (hb.cell (p := ⟨b, off + (k * 2 + 1), none⟩) hbl).trans (hcell (k * 2 + 1) (by omega)).1
        have g0 : wr.cell? ⟨b, off + k * 2, none⟩ = some (.int .i64 (F (k * 2))) := e0
        have g1 : wr.cell? ⟨b, off + k * 2 + 1, none⟩ = some (.int .i64 (F (k * 2 + 1))) := e1
        have rc := cell_of_has hc
        have HM := Lib.hid hm
        have HC := Lib.hid hc
        have HB := Lib.hid hb
        have hlt' : (k : Int) < (len : Int) := by omega
        have hk0 : (0 : Int) ≤ (k : Int) := by omega
        clear e0 e1 hm hc hb hcell HR
        go_wp2_with fail
        go_region_with (go_at_call 16; refine (does_any w.heap.size ⟨c0, c1, c2, c3⟩ _ _ _ (has_drew HM.out)).mono ?_; rintro e w1 ⟨rfl, k1, h1⟩; have hc1 := k1.has (has_drew HC.out) (by simp); have rc1 := cell_of_has hc1; have fc1 := free_of_has hc1; have K1 := Lib.hid k1; have H1 := Lib.hid h1; have HC1 := Lib.hid hc1; clear k1 h1 hc1)
        all_goals
          go_wp2_with fail
          go_roundw
          case rel =>
            refine ⟨k + 1, stepC ⟨c0, c1, c2, c3⟩ (F (k * 2)) (F (k * 2 + 1)), by omega, by go_num, ?_, ?_, ?_⟩
            · have hs : w.heap.size ≠ w.heap.size + 1 := by omega
              exact has_setCell_other (has_setCell_other (has_setCell_other (has_setCell_other H1.out hs _) hs _) hs _) hs _
            · exact has_setCell (has_setCell (has_setCell (has_setCell HC1.out 0 _) 1 _) 2 _) 3 _
            · have hs : w.heap.size ≤ w.heap.size + 1 := by omega
              exact ((((HB.out.trans (K1.out.undrew.below HB.out.size (by simp))).setCell hs _).setCell hs _).setCell hs _).setCell hs _
          case measure => simp [intOf]; omega
      · have hke : k = len := by omega
        have hge : (len : Int) ≤ (k : Int) := by omega
        have rc := cell_of_has hc
        have HM := Lib.hid hm
        have HC := Lib.hid hc
        have HB := Lib.hid hb
        have hz := Lib.hid hb.size
        clear hm hc hb HR hke
        go_wp2_with fail
        go_region_with (first | (go_at_call 17; refine (take_any w.heap.size ⟨c0, c1, c2, c3⟩ _ (has_drew HM.out)).mono ?_; rintro e w1 ⟨rfl, k1, h1⟩; have hc1 := k1.has (has_drew HC.out) (by simp); have rc1 := cell_of_has hc1; have K1 := Lib.hid k1; have H1 := Lib.hid h1; clear k1 h1 hc1) | (go_at_call 18; refine (read_any w.heap.size ⟨0, 0, 0, 0⟩ _ H1.out).mono ?_; rintro e w2 ⟨rfl, k2⟩; have K2 := Lib.hid k2; clear k2) | (go_at_call 15; refine (awake4 _).mono ?_; rintro e w3 ⟨rfl, k3⟩))
        all_goals
          go_wp2_with fail
          go_ret
          refine ⟨rfl, ?_⟩
          have b1 := HB.out.trans (K1.out.undrew.below HB.out.size (by simp))
          have b2 := b1.trans (K2.out.mono b1.size)
          exact b2.trans (k3.mono b2.size)
end Go.Proofs.Ytlpccmokjjldlaa
