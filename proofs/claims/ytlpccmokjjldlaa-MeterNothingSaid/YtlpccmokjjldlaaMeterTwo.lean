/- MeterTwo, walked (chapter 4). -/
import Derived.Test.YtlpccmokjjldlaaMeterLaws
namespace Go.Proofs.Ytlpccmokjjldlaa
open Go.RowKit
attribute [local go_sem ↓] Go.wp_at_zero Go.wp_at_succ

/-- What stands between two rounds. -/
structure TwoInv (N : Nat) (w : World) (c d : C4) (wr : World) : Prop where
  a : wr.heap[N]? = some (mtr c)
  b : wr.heap[N + 1]? = some (mtr d)
  c : wr.heap[N + 1 + 1]? = some (.cells #[.int .i64 c.a, .int .i64 c.b, .int .i64 c.c, .int .i64 c.d] 34 (0, 0))
  d : wr.heap[N + 1 + 1 + 1]? = some (.cells #[.int .i64 d.a, .int .i64 d.b, .int .i64 d.c, .int .i64 d.d] 34 (0, 0))
  e : Below w.heap.size w wr
  f : w.heap.size = N

theorem TwoInv.stepA {N : Nat} {w : World} {c d c' : C4} {wr w1 : World} (h : TwoInv N w c d wr) (k : Keeps [N] wr.drew w1) (hm : w1.heap[N]? = some (mtr c')) :
    TwoInv N w c' d ((((w1.setCell ⟨N + 1 + 1, 0, none⟩ (.int .i64 c'.a)).setCell ⟨N + 1 + 1, 1, none⟩ (.int .i64 c'.b)).setCell ⟨N + 1 + 1, 2, none⟩ (.int .i64 c'.c)).setCell ⟨N + 1 + 1, 3, none⟩ (.int .i64 c'.d)) := by
  have k := k.undrew
  have hN : w.heap.size ≤ N + 1 + 1 := by have := h.f; omega
  refine ⟨?_, ?_, ?_, ?_, ?_, h.f⟩
  · have hs : N ≠ N + 1 + 1 := by omega
    exact has_setCell_other (has_setCell_other (has_setCell_other (has_setCell_other hm hs _) hs _) hs _) hs _
  · have hs : N + 1 ≠ N + 1 + 1 := by omega
    exact has_setCell_other (has_setCell_other (has_setCell_other (has_setCell_other (k.has h.b (by simp <;> omega)) hs _) hs _) hs _) hs _
  · exact has_setCell (has_setCell (has_setCell (has_setCell (k.has h.c (by simp <;> omega)) 0 _) 1 _) 2 _) 3 _
  · have hs : N + 1 + 1 + 1 ≠ N + 1 + 1 := by omega
    exact has_setCell_other (has_setCell_other (has_setCell_other (has_setCell_other (k.has h.d (by simp <;> omega)) hs _) hs _) hs _) hs _
  · exact ((((h.e.trans (k.below h.e.size (by simp; have := h.f; omega))).setCell hN _).setCell hN _).setCell hN _).setCell hN _

theorem TwoInv.stepB {N : Nat} {w : World} {c d d' : C4} {wr w1 : World} (h : TwoInv N w c d wr) (k : Keeps [N + 1] wr.drew w1) (hm : w1.heap[N + 1]? = some (mtr d')) :
    TwoInv N w c d' ((((w1.setCell ⟨N + 1 + 1 + 1, 0, none⟩ (.int .i64 d'.a)).setCell ⟨N + 1 + 1 + 1, 1, none⟩ (.int .i64 d'.b)).setCell ⟨N + 1 + 1 + 1, 2, none⟩ (.int .i64 d'.c)).setCell ⟨N + 1 + 1 + 1, 3, none⟩ (.int .i64 d'.d)) := by
  have k := k.undrew
  have hN : w.heap.size ≤ N + 1 + 1 + 1 := by have := h.f; omega
  refine ⟨?_, ?_, ?_, ?_, ?_, h.f⟩
  · have hs : N ≠ N + 1 + 1 + 1 := by omega
    exact has_setCell_other (has_setCell_other (has_setCell_other (has_setCell_other (k.has h.a (by simp <;> omega)) hs _) hs _) hs _) hs _
  · have hs : N + 1 ≠ N + 1 + 1 + 1 := by omega
    exact has_setCell_other (has_setCell_other (has_setCell_other (has_setCell_other hm hs _) hs _) hs _) hs _
  · have hs : N + 1 + 1 ≠ N + 1 + 1 + 1 := by omega
    exact has_setCell_other (has_setCell_other (has_setCell_other (has_setCell_other (k.has h.c (by simp <;> omega)) hs _) hs _) hs _) hs _
  · exact has_setCell (has_setCell (has_setCell (has_setCell (k.has h.d (by simp <;> omega)) 0 _) 1 _) 2 _) 3 _
  · exact ((((h.e.trans (k.below h.e.size (by simp; have := h.f; omega))).setCell hN _).setCell hN _).setCell hN _).setCell hN _

theorem row_at {w wr : World} {a : Option Addr} {len k : Nat} {F : Nat → Int} (h : IntRow .i64 2 w a len F) (hb : Below w.heap.size w wr) (hk : k < len) :
    ∃ b off, a = some ⟨b, off, none⟩ ∧ wr.cell? ⟨b, off + k * 2, none⟩ = some (.int .i64 (F (k * 2))) ∧ wr.cell? ⟨b, off + k * 2 + 1, none⟩ = some (.int .i64 (F (k * 2 + 1))) ∧ b < w.heap.size := by
  rcases h with h0 | ⟨b, off, h1, hbl, _, hc⟩
  · omega
  · exact ⟨b, off, h1, (hb.cell (p := ⟨b, off + (k * 2 + 0), none⟩) hbl).trans (hc (k * 2 + 0) (by omega)).1, (hb.cell (p := ⟨b, off + (k * 2 + 1), none⟩) hbl).trans (hc (k * 2 + 1) (by omega)).1, hbl⟩

set_option maxHeartbeats 2000000 in
theorem meterTwo_walk (a0 : Option Addr) (len0 cap0 : Nat) (F0 : Nat → Int) (a1 : Option Addr) (len1 cap1 : Nat) (F1 : Nat → Int) (w : World) (hr0 : IntRow .i64 2 w a0 len0 F0) (hr1 : IntRow .i64 2 w a1 len1 F1) :
    Calls Try.prog 4 #[.slice a0 len0 cap0, .slice a1 len1 cap1] w fun e w' => e = .returned (.bool true) ∧ Below w.heap.size w w' := by
  by_cases hl0 : 3000 < len0
  · have h1 : (3000 : Int) < (len0 : Int) := by omega
    have hd : decide ((3000 : Int) < (len0 : Int)) = true := by simp <;> omega
    clear hr0 hr1 hl0
    go_enter Try.func4, Try.ntmps4
    go_wp2_with (go_at_call 15; refine (awake4 _).mono ?_; rintro e w' ⟨rfl, hb⟩)
    go_ret
    exact ⟨rfl, hb⟩
  by_cases hl1 : 3000 < len1
  · have h1 : (3000 : Int) < (len1 : Int) := by omega
    have h0 : (len0 : Int) ≤ 3000 := by omega
    have hd0 : decide ((3000 : Int) < (len0 : Int)) = false := by simp <;> omega
    have hd : decide ((3000 : Int) < (len1 : Int)) = true := by simp <;> omega
    clear hr0 hr1 hl0 hl1
    go_enter Try.func4, Try.ntmps4
    go_wp2_with (go_at_call 15; refine (awake4 _).mono ?_; rintro e w' ⟨rfl, hb⟩)
    go_ret
    exact ⟨rfl, hb⟩
  have h0 : (len0 : Int) ≤ 3000 := by omega
  have h1 : (len1 : Int) ≤ 3000 := by omega
  have hd0 : decide ((3000 : Int) < (len0 : Int)) = false := by simp <;> omega
  have hd1 : decide ((3000 : Int) < (len1 : Int)) = false := by simp <;> omega
  have HR0 := Lib.hid hr0
  have HR1 := Lib.hid hr1
  clear hr0 hr1 hl0 hl1
  go_enter Try.func4, Try.ntmps4
  go_wp2_with fail
  go_loopw [9] (fun i wr => ∃ (k : Nat) (c d : C4), k ≤ 3000 ∧ i = .int .i64 k ∧ TwoInv w.heap.size w c d wr)
    (fun i _ => 3000 - (intOf i).toNat)
  case atStart =>
    exact ⟨0, ⟨0, 0, 0, 0⟩, ⟨0, 0, 0, 0⟩, by omega, rfl, has_alloc (has_alloc (has_alloc (has_new _ _) _) _) _, has_alloc (has_alloc (has_new' _ _ (by simp)) _) _, has_alloc (has_new' _ _ (by simp)) _, has_new' _ _ (by simp),
      ((((Below.refl _ _).alloc (Nat.le_refl _) _).alloc (by simp) _).alloc (by simp <;> omega) _).alloc (by simp <;> omega) _, rfl⟩
  case round =>
    obtain ⟨k, ⟨c0, c1, c2, c3⟩, ⟨d0, d1, d2, d3⟩, hk, rfl, hI⟩ := hrel
    have hk0 : (0 : Int) ≤ (k : Int) := by omega
    have rc := cell_of_has hI.c
    have rd := cell_of_has hI.d
    have HI := Lib.hid hI
    by_cases hlt0 : k < len0
    · obtain ⟨b, off, rfl, g0, g1, hbl⟩ := row_at HR0.out hI.e hlt0
      have hx0 : (k : Int) < (len0 : Int) := by omega
      have hx0' : decide ((k : Int) < (len0 : Int)) = true := by simp <;> omega
      by_cases hlt1 : k < len1
      · have hx1 : (k : Int) < (len1 : Int) := by omega
        clear hI HR0
        go_wp2_with fail
        go_region_with (go_at_call 16; refine (does_any w.heap.size ⟨c0, c1, c2, c3⟩ _ _ _ (has_drew HI.out.a)).mono ?_; rintro e w1 ⟨rfl, k1, h1⟩; have hc1 := k1.has (has_drew HI.out.c) (by simp <;> omega); have rc1 := cell_of_has hc1; have fc1 := free_of_has hc1; have K1 := Lib.hid k1; have H1 := Lib.hid h1; clear k1 h1 hc1)
        all_goals
          have HJ := HI.out.stepA K1.out H1.out
          clear K1 H1 HI rc rd rc1 fc1 g0 g1
          go_wp2_with fail
          refine wp_gen (TwoInv w.heap.size w (stepC ⟨c0, c1, c2, c3⟩ (F0 (k * 2)) (F0 (k * 2 + 1))) ⟨d0, d1, d2, d3⟩) HJ ?_
          clear HJ
          intro W2 hI
          obtain ⟨b', off', rfl, g0', g1', hbl'⟩ := row_at HR1.out hI.e hlt1
          have rd := cell_of_has hI.d
          have HI := Lib.hid hI
          clear hI
          go_region_with (go_at_call 16; refine (does_any (w.heap.size + 1) ⟨d0, d1, d2, d3⟩ _ _ _ (has_drew HI.out.b)).mono ?_; rintro e w1 ⟨rfl, k1, h1⟩; have hc1 := k1.has (has_drew HI.out.d) (by simp <;> omega); have rc1 := cell_of_has hc1; have fc1 := free_of_has hc1; have K1 := Lib.hid k1; have H1 := Lib.hid h1; clear k1 h1 hc1)
          all_goals
            have HJ := Lib.hid (HI.out.stepB K1.out H1.out)
            go_wp2_with fail
            go_roundw
            case rel => exact ⟨k + 1, _, _, by omega, by go_num, HJ.out⟩
            case measure => simp [intOf]; omega
      · have hx1 : (len1 : Int) ≤ (k : Int) := by omega
        clear hI HR0 HR1
        go_wp2_with fail
        go_region_with (go_at_call 16; refine (does_any w.heap.size ⟨c0, c1, c2, c3⟩ _ _ _ (has_drew HI.out.a)).mono ?_; rintro e w1 ⟨rfl, k1, h1⟩; have hc1 := k1.has (has_drew HI.out.c) (by simp <;> omega); have rc1 := cell_of_has hc1; have fc1 := free_of_has hc1; have K1 := Lib.hid k1; have H1 := Lib.hid h1; clear k1 h1 hc1)
        all_goals
          have HJ := Lib.hid (HI.out.stepA K1.out H1.out)
          go_wp2_with fail
          go_roundw
          case rel => exact ⟨k + 1, _, _, by omega, by go_num, HJ.out⟩
          case measure => simp [intOf]; omega
    · have hx0 : (len0 : Int) ≤ (k : Int) := by omega
      have hx0' : decide ((k : Int) < (len0 : Int)) = false := by simp <;> omega
      by_cases hlt1 : k < len1
      · obtain ⟨b', off', rfl, g0', g1', hbl'⟩ := row_at HR1.out hI.e hlt1
        have hx1 : (k : Int) < (len1 : Int) := by omega
        clear hI HR0 HR1
        go_wp2_with fail
        go_region_with (go_at_call 16; refine (does_any (w.heap.size + 1) ⟨d0, d1, d2, d3⟩ _ _ _ (has_drew HI.out.b)).mono ?_; rintro e w1 ⟨rfl, k1, h1⟩; have hc1 := k1.has (has_drew HI.out.d) (by simp <;> omega); have rc1 := cell_of_has hc1; have fc1 := free_of_has hc1; have K1 := Lib.hid k1; have H1 := Lib.hid h1; clear k1 h1 hc1)
        all_goals
          have HJ := Lib.hid (HI.out.stepB K1.out H1.out)
          go_wp2_with fail
          go_roundw
          case rel => exact ⟨k + 1, _, _, by omega, by go_num, HJ.out⟩
          case measure => simp [intOf]; omega
      · have hx1 : (len1 : Int) ≤ (k : Int) := by omega
        have hz := Lib.hid hI.e.size
        clear hI HR0 HR1
        go_wp2_with fail
        have tok1 : True := trivial
        go_region_with (first | (go_at_call 18; have _t := tok1; refine (read_any w.heap.size ⟨c0, c1, c2, c3⟩ _ (has_drew HI.out.a)).mono ?_; clear _t tok1; rintro e w1 ⟨rfl, k1⟩; have k1 := Keeps.undrew (Below.keeps k1 []); have rc := cell_of_has (k1.has HI.out.c (by simp)); have rd := cell_of_has (k1.has HI.out.d (by simp)); have K1 := Lib.hid k1; clear k1) | (go_at_call 18; refine (read_any (w.heap.size + 1) ⟨d0, d1, d2, d3⟩ _ (K1.out.has HI.out.b (by simp))).mono ?_; rintro e w2 ⟨rfl, k2⟩; have K2 := Lib.hid (K1.out.trans (Below.keeps k2 [])); have rd := cell_of_has (K2.out.has HI.out.d (by simp)); clear k2) | (go_at_call 15; refine (awake4 _).mono ?_; rintro e w3 ⟨rfl, k3⟩; have K3 := Lib.hid (K2.out.trans (Below.keeps k3 [])); clear k3))
        all_goals
          go_wp2_with fail
          go_ret
          exact ⟨rfl, HI.out.e.trans (K3.out.below HI.out.e.size (by simp))⟩
end Go.Proofs.Ytlpccmokjjldlaa
