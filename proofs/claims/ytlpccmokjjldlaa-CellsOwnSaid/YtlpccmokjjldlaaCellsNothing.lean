/- CellsNothing, walked (chapter 6). -/
import Derived.Test.YtlpccmokjjldlaaCellNone
namespace Go.Proofs.Ytlpccmokjjldlaa
open Go.RowKit
set_option linter.unusedVariables false

theorem eql_seq2_nil (f : Fn) (a b : Array Value) (w : World) : (binOp .eql 72 (.func f a b) .nilFunc).run Try.prog w = .ok (.bool false) w := by kernel_rfl

set_option maxRecDepth 100000 in
set_option maxHeartbeats 1000000 in
theorem cellsNothing_walk (i v : Int) (w : World) (_ : (Lit.int .i64 i).wf = true) (_ : (Lit.int .i64 v).wf = true) :
    Calls Try.prog 13 #[.int .i64 i, .int .i64 v] w fun e w' => e = .returned (.bool true) ∧ Below w.heap.size w w' := by
  have hq := eql_seq2_nil
  go_enter Try.func13, Try.ntmps13
  go_wp2_with fail
  have hB := Lib.hid (((Below.refl w.heap.size w).alloc (Nat.le_refl _) (.cells #[.int .i64 0, .nilIface] 86)).alloc (by simp) (.cells #[.pointer none, .pointer (some ⟨w.heap.size, 0, none⟩)] 59))
  go_loopw [7] (fun i wr => ∃ k : Nat, k ≤ 2 ∧ i = .int .i64 k ∧ wr.heap[w.heap.size]? = some (.cells #[.int .i64 0, .nilIface] 86 (0, 0)) ∧ wr.heap[w.heap.size + 1]? = some (.cells #[.pointer none, .pointer (some ⟨w.heap.size, 0, none⟩)] 59 (0, 0)) ∧ Below w.heap.size w wr) (fun i _ => 2 - (intOf i).toNat)
  case atStart => exact ⟨0, by omega, rfl, has_alloc (has_new _ _) _, has_new' _ _ (by simp), hB.out⟩
  case round =>
    obtain ⟨k, hk, rfl, h0, h1, hb⟩ := hrel
    clear hB
    have hk0 : (0 : Int) ≤ (k : Int) := by omega
    by_cases hlt : k < 2
    · have hlt' : (k : Int) < 2 := by omega
      have hp : ∃ p, NoneC p wr ∧ wr.cell? ⟨w.heap.size + 1, k, none⟩ = some (.pointer p) := by
        rcases (show k = 0 ∨ k = 1 by omega) with rfl | rfl
        · exact ⟨none, .inl rfl, cell_has h1 rfl⟩
        · exact ⟨_, .inr ⟨w.heap.size, rfl, h0⟩, cell_has h1 rfl⟩
      obtain ⟨p, hP, c1⟩ := hp
      have HP := Lib.hid hP
      have H0 := Lib.hid h0
      have H1 := Lib.hid h1
      have HB := Lib.hid hb
      clear hP h0 h1 hb
      go_wp2_with fail
      refine (get_n p i _ HP.out).mono ?_
      rintro e w1 ⟨rfl, rfl⟩
      go_wp2_with fail
      refine (all_n p _ HP.out).mono ?_
      rintro e w2 ⟨bl, g, rfl, g1, g2, z1, z2, b2⟩
      have HP2 := Lib.hid (HP.out.below b2)
      have G1 := Lib.hid g1
      have G2 := Lib.hid g2
      have B2 := Lib.hid b2
      clear g1 g2 b2
      go_wp2_with fail
      refine (set_n p i v _ HP2.out).mono ?_
      rintro e w3 ⟨rfl, rfl⟩
      go_wp2_with fail
      refine (alike_n p _ HP2.out).mono ?_
      rintro e w4 ⟨rfl, b4⟩
      have HP4 := Lib.hid (HP2.out.below b4)
      have B4 := Lib.hid b4
      clear b4
      go_wp2_with fail
      refine (bytes_n p _ HP4.out).mono ?_
      rintro e w5 ⟨rfl, b5⟩
      have K := Lib.hid ((Below.keeps B4.out []).trans (Below.keeps b5 []))
      clear b5
      go_wp2_with fail
      refine (goes_any bl g 0 (fun _ => 0) (by omega) none 0 0 _ (K.out.has G1.out (by simp)) (K.out.has G2.out (by simp)) (fun i hi => by omega)).mono ?_
      rintro e w6 ⟨rfl, b6⟩
      have K2 := Lib.hid ((Below.keeps B2.out []).trans (K.out.trans (Below.keeps b6 [])))
      clear b6
      go_wp2_with fail
      go_roundw
      case rel => exact ⟨k + 1, by omega, by go_num, K2.out.has H0.out (by simp), K2.out.has H1.out (by simp), HB.out.trans (K2.out.below HB.out.size (by simp))⟩
      case measure => simp [intOf]; omega
    · have hge : (2 : Int) ≤ (k : Int) := by omega
      have HB := Lib.hid hb
      clear h0 h1 hb
      go_wp2_with (go_at_call 30; refine (awake6 _).mono ?_; rintro e w5 ⟨rfl, b5⟩)
      go_ret
      exact ⟨rfl, HB.out.trans (b5.mono HB.out.size)⟩
end Go.Proofs.Ytlpccmokjjldlaa
