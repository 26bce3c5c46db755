/- TableNothing, walked (chapter 7). -/
import Derived.Test.YtajcbghhpjpmhaaTabNil3
import Derived.Test.YtajcbghhpjpmhaaTabAwake
import Derived.Test.YtajcbghhpjpmhaaArgs
namespace Go.Proofs.Ytajcbghhpjpmhaa
open Go.RowKit
set_option linter.unusedVariables false

theorem neq_noE (w : World) : (binOp .neq 32 (.agg #[.bool false, .int .i64 0, .int .i64 0, .int .i64 0, .int .i64 0]) (.agg #[.bool false, .int .i64 0, .int .i64 0, .int .i64 0, .int .i64 0])).run Try.prog w = .ok (.bool false) w := by kernel_rfl
theorem neq_seqE_nil (f : Fn) (a b : Array Value) (w : World) : (binOp .neq 80 (.func f a b) .nilFunc).run Try.prog w = .ok (.bool true) w := by kernel_rfl
theorem tableNothing_early (a : Option Addr) (len cap : Nat) (w : World) (h : 400 < len) :
    Calls Try.prog 12 #[.slice a len cap] w fun e w' => e = .returned (.bool true) ∧ Below w.heap.size w w' := by
  have d1 : decide ((400 : Int) < (len : Int)) = true := by simp; omega
  go_enter Try.func12, Try.ntmps12
  go_wp2_with (go_at_call 13; refine (awake7 _).mono ?_; rintro e w' ⟨rfl, hb⟩)
  go_ret
  exact ⟨rfl, hb⟩

set_option maxRecDepth 100000 in
set_option maxHeartbeats 4000000 in
theorem tableNothing_main (a : Option Addr) (len cap : Nat) (F : Nat → Int) (w : World) (hr : IntRow .i64 5 w a len F) (hl : len ≤ 400) :
    Calls Try.prog 12 #[.slice a len cap] w fun e w' => e = .returned (.bool true) ∧ Below w.heap.size w w' := by
  have d1 : decide ((400 : Int) < (len : Int)) = false := by simp; omega
  have HR := Lib.hid hr
  clear hr
  go_enter Try.func12, Try.ntmps12
  go_wp2_with fail
  go_loopw [5] (fun i wr => ∃ k : Nat, k ≤ len ∧ i = .int .i64 k ∧ Below w.heap.size w wr) (fun i _ => len - (intOf i).toNat)
  case atStart => exact ⟨0, by omega, rfl, Below.refl _ _⟩
  case round =>
    obtain ⟨k, hk, rfl, hB⟩ := hrel
    have hk0 : (0 : Int) ≤ (k : Int) := by omega
    have HB := Lib.hid hB
    by_cases hlt : k < len
    · have hlt' : (k : Int) < (len : Int) := by omega
      have hrow := HR.out.below hB
      rcases hrow with h0 | ⟨b, off, rfl, hb1, hb2, hc⟩
      · omega
      have q0 := (hc (k * 5) (by omega)).1
      have q1 := (hc (k * 5 + 1) (by omega)).1
      have q2 := (hc (k * 5 + 2) (by omega)).1
      have q3 := (hc (k * 5 + 3) (by omega)).1
      have q4 := (hc (k * 5 + 4) (by omega)).1
      obtain ⟨x0, hx0⟩ := ex_hid (F (k * 5))
      obtain ⟨x1, hx1⟩ := ex_hid (F (k * 5 + 1))
      obtain ⟨x2, hx2⟩ := ex_hid (F (k * 5 + 2))
      obtain ⟨x3, hx3⟩ := ex_hid (F (k * 5 + 3))
      obtain ⟨x4, hx4⟩ := ex_hid (F (k * 5 + 4))
      rw [← hx0.out] at q0; rw [← hx1.out] at q1; rw [← hx2.out] at q2; rw [← hx3.out] at q3; rw [← hx4.out] at q4
      rw [← Nat.add_assoc] at q1 q2 q3 q4
      clear hc hB
      have hneq := neq_noE
      go_wp2_with fail
      refine (add_nil x1 x2 x3 _).mono ?_
      rintro r w1 ⟨rfl, b1⟩
      have k1 : Keeps [] (wr.alloc (.cells #[.int .i64 x0, .int .i64 x1, .int .i64 x2, .int .i64 x3, .int .i64 x4] 61)) w1 := Below.keeps b1 []
      have s1 := k1.has (has_new _ _) (by simp)
      have KA := Lib.hid (((Keeps.refl [] wr).alloc _).trans k1)
      have S1 := Lib.hid s1
      have p4 : w1.cell? ⟨wr.heap.size, 4, none⟩ = some (.int .i64 x4) := cell_has s1 (i := 4) rfl
      clear q0 q1 q2 q3 q4 b1 k1 s1
      go_wp2_with fail
      refine (at_nil x4 _).mono ?_
      rintro r w2 ⟨rfl, b2⟩
      have k2 := Below.keeps b2 []
      have KB := Lib.hid (KA.out.trans k2)
      have S2 := Lib.hid (k2.has S1.out (by simp))
      clear b2 k2 p4
      have p1 : ∀ o, (w2.alloc o).cell? ⟨wr.heap.size, 1, none⟩ = some (.int .i64 x1) := fun o => cell_alloc (cell_has S2.out (i := 1) rfl) o
      have p3 : ∀ o, (w2.alloc o).cell? ⟨wr.heap.size, 3, none⟩ = some (.int .i64 x3) := fun o => cell_alloc (cell_has S2.out (i := 3) rfl) o
      have p4 : ∀ o, (w2.alloc o).cell? ⟨wr.heap.size, 4, none⟩ = some (.int .i64 x4) := fun o => cell_alloc (cell_has S2.out (i := 4) rfl) o
      unfold noE Ent.agg
      go_wp2_with (first | (go_at_call 22; refine (next_nil _).mono ?_; rintro r w3 ⟨rfl, rfl⟩) | (go_at_call 35; refine (clear_nil _).mono ?_; rintro r w3 ⟨rfl, rfl⟩) | (go_at_call 36; refine (put_nil _ _ _).mono ?_; rintro r w3 ⟨rfl, rfl⟩))
      refine (kill_nil x4 _).mono ?_
      rintro r w4 ⟨rfl, b4⟩
      have k4 : Keeps [] (w2.alloc (.cells #[.bool false, .int .i64 0, .int .i64 0, .int .i64 0, .int .i64 0] 32)) w4 := Below.keeps b4 []
      have q1 : w4.cell? ⟨wr.heap.size, 1, none⟩ = some (.int .i64 x1) := k4.cell (p1 _) (by simp)
      have KD := Lib.hid ((KB.out.alloc _).trans k4)
      clear p1 p3 p4 b4 k4
      go_wp2_with (first | (go_at_call 24; refine (visited_nil _).mono ?_; rintro r w3 ⟨rfl, rfl⟩) | (go_at_call 17; refine (len_nil _).mono ?_; rintro r w3 ⟨rfl, rfl⟩) | (go_at_call 20; refine (copy_nil _).mono ?_; rintro r w3 ⟨rfl, rfl⟩) | (go_at_call 21; refine (seek_nil _ _).mono ?_; rintro r w3 ⟨rfl, rfl⟩))
      refine (sight_nil _).mono ?_
      rintro r w5 ⟨rfl, b5⟩
      have KE := Lib.hid (KD.out.trans (Below.keeps b5 []))
      clear q1 b5
      unfold noSight
      go_wp2_with fail
      refine (sight_empty _).mono ?_
      rintro r w6 ⟨rfl, b6⟩
      have KF := Lib.hid (HB.out.trans ((KE.out.trans (Below.keeps b6 [])).below HB.out.size (by simp)))
      clear b6
      go_wp2_with fail
      go_roundw
      case rel => exact ⟨k + 1, by omega, by go_num, KF.out⟩
      case measure => simp [intOf]; omega
    · have hge : ¬ (k : Int) < (len : Int) := by omega
      have hq := neq_seqE_nil
      clear hB
      go_wp2_with fail
      refine (all_nil _).mono ?_
      rintro r w1 ⟨rfl, h1, b1⟩
      have H1 := Lib.hid h1
      have B1 := Lib.hid b1
      clear h1 b1
      go_wp2_with fail
      refine (back_nil _).mono ?_
      rintro r w2 ⟨rfl, h2, b2⟩
      have H1' := Lib.hid ((Below.keeps b2 []).has H1.out (by simp))
      have H2 := Lib.hid h2
      have B2 := Lib.hid b2
      clear h2 b2
      go_wp2_with fail
      refine (rnewt_none _).mono ?_
      rintro r w3 ⟨t, q, rfl, h3, _, _, _, b3⟩
      have k3 := Below.keeps b3 []
      have A3 := Lib.hid (k3.has H1'.out (by simp))
      have C3 := Lib.hid (k3.has H2.out (by simp))
      have T3 := Lib.hid h3
      have B3 := Lib.hid b3
      clear h3 k3 b3
      go_wp2_with fail
      refine (goes_empty _ (entersF_of Try.func70 (by kernel_rfl) (by kernel_rfl)) _ t 3 _ _ _ _ _ _ false _ A3.out T3.out (fun v W hW => all1_empty v _ W hW)).mono ?_
      rintro r w4 ⟨rfl, b4⟩
      have C4 := Lib.hid ((Below.keeps b4 []).has C3.out (by simp))
      have T4 := Lib.hid ((Below.keeps b4 []).has T3.out (by simp))
      have B4 := Lib.hid b4
      clear b4
      go_wp2_with fail
      refine (goes_empty _ (entersF_of Try.func71 (by kernel_rfl) (by kernel_rfl)) _ t 3 _ _ _ _ _ _ true _ C4.out T4.out (fun v W hW => back1_empty v _ W hW)).mono ?_
      rintro r w5 ⟨rfl, b5⟩
      have B5 := Lib.hid b5
      clear b5
      go_wp2_with (go_at_call 13; refine (awake7 _).mono ?_; rintro e w6 ⟨rfl, b6⟩)
      go_ret
      have n1 := HB.out.size
      have n2 := B1.out.size
      have n3 := B2.out.size
      have n4 := B3.out.size
      have n5 := B4.out.size
      have n6 := B5.out.size
      exact ⟨rfl, ((((((HB.out.trans (B1.out.mono (by omega))).trans (B2.out.mono (by omega))).trans (B3.out.mono (by omega))).trans (B4.out.mono (by omega))).trans (B5.out.mono (by omega))).trans (b6.mono (by omega)))⟩
theorem tableNothing_walk (a : Option Addr) (len cap : Nat) (F : Nat → Int) (w : World) (hr : IntRow .i64 5 w a len F) :
    Calls Try.prog 12 #[.slice a len cap] w fun e w' => e = .returned (.bool true) ∧ Below w.heap.size w w' := by
  by_cases h : 400 < len
  · exact tableNothing_early a len cap w h
  · exact tableNothing_main a len cap F w hr (by omega)
end Go.Proofs.Ytajcbghhpjpmhaa
