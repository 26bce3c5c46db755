/- SlotsNothing, walked (chapter 11). -/
import Derived.Test.YtompihlckpjbkaaSlotGoes
namespace Go.Proofs.Ytompihlckpjbkaa
open Go.RowKit
open SI
set_option linter.unusedVariables false
attribute [local go_sem ↓] Go.wp_at_zero Go.wp_at_succ

/-- A script of the law's: three numbers a step. -/
def Script (w : World) (a : Option Addr) (n : Nat) (F : Nat → Int) : Prop := ∀ i, i < n → ∃ b off, a = some ⟨b, off, none⟩ ∧ b < w.heap.size ∧ ∀ j, j < 3 → w.cell? ⟨b, off + (i * 3 + j), none⟩ = some (.int .i64 (F (i * 3 + j)))
theorem script_of {w : World} {a : Option Addr} {n : Nat} {F : Nat → Int} (h : IntRow .i64 3 w a n F) : Script w a n F := by
  intro i hi
  rcases h with h0 | ⟨b, off, h1, h2, _, h4⟩
  · omega
  · exact ⟨b, off, h1, h2, fun j hj => (h4 (i * 3 + j) (by omega)).1⟩
theorem Script.below {w w' : World} {a : Option Addr} {n : Nat} {F : Nat → Int} (h : Script w a n F) (b : Below w.heap.size w w') : Script w' a n F := fun i hi => by
  obtain ⟨g, off, h1, h2, h3⟩ := h i hi
  exact ⟨g, off, h1, Nat.lt_of_lt_of_le h2 b.size, fun j hj => (b.cell (p := ⟨g, off + (i * 3 + j), none⟩) h2).trans (h3 j hj)⟩

theorem neq_seq2_nil (f : Fn) (a b : Array Value) (w : World) : (binOp .neq 44 (.func f a b) .nilFunc).run Try.prog w = .ok (.bool true) w := by kernel_rfl

theorem slotsNothing_early (a : Option Addr) (n c : Nat) (w : World) (h : 400 < n) :
    Calls Try.prog 5 #[.slice a n c] w fun e w' => e = .returned (.bool true) ∧ Below w.heap.size w w' := by
  have d1 : decide ((400 : Int) < (n : Int)) = true := by simp; omega
  go_enter Try.func5, Try.ntmps5
  go_wp2_with (go_at_call 12; refine (awake11 _).mono ?_; rintro e w' ⟨rfl, hb⟩)
  go_ret
  exact ⟨rfl, hb⟩

set_option maxRecDepth 100000 in
set_option maxHeartbeats 1000000 in
theorem slotsNothing_main (a : Option Addr) (n c : Nat) (F : Nat → Int) (w : World) (h : n ≤ 400) (hs : Script w a n F) :
    Calls Try.prog 5 #[.slice a n c] w fun e w' => e = .returned (.bool true) ∧ Below w.heap.size w w' := by
  have d1 : decide ((400 : Int) < (n : Int)) = false := by simp; omega
  have HS := Lib.hid hs
  have hn : (n : Int) ≤ 400 := by omega
  clear hs
  go_enter Try.func5, Try.ntmps5
  go_wp2_with fail
  go_loopw [4] (fun i wr => ∃ k : Nat, k ≤ n ∧ i = .int .i64 k ∧ Below w.heap.size w wr) (fun i _ => n - (intOf i).toNat)
  case atStart => exact ⟨0, by omega, rfl, Below.refl _ _⟩
  case round =>
    obtain ⟨k, hk, rfl, hb⟩ := hrel
    have k0 : (0 : Int) ≤ (k : Int) := by omega
    by_cases hlt : k < n
    · have hlt' : (k : Int) < (n : Int) := by omega
      obtain ⟨b, off, rfl, hbb, hcs⟩ := (HS.out.below hb) k hlt
      have e0 := hcs 0 (by omega)
      have e1 := hcs 1 (by omega)
      have e2 := hcs 2 (by omega)
      obtain ⟨A, hA⟩ := ex_hid (F (k * 3 + 0))
      obtain ⟨B, hB⟩ := ex_hid (F (k * 3 + 1))
      obtain ⟨C, hC⟩ := ex_hid (F (k * 3 + 2))
      rw [← hA.out] at e0
      rw [← hB.out] at e1
      rw [← hC.out] at e2
      simp only [Nat.add_zero, ← Nat.add_assoc] at e0 e1 e2
      have HB := Lib.hid hb
      clear hb hcs
      go_wp2_with fail
      refine (nGet _ _).mono ?_
      rintro e w2 ⟨rfl, k2⟩
      have x1 := k2.cell (cell_has (has_new wr (.cells #[.int .i64 A, .int .i64 B, .int .i64 C] 41)) (i := 1) rfl) (by simp)
      have x2 := k2.cell (cell_has (has_new wr (.cells #[.int .i64 A, .int .i64 B, .int .i64 C] 41)) (i := 2) rfl) (by simp)
      have K2 := Lib.hid (HB.out.trans ((((Keeps.refl [] wr).alloc _).trans k2).below HB.out.size (by simp)))
      clear k2
      go_wp2_with fail
      refine (nAdd _ _).mono ?_
      rintro e w3 ⟨rfl, rfl⟩
      go_wp2_with fail
      refine (nSet _ _ _).mono ?_
      rintro e w3 ⟨rfl, rfl⟩
      go_wp2_with fail
      refine (nFree _ _).mono ?_
      rintro e w3 ⟨rfl, rfl⟩
      go_wp2_with fail
      refine (nLen _).mono ?_
      rintro e w3 ⟨rfl, rfl⟩
      go_wp2_with fail
      refine (nHigh _).mono ?_
      rintro e w3 ⟨rfl, rfl⟩
      go_wp2_with fail
      go_roundw
      case rel => exact ⟨k + 1, by omega, by go_num, K2.out⟩
      case measure => simp [intOf]; omega
    · have hge : ¬ (k : Int) < (n : Int) := by omega
      have HB := Lib.hid hb
      have hq := neq_seq2_nil
      clear hb
      go_wp2_with fail
      refine (nAll _).mono ?_
      rintro e w3 ⟨bl, rfl, hbl, zbl, b3⟩
      have BL := Lib.hid hbl
      have B3 := Lib.hid (HB.out.trans (b3.mono HB.out.size))
      clear hbl b3
      go_wp2_with fail
      refine (goes11 bl w3.heap.size 0 [w3.heap.size] 0 0 (fun _ => 0) (fun _ => .slice none 0 0) (fun _ => false) none 0 0 _ (by omega) rfl (has_alloc BL.out _) (fun k hk => by omega) ⟨none, 0, none, 0, has_new _ _, ValRow.nil _ _ _ _, ValRow.nil _ _ _ _, Nat.zero_le _, rfl⟩ (fun i hi => by omega)).mono ?_
      rintro e w4 ⟨rfl, b4⟩
      have B4 := Lib.hid ((B3.out.alloc B3.out.size (.cells #[.slice none 0 0, .slice none 0 0] 38)).trans (b4.mono (by have := B3.out.size; simp; omega)))
      clear b4
      go_wp2_with (go_at_call 12; refine (awake11 _).mono ?_; rintro e w5 ⟨rfl, b5⟩)
      go_ret
      exact ⟨rfl, B4.out.trans (b5.mono B4.out.size)⟩

theorem slotsNothing_walk (a : Option Addr) (n c : Nat) (F : Nat → Int) (w : World) (hr : IntRow .i64 3 w a n F) :
    Calls Try.prog 5 #[.slice a n c] w fun e w' => e = .returned (.bool true) ∧ Below w.heap.size w w' := by
  by_cases h : 400 < n
  · exact slotsNothing_early a n c w h
  · exact slotsNothing_main a n c F w (by omega) (script_of hr)
end Go.Proofs.Ytompihlckpjbkaa
