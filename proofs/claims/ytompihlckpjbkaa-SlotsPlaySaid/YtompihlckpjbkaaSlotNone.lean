/- Slots that are none (chapter 11). -/
import Derived.Test.YtompihlckpjbkaaSlotAwake
import Derived.Test.YtompihlckpjbkaaArgs
namespace Go.Proofs.Ytompihlckpjbkaa
open Go.RowKit
open SI
set_option linter.unusedVariables false
attribute [local go_sem ↓] Go.wp_at_zero Go.wp_at_succ

theorem nAdd (v : Int) (w : World) : Calls Try.prog 14 #[.pointer none, .int .i64 v] w fun e w' => e = .returned (.int .i64 (-1)) ∧ w = w' := by
  go_enter Try.func14, Try.ntmps14
  go_wp2_with fail
  go_ret
  exact ⟨rfl, rfl⟩
theorem nHas (i : Int) (w : World) : Calls Try.prog 40 #[.pointer none, .int .i64 i] w fun e w' => e = .returned (.bool false) ∧ w = w' := by
  go_enter Try.func40, Try.ntmps40
  go_wp2_with fail
  go_ret
  exact ⟨rfl, rfl⟩
theorem nGet (i : Int) (w : World) : Calls Try.prog 22 #[.pointer none, .int .i64 i] w fun e w' => e = .returned (.tuple #[.int .i64 0, .bool false]) ∧ Keeps [] w w' := by
  go_enter Try.func22, Try.ntmps22
  go_wp2_with fail
  refine (nHas _ _).mono ?_
  rintro e w1 ⟨rfl, rfl⟩
  go_wp2_with fail
  go_ret2
  exact ⟨rfl, (Keeps.refl _ _).alloc _⟩
theorem nSet (i v : Int) (w : World) : Calls Try.prog 23 #[.pointer none, .int .i64 i, .int .i64 v] w fun e w' => e = .returned (.bool false) ∧ w = w' := by
  go_enter Try.func23, Try.ntmps23
  go_wp2_with fail
  refine (nHas _ _).mono ?_
  rintro e w1 ⟨rfl, rfl⟩
  go_wp2_with fail
  go_ret
  exact ⟨rfl, rfl⟩
theorem nFree (i : Int) (w : World) : Calls Try.prog 17 #[.pointer none, .int .i64 i] w fun e w' => e = .returned (.bool false) ∧ w = w' := by
  go_enter Try.func17, Try.ntmps17
  go_wp2_with fail
  refine (nHas _ _).mono ?_
  rintro e w1 ⟨rfl, rfl⟩
  go_wp2_with fail
  go_ret
  exact ⟨rfl, rfl⟩
theorem nLen (w : World) : Calls Try.prog 16 #[.pointer none] w fun e w' => e = .returned (.int .i64 0) ∧ w = w' := by
  go_enter Try.func16, Try.ntmps16
  go_wp2_with fail
  go_ret
  exact ⟨rfl, rfl⟩
theorem nHigh (w : World) : Calls Try.prog 15 #[.pointer none] w fun e w' => e = .returned (.int .i64 0) ∧ w = w' := by
  go_enter Try.func15, Try.ntmps15
  go_wp2_with fail
  go_ret
  exact ⟨rfl, rfl⟩
theorem nAll (w : World) : Calls Try.prog 20 #[.pointer none] w fun e w' => ∃ bl, e = .returned (.func (.func 47) #[] #[.pointer (some ⟨bl, 0, none⟩)]) ∧ w'.heap[bl]? = some (.cells #[.slice none 0 0] 76 (0, 0)) ∧ w.heap.size ≤ bl ∧ Below w.heap.size w w' := by
  go_enter Try.func20, Try.ntmps20
  go_wp2_with fail
  refine (nHigh _).mono ?_
  rintro e w1 ⟨rfl, rfl⟩
  go_wp2_with fail
  go_loopw [7] (fun i wr => i = .int .i64 0 ∧ wr = w.alloc (.cells #[.slice none 0 0] 76)) (fun _ _ => 0)
  case atStart => exact ⟨rfl, rfl⟩
  case round =>
    obtain ⟨rfl, rfl⟩ := hrel
    go_wp2_with fail
    go_ret
    exact ⟨w.heap.size, rfl, has_new _ _, Nat.le_refl _, (Below.refl _ _).alloc (Nat.le_refl _) _⟩

theorem entersA : EntersG 47 := entersG_of Try.func47 (by kernel_rfl) (by kernel_rfl)
theorem entersY : EntersG 48 := entersG_of Try.func48 (by kernel_rfl) (by kernel_rfl)
/-- The iterator over a list of slots, whatever function it hands them to. -/
theorem sAll1 (f : FuncId) (caps : Array Value) (hf : EntersG f) (bl n : Nat) (a : Option Addr) (cap : Nat) (hn : n ≤ 100000) (I V : Nat → Int) (J Jx : Nat → World → Prop)
    (hJ : ∀ i W W', J i W → Below W.heap.size W W' → J i W')
    (hstep : ∀ i W, i < n → J i W → Calls Try.prog f (#[.int .i64 (I i), .int .i64 (V i)] ++ caps) W fun e W' => (e = .returned (.bool true) ∧ J (i + 1) W') ∨ (e = .returned (.bool false) ∧ Jx (i + 1) W'))
    (hrow : ∀ i W, i < n → J i W → ∃ g, a = some ⟨g, 0, none⟩ ∧ W.cell? ⟨g, i * 2, none⟩ = some (.int .i64 (I i)) ∧ W.cell? ⟨g, i * 2 + 1, none⟩ = some (.int .i64 (V i)))
    (w : World) (h1 : w.cell? ⟨bl, 0, none⟩ = some (.slice a n cap)) (h0 : J 0 w) :
    Calls Try.prog 47 #[.func (.func f) #[] caps, .pointer (some ⟨bl, 0, none⟩)] w fun e w' => e = .returned (.tuple #[]) ∧ (J n w' ∨ ∃ i, 1 ≤ i ∧ i ≤ n ∧ Jx i w') := by
  have HS := Lib.hid hstep
  have HG := Lib.hid hf
  have HR := Lib.hid hrow
  have HJ := Lib.hid hJ
  clear hstep hf hrow hJ
  go_enter Try.func47, Try.ntmps47
  go_wp2_with fail
  clear h1
  go_loopw [7] (fun i wr => ∃ k : Nat, k ≤ n ∧ i = .int .i64 k ∧ J k wr) (fun i _ => n - (intOf i).toNat)
  case atStart => exact ⟨0, by omega, rfl, h0⟩
  case round =>
    obtain ⟨k, hk, rfl, hJk⟩ := hrel
    have k0 : (0 : Int) ≤ (k : Int) := by omega
    by_cases hlt : k < n
    · have hlt' : (k : Int) < (n : Int) := by omega
      obtain ⟨g, rfl, c0, c1⟩ := HR.out k wr hlt hJk
      obtain ⟨x, hx⟩ := ex_hid (I k)
      obtain ⟨y, hy⟩ := ex_hid (V k)
      rw [← hx.out] at c0
      rw [← hy.out] at c1
      have z := World.block_lt_of_cell? _ _ c0
      have hc := HS.out k (wr.alloc (.cells #[.int .i64 (I k), .int .i64 (V k)] 78)) hlt (HJ.out k wr _ hJk ((Below.refl _ _).alloc (Nat.le_refl _) _))
      rw [← hx.out, ← hy.out] at hc
      have HC := Lib.hid hc
      have hrun := fun args W => HG.out args W
      clear hJk hc
      go_wp2_with fail
      refine HC.out.mono ?_
      rintro e W1 (⟨rfl, hJ1⟩ | ⟨rfl, hJ1⟩)
      · have HJ1 := Lib.hid hJ1
        clear hJ1
        go_wp2_with fail
        go_roundw
        case rel => exact ⟨k + 1, by omega, by go_num, HJ1.out⟩
        case measure => simp [intOf]; omega
      · have HJ1 := Lib.hid hJ1
        clear hJ1
        go_wp2_with fail
        refine bodyPost_ret (results_none rfl _ _ _) rfl ?_
        exact ⟨rfl, .inr ⟨k + 1, by omega, by omega, HJ1.out⟩⟩
    · have hge : ¬ (k : Int) < (n : Int) := by omega
      have hke : k = n := by omega
      have HE : Hid (J n wr) := Lib.hid (by rw [← hke]; exact hJk)
      clear hJk hke HS HG HR
      go_wp2_with fail
      go_end0
      exact ⟨rfl, .inl HE.out⟩
end Go.Proofs.Ytompihlckpjbkaa
