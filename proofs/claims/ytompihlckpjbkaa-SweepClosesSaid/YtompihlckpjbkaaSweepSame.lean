/- same: two lists of numbers that read alike (chapter 12). -/
import Derived.Test.YtompihlckpjbkaaSlotOpsI
namespace Go.Proofs.Ytompihlckpjbkaa
open Go.RowKit
set_option linter.unusedVariables false
theorem below_drewn {B : Nat} {a w : World} (h : Below B a w) (q : Nat) : Below B a (w.drewN q) := ⟨h.os, h.tape, h.output, h.size, h.block⟩
/-- A list of numbers that reads as B. -/
def ReadsN (w : World) (a : Option Addr) (n : Nat) (B : Nat → Value) : Prop := ∀ i, i < n → ∃ b off, a = some ⟨b, off, none⟩ ∧ w.cell? ⟨b, off + i, none⟩ = some (B i) ∧ ∃ x, B i = .int .i64 x
theorem ReadsN.below {w w' : World} {a : Option Addr} {n : Nat} {B : Nat → Value} (h : ReadsN w a n B) (hb : Below w.heap.size w w') : ReadsN w' a n B := fun i hi => by
  obtain ⟨b, off, h1, h2, h3⟩ := h i hi
  exact ⟨b, off, h1, (Below.keeps hb []).cell h2 (by simp), h3⟩
theorem same_eq (B : Nat → Value) (a b : Option Addr) (n ca cb : Nat) (w : World) (h1 : ReadsN w a n B) (h2 : ReadsN w b n B) (hn : (n : Int) ≤ 9223372036854775806) :
    Calls Try.prog 29 #[.slice a n ca, .slice b n cb] w fun e w' => e = .returned (.bool true) ∧ Below w.heap.size w w' := by
  have H1 := Lib.hid h1
  have H2 := Lib.hid h2
  clear h1 h2
  go_enter Try.func29, Try.ntmps29
  go_wp2_with fail
  go_loopw [5] (fun i wr => ∃ k : Nat, k ≤ n ∧ i = .int .i64 k ∧ Below w.heap.size w wr) (fun i _ => n - (intOf i).toNat)
  case atStart => exact ⟨0, by omega, rfl, Below.refl _ _⟩
  case round =>
    obtain ⟨k, hk, rfl, hb⟩ := hrel
    have hk0 : (0 : Int) ≤ (k : Int) := by omega
    by_cases hlt : k < n
    · have hlt' : (k : Int) < (n : Int) := by omega
      obtain ⟨b1, o1, rfl, c1, x, hx⟩ := (H1.out.below hb) k hlt
      obtain ⟨b2, o2, rfl, c2, _⟩ := (H2.out.below hb) k hlt
      rw [hx] at c1 c2
      have HB := Lib.hid hb
      clear hb hx H1 H2
      go_wp2_with fail
      go_quiet (fail)
      go_wp2_with fail
      go_roundw
      case rel => exact ⟨k + 1, by omega, by go_num, below_drewn HB.out _⟩
      case measure => simp [intOf]; omega
    · have hge : (n : Int) ≤ (k : Int) := by omega
      have HB := Lib.hid hb
      clear hb H1 H2
      go_wp2_with fail
      go_ret
      exact ⟨rfl, HB.out⟩
end Go.Proofs.Ytompihlckpjbkaa
