/- Both Sets and Gets as one answer (chapter 6). -/
import Derived.Test.YtajcbghhpjpmhaaCellRefT
namespace Go.Proofs.Ytajcbghhpjpmhaa
open Go.RowKit
set_option linter.unusedVariables false

def setE (n : Nat) (i v : Int) : Int := if i < 0 ∨ (n : Int) ≤ i then 5 else if mayB n v then 0 else 1
def setV (n : Nat) (V : Nat → Int) (i v : Int) : Nat → Int := if i < 0 ∨ (n : Int) ≤ i then V else if mayB n v then putN V i.toNat v else V
def getE (n : Nat) (i : Int) : Int := if i < 0 ∨ (n : Int) ≤ i then 5 else 0
def getV (n : Nat) (V : Nat → Int) (i : Int) : Int := if i < 0 ∨ (n : Int) ≤ i then 0 else V i.toNat
theorem setV_fits {n : Nat} {V : Nat → Int} (h : Fits n V) (i v : Int) : Fits n (setV n V i v) := by
  unfold setV
  split
  · exact h
  · split
    · rename_i hv; exact h.put _ hv
    · exact h
theorem setc_any (c r L n : Nat) (V : Nat → Int) (i v : Int) (w : World) (H : CellsAt c r L n V w) (hL : L ≤ 20) (hn : n = 2 ^ L) :
    Calls Try.prog 79 #[.pointer (some ⟨c, 0, none⟩), .int .i64 i, .int .i64 v] w (SetC c r L n (setV n V i v) (setE n i v) w) := by
  have hn1 : n ≤ 1048576 := by rw [hn]; exact pow_le hL
  unfold setV setE
  by_cases h : i < 0 ∨ (n : Int) ≤ i
  · rw [if_pos h, if_pos h]; exact setc_out c r L n V i v w H (by omega)
  · rw [if_neg h, if_neg h]
    cases hv : mayB n v
    · simp only [Bool.false_eq_true, if_false]; exact setc_not c r L n V i v w H hn1 (by omega) (by omega) hv
    · simp only [if_true]; exact setc_in c r L n V i v w H hL hn (by omega) (by omega) hv
theorem getc_any (c r L n : Nat) (V : Nat → Int) (i : Int) (w : World) (H : CellsAt c r L n V w) (hF : Fits n V) (hn1 : n ≤ 1048576) :
    Calls Try.prog 50 #[.pointer (some ⟨c, 0, none⟩), .int .i64 i] w fun e w' => e = .returned (.tuple #[.int .i64 (getV n V i), .int .i64 (getE n i)]) ∧ Below w.heap.size w w' := by
  unfold getV getE
  by_cases h : i < 0 ∨ (n : Int) ≤ i
  · rw [if_pos h, if_pos h]; exact getc_out c r L n V i w H (by omega)
  · rw [if_neg h, if_neg h]; exact getc_in c r L n V i w H hF hn1 (by omega) (by omega)
end Go.Proofs.Ytajcbghhpjpmhaa
