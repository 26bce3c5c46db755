/- The numbers of names: a map from texts, in memory (chapter 10). -/
import Derived.Test.YtajmfenfajbakaaGreatShA
import Derived.MapKept
import Derived.Carry
namespace Go.Proofs.YtajmfenfajbakaaGreat
open Go.RowKit
set_option linter.unusedVariables false
set_option linter.unusedSimpArgs false

def numE (i : Nat) (s : ByteArray) : MapEntry := ⟨.string s, .int .i64 i, i⟩
def numL0 : Nat → List ByteArray → List MapEntry
  | _, [] => []
  | i, s :: l => numE i s :: numL0 (i + 1) l
def numO (N : List ByteArray) : Obj := .map (numL0 0 N).toArray N.length
/-- A name's number. -/
def numFrom : Nat → List ByteArray → ByteArray → Option Nat
  | _, [], _ => none
  | i, t :: l, s => if s = t then some i else numFrom (i + 1) l s
def numOf (N : List ByteArray) (s : ByteArray) : Option Nat := numFrom 0 N s
def numI (N : List ByteArray) (s : ByteArray) : Int := match numOf N s with | some i => i | none => -1
theorem numL0_len (i : Nat) (l : List ByteArray) : (numL0 i l).length = l.length := by
  induction l generalizing i with
  | nil => rfl
  | cons s l ih => simp [numL0, ih]
theorem numL0_app (i : Nat) (l : List ByteArray) (s : ByteArray) : numL0 i (l ++ [s]) = numL0 i l ++ [numE (i + l.length) s] := by
  induction l generalizing i with
  | nil => rfl
  | cons t l ih => simp [numL0, ih]; congr 1; omega
theorem bytes_beq10 (a b : ByteArray) : (a == b) = decide (a = b) := by
  by_cases h : a = b
  · rw [decide_eq_true h]; exact (MapKept.bytes_beq a b).2 h
  · rw [decide_eq_false h]
    cases hb : (a == b)
    · rfl
    · exact absurd ((MapKept.bytes_beq a b).1 hb) h
theorem find_num (s : ByteArray) : ∀ (l : List ByteArray) (i j : Nat), Instr.findNow .string (.string s) (numL0 i l) j = some ((numFrom i l s).map fun k => (j + (k - i), .int .i64 k)) := by
  intro l
  induction l with
  | nil => intro i j; rfl
  | cons t l ih =>
    intro i j
    unfold numL0 Instr.findNow
    show (match some (s == t) with | some true => _ | some false => _ | none => _) = _
    rw [bytes_beq10]
    by_cases h : s = t
    · rw [decide_eq_true h]; simp [numFrom, h, numE]
    · rw [decide_eq_false h]
      show Instr.findNow .string (.string s) (numL0 (i + 1) l) (j + 1) = _
      rw [ih]
      simp only [numFrom, if_neg h]
      cases hq : numFrom (i + 1) l s with
      | none => rfl
      | some k =>
        have hk : i + 1 ≤ k := by
          clear ih
          have : ∀ (l : List ByteArray) (a k : Nat), numFrom a l s = some k → a ≤ k := by
            intro l
            induction l with
            | nil => intro a k h; simp [numFrom] at h
            | cons t l ih =>
              intro a k h
              unfold numFrom at h
              split at h
              · simp at h; omega
              · have := ih _ _ h; omega
          exact this l (i + 1) k hq
        simp; omega
theorem run_lookup_num (N : List ByteArray) (s : ByteArray) (b : Nat) (w : World) (hb : w.heap[b]? = some (numO N)) :
    (Instr.lookup 94 (.map (some b)) (.string s) true).run Tryz.prog w = .ok (match numOf N s with | some k => .tuple #[.int .i64 k, .bool true] | none => .tuple #[.int .i64 0, .bool false]) w := by
  unfold numO at hb
  have hk := Tryz.underlying9
  have hc : ∀ e : Bool, (Instr.checkKey e 10000 9 (.string s)).run Tryz.prog w = .ok () w := fun e => MapKept.run_checkKey (k := .string s) hk (by simp [MapKept.IsKey]) _ 9999
  have hf := find_num s N 0 0
  have hf2 : Instr.findNow .string (.string s) (numL0 0 N).toArray.toList 0 = some ((numFrom 0 N s).map fun k => (0 + (k - 0), .int .i64 k)) := by simpa using hf
  unfold numOf
  cases hq : numFrom 0 N s with
  | none =>
    rw [hq] at hf2
    simp [Instr.lookup, run_underlying Tryz.underlying94, MapKept.run_getObj_map hb, hc, MapKept.run_findKey hk hf2, Result.andThen, go_sem]
  | some k =>
    rw [hq] at hf2
    simp [Instr.lookup, run_underlying Tryz.underlying94, MapKept.run_getObj_map hb, hc, MapKept.run_findKey hk hf2, Result.andThen, go_sem]
end Go.Proofs.YtajmfenfajbakaaGreat
