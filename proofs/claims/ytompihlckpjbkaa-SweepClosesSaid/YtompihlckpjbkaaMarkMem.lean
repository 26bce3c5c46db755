/- Sets of numbers in words: has and set (chapter 12). -/
import Derived.Test.YtompihlckpjbkaaMarkMath
import Derived.Test.YtompihlckpjbkaaSlotOpsDL
import Derived.Outline
import Derived.Laws.BitsAllLaws
namespace Go.Proofs.Ytompihlckpjbkaa
open Go.RowKit
set_option linter.unusedVariables false

/-- Words in memory. -/
def wordsA (nw : Nat) (X : Nat → Nat) : Array Value := ((List.range nw).map fun v => Value.int .u64 (X v : Int)).toArray
theorem wordsA_size (nw : Nat) (X : Nat → Nat) : (wordsA nw X).size = nw := by simp [wordsA]
theorem wordsA_get {nw : Nat} {X : Nat → Nat} {v : Nat} (h : v < nw) : (wordsA nw X)[v]? = some (.int .u64 (X v : Int)) := by simp [wordsA, h]
theorem wordsA_set {nw : Nat} {X : Nat → Nat} {v : Nat} (b : Nat) : (wordsA nw X).setIfInBounds v (.int .u64 (b : Int)) = wordsA nw (fun j => if j = v then b else X j) := by
  apply Array.ext_getElem?
  intro i
  rw [Array.getElem?_setIfInBounds]
  by_cases hi : i < nw
  · rw [wordsA_get hi, wordsA_size]
    by_cases hv : v = i
    · subst hv; simp [hi, wordsA_get]
    · rw [if_neg hv, wordsA_get hi, if_neg (fun e => hv e.symm)]
  · have h1 : ∀ C : Nat → Nat, (wordsA nw C)[i]? = none := fun C => by simp [wordsA]; omega
    rw [h1, h1]
    split
    · rename_i h; subst h; rw [wordsA_size, if_neg hi]
    · rfl
theorem made_words (nw : Nat) : madeCells #[.int .u64 0] nw = wordsA nw (fun _ => 0) := by
  apply Array.ext_getElem?
  intro i
  by_cases hi : i < nw
  · rw [wordsA_get hi]; simp [madeCells, hi, Nat.mod_one]
  · simp [madeCells, wordsA, hi]

theorem has_law (x r : Nat) (hx : x < 18446744073709551616) : (bits .and .u64 ((x : Int) / 2 ^ r) 1 == 1) = decide ((x >>> r) % 2 = 1) := by
  have e : (x : Int) / 2 ^ r = ((x / 2 ^ r : Nat) : Int) := by push_cast; rfl
  have hle : x / 2 ^ r ≤ x := Nat.div_le_self _ _
  rw [e, show (1 : Int) = ((1 : Nat) : Int) from rfl, u64_and_nat _ _ (by omega) (by omega), nat_mask1, Nat.shiftRight_eq_div_pow, Bool.eq_iff_iff]
  simp
  omega
theorem or_lt (x r : Nat) (hx : x < 18446744073709551616) (hr : r < 64) : x ||| 2 ^ r < 18446744073709551616 := by
  have : 2 ^ r < 2 ^ 64 := Nat.pow_lt_pow_right (by omega) hr
  exact Nat.or_lt_two_pow (n := 64) hx this
theorem shl_law (r : Nat) (hr : r < 64) : IntKind.u64.wrap ((2 : Int) ^ r) = ((2 ^ r : Nat) : Int) := by
  have : 2 ^ r < 2 ^ 64 := Nat.pow_lt_pow_right (by omega) hr
  have e : ((2 : Int) ^ r) = ((2 ^ r : Nat) : Int) := by push_cast; rfl
  rw [e, IntKind.wrap_u64]
  generalize 2 ^ r = M at *
  omega
theorem or_law (x r : Nat) (hx : x < 18446744073709551616) (hr : r < 64) : bits .or .u64 (x : Int) ((2 ^ r : Nat) : Int) = ((x ||| 2 ^ r : Nat) : Int) := by
  have : 2 ^ r < 2 ^ 64 := Nat.pow_lt_pow_right (by omega) hr
  exact u64_or_nat _ _ hx this

theorem bhas_any (g nw : Nat) (Sn : Nat → Bool) (X : Nat → Nat) (i : Nat) (b : Bool) (hb : Hid (Sn i = b)) (w : World) (hg : w.heap[g]? = some (.cells (wordsA nw X) 98 (0, 0))) (hX : WordsOK Sn nw X) (hi : i / 64 < nw) (him : i ≤ 1000000) :
    Calls Try.prog 55 #[.slice (some ⟨g, 0, none⟩) nw nw, .int .i64 i] w fun e w' => e = .returned (.bool b) ∧ w = w' := by
  have i0 : (0 : Int) ≤ (i : Int) := by omega
  have i1 : (i : Int) ≤ 1000000 := by omega
  obtain ⟨q, hq⟩ := ex_hid (i / 64)
  obtain ⟨r, hr⟩ := ex_hid (i % 64)
  have eq : (i : Int) / 64 = (q : Int) := by rw [hq.out]; omega
  have er : (i : Int) % 64 = (r : Int) := by rw [hr.out]; omega
  have q0 : (0 : Int) ≤ (q : Int) := by omega
  have q1 : (q : Int) < (nw : Int) := by rw [hq.out]; omega
  have r0 : (0 : Int) ≤ (r : Int) := by omega
  have r1 : (r : Int) < 64 := by rw [hr.out]; omega
  have c0 := cell_has hg (wordsA_get (X := X) (v := q) (by omega))
  have HX := Lib.hid hX
  have HI := Lib.hid hi
  obtain ⟨x, hx⟩ := ex_hid (X q)
  rw [← hx.out] at c0
  clear hg hX hi him
  go_enter Try.func55, Try.ntmps55
  go_wp2_with fail
  go_ret
  refine ⟨?_, rfl⟩
  have hq' : q < nw := by rw [hq.out]; exact HI.out
  have h1 := HX.out.get (i := i) HI.out
  rw [← hq.out, ← hr.out, ← hx.out, hb.out] at h1
  show Ending.returned (.bool (bits BinOp.and IntKind.u64 (↑x / 2 ^ r) 1 == 1)) = _
  rw [has_law x r (by rw [hx.out]; exact (HX.out q hq').1), h1]
  cases b <;> rfl

/-- Behind set. -/
def BSetC (g nw : Nat) (Sn : Nat → Bool) (i : Nat) (w : World) (e : Ending) (w' : World) : Prop := e = .returned (.tuple #[]) ∧ Keeps [g] w w' ∧ ∃ X, w'.heap[g]? = some (.cells (wordsA nw X) 98 (0, 0)) ∧ WordsOK (putB Sn i true) nw X
set_option maxHeartbeats 1000000 in
theorem bset_any (g nw : Nat) (Sn : Nat → Bool) (X : Nat → Nat) (i : Nat) (w : World) (hg : w.heap[g]? = some (.cells (wordsA nw X) 98 (0, 0))) (hX : WordsOK Sn nw X) (hi : i / 64 < nw) (him : i ≤ 1000000) :
    Calls Try.prog 56 #[.slice (some ⟨g, 0, none⟩) nw nw, .int .i64 i] w (BSetC g nw Sn i w) := by
  have i0 : (0 : Int) ≤ (i : Int) := by omega
  have i1 : (i : Int) ≤ 1000000 := by omega
  obtain ⟨q, hq⟩ := ex_hid (i / 64)
  obtain ⟨r, hr⟩ := ex_hid (i % 64)
  have eq : (i : Int) / 64 = (q : Int) := by rw [hq.out]; omega
  have er : (i : Int) % 64 = (r : Int) := by rw [hr.out]; omega
  have q0 : (0 : Int) ≤ (q : Int) := by omega
  have q1 : (q : Int) < (nw : Int) := by rw [hq.out]; omega
  have r0 : (0 : Int) ≤ (r : Int) := by omega
  have r1 : (r : Int) < 64 := by rw [hr.out]; omega
  have c0 := cell_has hg (wordsA_get (X := X) (v := q) (by omega))
  have f0 := free_of_has hg q
  have HG := Lib.hid hg
  have HX := Lib.hid hX
  have HI := Lib.hid hi
  have hq' : q < nw := by omega
  obtain ⟨x, hx⟩ := ex_hid (X q)
  have hxl : x < 18446744073709551616 := by rw [hx.out]; exact (hX q hq').1
  rw [← hx.out] at c0
  obtain ⟨p, hp⟩ := ex_hid (2 ^ r)
  have e2 : IntKind.u64.wrap ((2 : Int) ^ r) = (p : Int) := by rw [hp.out]; exact shl_law r (by omega)
  obtain ⟨y, hy⟩ := ex_hid (x ||| 2 ^ r)
  have e3 : bits .or .u64 (x : Int) (p : Int) = (y : Int) := by rw [hp.out, hy.out]; exact or_law x r hxl (by omega)
  clear hg hX hi him hq' hxl
  go_enter Try.func56, Try.ntmps56
  go_wp2_with fail
  go_region
  all_goals
    go_wp2_with fail
    go_end0
    refine ⟨rfl, ((Keeps.refl _ _).drew).setCell (.inr (by simp)) _, _, ?_, HX.out.set HI.out⟩
    have h := has_setCell HG.out q (.int .u64 (y : Int))
    rw [wordsA_set, hy.out, hx.out, hq.out, hr.out] at h
    rw [hy.out, hx.out, hq.out, hr.out]
    rw [show (fun j => if j = i / 64 then X j ||| 2 ^ (i % 64) else X j) = fun j => if j = i / 64 then X (i / 64) ||| 2 ^ (i % 64) else X j from by funext j; split <;> simp_all]
    exact h
end Go.Proofs.Ytompihlckpjbkaa
