/- The document's Mark (chapter 12). -/
import Derived.Test.YtompihlckpjbkaaMark
namespace Go.Proofs.Ytompihlckpjbkaa
open Go.RowKit
set_option linter.unusedVariables false

/-- Flags in memory. -/
def flagsA (m : Nat) (Q : Nat → Bool) : Array Value := ((List.range m).map fun v => Value.bool (Q v)).toArray
theorem flagsA_size (m : Nat) (Q : Nat → Bool) : (flagsA m Q).size = m := by simp [flagsA]
theorem flagsA_get {m : Nat} {Q : Nat → Bool} {v : Nat} (h : v < m) : (flagsA m Q)[v]? = some (.bool (Q v)) := by simp [flagsA, h]
theorem flagsA_set {m : Nat} {Q : Nat → Bool} {v : Nat} (b : Bool) : (flagsA m Q).setIfInBounds v (.bool b) = flagsA m (putB Q v b) := by
  apply Array.ext_getElem?
  intro i
  rw [Array.getElem?_setIfInBounds]
  by_cases hi : i < m
  · rw [flagsA_get hi, flagsA_size]
    by_cases hv : v = i
    · subst hv; simp [hi, flagsA_get, putB]
    · rw [if_neg hv, flagsA_get hi]; simp [putB, show ¬ i = v from fun e => hv e.symm]
  · have h1 : ∀ C : Nat → Bool, (flagsA m C)[i]? = none := fun C => by simp [flagsA]; omega
    rw [h1, h1]
    split
    · rename_i h; subst h; rw [flagsA_size, if_neg hi]
    · rfl
theorem made_flags (m : Nat) : madeCells #[.bool false] m = flagsA m (fun _ => false) := by
  apply Array.ext_getElem?
  intro i
  by_cases hi : i < m
  · rw [flagsA_get hi]; simp [madeCells, hi, Nat.mod_one]
  · simp [madeCells, flagsA, hi]
theorem make_flags (w : World) (n : Nat) (hn : n ≤ 1048576) : (Instr.makeSlice 26 (.int .i64 (n : Int)) (.int .i64 (n : Int))).run Try.prog w = .ok (.slice (some ⟨w.heap.size, 0, none⟩) n n) (w.alloc (.cells (flagsA n (fun _ => false)) 4)) := by
  obtain ⟨i0, hi, hz0, hz1, hz2⟩ := info_parts infoB
  have h := run_make (P := Try.prog) w 26 4 i0 (.bool false) Try.underlying26 hi hz0 .i64 .i64 (n : Int) (n : Int) (by omega) (Int.le_refl _) (by rw [hz2]; omega) (by omega)
  rw [h, hz1]
  simp only [Int.toNat_natCast, Nat.mul_one]
  rw [show (Value.bool false).cells = #[.bool false] from rfl, made_flags]

/-- One going over all slots: begun at Q0; it stands at slot i, in whose list it has gone through xs. -/
def Pass (m : Nat) (T : Nat → Bool) (LL : Nat → List Int) (Q0 Q : Nat → Bool) (mo : Bool) (i : Nat) (xs : List Int) : Prop :=
  (mo = true ∧ cntT Q0 m < cntT Q m) ∨ (mo = false ∧ Q = Q0 ∧ (∀ j, j < i → Q0 j = true → ∀ x, x ∈ LL j → isB m T x = true → Q0 x.toNat = true) ∧ ∀ x, x ∈ xs → isB m T x = true → Q0 x.toNat = true)
section
variable {m : Nat} {T : Nat → Bool} {LL : Nat → List Int} {Q0 Q : Nat → Bool} {mo : Bool} {i : Nat} {xs : List Int}
theorem Pass.start : Pass m T LL Q0 Q0 false 0 [] := .inr ⟨rfl, rfl, fun j hj => by omega, fun x hx => by simp at hx⟩
theorem Pass.skip (h : Pass m T LL Q0 Q mo i xs) (x : Int) (hx : isB m T x = true → Q x.toNat = true) : Pass m T LL Q0 Q mo i (xs ++ [x]) := by
  rcases h with h | ⟨h1, rfl, h3, h4⟩
  · exact .inl h
  · refine .inr ⟨h1, rfl, h3, fun y hy hb => ?_⟩
    rcases List.mem_append.1 hy with hy | hy
    · exact h4 y hy hb
    · simp at hy; subst hy; exact hx hb
theorem Pass.hit (h : Pass m T LL Q0 Q mo i xs) (x : Int) (hx : isB m T x = true) (hq : Q x.toNat = false) (ys : List Int) : Pass m T LL Q0 (putB Q x.toNat true) true i ys := by
  have := cntT_put (T := Q) (m := m) (i := x.toNat) true (isB_lt hx).2.2.1
  simp [hq] at this
  refine .inl ⟨rfl, ?_⟩
  rcases h with h | ⟨h1, rfl, h3, h4⟩ <;> omega
theorem Pass.row (h : Pass m T LL Q0 Q mo i (LL i)) : Pass m T LL Q0 Q mo (i + 1) [] := by
  rcases h with h | ⟨h1, rfl, h3, h4⟩
  · exact .inl h
  · refine .inr ⟨h1, rfl, fun j hj hq => ?_, fun x hx => by simp at hx⟩
    by_cases e : j = i
    · subst e; exact h4
    · exact h3 j (by omega) hq
theorem Pass.norow (h : Pass m T LL Q0 Q mo i []) (hq : Q i = false) : Pass m T LL Q0 Q mo (i + 1) [] := by
  rcases h with h | ⟨h1, rfl, h3, h4⟩
  · exact .inl h
  · refine .inr ⟨h1, rfl, fun j hj hj2 => ?_, fun x hx => by simp at hx⟩
    by_cases e : j = i
    · subst e; rw [hq] at hj2; simp at hj2
    · exact h3 j (by omega) hj2
end
/-- What holds of the flags all the time. -/
structure RInv (m : Nat) (T : Nat → Bool) (LL : Nat → List Int) (rs ys : List Int) (Q : Nat → Bool) : Prop where
  sub : ∀ i, Q i = true → Rch m T LL rs i
  rt : ∀ x, x ∈ ys → isB m T x = true → Q x.toNat = true
theorem RInv.put {m : Nat} {T : Nat → Bool} {LL : Nat → List Int} {rs ys : List Int} {Q : Nat → Bool} (h : RInv m T LL rs ys Q) {j : Nat} (hj : Rch m T LL rs j) : RInv m T LL rs ys (putB Q j true) :=
  ⟨fun i hi => by
    unfold putB at hi
    split at hi
    · rename_i e; subst e; exact hj
    · exact h.sub i hi, fun x hx hb => by
    unfold putB
    split
    · rfl
    · exact h.rt x hx hb⟩
theorem RInv.snoc {m : Nat} {T : Nat → Bool} {LL : Nat → List Int} {rs ys : List Int} {Q : Nat → Bool} (h : RInv m T LL rs ys Q) (x : Int) (hx : isB m T x = true → Q x.toNat = true) : RInv m T LL rs (ys ++ [x]) Q :=
  ⟨h.sub, fun y hy hb => by
    rcases List.mem_append.1 hy with hy | hy
    · exact h.rt y hy hb
    · simp at hy; subst hy; exact hx hb⟩
end Go.Proofs.Ytompihlckpjbkaa
