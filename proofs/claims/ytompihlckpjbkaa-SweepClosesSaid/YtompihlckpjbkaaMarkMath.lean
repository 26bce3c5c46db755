/- What can be reached from some slots: the plain law (chapter 12). No program in sight. -/
import Derived.Test.YtompihlckpjbkaaSlotRef2
namespace Go.Proofs.Ytompihlckpjbkaa
set_option linter.unusedVariables false

/-- What can be reached. -/
inductive Rch (m : Nat) (T : Nat → Bool) (LL : Nat → List Int) (rs : List Int) : Nat → Prop
  | root {x : Int} : x ∈ rs → isB m T x = true → Rch m T LL rs x.toNat
  | step {i : Nat} {x : Int} : Rch m T LL rs i → x ∈ LL i → isB m T x = true → Rch m T LL rs x.toNat
theorem rch_ex (m : Nat) (T : Nat → Bool) (LL : Nat → List Int) (rs : List Int) : ∃ R : Nat → Bool, ∀ i, R i = true ↔ Rch m T LL rs i :=
  ⟨fun i => @decide _ (Classical.propDecidable (Rch m T LL rs i)), fun i => by simp⟩
theorem isB_lt {m : Nat} {T : Nat → Bool} {x : Int} (h : isB m T x = true) : 0 ≤ x ∧ x < m ∧ x.toNat < m ∧ T x.toNat = true := by
  simp [isB] at h; exact ⟨h.1.1, h.1.2, by omega, h.2⟩
theorem Rch.lt {m : Nat} {T : Nat → Bool} {LL : Nat → List Int} {rs : List Int} {i : Nat} (h : Rch m T LL rs i) : i < m ∧ T i = true := by
  cases h with
  | root _ hb => exact ⟨(isB_lt hb).2.2.1, (isB_lt hb).2.2.2⟩
  | step _ _ hb => exact ⟨(isB_lt hb).2.2.1, (isB_lt hb).2.2.2⟩
theorem Rch.mono {m : Nat} {T : Nat → Bool} {LL : Nat → List Int} {rs qs : List Int} (hs : ∀ x, x ∈ rs → x ∈ qs) {i : Nat} (h : Rch m T LL rs i) : Rch m T LL qs i := by
  induction h with
  | root hx hb => exact .root (hs _ hx) hb
  | step _ hx hb ih => exact .step ih hx hb
theorem cntT_mono {T U : Nat → Bool} {m : Nat} (h : ∀ i, i < m → T i = true → U i = true) : cntT T m ≤ cntT U m := by
  induction m with
  | zero => simp [cntT]
  | succ m ih =>
    have := ih (fun i hi => h i (by omega))
    have h2 := h m (by omega)
    simp only [cntT]
    split <;> rename_i a <;> split <;> rename_i b <;> first | omega | (exact absurd (h2 a) b)

/-- What going through a list of numbers does to what is seen and to the stack. -/
structure Reached (m : Nat) (T : Nat → Bool) (xs : List Int) (Sn : Nat → Bool) (n : Nat) (F : Nat → Nat) (Sn' : Nat → Bool) (n' : Nat) (F' : Nat → Nat) : Prop where
  up : ∀ i, Sn i = true → Sn' i = true
  all : ∀ x, x ∈ xs → isB m T x = true → Sn' x.toNat = true
  only : ∀ i, Sn' i = true → Sn i = true ∨ ∃ x, x ∈ xs ∧ isB m T x = true ∧ x.toNat = i
  le : n ≤ n'
  same : ∀ k, k < n → F' k = F k
  st : ∀ i, Sn' i = true → Sn i = true ∨ ∃ k, n ≤ k ∧ k < n' ∧ F' k = i
  new : ∀ k, n ≤ k → k < n' → Sn' (F' k) = true
  cnt : cntT Sn' m + n = cntT Sn m + n'
theorem Reached.refl (m : Nat) (T : Nat → Bool) (Sn : Nat → Bool) (n : Nat) (F : Nat → Nat) : Reached m T [] Sn n F Sn n F :=
  ⟨fun _ h => h, fun x hx => by simp at hx, fun i h => .inl h, Nat.le_refl _, fun _ _ => rfl, fun _ h => .inl h, fun k h1 h2 => by omega, rfl⟩
theorem Reached.skip {m : Nat} {T : Nat → Bool} {xs : List Int} {Sn : Nat → Bool} {n : Nat} {F : Nat → Nat} {Sn' : Nat → Bool} {n' : Nat} {F' : Nat → Nat} (h : Reached m T xs Sn n F Sn' n' F') (x : Int) (hx : isB m T x = true → Sn' x.toNat = true) :
    Reached m T (xs ++ [x]) Sn n F Sn' n' F' :=
  ⟨h.up, fun y hy hb => by
    rcases List.mem_append.1 hy with hy | hy
    · exact h.all y hy hb
    · simp at hy; subst hy; exact hx hb, fun i hi => (h.only i hi).elim .inl (fun ⟨y, h1, h2⟩ => .inr ⟨y, by simp [h1], h2⟩), h.le, h.same, h.st, h.new, h.cnt⟩
theorem Reached.push {m : Nat} {T : Nat → Bool} {xs : List Int} {Sn : Nat → Bool} {n : Nat} {F : Nat → Nat} {Sn' : Nat → Bool} {n' : Nat} {F' : Nat → Nat} (h : Reached m T xs Sn n F Sn' n' F') (x : Int) (hb : isB m T x = true) (hs : Sn' x.toNat = false) :
    Reached m T (xs ++ [x]) Sn n F (putB Sn' x.toNat true) (n' + 1) (fun k => if k = n' then x.toNat else F' k) := by
  have hle := h.le
  refine ⟨fun i hi => ?_, fun y hy hyb => ?_, fun i hi => ?_, by omega, fun k hk => ?_, fun i hi => ?_, fun k h1 h2 => ?_, ?_⟩
  · unfold putB; split
    · rfl
    · exact h.up i hi
  · unfold putB; split
    · rfl
    · rename_i hne
      rcases List.mem_append.1 hy with hy | hy
      · exact h.all y hy hyb
      · simp at hy; subst hy; exact absurd rfl hne
  · unfold putB at hi
    split at hi
    · rename_i e; exact .inr ⟨x, by simp, hb, e.symm⟩
    · exact (h.only i hi).elim .inl (fun ⟨y, h1, h2⟩ => .inr ⟨y, by simp [h1], h2⟩)
  · rw [if_neg (by omega)]; exact h.same k hk
  · unfold putB at hi
    split at hi
    · rename_i e; exact .inr ⟨n', by omega, by omega, by simp [e]⟩
    · refine (h.st i hi).elim .inl (fun ⟨k, h1, h2, h3⟩ => .inr ⟨k, h1, by omega, ?_⟩)
      rw [if_neg (by omega)]; exact h3
  · unfold putB
    by_cases e : k = n'
    · simp [e]
    · simp only [if_neg e]
      split
      · rfl
      · exact h.new k h1 (by omega)
  · have := cntT_put (T := Sn') (m := m) (i := x.toNat) true (isB_lt hb).2.2.1
    have := h.cnt
    simp [hs] at *
    omega

/-- Between two rounds of the marking. -/
structure MInv (m : Nat) (T : Nat → Bool) (LL : Nat → List Int) (rs : List Int) (Sn : Nat → Bool) (n : Nat) (F : Nat → Nat) : Prop where
  sub : ∀ i, Sn i = true → Rch m T LL rs i
  rt : ∀ x, x ∈ rs → isB m T x = true → Sn x.toNat = true
  stk : ∀ k, k < n → Sn (F k) = true
  cl : ∀ i, Sn i = true → (∃ k, k < n ∧ F k = i) ∨ ∀ x, x ∈ LL i → isB m T x = true → Sn x.toNat = true
theorem MInv.start {m : Nat} {T : Nat → Bool} {LL : Nat → List Int} {rs : List Int} {F : Nat → Nat} {Sn' : Nat → Bool} {n' : Nat} {F' : Nat → Nat} (h : Reached m T rs (fun _ => false) 0 F Sn' n' F') : MInv m T LL rs Sn' n' F' :=
  ⟨fun i hi => (h.only i hi).elim (fun h => by simp at h) (fun ⟨x, h1, h2, h3⟩ => h3 ▸ .root h1 h2), h.all, fun k hk => h.new k (by omega) hk, fun i hi => (h.st i hi).elim (fun h => by simp at h) (fun ⟨k, _, h2, h3⟩ => .inl ⟨k, h2, h3⟩)⟩
theorem MInv.step {m : Nat} {T : Nat → Bool} {LL : Nat → List Int} {rs : List Int} {Sn : Nat → Bool} {n : Nat} {F : Nat → Nat} {Sn' : Nat → Bool} {n' : Nat} {F' : Nat → Nat} (h : MInv m T LL rs Sn (n + 1) F)
    (r : Reached m T (LL (F n)) Sn n F Sn' n' F') : MInv m T LL rs Sn' n' F' := by
  refine ⟨fun i hi => ?_, fun x hx hb => r.up _ (h.rt x hx hb), fun k hk => ?_, fun i hi => ?_⟩
  · rcases r.only i hi with h1 | ⟨x, h1, h2, rfl⟩
    · exact h.sub i h1
    · exact .step (h.sub _ (h.stk n (by omega))) h1 h2
  · by_cases hkn : k < n
    · rw [r.same k hkn]; exact r.up _ (h.stk k (by omega))
    · exact r.new k (by omega) hk
  · rcases r.st i hi with h1 | ⟨k, h1, h2, h3⟩
    · rcases h.cl i h1 with ⟨k, h2, h3⟩ | h2
      · by_cases hkn : k < n
        · exact .inl ⟨k, by have := r.le; omega, by rw [r.same k hkn]; exact h3⟩
        · have : k = n := by omega
          subst this
          right
          rw [← h3]
          exact r.all
      · exact .inr fun x hx hb => r.up _ (h2 x hx hb)
    · exact .inl ⟨k, h2, h3⟩
theorem MInv.done {m : Nat} {T : Nat → Bool} {LL : Nat → List Int} {rs : List Int} {Sn : Nat → Bool} {F : Nat → Nat} (h : MInv m T LL rs Sn 0 F) (i : Nat) : Sn i = true ↔ Rch m T LL rs i := by
  refine ⟨h.sub i, fun hr => ?_⟩
  induction hr with
  | root hx hb => exact h.rt _ hx hb
  | step _ hx hb ih =>
    rcases h.cl _ ih with ⟨k, hk, _⟩ | h2
    · omega
    · exact h2 _ hx hb
/-- A set that has the roots and is closed is all that can be reached. -/
theorem rch_of_closed {m : Nat} {T : Nat → Bool} {LL : Nat → List Int} {rs : List Int} {Sn : Nat → Bool} (sub : ∀ i, Sn i = true → Rch m T LL rs i) (rt : ∀ x, x ∈ rs → isB m T x = true → Sn x.toNat = true)
    (cl : ∀ i, Sn i = true → ∀ x, x ∈ LL i → isB m T x = true → Sn x.toNat = true) (i : Nat) : Sn i = true ↔ Rch m T LL rs i :=
  MInv.done (F := fun _ => 0) ⟨sub, rt, fun k hk => by omega, fun i hi => .inr (cl i hi)⟩ i

/-- A word of a set of numbers. -/
def WordsOK (Sn : Nat → Bool) (nw : Nat) (X : Nat → Nat) : Prop := ∀ j, j < nw → X j < 18446744073709551616 ∧ ∀ b, b < 64 → (X j).testBit b = Sn (64 * j + b)
theorem WordsOK.zero (nw : Nat) : WordsOK (fun _ => false) nw (fun _ => 0) := fun j hj => ⟨by show (0 : Nat) < _; omega, fun b hb => by simp⟩
theorem WordsOK.get {Sn : Nat → Bool} {nw : Nat} {X : Nat → Nat} (h : WordsOK Sn nw X) {i : Nat} (hi : i / 64 < nw) : ((X (i / 64)) >>> (i % 64)) % 2 = if Sn i then 1 else 0 := by
  have h2 := (h _ hi).2 (i % 64) (by omega)
  rw [show 64 * (i / 64) + i % 64 = i by omega, Nat.testBit_eq_decide_div_mod_eq] at h2
  rw [Nat.shiftRight_eq_div_pow, ← h2]
  have := Nat.mod_two_eq_zero_or_one (X (i / 64) / 2 ^ (i % 64))
  rcases this with h | h <;> simp [h]
theorem WordsOK.set {Sn : Nat → Bool} {nw : Nat} {X : Nat → Nat} (h : WordsOK Sn nw X) {i : Nat} (hi : i / 64 < nw) : WordsOK (putB Sn i true) nw (fun j => if j = i / 64 then X j ||| 2 ^ (i % 64) else X j) := by
  intro j hj
  obtain ⟨h1, h2⟩ := h j hj
  by_cases e : j = i / 64
  · subst e
    simp only [if_true]
    refine ⟨?_, fun b hb => ?_⟩
    · have : 2 ^ (i % 64) < 2 ^ 64 := Nat.pow_lt_pow_right (by omega) (Nat.mod_lt _ (by omega))
      exact Nat.or_lt_two_pow (n := 64) h1 this
    · rw [Nat.testBit_or, h2 b hb, Nat.testBit_two_pow]
      unfold putB
      by_cases hbi : b = i % 64
      · subst hbi; simp [show 64 * (i / 64) + i % 64 = i by omega]
      · simp [show ¬ i % 64 = b from fun e => hbi e.symm, show ¬ 64 * (i / 64) + b = i by omega]
  · simp only [if_neg e]
    refine ⟨h1, fun b hb => ?_⟩
    rw [h2 b hb]
    unfold putB
    simp [show ¬ 64 * j + b = i by omega]
end Go.Proofs.Ytompihlckpjbkaa
