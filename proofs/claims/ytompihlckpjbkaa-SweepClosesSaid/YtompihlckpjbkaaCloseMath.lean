/- What is marked is closed: the plain law of the law's own loops (chapter 12). No program in sight. -/
import Derived.Test.YtompihlckpjbkaaSweepMarks
namespace Go.Proofs.Ytompihlckpjbkaa
open Go.RowKit
set_option linter.unusedVariables false

/-- One going over the marked ones: begun at L0; it stands at number i, in whose list it has gone through xs. -/
def LPass (m : Nat) (T : Nat → Bool) (LL : Nat → List Int) (MM : List Nat) (L0 L : Nat → Bool) (i : Nat) (xs : List Int) : Prop :=
  (cntT L0 m < cntT L m) ∨ (L = L0 ∧ (∀ j, j ∈ MM.take i → L0 j = true → ∀ x, x ∈ LL j → isB m T x = true → L0 x.toNat = true) ∧ ∀ x, x ∈ xs → isB m T x = true → L0 x.toNat = true)
section
variable {m : Nat} {T : Nat → Bool} {LL : Nat → List Int} {MM : List Nat} {L0 L : Nat → Bool} {i : Nat} {xs : List Int}
theorem LPass.start : LPass m T LL MM L0 L0 0 [] := .inr ⟨rfl, fun j hj => by simp at hj, fun x hx => by simp at hx⟩
theorem LPass.skip (h : LPass m T LL MM L0 L i xs) (x : Int) (hx : isB m T x = true → L x.toNat = true) : LPass m T LL MM L0 L i (xs ++ [x]) := by
  rcases h with h | ⟨rfl, h3, h4⟩
  · exact .inl h
  · refine .inr ⟨rfl, h3, fun y hy hb => ?_⟩
    rcases List.mem_append.1 hy with hy | hy
    · exact h4 y hy hb
    · simp at hy; subst hy; exact hx hb
theorem LPass.hit (h : LPass m T LL MM L0 L i xs) (x : Int) (hx : isB m T x = true) (hq : L x.toNat = false) (ys : List Int) : LPass m T LL MM L0 (putB L x.toNat true) i ys := by
  have := cntT_put (T := L) (m := m) (i := x.toNat) true (isB_lt hx).2.2.1
  simp [hq] at this
  left
  rcases h with h | ⟨rfl, h3, h4⟩ <;> omega
theorem LPass.row {y : Nat} (h : LPass m T LL MM L0 L i (LL y)) (hy : MM.take (i + 1) = MM.take i ++ [y]) : LPass m T LL MM L0 L (i + 1) [] := by
  rcases h with h | ⟨rfl, h3, h4⟩
  · exact .inl h
  · refine .inr ⟨rfl, fun j hj hq => ?_, fun x hx => by simp at hx⟩
    rw [hy] at hj
    rcases List.mem_append.1 hj with hj | hj
    · exact h3 j hj hq
    · simp at hj; subst hj; exact h4
theorem LPass.norow {y : Nat} (h : LPass m T LL MM L0 L i []) (hq : L y = false) (hy : MM.take (i + 1) = MM.take i ++ [y]) : LPass m T LL MM L0 L (i + 1) [] := by
  rcases h with h | ⟨rfl, h3, h4⟩
  · exact .inl h
  · refine .inr ⟨rfl, fun j hj hj2 => ?_, fun x hx => by simp at hx⟩
    rw [hy] at hj
    rcases List.mem_append.1 hj with hj | hj
    · exact h3 j hj hj2
    · simp at hj; subst hj; rw [hq] at hj2; simp at hj2
end
/-- What holds of what is led to, all the time. -/
structure LInv (m : Nat) (T Q : Nat → Bool) (rs : List Int) (L : Nat → Bool) : Prop where
  sub : ∀ i, L i = true → Q i = true
  rt : ∀ x, x ∈ rs → isB m T x = true → L x.toNat = true
theorem LInv.put {m : Nat} {T Q : Nat → Bool} {rs : List Int} {L : Nat → Bool} (h : LInv m T Q rs L) {j : Nat} (hj : Q j = true) : LInv m T Q rs (putB L j true) :=
  ⟨fun i hi => by
    unfold putB at hi
    split at hi
    · rename_i e; subst e; exact hj
    · exact h.sub i hi, fun x hx hb => by
    unfold putB
    split
    · rfl
    · exact h.rt x hx hb⟩
theorem LInv.snoc {m : Nat} {T Q : Nat → Bool} {rs : List Int} {L : Nat → Bool} (h : LInv m T Q rs L) (x : Int) (hx : isB m T x = true → L x.toNat = true) : LInv m T Q (rs ++ [x]) L :=
  ⟨h.sub, fun y hy hb => by
    rcases List.mem_append.1 hy with hy | hy
    · exact h.rt y hy hb
    · simp at hy; subst hy; exact hx hb⟩
/-- How far the turns are. -/
def Turn (m : Nat) (Q L : Nat → Bool) (t : Nat) : Prop := (∀ i, i < m → Q i = true → L i = true) ∨ t < cntT L m
theorem cntT_zero {L : Nat → Bool} {m : Nat} (h : cntT L m = 0) : ∀ i, i < m → L i = false := by
  induction m with
  | zero => intro i hi; omega
  | succ m ih =>
    intro i hi
    simp only [cntT] at h
    by_cases e : i = m
    · subst e
      by_cases hL : L i = true
      · simp [hL] at h
      · simpa using hL
    · exact ih (by omega) i (by omega)
theorem closed_all {m : Nat} {T Q L : Nat → Bool} {LL : Nat → List Int} {rs : List Int} (hQ : ∀ i, Q i = true ↔ Rch m T LL rs i) (h : LInv m T Q rs L) (cl : ∀ i, L i = true → ∀ x, x ∈ LL i → isB m T x = true → L x.toNat = true) (i : Nat) : Q i = true → L i = true := fun hq =>
  (rch_of_closed (fun i hi => (hQ i).1 (h.sub i hi)) h.rt cl i).2 ((hQ i).1 hq)
theorem Turn.start {m : Nat} {T Q L : Nat → Bool} {LL : Nat → List Int} {rs : List Int} (hQ : ∀ i, Q i = true ↔ Rch m T LL rs i) (h : LInv m T Q rs L) : Turn m Q L 0 := by
  by_cases hc : cntT L m = 0
  · refine .inl fun i hi => closed_all hQ h (fun j hj => ?_) i
    have := (((hQ j).1 (h.sub j hj)).lt).1
    rw [cntT_zero hc j this] at hj
    simp at hj
  · exact .inr (by omega)
theorem Turn.step {m t : Nat} {T Q L0 L : Nat → Bool} {LL : Nat → List Int} {rs : List Int} {N : Nat} (hQ : ∀ i, Q i = true ↔ Rch m T LL rs i) (h0 : LInv m T Q rs L0) (h : LInv m T Q rs L) (ht : Turn m Q L0 t) (hN : cntT Q m ≤ N) (p : LPass m T LL (idxL Q m) L0 L N []) : Turn m Q L (t + 1) := by
  rcases p with p | ⟨rfl, p1, _⟩
  · rcases ht with ht | ht
    · exfalso
      have h1 : cntT L m ≤ cntT Q m := cntT_mono (fun i _ hi => h.sub i hi)
      have h2 : cntT Q m ≤ cntT L0 m := cntT_mono (fun i hi hq => ht i hi hq)
      omega
    · exact .inr (by omega)
  · refine .inl fun i hi => closed_all hQ h (fun j hj => p1 j ?_ hj) i
    rw [List.take_of_length_le (by rw [idxL_len]; exact hN)]
    exact (SL.idxL_mem Q m j).2 ⟨(((hQ j).1 (h.sub j hj)).lt).1, h.sub j hj⟩
theorem Turn.done {m t : Nat} {Q L : Nat → Bool} (h : Turn m Q L t) (ht : cntT Q m ≤ t) (hs : ∀ i, L i = true → Q i = true) : ∀ i, i < m → Q i = true → L i = true := by
  rcases h with h | h
  · exact h
  · have h1 : cntT L m ≤ cntT Q m := cntT_mono (fun i _ hi => hs i hi)
    omega
theorem putB_same {L : Nat → Bool} {j : Nat} (h : L j = true) : putB L j true = L := by funext i; unfold putB; split <;> simp_all

/-- Two sets of flags, behind w. -/
structure CSt (w : World) (m : Nat) (I L : Nat → Bool) (W : World) : Prop where
  kp : Keeps [] w W
  ib : W.heap[w.heap.size]? = some (.cells (flagsA m I) 4 (0, 0))
  lb : W.heap[w.heap.size + 1]? = some (.cells (flagsA m L) 4 (0, 0))
theorem CSt.keeps {w : World} {m : Nat} {I L : Nat → Bool} {W W' : World} (h : CSt w m I L W) (k : Keeps [] W W') : CSt w m I L W' := ⟨h.kp.trans k, k.has h.ib (by simp), k.has h.lb (by simp)⟩
theorem CSt.putI {w : World} {m : Nat} {I L : Nat → Bool} {W : World} (h : CSt w m I L W) (i : Nat) (b : Bool) : CSt w m (putB I i b) L (W.setCell ⟨w.heap.size, i, none⟩ (.bool b)) :=
  have kz : Keeps [w.heap.size] W (W.setCell ⟨w.heap.size, i, none⟩ (.bool b)) := (Keeps.refl [w.heap.size] W).setCell (.inr (by simp)) _
  ⟨h.kp.then kz (by intro z hz; simp at hz; left; omega), by rw [← flagsA_set]; exact has_setCell h.ib i _, kz.has h.lb (by simp)⟩
theorem CSt.putL {w : World} {m : Nat} {I L : Nat → Bool} {W : World} (h : CSt w m I L W) (i : Nat) (b : Bool) : CSt w m I (putB L i b) (W.setCell ⟨w.heap.size + 1, i, none⟩ (.bool b)) :=
  have kz : Keeps [w.heap.size + 1] W (W.setCell ⟨w.heap.size + 1, i, none⟩ (.bool b)) := (Keeps.refl [w.heap.size + 1] W).setCell (.inr (by simp)) _
  ⟨h.kp.then kz (by intro z hz; simp at hz; left; omega), kz.has h.ib (by simp), by rw [← flagsA_set]; exact has_setCell h.lb i _⟩
theorem CSt.congrI {w : World} {m : Nat} {I J L : Nat → Bool} {W : World} (h : CSt w m I L W) (hj : ∀ i, i < m → I i = J i) : CSt w m J L W :=
  ⟨h.kp, by
    have e : flagsA m J = flagsA m I := by
      unfold flagsA
      congr 1
      exact List.map_congr_left fun v hv => by rw [hj v (List.mem_range.1 hv)]
    rw [e]; exact h.ib, h.lb⟩

theorem refIs_still (wb lo : Nat) (S : List Nat) (m : Nat) (V : Nat → Value) (T : Nat → Bool) (i : Int) (b : Bool) (hb : isB m T i = b) (w : World) (H : RefS wb lo S m V T w) :
    Calls Try.prog 35 #[.pointer (some ⟨wb, 0, none⟩), .int .i64 i] w fun e w' => e = .returned (.bool b) ∧ w' = w := by
  obtain ⟨La, Lc, Ta, Tc, h1, h2, h3, h4, rfl⟩ := H
  have c0 := cell_has h1 (i := 0) rfl
  have c1 := cell_has h1 (i := 1) rfl
  by_cases h0 : 0 ≤ i
  · by_cases hm : i < m
    · obtain ⟨g, rfl⟩ := h3.shape (by omega)
      have c2 := h3.cell (k := i.toNat) (by omega)
      have hT : T i.toNat = b := by simpa [isB, h0, hm] using hb
      rw [show flagV T i.toNat = .bool b by simp [flagV, hT]] at c2
      have d1 : decide (0 ≤ i) = true := by simpa using h0
      have d2 : decide (i < m) = true := by simpa using hm
      clear h1 h2 h3 hb hT
      go_enter Try.func35, Try.ntmps35
      go_wp2_with fail
      go_ret
      exact ⟨rfl, rfl⟩
    · have hT : false = b := by simpa [isB, h0, hm] using hb
      subst hT
      have d1 : decide (0 ≤ i) = true := by simpa using h0
      have d2 : decide (i < m) = false := by simpa using hm
      clear h1 h2 h3 hb
      go_enter Try.func35, Try.ntmps35
      go_wp2_with fail
      go_ret
      exact ⟨rfl, rfl⟩
  · have hT : false = b := by simpa [isB, h0] using hb
    subst hT
    have d1 : decide (0 ≤ i) = false := by simpa using h0
    clear h1 h2 h3 hb
    go_enter Try.func35, Try.ntmps35
    go_wp2_with fail
    go_ret
    exact ⟨rfl, rfl⟩
end Go.Proofs.Ytompihlckpjbkaa
