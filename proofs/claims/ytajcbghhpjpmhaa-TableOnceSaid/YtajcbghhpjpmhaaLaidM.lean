/- A table of adds, of which some are killed, in plain numbers (chapter 7's laws). No program in sight. -/
import Derived.Test.YtajcbghhpjpmhaaNumRow
namespace Go.Proofs.Ytajcbghhpjpmhaa
open Go.RowKit
set_option linter.unusedVariables false

/-- The births of the live ones go up, and are below b. -/
structure Born (E : List Ent) (b : Nat) : Prop where
  up : ∀ (i j : Nat) (x y : Ent), i < j → E[i]? = some x → E[j]? = some y → x.live = true → y.live = true → x.birth < y.birth
  lt : ∀ (i : Nat) (x : Ent), E[i]? = some x → x.live = true → x.birth < b
theorem Born.nil (b : Nat) : Born [] b := ⟨fun i j x y _ h => by simp at h, fun i x h => by simp at h⟩
theorem Born.snoc {E : List Ent} {b : Nat} (h : Born E b) (x : Ent) (hx : x.birth = (b : Int)) : Born (E ++ [x]) (b + 1) := by
  have old : ∀ (i : Nat) (y : Ent), (E ++ [x])[i]? = some y → E[i]? = some y ∨ i = E.length ∧ y = x := fun i y hi => by
    by_cases h1 : i < E.length
    · rw [List.getElem?_append_left h1] at hi; exact .inl hi
    · rw [List.getElem?_append_right (by omega)] at hi
      have h2 := (List.getElem?_eq_some_iff.1 hi)
      obtain ⟨h3, h4⟩ := h2
      simp at h3 h4
      exact .inr ⟨by omega, h4.symm⟩
  refine ⟨fun i j y z hij hi hj hy hz => ?_, fun i y hi hy => ?_⟩
  · rcases old i y hi with h1 | ⟨h1, h2⟩
    · rcases old j z hj with h3 | ⟨h3, h4⟩
      · exact h.up i j y z hij h1 h3 hy hz
      · subst h4; rw [hx]; exact h.lt i y h1 hy
    · rcases old j z hj with h3 | ⟨h3, h4⟩
      · have := (List.getElem?_eq_some_iff.1 h3).1; omega
      · omega
  · rcases old i y hi with h1 | ⟨h1, h2⟩
    · have := h.lt i y h1 hy; omega
    · subst h2; omega
theorem Born.live {E : List Ent} {b : Nat} (h : Born E b) : Born (liveL E) b := by
  have sub : ∀ (l : List Ent), l.Sublist E → Born l b := fun l hl => by
    refine ⟨?_, ?_⟩
    · intro i j x y hij hi hj hx hy
      have hp : E.Pairwise fun x y => x.live = true → y.live = true → x.birth < y.birth := by
        rw [List.pairwise_iff_getElem]
        intro i j hi hj hij h1 h2
        exact h.up i j _ _ hij (List.getElem?_eq_getElem hi) (List.getElem?_eq_getElem hj) h1 h2
      have hp2 := hp.sublist hl
      rw [List.pairwise_iff_getElem] at hp2
      obtain ⟨h1, rfl⟩ := List.getElem?_eq_some_iff.1 hi
      obtain ⟨h2, rfl⟩ := List.getElem?_eq_some_iff.1 hj
      exact hp2 i j h1 h2 hij hx hy
    · intro i x hi hx
      obtain ⟨j, hj⟩ := List.getElem?_of_mem (hl.subset (List.mem_of_getElem? hi))
      exact h.lt j x hj hx
  exact sub _ List.filter_sublist
theorem Born.kill {E : List Ent} {b : Nat} (h : Born E b) (n : Nat) : Born (E.set n noE) b := by
  have old : ∀ (i : Nat) (y : Ent), (E.set n noE)[i]? = some y → y.live = true → E[i]? = some y := fun i y hi hy => by
    rw [List.getElem?_set] at hi
    split at hi
    · split at hi
      · simp at hi; rw [← hi] at hy; cases hy
      · cases hi
    · exact hi
  exact ⟨fun i j x y hij hi hj hx hy => h.up i j x y hij (old i x hi hx) (old j y hj hy) hx hy, fun i x hi hx => h.lt i x (old i x hi hx) hx⟩
/-- A live entry stands at one number alone. -/
theorem Born.one {E : List Ent} {b : Nat} (h : Born E b) {n j : Nat} {x : Ent} (hn : E[n]? = some x) (hx : x.live = true) (hj : j < n) : E[j]? ≠ some x := fun e => by
  have := h.up j n x x hj e hn hx hx
  omega
/-- Without number k of the live ones. -/
theorem numL_kill (E : List Ent) : ∀ (i k n : Nat) (x : Ent), (numL E i)[k]? = some (n, x) → liveL (E.set (n - i) noE) = (liveL E).take k ++ (liveL E).drop (k + 1) := by
  induction E with
  | nil => intro i k n x h; simp [numL] at h
  | cons y E ih =>
    intro i k n x h
    unfold numL at h
    by_cases hy : y.live = true
    · rw [if_pos hy] at h
      cases k with
      | zero =>
        simp at h
        obtain ⟨rfl, rfl⟩ := h
        simp [liveL, noE, hy]
      | succ k =>
        simp at h
        have h2 := ih (i + 1) k n x h
        have h3 := (numL_mem (List.mem_of_getElem? h)).1
        simp only at h3
        rw [show n - i = (n - (i + 1)) + 1 by omega, List.set_cons_succ]
        simp only [liveL, List.filter_cons, hy, if_true] at h2 ⊢
        rw [h2]; simp
    · rw [if_neg hy] at h
      have h2 := ih (i + 1) k n x h
      have h3 := (numL_mem (List.mem_of_getElem? h)).1
      simp only at h3
      rw [show n - i = (n - (i + 1)) + 1 by omega, List.set_cons_succ]
      simp only [liveL, List.filter_cons, hy] at h2 ⊢
      simpa using h2
/-- The number of the live entry number k. -/
def nthN (E : List Ent) (k : Nat) : Nat := ((numL E 0).getD k (0, noE)).1
theorem nthN_spec {E : List Ent} {k : Nat} {x : Ent} (h : (liveL E)[k]? = some x) : (numL E 0)[k]? = some (nthN E k, x) ∧ E[nthN E k]? = some x ∧ x.live = true := by
  have hk : k < (numL E 0).length := by rw [numL_len, ← liveL_len]; exact (List.getElem?_eq_some_iff.1 h).1
  obtain ⟨p, hp⟩ : ∃ p, (numL E 0)[k]? = some p := ⟨_, List.getElem?_eq_getElem hk⟩
  have h1 := numL_get hp
  rw [h] at h1
  have h2 : p.2 = x := by simpa using h1.symm
  have h3 : nthN E k = p.1 := by unfold nthN; simp [List.getD, hp]
  obtain ⟨_, _, h6, h7⟩ := numL_mem (List.mem_of_getElem? hp)
  rw [h3, ← h2]
  exact ⟨hp, by simpa using h6, h7⟩
/-- One step of laid: an entry is added; kv: which live one is killed. -/
def laidS (T : Tab) (h : Int) (i : Nat) (kv : Option Int) : Tab := match kv with
  | some v => if 0 ≤ v then (T.add h i (3 * i)).kill (nthN (T.add h i (3 * i)).E (v % (liveN (T.add h i (3 * i)).E : Int)).toNat) else T.add h i (3 * i)
  | none => T.add h i (3 * i)
def killA (K : Nat → Int) (kn i : Nat) : Option Int := if i < kn then some (K i) else none
def laidT (F K : Nat → Int) (kn : Nat) : Nat → Tab
  | 0 => newT
  | i + 1 => laidS (laidT F K kn i) (F i) i (killA K kn i)
theorem add_births (T : Tab) (h k v : Int) : (T.add h k v).births = T.births + 1 := by
  unfold Tab.add Tab.ready
  split <;> rfl
theorem kill_births (T : Tab) (e : Int) : (T.kill e).births = T.births := by unfold Tab.kill; split <;> rfl
theorem liveL_idem (E : List Ent) : liveL (liveL E) = liveL E := by simp [liveL]
theorem ready_live (T : Tab) : liveL T.ready.E = liveL T.E := by
  unfold Tab.ready
  split
  · exact liveL_idem _
  · rfl
theorem ready_births (T : Tab) : T.ready.births = T.births := by unfold Tab.ready; split <;> rfl
theorem add_live (T : Tab) (h k v : Int) : liveL (T.add h k v).E = liveL T.E ++ [⟨true, h, k, v, T.births⟩] := by
  show liveL (T.ready.E ++ [_]) = _
  simp only [liveL, List.filter_append]
  rw [show List.filter (fun x => x.live) T.ready.E = liveL T.E from ready_live T, ready_births]
  rfl
theorem Born.add {T : Tab} (h : Born T.E T.births) (a k v : Int) : Born (T.add a k v).E (T.add a k v).births := by
  rw [add_births]
  show Born (T.ready.E ++ [_]) _
  refine Born.snoc ?_ _ (by show (T.ready.births : Int) = _; rw [ready_births])
  unfold Tab.ready
  split
  · exact h.live
  · exact h
theorem Born.killT {T : Tab} (h : Born T.E T.births) (e : Int) : Born (T.kill e).E (T.kill e).births := by
  rw [kill_births]
  unfold Tab.kill
  split
  · exact h.kill _
  · exact h
structure LaidInv (k : Nat) (T : Tab) : Prop where
  inv : TInv (2 * k) T
  born : Born T.E T.births
  bi : T.births = k
theorem LaidInv.new : LaidInv 0 newT := ⟨TInv.new, Born.nil _, rfl⟩
theorem LaidInv.add {k : Nat} {T : Tab} (h : LaidInv k T) (hk : k ≤ 400) (a v w : Int) : TInv (2 * k + 1) (T.add a v w) ∧ Born (T.add a v w).E (T.add a v w).births ∧ (T.add a v w).births = k + 1 :=
  ⟨h.inv.add (by omega) a v w, h.born.add a v w, by rw [add_births, h.bi]⟩
theorem LaidInv.step {k : Nat} {T : Tab} (h : LaidInv k T) (hk : k ≤ 400) (a : Int) (kv : Option Int) : LaidInv (k + 1) (laidS T a k kv) := by
  obtain ⟨h1, h2, h3⟩ := h.add hk a k (3 * k)
  unfold laidS
  cases kv with
  | none => exact ⟨h1.mono (by omega), h2, h3⟩
  | some v =>
    simp only
    split
    · exact ⟨(h1.kill _).mono (by omega), h2.killT _, by rw [kill_births, h3]⟩
    · exact ⟨h1.mono (by omega), h2, h3⟩
theorem laidT_inv (F K : Nat → Int) (kn : Nat) : ∀ i, i ≤ 400 → LaidInv i (laidT F K kn i)
  | 0, _ => LaidInv.new
  | i + 1, hi => (laidT_inv F K kn i (by omega)).step (by omega) _ _
/-- What a kill of the live one number k leaves. -/
theorem kill_live {T : Tab} {k : Nat} {x : Ent} (h : (liveL T.E)[k]? = some x) : T.ent (nthN T.E k : Nat) = some x ∧ liveL (T.kill (nthN T.E k : Nat)).E = (liveL T.E).take k ++ (liveL T.E).drop (k + 1) := by
  obtain ⟨h1, h2, h3⟩ := nthN_spec h
  have he : T.ent (nthN T.E k : Nat) = some x := by
    unfold Tab.ent
    rw [if_pos (by omega)]
    simp [h2, Option.filter, h3]
  refine ⟨he, ?_⟩
  unfold Tab.kill
  rw [he]
  simp only [Int.toNat_natCast]
  have := numL_kill T.E 0 k _ x h1
  simpa using this
end Go.Proofs.Ytajcbghhpjpmhaa
