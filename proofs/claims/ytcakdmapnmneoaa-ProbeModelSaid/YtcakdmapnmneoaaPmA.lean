/- ProbeModel, its plain law: the sequence of pairs and its scans (chapter 8). No program in sight. -/
import Derived.Test.YtcakdmapnmneoaaDictM
namespace Go.Proofs.Ytcakdmapnmneoaa
open Go.RowKit
set_option linter.unusedVariables false
set_option linter.unusedSimpArgs false

structure Pr8 where
  h : Int
  k : Int
  v : Int
def noP8 : Pr8 := ⟨0, 0, 0⟩
/-- The model: its sequence, how often it was changed, what was asked. -/
structure Ms8 where
  L : List Pr8
  V : Nat
  A : List Int
structure Ac8 where
  n : Int
  c : Int
  h : Int
  k : Int
  v : Int
structure Ca8 where
  g : Int
  h : Int
  k : Int
  v : Int
inductive Sc8 where
  | hit (s : Ms8) (i : Nat)
  | miss (s : Ms8)
  | anew (s : Ms8)
def scanL (ask : Ms8 → Int → Ms8) (one : Int → Int → Bool) (h k : Int) : List Pr8 → Nat → Ms8 → Sc8
  | [], _, s => .miss s
  | x :: R, i, s => if x.h = h then (if x.k = k then .hit s i else if (ask s x.k).V = s.V then (if one x.k k = true then .hit (ask s x.k) i else scanL ask one h k R (i + 1) (ask s x.k)) else .anew (ask s x.k)) else scanL ask one h k R (i + 1) s
def find8 (ask : Ms8 → Int → Ms8) (one : Int → Int → Bool) (h k : Int) : Nat → Ms8 → Option (Ms8 × Option Nat)
  | 0, _ => none
  | n + 1, s => match scanL ask one h k s.L 0 s with
    | .hit s' i => some (s', some i)
    | .miss s' => some (s', none)
    | .anew s' => find8 ask one h k n s'
/-- What is left of a find, when n scans may follow this one. -/
def rest8 (ask : Ms8 → Int → Ms8) (one : Int → Int → Bool) (h k : Int) (n : Nat) : Sc8 → Option (Ms8 × Option Nat)
  | .hit s' i => some (s', some i)
  | .miss s' => some (s', none)
  | .anew s' => find8 ask one h k n s'
theorem find8_succ (ask : Ms8 → Int → Ms8) (one : Int → Int → Bool) (h k : Int) (n : Nat) (s : Ms8) : find8 ask one h k (n + 1) s = rest8 ask one h k n (scanL ask one h k s.L 0 s) := by
  show (match scanL ask one h k s.L 0 s with | .hit s' i => some (s', some i) | .miss s' => some (s', none) | .anew s' => find8 ask one h k n s') = _
  unfold rest8
  split <;> simp_all
/-- The turn of a call and what it changes. -/
def fin8 (most : Int) (c : Ca8) (s : Ms8) : Option Nat → Ms8 × Trn
  | some i => (if c.g = 2 then ⟨s.L.set i ⟨(s.L.getD i noP8).h, (s.L.getD i noP8).k, c.v⟩, s.V + 1, s.A⟩ else if c.g = 3 then ⟨s.L.take i ++ s.L.drop (i + 1), s.V + 1, s.A⟩ else s, ⟨2, 0, true, (s.L.getD i noP8).v, 0⟩)
  | none => if c.g = 1 ∨ c.g = 3 then (s, ⟨2, 0, false, 0, 0⟩) else if most ≤ (s.L.length : Int) then (s, ⟨3, 0, false, 0, 0⟩) else (⟨s.L ++ [⟨c.h, c.k, c.v⟩], s.V + 1, s.A⟩, ⟨2, 0, false, c.v, 0⟩)
def call8 (ask : Ms8 → Int → Ms8) (one : Int → Int → Bool) (most : Int) (c : Ca8) (s : Ms8) : Option (Ms8 × Trn) := (find8 ask one c.h c.k 20 s).map fun r => fin8 most c r.1 r.2
def askIn : Ms8 → Int → Ms8 := fun s _ => s
def act1 (one : Int → Int → Bool) (most : Int) (n : Int) (s : Ms8) (a : Ac8) : Ms8 :=
  if a.n = n then (if a.c = 1 then (call8 askIn one most ⟨2, a.h, a.k, a.v⟩ s).elim s (·.1) else if a.c = 2 then (call8 askIn one most ⟨3, a.h, a.k, 0⟩ s).elim s (·.1) else if a.c = 3 then ⟨[], s.V + 1, s.A⟩ else s) else s
def acts8 (one : Int → Int → Bool) (most : Int) (acts : List Ac8) (s : Ms8) : Ms8 := acts.foldl (act1 one most ((s.A.length : Int) - 1)) s
def askO (one : Int → Int → Bool) (most : Int) (acts : List Ac8) (s : Ms8) (x : Int) : Ms8 := acts8 one most acts ⟨s.L, s.V, s.A ++ [x]⟩
/-- An inner search has one scan. -/
theorem scan_in (one : Int → Int → Bool) (h k : Int) : ∀ (R : List Pr8) (i : Nat) (s : Ms8), (∃ j, scanL askIn one h k R i s = .hit s j) ∨ scanL askIn one h k R i s = .miss s := by
  intro R
  induction R with
  | nil => intro i s; exact .inr rfl
  | cons x R ih =>
    intro i s
    unfold scanL
    split
    · split
      · exact .inl ⟨i, rfl⟩
      · rw [if_pos (show (askIn s x.k).V = s.V from rfl)]
        split
        · exact .inl ⟨i, rfl⟩
        · exact ih (i + 1) s
    · exact ih (i + 1) s
theorem find_in (one : Int → Int → Bool) (h k : Int) (n : Nat) (s : Ms8) : ∃ o, find8 askIn one h k (n + 1) s = some (s, o) := by
  rw [find8_succ]
  rcases scan_in one h k s.L 0 s with ⟨j, e⟩ | e
  · exact ⟨some j, by rw [e]; rfl⟩
  · exact ⟨none, by rw [e]; rfl⟩
theorem call_in (one : Int → Int → Bool) (most : Int) (c : Ca8) (s : Ms8) : ∃ o, call8 askIn one most c s = some (fin8 most c s o) := by
  obtain ⟨o, e⟩ := find_in one c.h c.k 19 s
  exact ⟨o, by unfold call8; rw [e]; rfl⟩
/-- A call changes the version where it changes the sequence. -/
theorem fin8_same (most : Int) (c : Ca8) (s : Ms8) (o : Option Nat) : ((fin8 most c s o).1 = s ∨ (fin8 most c s o).1.V = s.V + 1) ∧ (fin8 most c s o).1.A = s.A ∧ ((fin8 most c s o).1.L.length ≤ s.L.length + 1 ∧ ((fin8 most c s o).1.L.length ≤ s.L.length ∨ (fin8 most c s o).1.V = s.V + 1)) := by
  unfold fin8
  cases o with
  | some i =>
    simp only
    split
    · exact ⟨.inr rfl, rfl, by simp, .inl (by simp)⟩
    · split
      · exact ⟨.inr rfl, rfl, by simp; omega, .inr rfl⟩
      · exact ⟨.inl rfl, rfl, by omega, .inl (Nat.le_refl _)⟩
  | none =>
    simp only
    split
    · exact ⟨.inl rfl, rfl, by simp, .inl (Nat.le_refl _)⟩
    · split
      · exact ⟨.inl rfl, rfl, by simp, .inl (Nat.le_refl _)⟩
      · exact ⟨.inr rfl, rfl, by simp, .inr rfl⟩
/-- One act: the sequence is as it was, or the version is one more. -/
theorem act1_same (one : Int → Int → Bool) (most n : Int) (s : Ms8) (a : Ac8) : (act1 one most n s a = s ∨ (act1 one most n s a).V = s.V + 1 ∧ a.n = n) ∧ (act1 one most n s a).A = s.A ∧ ((act1 one most n s a).L.length + s.V ≤ s.L.length + (act1 one most n s a).V) := by
  unfold act1
  split
  · rename_i hn
    have key : ∀ c : Ca8, ((call8 askIn one most c s).elim s (·.1) = s ∨ ((call8 askIn one most c s).elim s (·.1)).V = s.V + 1 ∧ a.n = n) ∧ ((call8 askIn one most c s).elim s (·.1)).A = s.A ∧ (((call8 askIn one most c s).elim s (·.1)).L.length + s.V ≤ s.L.length + ((call8 askIn one most c s).elim s (·.1)).V) := fun c => by
      obtain ⟨o, e⟩ := call_in one most c s
      rw [e]
      simp only [Option.elim_some]
      obtain ⟨h1, h2, h3, h4⟩ := fin8_same most c s o
      refine ⟨h1.imp id (fun h => ⟨h, hn⟩), h2, ?_⟩
      rcases h4 with h4 | h4
      · rcases h1 with h1 | h1
        · rw [h1]; omega
        · omega
      · omega
    split
    · exact key _
    · split
      · exact key _
      · split
        · exact ⟨.inr ⟨rfl, hn⟩, rfl, by simp; omega⟩
        · exact ⟨.inl rfl, rfl, Nat.le_refl _⟩
  · exact ⟨.inl rfl, rfl, Nat.le_refl _⟩
theorem acts_same (one : Int → Int → Bool) (most n : Int) : ∀ (l : List Ac8) (s : Ms8), (l.foldl (act1 one most n) s = s ∨ s.V < (l.foldl (act1 one most n) s).V) ∧ (l.foldl (act1 one most n) s).A = s.A ∧ (l.foldl (act1 one most n) s).V ≤ s.V + l.countP (fun a => decide (a.n = n)) ∧ (l.foldl (act1 one most n) s).L.length + s.V ≤ s.L.length + (l.foldl (act1 one most n) s).V := by
  intro l
  induction l with
  | nil => intro s; exact ⟨.inl rfl, rfl, Nat.le_refl _, Nat.le_refl _⟩
  | cons a l ih =>
    intro s
    obtain ⟨h1, h2, h3⟩ := act1_same one most n s a
    obtain ⟨g1, g2, g3, g4⟩ := ih (act1 one most n s a)
    rw [List.foldl_cons, List.countP_cons]
    refine ⟨?_, g2.trans h2, ?_, by omega⟩
    · rcases h1 with h1 | ⟨h1, _⟩
      · rw [h1] at g1 ⊢; exact g1
      · right
        rcases g1 with g1 | g1
        · rw [g1]; omega
        · omega
    · rcases h1 with h1 | ⟨h1, h5⟩
      · rw [h1] at g3 ⊢; omega
      · rw [if_pos (by simpa using h5)]; omega
/-- Who is asked changes the sequence with the version alone; how much at most. -/
structure Bd8 (acts : List Ac8) (C B : Nat) (s : Ms8) : Prop where
  v : s.V ≤ C + acts.countP (fun a => decide (a.n < (s.A.length : Int)))
  l : s.L.length ≤ s.V
  a : s.A.length ≤ B
theorem Bd8.mono {acts : List Ac8} {C B C' B' : Nat} {s : Ms8} (h : Bd8 acts C B s) (hC : C ≤ C') (hB : B ≤ B') : Bd8 acts C' B' s := ⟨by have := h.v; omega, h.l, by have := h.a; omega⟩
theorem Bd8.le {acts : List Ac8} {C B : Nat} {s : Ms8} (h : Bd8 acts C B s) : s.V ≤ C + acts.length := by
  have h1 := h.v
  have h2 : acts.countP (fun a => decide (a.n < (s.A.length : Int))) ≤ acts.length := List.countP_le_length
  omega
theorem count_lt_eq (n : Nat) : ∀ l : List Ac8, l.countP (fun a => decide (a.n < (n : Int))) + l.countP (fun a => decide (a.n = (n : Int))) = l.countP (fun a => decide (a.n < ((n + 1 : Nat) : Int))) := by
  intro l
  induction l with
  | nil => rfl
  | cons a l ih =>
    simp only [List.countP_cons, decide_eq_true_eq]
    by_cases h1 : a.n < (n : Int)
    · rw [if_pos h1, if_neg (by omega), if_pos (by omega)]; omega
    · by_cases h2 : a.n = (n : Int)
      · rw [if_neg h1, if_pos h2, if_pos (by omega)]; omega
      · rw [if_neg h1, if_neg h2, if_neg (by omega)]; omega
structure Asks8 (acts : List Ac8) (ask : Ms8 → Int → Ms8) : Prop where
  same : ∀ s x, (ask s x).V = s.V → (ask s x).L = s.L
  bd : ∀ s x C B, Bd8 acts C B s → Bd8 acts C (B + 1) (ask s x)
theorem asks_in (acts : List Ac8) : Asks8 acts askIn := ⟨fun _ _ _ => rfl, fun s x C B h => h.mono (Nat.le_refl _) (by omega)⟩
theorem asks_out (one : Int → Int → Bool) (most : Int) (acts : List Ac8) : Asks8 acts (askO one most acts) := by
  refine ⟨fun s x hv => ?_, fun s x C B h => ?_⟩
  · obtain ⟨h1, h2, h3, h4⟩ := acts_same one most (((s.A ++ [x]).length : Int) - 1) acts ⟨s.L, s.V, s.A ++ [x]⟩
    rcases h1 with h1 | h1
    · show (acts8 _ _ _ _).L = _
      unfold acts8; simp only; rw [h1]
    · have h5 : (askO one most acts s x).V = s.V := hv
      unfold askO acts8 at h5
      simp only at h5 h1
      omega
  · obtain ⟨h1, h2, h3, h4⟩ := acts_same one most (((s.A ++ [x]).length : Int) - 1) acts ⟨s.L, s.V, s.A ++ [x]⟩
    have hn : (((s.A ++ [x]).length : Int) - 1) = (s.A.length : Int) := by simp
    have hA : (askO one most acts s x).A.length = s.A.length + 1 := by
      show (acts8 _ _ _ _).A.length = _
      unfold acts8; simp only; rw [h2]; simp
    have hV : (askO one most acts s x).V ≤ s.V + acts.countP (fun a => decide (a.n = (s.A.length : Int))) := by
      show (acts8 _ _ _ _).V ≤ _
      unfold acts8; simp only; rw [hn] at h3 ⊢; exact h3
    have hL : (askO one most acts s x).L.length + s.V ≤ s.L.length + (askO one most acts s x).V := by
      show (acts8 _ _ _ _).L.length + _ ≤ _ + (acts8 _ _ _ _).V
      unfold acts8; exact h4
    have hc := count_lt_eq s.A.length acts
    have hv := h.v
    have hl := h.l
    have ha := h.a
    exact ⟨by rw [hA, ← hc]; omega, by omega, by omega⟩
theorem Bd8.fin {acts : List Ac8} {C B : Nat} {s : Ms8} (h : Bd8 acts C B s) (most : Int) (c : Ca8) (o : Option Nat) : Bd8 acts (C + 1) B (fin8 most c s o).1 := by
  obtain ⟨h1, h2, h3, h4⟩ := fin8_same most c s o
  have hv := h.v
  have hl := h.l
  refine ⟨?_, ?_, by rw [h2]; exact h.a⟩
  · rw [h2]; rcases h1 with h1 | h1
    · rw [h1]; omega
    · omega
  · rcases h1 with h1 | h1
    · rw [h1]; exact hl
    · omega
theorem scanL_bd {acts : List Ac8} {ask : Ms8 → Int → Ms8} (A : Asks8 acts ask) (one : Int → Int → Bool) (h k : Int) {C : Nat} : ∀ (R : List Pr8) (i : Nat) (s : Ms8) (B : Nat), Bd8 acts C B s → i + R.length = s.L.length →
    (∀ s' j, scanL ask one h k R i s = .hit s' j → Bd8 acts C (B + R.length) s' ∧ j < s'.L.length) ∧ (∀ s', scanL ask one h k R i s = .miss s' → Bd8 acts C (B + R.length) s') ∧ (∀ s', scanL ask one h k R i s = .anew s' → Bd8 acts C (B + R.length) s') := by
  intro R
  induction R with
  | nil => intro i s B hb hi; exact ⟨fun s' j e => (nomatch e), fun s' e => (by cases e; exact hb), fun s' e => (nomatch e)⟩
  | cons x R ih =>
    intro i s B hb hi
    have hl : (x :: R).length = R.length + 1 := rfl
    have ha := A.bd s x.k C B hb
    unfold scanL
    by_cases h1 : x.h = h
    · rw [if_pos h1]
      by_cases h2 : x.k = k
      · rw [if_pos h2]
        exact ⟨fun s' j e => (by cases e; exact ⟨hb.mono (Nat.le_refl _) (by omega), by omega⟩), fun s' e => (nomatch e), fun s' e => (nomatch e)⟩
      · rw [if_neg h2]
        by_cases h3 : (ask s x.k).V = s.V
        · rw [if_pos h3]
          have hL := A.same s x.k h3
          by_cases h4 : one x.k k = true
          · rw [if_pos h4]
            exact ⟨fun s' j e => (by cases e; exact ⟨ha.mono (Nat.le_refl _) (by omega), by rw [hL]; omega⟩), fun s' e => (nomatch e), fun s' e => (nomatch e)⟩
          · rw [if_neg h4]
            obtain ⟨g1, g2, g3⟩ := ih (i + 1) (ask s x.k) (B + 1) ha (by rw [hL]; omega)
            exact ⟨fun s' j e => ⟨(g1 s' j e).1.mono (Nat.le_refl _) (by omega), (g1 s' j e).2⟩, fun s' e => (g2 s' e).mono (Nat.le_refl _) (by omega), fun s' e => (g3 s' e).mono (Nat.le_refl _) (by omega)⟩
        · rw [if_neg h3]
          exact ⟨fun s' j e => (nomatch e), fun s' e => (nomatch e), fun s' e => by cases e; exact ha.mono (Nat.le_refl _) (by omega)⟩
    · rw [if_neg h1]
      obtain ⟨g1, g2, g3⟩ := ih (i + 1) s B hb (by omega)
      exact ⟨fun s' j e => ⟨(g1 s' j e).1.mono (Nat.le_refl _) (by omega), (g1 s' j e).2⟩, fun s' e => (g2 s' e).mono (Nat.le_refl _) (by omega), fun s' e => (g3 s' e).mono (Nat.le_refl _) (by omega)⟩
theorem find8_bd {acts : List Ac8} {ask : Ms8 → Int → Ms8} (A : Asks8 acts ask) (one : Int → Int → Bool) (h k : Int) {C : Nat} (hC : C + acts.length ≤ 100) : ∀ (n : Nat) (s : Ms8) (B : Nat), Bd8 acts C B s → ∀ s' o, find8 ask one h k n s = some (s', o) → Bd8 acts C (B + n * 100) s' ∧ ∀ i, o = some i → i < s'.L.length := by
  intro n
  induction n with
  | zero => intro s B hb s' o e; cases e
  | succ n ih =>
    intro s B hb s' o e
    have hle := hb.le
    have hll := hb.l
    obtain ⟨g1, g2, g3⟩ := scanL_bd A one h k s.L 0 s B hb (by omega)
    rw [find8_succ] at e
    cases hs : scanL ask one h k s.L 0 s with
    | hit s2 j =>
      rw [hs] at e
      cases e
      exact ⟨(g1 _ _ hs).1.mono (Nat.le_refl _) (by omega), fun i hi => by cases hi; exact (g1 _ _ hs).2⟩
    | miss s2 =>
      rw [hs] at e
      cases e
      exact ⟨(g2 _ hs).mono (Nat.le_refl _) (by omega), fun i hi => by cases hi⟩
    | anew s2 =>
      rw [hs] at e
      obtain ⟨h1, h2⟩ := ih s2 (B + s.L.length) (g3 _ hs) s' o e
      exact ⟨h1.mono (Nat.le_refl _) (by omega), h2⟩
end Go.Proofs.Ytcakdmapnmneoaa
