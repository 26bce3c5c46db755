/- A hash table in plain numbers (chapter 7). No program in sight. What a table's calls come to, in plain numbers (chapter 7). No program in sight. Going along a hash's trail, in plain numbers (chapter 7). No program in sight. A search along a trail, in plain numbers (chapter 7's laws). No program in sight. -/
import Derived.Test.YtcakdmapnmneoaaB2
section
namespace Go.Proofs.Ytcakdmapnmneoaa
open Go.RowKit
set_option linter.unusedVariables false

/-- An entry. -/
structure Ent where
  live : Bool
  hash : Int
  key : Int
  val : Int
  birth : Int
deriving DecidableEq
def noE : Ent := ⟨false, 0, 0, 0, 0⟩

/-- The first number below n that fits, else n. -/
def fi (p : Nat → Bool) : Nat → Nat
  | 0 => 0
  | n + 1 => if fi p n < n then fi p n else if p n then n else n + 1
theorem fi_le (p : Nat → Bool) (n : Nat) : fi p n ≤ n := by
  induction n with
  | zero => simp [fi]
  | succ n ih => unfold fi; split; omega; split <;> omega
theorem fi_is {p : Nat → Bool} {n : Nat} (h : fi p n < n) : p (fi p n) = true := by
  induction n with
  | zero => omega
  | succ n ih =>
    unfold fi at h ⊢
    by_cases h1 : fi p n < n
    · rw [if_pos h1]; exact ih h1
    · rw [if_neg h1] at h ⊢
      by_cases h2 : p n = true
      · rw [if_pos h2]; exact h2
      · rw [if_neg h2] at h; omega
theorem fi_min {p : Nat → Bool} {n j : Nat} (h : j < fi p n) : p j = false := by
  induction n with
  | zero => simp [fi] at h
  | succ n ih =>
    unfold fi at h
    by_cases h1 : fi p n < n
    · rw [if_pos h1] at h; exact ih h
    · rw [if_neg h1] at h
      have h3 := fi_le p n
      have h4 : fi p n = n := by omega
      by_cases h2 : p n = true
      · rw [if_pos h2] at h; exact ih (by omega)
      · rw [if_neg h2] at h
        by_cases h5 : j = n
        · subst h5; simpa using h2
        · exact ih (by omega)
theorem fi_at {p : Nat → Bool} {n i : Nat} (hi : i < n) (h : p i = true) : fi p n ≤ i := by
  rcases Nat.lt_or_ge i (fi p n) with h1 | h1
  · rw [fi_min h1] at h; cases h
  · exact h1
theorem fi_congr {p q : Nat → Bool} {n : Nat} (h : ∀ i, i < n → p i = q i) : fi p n = fi q n := by
  induction n with
  | zero => rfl
  | succ n ih => unfold fi; rw [ih fun i hi => h i (by omega), h n (by omega)]
theorem fi_eq {p : Nat → Bool} {n k : Nat} (hk : k < n) (h1 : p k = true) (h2 : ∀ j, j < k → p j = false) : fi p n = k := by
  have := fi_at hk h1
  rcases Nat.lt_or_ge (fi p n) k with h3 | h3
  · have h4 := fi_is (show fi p n < n by omega); rw [h2 _ h3] at h4; cases h4
  · omega

/-- Numbers without a repetition, as many as there are. -/
theorem onto_of_apart (n : Nat) : ∀ f : Nat → Nat, (∀ i, i < n → f i < n) → (∀ i j, i < j → j < n → f i ≠ f j) → ∀ c, c < n → ∃ i, i < n ∧ f i = c := by
  induction n with
  | zero => intro f _ _ c hc; omega
  | succ n ih =>
    intro f h1 h2 c hc
    have hm := h1 n (by omega)
    have h3 := ih (fun i => if f i = n then f n else f i) (fun i hi => by
      have a := h1 i (by omega)
      have b := h2 i n hi (by omega)
      show (if f i = n then f n else f i) < n
      split <;> omega) (fun i j hij hj => by
      have a := h2 i j hij (by omega)
      have b := h2 i n (by omega) (by omega)
      have c := h2 j n hj (by omega)
      show (if f i = n then f n else f i) ≠ (if f j = n then f n else f j)
      split <;> split <;> omega)
    by_cases e : c = f n
    · exact ⟨n, by omega, e.symm⟩
    · by_cases e2 : c = n
      · obtain ⟨i, hi, hf⟩ := h3 (f n) (by omega)
        have b := h2 i n hi (by omega)
        refine ⟨i, by omega, ?_⟩
        by_cases e3 : f i = n
        · omega
        · simp only [if_neg e3] at hf; omega
      · obtain ⟨i, hi, hf⟩ := h3 c (by omega)
        refine ⟨i, by omega, ?_⟩
        by_cases e3 : f i = n
        · simp only [if_pos e3] at hf; omega
        · simp only [if_neg e3] at hf; exact hf
/-- A trail comes to every cell. -/
theorem trC_onto (L h : Nat) (hh : h < 18446744073709551616) (c : Nat) (hc : c < 2 ^ L) : ∃ i, i < 2 ^ L + 13 ∧ trC L h i = c := by
  obtain ⟨i, hi, e⟩ := onto_of_apart (2 ^ L) (fun i => trC L h (13 + i)) (fun i _ => trC_lt _ _ _) (fun i j hij hj => trC_apart L h hh 13 (shN_le h) i j hij hj) c hc
  exact ⟨13 + i, by omega, e⟩

/-- How many below n fit. -/
def cntB (p : Nat → Bool) : Nat → Nat
  | 0 => 0
  | n + 1 => cntB p n + if p n then 1 else 0
theorem cntB_le (p : Nat → Bool) (n : Nat) : cntB p n ≤ n := by
  induction n with
  | zero => simp [cntB]
  | succ n ih => unfold cntB; split <;> omega
theorem cntB_congr {p q : Nat → Bool} {n : Nat} (h : ∀ i, i < n → p i = q i) : cntB p n = cntB q n := by
  induction n with
  | zero => rfl
  | succ n ih => unfold cntB; rw [ih fun i hi => h i (by omega), h n (by omega)]
theorem cntB_put {p q : Nat → Bool} {n c : Nat} (hc : c < n) (h : ∀ i, i ≠ c → p i = q i) : cntB p n + (if q c then 1 else 0) = cntB q n + if p c then 1 else 0 := by
  induction n with
  | zero => omega
  | succ n ih =>
    unfold cntB
    by_cases e : c = n
    · subst e
      rw [cntB_congr (p := p) (q := q) (n := c) fun i hi => h i (by omega)]
      omega
    · have h1 := ih (by omega)
      rw [h n (by omega)]
      omega
theorem cntB_none {p : Nat → Bool} {n : Nat} (h : ∀ i, i < n → p i = false) : cntB p n = 0 := by
  induction n with
  | zero => rfl
  | succ n ih => unfold cntB; rw [ih fun i hi => h i (by omega), h n (by omega)]; rfl
theorem cntB_lt {p : Nat → Bool} {n : Nat} (h : cntB p n < n) : ∃ c, c < n ∧ p c = false := by
  induction n with
  | zero => omega
  | succ n ih =>
    unfold cntB at h
    by_cases e : p n = true
    · rw [if_pos e] at h
      obtain ⟨c, h1, h2⟩ := ih (by omega)
      exact ⟨c, by omega, h2⟩
    · exact ⟨n, by omega, by simpa using e⟩

/-- The trail's first empty cell is number fe of it. -/
def isE (L h : Nat) (V : Nat → Int) (i : Nat) : Bool := V (trC L h i) == -1
def fe (L h : Nat) (V : Nat → Int) : Nat := fi (isE L h V) (2 ^ L + 13)
/-- Number e is laid into the first empty cell of the trail of h. -/
def layV (L h : Nat) (V : Nat → Int) (e : Int) : Nat → Int := if fe L h V < 2 ^ L + 13 then putN V (trC L h (fe L h V)) e else V

/-- What the cells are to the entries. -/
structure CInv (L : Nat) (V : Nat → Int) (E : List Ent) : Prop where
  rng : ∀ c, c < 2 ^ L → V c = -1 ∨ V c = -2 ∨ ∃ e : Nat, e < E.length ∧ V c = e
  one : ∀ (c d e : Nat), c < 2 ^ L → d < 2 ^ L → V c = (e : Int) → V d = (e : Int) → c = d
  dead : ∀ (c e : Nat), c < 2 ^ L → V c = (e : Int) → ∃ x, E[e]? = some x ∧ x.live = true
  pos : ∀ (e : Nat) (x : Ent), E[e]? = some x → x.live = true → ∃ i, i < 2 ^ L + 13 ∧ V (trC L (uh x.hash) i) = e ∧ ∀ j, j < i → V (trC L (uh x.hash) j) ≠ -1
  ord : ∀ (e f : Nat) (x y : Ent), E[e]? = some x → E[f]? = some y → x.live = true → y.live = true → x.hash = y.hash → e < f → ∀ i, V (trC L (uh x.hash) i) = f → ∃ j, j < i ∧ V (trC L (uh x.hash) j) = e
  cnt : cntB (fun c => V c != -1) (2 ^ L) = E.length
  gone : cntB (fun c => V c == -2) (2 ^ L) = E.countP (fun x => !x.live)

theorem CInv.start (L : Nat) : CInv L (begun (2 ^ L)) [] := by
  have hb : ∀ c, c < 2 ^ L → begun (2 ^ L) c = -1 := fun c hc => by simp [begun, hc]
  refine ⟨fun c hc => .inl (hb c hc), fun c d e hc _ h _ => ?_, fun c e hc h => ?_, fun e x h => by simp at h, fun e f x y h => by simp at h, ?_, ?_⟩
  · rw [hb c hc] at h; omega
  · rw [hb c hc] at h; omega
  · exact cntB_none fun i hi => by simp [hb i hi]
  · simpa using cntB_none fun i hi => by simp [hb i hi]

theorem CInv.fe_lt {L : Nat} {V : Nat → Int} {E : List Ent} (h : CInv L V E) (hl : E.length < 2 ^ L) (hv : Int) : fe L (uh hv) V < 2 ^ L + 13 := by
  obtain ⟨c, hc, hp⟩ := cntB_lt (p := fun c => V c != -1) (n := 2 ^ L) (by rw [h.cnt]; exact hl)
  obtain ⟨i, hi, e⟩ := trC_onto L (uh hv) (uh_lt hv) c hc
  have := fi_at (p := isE L (uh hv) V) hi (by simp only [isE, e]; simpa using hp)
  unfold fe; omega
theorem CInv.fe_is {L : Nat} {V : Nat → Int} {E : List Ent} (h : CInv L V E) (hl : E.length < 2 ^ L) (hv : Int) : V (trC L (uh hv) (fe L (uh hv) V)) = -1 := by
  have := fi_is (p := isE L (uh hv) V) (h.fe_lt hl hv)
  simp only [isE, beq_iff_eq] at this; exact this
theorem fe_before {L h : Nat} {V : Nat → Int} {j : Nat} (hj : j < fe L h V) : V (trC L h j) ≠ -1 := by
  have := fi_min (p := isE L h V) hj
  simpa [isE] using this
theorem CInv.layV {L : Nat} {V : Nat → Int} {E : List Ent} (h : CInv L V E) (hl : E.length < 2 ^ L) (hv : Int) (e : Int) : layV L (uh hv) V e = putN V (trC L (uh hv) (fe L (uh hv) V)) e := by
  unfold Go.Proofs.Ytcakdmapnmneoaa.layV; rw [if_pos (h.fe_lt hl hv)]

theorem CInv.lay {L : Nat} {V : Nat → Int} {E : List Ent} (h : CInv L V E) (hl : E.length < 2 ^ L) (x : Ent) (hx : x.live = true) : CInv L (Go.Proofs.Ytcakdmapnmneoaa.layV L (uh x.hash) V E.length) (E ++ [x]) := by
  rw [h.layV hl]
  have hq := h.fe_is hl x.hash
  have hb : ∀ j, j < fe L (uh x.hash) V → V (trC L (uh x.hash) j) ≠ -1 := fun j hj => fe_before hj
  have hn := h.fe_lt hl x.hash
  generalize hk : fe L (uh x.hash) V = k at *
  have hc := trC_lt L (uh x.hash) k
  generalize hcc : trC L (uh x.hash) k = c at *
  have new : ∀ d, putN V c (E.length : Int) d = if d = c then (E.length : Int) else V d := fun d => rfl
  have old : ∀ (e : Nat) (y : Ent), (E ++ [x])[e]? = some y → e < E.length ∧ E[e]? = some y ∨ e = E.length ∧ y = x := fun e y he => by
    by_cases h1 : e < E.length
    · rw [List.getElem?_append_left h1] at he; exact .inl ⟨h1, he⟩
    · rw [List.getElem?_append_right (by omega)] at he
      have h2 := List.getElem?_eq_some_iff.1 he
      obtain ⟨h3, h4⟩ := h2
      simp at h3 h4
      exact .inr ⟨by omega, h4.symm⟩
  refine ⟨fun d hd => ?_, fun d d' e hd hd' e1 e2 => ?_, fun d e hd e1 => ?_, fun e y he hy => ?_, fun e f y z he hf hy hz hyz hef i hi => ?_, ?_, ?_⟩
  · rw [new]
    split
    · exact .inr (.inr ⟨E.length, by simp, rfl⟩)
    · rcases h.rng d hd with h1 | h1 | ⟨e, h1, h2⟩
      · exact .inl h1
      · exact .inr (.inl h1)
      · exact .inr (.inr ⟨e, by simp; omega, h2⟩)
  · rw [new] at e1 e2
    by_cases h1 : d = c
    · by_cases h2 : d' = c
      · omega
      · rw [if_pos h1] at e1; rw [if_neg h2] at e2
        obtain ⟨y, h3, _⟩ := h.dead d' e hd' e2
        have := (List.getElem?_eq_some_iff.1 h3).1
        omega
    · rw [if_neg h1] at e1
      by_cases h2 : d' = c
      · rw [if_pos h2] at e2
        obtain ⟨y, h3, _⟩ := h.dead d e hd e1
        have := (List.getElem?_eq_some_iff.1 h3).1
        omega
      · rw [if_neg h2] at e2
        exact h.one d d' e hd hd' e1 e2
  · rw [new] at e1
    by_cases h1 : d = c
    · rw [if_pos h1] at e1
      have : e = E.length := by omega
      subst this
      exact ⟨x, by simp, hx⟩
    · rw [if_neg h1] at e1
      obtain ⟨y, h3, h4⟩ := h.dead d e hd e1
      exact ⟨y, by rw [List.getElem?_append_left (List.getElem?_eq_some_iff.1 h3).1]; exact h3, h4⟩
  · rcases old e y he with ⟨h1, h2⟩ | ⟨rfl, rfl⟩
    · obtain ⟨i, hi, h3, h4⟩ := h.pos e y h2 hy
      refine ⟨i, hi, ?_, fun j hj => ?_⟩
      · rw [new, if_neg (fun e5 => by rw [e5, hq] at h3; omega)]; exact h3
      · rw [new]; split
        · omega
        · exact h4 j hj
    · refine ⟨k, hn, ?_, fun j hj => ?_⟩
      · rw [new, if_pos hcc]
      · rw [new]; split
        · omega
        · exact hb j hj
  · rw [new] at hi
    rcases old e y he with ⟨h1, h2⟩ | ⟨rfl, rfl⟩
    · rcases old f z hf with ⟨h3, h4⟩ | ⟨rfl, rfl⟩
      · have h5 : V (trC L (uh y.hash) i) = f := by
          by_cases h6 : trC L (uh y.hash) i = c
          · rw [if_pos h6] at hi; omega
          · rw [if_neg h6] at hi; exact hi
        obtain ⟨j, hj, h7⟩ := h.ord e f y z h2 h4 hy hz hyz hef i h5
        exact ⟨j, hj, by rw [new, if_neg (fun e5 => by rw [e5, hq] at h7; omega)]; exact h7⟩
      · have h5 : trC L (uh y.hash) i = c := by
          by_cases h6 : trC L (uh y.hash) i = c
          · exact h6
          · rw [if_neg h6] at hi
            obtain ⟨y', h7, _⟩ := h.dead _ E.length (trC_lt _ _ _) hi
            simp at h7
        obtain ⟨j, hj, h6, h7⟩ := h.pos e y h2 hy
        have hk1 : k ≤ i := by
          rcases Nat.lt_or_ge i k with h8 | h8
          · exact absurd (by rw [← hyz, h5]; exact hq) (hb i h8)
          · exact h8
        have hk2 : j < k := by
          rcases Nat.lt_or_ge j k with h8 | h8
          · exact h8
          · rcases Nat.lt_or_ge k j with h9 | h9
            · exact absurd (by rw [hyz, hcc]; exact hq) (h7 k h9)
            · have : j = k := by omega
              subst this
              rw [hyz, hcc, hq] at h6; omega
        exact ⟨j, by omega, by rw [new, if_neg (fun e5 => by rw [e5, hq] at h6; omega)]; exact h6⟩
    · have := (List.getElem?_eq_some_iff.1 hf).1
      simp at this; omega
  · have h1 := cntB_put (p := fun d => putN V c (E.length : Int) d != -1) (q := fun d => V d != -1) hc fun i hi => by show (putN V c (E.length : Int) i != -1) = _; rw [new, if_neg hi]
    simp only [new, if_pos, hq, h.cnt] at h1
    have e1 : (((E.length : Nat) : Int) != -1) = true := by simp
    rw [e1] at h1
    simp at h1 ⊢
    simpa [new] using h1
  · have h1 := cntB_put (p := fun d => putN V c (E.length : Int) d == -2) (q := fun d => V d == -2) hc fun i hi => by show (putN V c (E.length : Int) i == -2) = _; rw [new, if_neg hi]
    simp only [new, if_pos, hq, h.gone] at h1
    have e1 : (((E.length : Nat) : Int) == -2) = false := by simp
    rw [e1] at h1
    simp at h1
    rw [List.countP_append, List.countP_singleton, hx]
    simpa [new] using h1

theorem CInv.kill {L : Nat} {V : Nat → Int} {E : List Ent} (h : CInv L V E) (e : Nat) (x : Ent) (he : E[e]? = some x) (hx : x.live = true) (c : Nat) (hc : c < 2 ^ L) (hv : V c = e) : CInv L (putN V c (-2)) (E.set e noE) := by
  have new : ∀ d, putN V c (-2) d = if d = c then -2 else V d := fun d => rfl
  have hel := (List.getElem?_eq_some_iff.1 he).1
  have old : ∀ (f : Nat) (y : Ent), (E.set e noE)[f]? = some y → y.live = true → f ≠ e ∧ E[f]? = some y := fun f y hf hy => by
    rw [List.getElem?_set] at hf
    by_cases h1 : e = f
    · subst h1; rw [if_pos rfl] at hf; split at hf
      · simp at hf; rw [← hf] at hy; cases hy
      · omega
    · rw [if_neg h1] at hf; exact ⟨fun q => h1 q.symm, hf⟩
  have oth : ∀ d (f : Nat), d < 2 ^ L → f ≠ e → V d = f → putN V c (-2) d = f := fun d f hd hf hv' => by
    rw [new, if_neg (fun q => by rw [q, hv] at hv'; omega)]; exact hv'
  refine ⟨fun d hd => ?_, fun d d' f hd hd' e1 e2 => ?_, fun d f hd e1 => ?_, fun f y hf hy => ?_, fun f g y z hf hg hy hz hyz hfg i hi => ?_, ?_, ?_⟩
  · rw [new]
    split
    · exact .inr (.inl rfl)
    · simpa using h.rng d hd
  · rw [new] at e1 e2
    split at e1
    · omega
    · split at e2
      · omega
      · exact h.one d d' f hd hd' e1 e2
  · rw [new] at e1
    split at e1
    · omega
    · rename_i hdc
      obtain ⟨y, h3, h4⟩ := h.dead d f hd e1
      have : f ≠ e := fun q => hdc (h.one d c e hd hc (q ▸ e1) hv)
      exact ⟨y, by rw [List.getElem?_set_ne (fun q => this q.symm)]; exact h3, h4⟩
  · obtain ⟨h1, h2⟩ := old f y hf hy
    obtain ⟨i, hi, h3, h4⟩ := h.pos f y h2 hy
    refine ⟨i, hi, oth _ _ (trC_lt _ _ _) h1 h3, fun j hj => ?_⟩
    rw [new]; split
    · omega
    · exact h4 j hj
  · obtain ⟨h1, h2⟩ := old f y hf hy
    obtain ⟨h3, h4⟩ := old g z hg hz
    have h5 : V (trC L (uh y.hash) i) = g := by
      rw [new] at hi
      split at hi
      · omega
      · exact hi
    obtain ⟨j, hj, h6⟩ := h.ord f g y z h2 h4 hy hz hyz hfg i h5
    exact ⟨j, hj, oth _ _ (trC_lt _ _ _) h1 h6⟩
  · have h1 := cntB_put (p := fun d => putN V c (-2) d != -1) (q := fun d => V d != -1) hc fun i hi => by show (putN V c (-2) i != -1) = _; rw [new, if_neg hi]
    have e1 : (((e : Nat) : Int) != -1) = true := by simp
    simp only [new, if_pos, hv, h.cnt, e1] at h1
    simp at h1 ⊢
    simpa [new] using h1
  · have h1 := cntB_put (p := fun d => putN V c (-2) d == -2) (q := fun d => V d == -2) hc fun i hi => by show (putN V c (-2) i == -2) = _; rw [new, if_neg hi]
    have e1 : (((e : Nat) : Int) == -2) = false := by simp
    simp only [new, if_pos, hv, h.gone, e1] at h1
    simp at h1
    rw [List.countP_set hel]
    have e2 : E[e].live = true := by
      have := (List.getElem?_eq_some_iff.1 he).2; rw [this]; exact hx
    simp [e2, noE]
    simpa [new] using h1
attribute [irreducible] layV fe fi cntB
end Go.Proofs.Ytcakdmapnmneoaa
end

section
namespace Go.Proofs.Ytcakdmapnmneoaa
open Go.RowKit
set_option linter.unusedVariables false

/-- A table. -/
structure Tab where
  E : List Ent
  V : Nat → Int
  L : Nat
  births : Nat
  made : Nat
  turns : Nat
def liveN (E : List Ent) : Nat := E.countP (·.live)
def liveL (E : List Ent) : List Ent := E.filter (·.live)
theorem liveL_len (E : List Ent) : (liveL E).length = liveN E := by simp [liveL, liveN, List.countP_eq_length_filter]
theorem liveN_le (E : List Ent) : liveN E ≤ E.length := List.countP_le_length
/-- The cells when the first k entries are laid into new ones. -/
def layN (L : Nat) (E : List Ent) : Nat → (Nat → Int)
  | 0 => begun (2 ^ L)
  | k + 1 => layV L (uh (E.getD k noE).hash) (layN L E k) k
/-- The least logarithm from 3 on, up to 20, else 21. -/
def leastL (p : Nat → Bool) : Nat := 3 + fi (fun j => p (3 + j)) 18
def growL (n : Nat) : Nat := leastL fun l => decide (3 * n ≤ 2 ^ l)
def copyL (n : Nat) : Nat := leastL fun l => decide (n ≤ 2 * 2 ^ l / 3)
def newT : Tab := ⟨[], begun 8, 3, 0, 1, 0⟩
def Tab.room (T : Tab) : Nat := 2 * 2 ^ T.L / 3
def Tab.grow (T : Tab) : Tab := { T with E := liveL T.E, V := layN (growL (liveN T.E)) (liveL T.E) (liveN T.E), L := growL (liveN T.E), made := T.made + 1 }
def Tab.add1 (T : Tab) (h k v : Int) : Tab := { T with E := T.E ++ [⟨true, h, k, v, T.births⟩], V := layV T.L (uh h) T.V T.E.length, births := T.births + 1, turns := T.turns + 1 }
def Tab.ready (T : Tab) : Tab := if T.E.length = T.room then T.grow else T
def Tab.add (T : Tab) (h k v : Int) : Tab := T.ready.add1 h k v
/-- The live entry of a number. -/
def Tab.ent (T : Tab) (e : Int) : Option Ent := if 0 ≤ e then (T.E[e.toNat]?).filter (·.live) else none
def Tab.put (T : Tab) (e v : Int) : Tab := match T.ent e with
  | some x => { T with E := T.E.set e.toNat { x with val := v } }
  | none => T
/-- Where an entry stands on its trail. -/
def isV (L h : Nat) (V : Nat → Int) (e : Int) (i : Nat) : Bool := V (trC L h i) == e
def killV (L h : Nat) (V : Nat → Int) (e : Int) : Nat → Int := if fi (isV L h V e) (2 ^ L + 13) < 2 ^ L + 13 then putN V (trC L h (fi (isV L h V e) (2 ^ L + 13))) (-2) else V
def Tab.kill (T : Tab) (e : Int) : Tab := match T.ent e with
  | some x => { T with E := T.E.set e.toNat noE, V := killV T.L (uh x.hash) T.V e, turns := T.turns + 1 }
  | none => T
def Tab.clear (T : Tab) : Tab := { T with E := [], V := begun 8, L := 3, made := T.made + 1, turns := T.turns + 1 }
/-- Entries with new births. -/
def renum (E : List Ent) : List Ent := (List.range E.length).map fun i => { E.getD i noE with birth := i }
def Tab.copy (T : Tab) : Tab := ⟨renum (liveL T.E), layN (copyL (liveN T.E)) (renum (liveL T.E)) (liveN T.E), copyL (liveN T.E), liveN T.E, 1, 0⟩

/-- What holds of a table that at most k calls have turned. -/
structure TInv (k : Nat) (T : Tab) : Prop where
  l3 : 3 ≤ T.L
  l12 : T.L ≤ 12
  rm : T.E.length ≤ 2 * 2 ^ T.L / 3
  ci : CInv T.L T.V T.E
  ft : Fits (2 ^ T.L) T.V
  ek : T.E.length ≤ k
  bk : T.births ≤ k
  mdk : T.made ≤ 2 * k + 1
  tk : T.turns ≤ k
theorem TInv.mono {k m : Nat} {T : Tab} (h : TInv k T) (hm : k ≤ m) : TInv m T := ⟨h.l3, h.l12, h.rm, h.ci, h.ft, by have := h.ek; omega, by have := h.bk; omega, by have := h.mdk; omega, by have := h.tk; omega⟩
theorem TInv.new : TInv 0 newT := ⟨by decide, by decide, by simp [newT], CInv.start 3, begun_fits _ _, by simp [newT], by simp [newT], by simp [newT], by simp [newT]⟩

theorem leastL_ge (p : Nat → Bool) : 3 ≤ leastL p := by unfold leastL; omega
theorem leastL_le {p : Nat → Bool} {l : Nat} (h3 : 3 ≤ l) (hl : l ≤ 20) (hp : p l = true) : leastL p ≤ l := by
  have := fi_at (p := fun j => p (3 + j)) (n := 18) (i := l - 3) (by omega) (by show p (3 + (l - 3)) = true; rw [show 3 + (l - 3) = l by omega]; exact hp)
  unfold leastL; omega
theorem leastL_is {p : Nat → Bool} (h : leastL p ≤ 20) : p (leastL p) = true := fi_is (p := fun j => p (3 + j)) (n := 18) (by unfold leastL at h; omega)
theorem leastL_min {p : Nat → Bool} {l : Nat} (h3 : 3 ≤ l) (hl : l < leastL p) : p l = false := by
  have := fi_min (p := fun j => p (3 + j)) (n := 18) (j := l - 3) (by unfold leastL at hl; omega)
  rwa [show (3 + (l - 3)) = l by omega] at this
theorem growL_le {n : Nat} (hn : n ≤ 1000) : growL n ≤ 12 := leastL_le (l := 12) (by omega) (by omega) (by simp; omega)
theorem growL_is {n : Nat} (hn : n ≤ 1000) : 3 * n ≤ 2 ^ growL n := by
  have := leastL_is (p := fun l => decide (3 * n ≤ 2 ^ l)) (by have := growL_le hn; unfold growL at this; omega)
  simpa [growL] using this
theorem copyL_le {n : Nat} (hn : n ≤ 1000) : copyL n ≤ 12 := leastL_le (l := 12) (by omega) (by omega) (by simp; omega)
theorem copyL_is {n : Nat} (hn : n ≤ 1000) : n ≤ 2 * 2 ^ copyL n / 3 := by
  have := leastL_is (p := fun l => decide (n ≤ 2 * 2 ^ l / 3)) (by have := copyL_le hn; unfold copyL at this; omega)
  simpa [copyL] using this
theorem growL_ge (n : Nat) : 3 ≤ growL n := leastL_ge _
theorem copyL_ge (n : Nat) : 3 ≤ copyL n := leastL_ge _
theorem layN_succ (L : Nat) (E : List Ent) (k : Nat) : layN L E (k + 1) = layV L (uh (E.getD k noE).hash) (layN L E k) k := rfl
theorem layN_zero (L : Nat) (E : List Ent) : layN L E 0 = begun (2 ^ L) := rfl
theorem may_of {L e : Nat} (h : e < 2 * 2 ^ L / 3) : mayB (2 ^ L) (e : Int) = true := by
  unfold mayB
  exact decide_eq_true (.inr (.inr ⟨by omega, by omega⟩))
theorem layV_fits {L h e : Nat} {V : Nat → Int} (hF : Fits (2 ^ L) V) (he : e < 2 * 2 ^ L / 3) : Fits (2 ^ L) (layV L h V e) := by
  unfold layV
  split
  · exact hF.put _ (may_of he)
  · exact hF
theorem layN_fits (L : Nat) (E : List Ent) : ∀ k, k ≤ 2 * 2 ^ L / 3 → Fits (2 ^ L) (layN L E k) := by
  intro k
  induction k with
  | zero => intro _; exact begun_fits _ _
  | succ k ih => intro hk; exact layV_fits (ih (by omega)) (by omega)
theorem killV_fits {L h : Nat} {V : Nat → Int} {e : Int} (hF : Fits (2 ^ L) V) : Fits (2 ^ L) (killV L h V e) := by
  unfold killV
  split
  · exact hF.put _ (by unfold mayB; exact decide_eq_true (.inr (.inl rfl)))
  · exact hF
attribute [irreducible] killV isV layN leastL growL copyL
theorem two_ge {L : Nat} (h : 3 ≤ L) : 8 ≤ 2 ^ L := Nat.pow_le_pow_right (n := 2) (by omega) h

theorem layN_inv (L : Nat) (E : List Ent) (hE : ∀ x, x ∈ E → x.live = true) (hl : E.length ≤ 2 ^ L) : ∀ k, k ≤ E.length → CInv L (layN L E k) (E.take k) := by
  intro k
  induction k with
  | zero => intro _; simpa [layN_zero] using CInv.start L
  | succ k ih =>
    intro hk
    have h1 := ih (by omega)
    have e1 : E.getD k noE = E[k] := by simp [List.getD, List.getElem?_eq_getElem (show k < E.length by omega)]
    have e2 : E.take (k + 1) = E.take k ++ [E[k]] := by rw [List.take_add_one, List.getElem?_eq_getElem (by omega)]; rfl
    have h2 := h1.lay (by simp; omega) E[k] (hE _ (List.getElem_mem _))
    rw [e2]
    rw [layN_succ, e1]
    rwa [show (E.take k).length = k by simp; omega] at h2
theorem layN_all (L : Nat) (E : List Ent) (hE : ∀ x, x ∈ E → x.live = true) (hl : E.length ≤ 2 ^ L) : CInv L (layN L E E.length) E := by
  have := layN_inv L E hE hl E.length (Nat.le_refl _)
  rwa [List.take_length] at this

theorem liveL_live (E : List Ent) : ∀ x, x ∈ liveL E → x.live = true := fun x hx => (List.mem_filter.1 hx).2
theorem TInv.ready {k : Nat} {T : Tab} (h : TInv k T) (hk : k ≤ 1000) :
    3 ≤ T.ready.L ∧ T.ready.L ≤ 12 ∧ T.ready.E.length + 1 ≤ 2 * 2 ^ T.ready.L / 3 ∧ CInv T.ready.L T.ready.V T.ready.E ∧ Fits (2 ^ T.ready.L) T.ready.V ∧ T.ready.E.length ≤ k ∧ T.ready.births = T.births ∧ T.ready.made ≤ T.made + 1 ∧ T.ready.turns = T.turns := by
  have hn : liveN T.E ≤ 1000 := by have := liveN_le T.E; have := h.ek; omega
  have h3 := growL_ge (liveN T.E)
  have h4 := growL_is hn
  have h5 := growL_le hn
  have h6 := two_ge (L := growL (liveN T.E)) h3
  have h7 := liveN_le T.E
  have h8 := h.ek
  unfold Tab.ready
  by_cases e : T.E.length = T.room
  · rw [if_pos e]
    refine ⟨h3, h5, ?_, ?_, layN_fits _ _ _ (show liveN T.E ≤ 2 * 2 ^ growL (liveN T.E) / 3 by omega), ?_, rfl, Nat.le_refl _, rfl⟩
    · show (liveL T.E).length + 1 ≤ 2 * 2 ^ growL (liveN T.E) / 3
      rw [liveL_len]; omega
    · show CInv (growL (liveN T.E)) (layN (growL (liveN T.E)) (liveL T.E) (liveN T.E)) (liveL T.E)
      have := layN_all (growL (liveN T.E)) (liveL T.E) (liveL_live _) (by rw [liveL_len]; omega)
      rwa [liveL_len] at this
    · show (liveL T.E).length ≤ k
      rw [liveL_len]; omega
  · rw [if_neg e]
    have := h.rm
    unfold Tab.room at e
    exact ⟨h.l3, h.l12, by omega, h.ci, h.ft, h8, rfl, by omega, rfl⟩
theorem TInv.add1 {k : Nat} {R : Tab} (h1 : 3 ≤ R.L) (h2 : R.L ≤ 12) (h3 : R.E.length + 1 ≤ 2 * 2 ^ R.L / 3) (h4 : CInv R.L R.V R.E) (hf : Fits (2 ^ R.L) R.V) (h5 : R.E.length ≤ k) (h6 : R.births ≤ k) (h7 : R.made ≤ 2 * k + 3) (h8 : R.turns ≤ k) (a b c : Int) : TInv (k + 1) (R.add1 a b c) := by
  have hp := two_ge h1
  obtain ⟨E, V, L, bi, ma, tu⟩ := R
  refine ⟨h1, h2, ?_, ?_, layV_fits hf (show E.length < 2 * 2 ^ L / 3 by simp at h3; omega), ?_, ?_, ?_, ?_⟩
  · show (E ++ [_]).length ≤ 2 * 2 ^ L / 3
    simp at h3 ⊢; omega
  · show CInv L (layV L (uh a) V E.length) (E ++ [⟨true, a, b, c, bi⟩])
    have h9 : E.length < 2 ^ L := by simp at h3 hp; omega
    exact CInv.lay h4 h9 ⟨true, a, b, c, bi⟩ rfl
  · show (E ++ [_]).length ≤ _
    simp at h5 ⊢; omega
  · show bi + 1 ≤ _; simp at h6; omega
  · show ma ≤ _; simp at h7; omega
  · show tu + 1 ≤ _; simp at h8; omega
theorem TInv.add {k : Nat} {T : Tab} (h : TInv k T) (hk : k ≤ 1000) (a b c : Int) : TInv (k + 1) (T.add a b c) := by
  obtain ⟨h1, h2, h3, h4, hf, h5, h6, h7, h8⟩ := h.ready hk
  have g1 := h.bk
  have g2 := h.mdk
  have g3 := h.tk
  unfold Tab.add
  generalize T.ready = R at *
  exact TInv.add1 h1 h2 h3 h4 hf h5 (by omega) (by omega) (by omega) a b c

theorem CInv.congr {L : Nat} {V : Nat → Int} {E F : List Ent} (h : CInv L V E) (hl : F.length = E.length) (hF : ∀ (i : Nat) (y : Ent), F[i]? = some y → ∃ x, E[i]? = some x ∧ x.live = y.live ∧ x.hash = y.hash) : CInv L V F := by
  have back : ∀ (i : Nat) (x : Ent), E[i]? = some x → ∃ y, F[i]? = some y ∧ x.live = y.live ∧ x.hash = y.hash := fun i x hx => by
    have hi : i < F.length := by rw [hl]; exact (List.getElem?_eq_some_iff.1 hx).1
    obtain ⟨x', h1, h2⟩ := hF i F[i] (List.getElem?_eq_getElem hi)
    rw [hx] at h1
    exact ⟨F[i], List.getElem?_eq_getElem hi, by cases h1; exact h2⟩
  refine ⟨fun c hc => by rw [hl]; exact h.rng c hc, h.one, fun c e hc hv => ?_, fun e y hy hlv => ?_, fun e f x y hx hy hlx hly hxy hef i hi => ?_, by rw [hl]; exact h.cnt, ?_⟩
  · obtain ⟨x, h1, h2⟩ := h.dead c e hc hv
    obtain ⟨y, h3, h4, _⟩ := back e x h1
    exact ⟨y, h3, by rw [← h4]; exact h2⟩
  · obtain ⟨x, h1, h2, h3⟩ := hF e y hy
    rw [← h3]
    exact h.pos e x h1 (by rw [h2]; exact hlv)
  · obtain ⟨x', h1, h2, h3⟩ := hF e x hx
    obtain ⟨y', h4, h5, h6⟩ := hF f y hy
    rw [← h3] at hi ⊢
    exact h.ord e f x' y' h1 h4 (by rw [h2]; exact hlx) (by rw [h5]; exact hly) (by rw [h3, h6, hxy]) hef i hi
  · rw [h.gone]
    have : E.map (fun x => !x.live) = F.map (fun x => !x.live) := by
      apply List.ext_getElem?
      intro i
      rw [List.getElem?_map, List.getElem?_map]
      by_cases hi : i < E.length
      · obtain ⟨y, h1, h2, _⟩ := back i E[i] (List.getElem?_eq_getElem hi)
        rw [h1, List.getElem?_eq_getElem hi]
        simp [h2]
      · rw [List.getElem?_eq_none (by omega), List.getElem?_eq_none (by omega)]
    have key : ∀ l : List Ent, l.countP (fun x => !x.live) = (l.map (fun x => !x.live)).countP id := fun l => by rw [List.countP_map]; rfl
    rw [key, key, this]
theorem ent_some {T : Tab} {e : Int} {x : Ent} (h : T.ent e = some x) : 0 ≤ e ∧ T.E[e.toNat]? = some x ∧ x.live = true := by
  unfold Tab.ent at h
  split at h
  · rw [Option.filter_eq_some_iff] at h
    exact ⟨by assumption, h.1, h.2⟩
  · cases h
theorem TInv.put {k : Nat} {T : Tab} (h : TInv k T) (e v : Int) : TInv k (T.put e v) := by
  unfold Tab.put
  split
  · rename_i x hx
    obtain ⟨h0, h1, h2⟩ := ent_some hx
    refine ⟨h.l3, h.l12, by simpa using h.rm, h.ci.congr (by simp) fun i y hy => ?_, h.ft, by simpa using h.ek, h.bk, h.mdk, h.tk⟩
    by_cases he : e.toNat = i
    · subst he
      have hlt := (List.getElem?_eq_some_iff.1 h1).1
      rw [List.getElem?_set_self hlt] at hy
      simp at hy
      exact ⟨x, h1, by rw [← hy], by rw [← hy]⟩
    · rw [List.getElem?_set_ne he] at hy
      exact ⟨y, hy, rfl, rfl⟩
  · exact h
/-- A live entry stands on its trail. -/
theorem CInv.stand {L : Nat} {V : Nat → Int} {E : List Ent} (h : CInv L V E) {e : Nat} {x : Ent} (he : E[e]? = some x) (hx : x.live = true) : fi (isV L (uh x.hash) V e) (2 ^ L + 13) < 2 ^ L + 13 ∧ V (trC L (uh x.hash) (fi (isV L (uh x.hash) V e) (2 ^ L + 13))) = e := by
  obtain ⟨i, h1, h2, _⟩ := h.pos e x he hx
  have h3 := fi_at (p := isV L (uh x.hash) V e) h1 (by unfold isV; simp [h2])
  have h4 : fi (isV L (uh x.hash) V e) (2 ^ L + 13) < 2 ^ L + 13 := by omega
  exact ⟨h4, by have := fi_is h4; unfold isV at this ⊢; simpa only [beq_iff_eq] using this⟩
theorem CInv.killV {L : Nat} {V : Nat → Int} {E : List Ent} (h : CInv L V E) {e : Int} {x : Ent} (h0 : 0 ≤ e) (he : E[e.toNat]? = some x) (hx : x.live = true) : CInv L (Go.Proofs.Ytcakdmapnmneoaa.killV L (uh x.hash) V e) (E.set e.toNat noE) := by
  obtain ⟨h3, h4⟩ := h.stand he hx
  rw [Int.toNat_of_nonneg h0] at h3 h4
  unfold Go.Proofs.Ytcakdmapnmneoaa.killV
  rw [if_pos h3]
  generalize hc : trC L (uh x.hash) (fi (isV L (uh x.hash) V e) (2 ^ L + 13)) = c at *
  have h5 : c < 2 ^ L := by rw [← hc]; exact trC_lt _ _ _
  exact h.kill e.toNat x he hx c h5 (by rw [h4, Int.toNat_of_nonneg h0])
theorem TInv.kill {k : Nat} {T : Tab} (h : TInv k T) (e : Int) : TInv (k + 1) (T.kill e) := by
  unfold Tab.kill
  split
  · rename_i x hx
    obtain ⟨h0, h1, h2⟩ := ent_some hx
    have h3 := h.ci.killV h0 h1 h2
    obtain ⟨E, V, L, bi, ma, tu⟩ := T
    have h9 : (E.set e.toNat noE).length = E.length := by simp
    refine ⟨h.l3, h.l12, ?_, h3, killV_fits h.ft, ?_, ?_, ?_, ?_⟩
    · show (E.set e.toNat noE).length ≤ 2 * 2 ^ L / 3
      rw [h9]; exact h.rm
    · show (E.set e.toNat noE).length ≤ k + 1
      have := h.ek; simp at this; omega
    · have := h.bk; simp at this; show bi ≤ _; omega
    · have := h.mdk; simp at this; show ma ≤ _; omega
    · have := h.tk; simp at this; show tu + 1 ≤ _; omega
  · exact h.mono (by omega)
theorem TInv.clear {k : Nat} {T : Tab} (h : TInv k T) : TInv (k + 1) T.clear :=
  ⟨by simp [Tab.clear], by simp [Tab.clear], by simp [Tab.clear], CInv.start 3, begun_fits _ _, by simp [Tab.clear], by have := h.bk; show T.births ≤ _; omega, by have := h.mdk; show T.made + 1 ≤ _; omega, by have := h.tk; show T.turns + 1 ≤ _; omega⟩
theorem renum_len (E : List Ent) : (renum E).length = E.length := by simp [renum]
theorem renum_live {E : List Ent} (hE : ∀ x, x ∈ E → x.live = true) : ∀ x, x ∈ renum E → x.live = true := by
  intro x hx
  simp only [renum, List.mem_map, List.mem_range] at hx
  obtain ⟨i, hi, rfl⟩ := hx
  simp only [List.getD, List.getElem?_eq_getElem hi, Option.getD_some]
  exact hE _ (List.getElem_mem _)
theorem TInv.copy {k : Nat} {T : Tab} (h : TInv k T) (hk : k ≤ 1000) : TInv k T.copy := by
  have hn : liveN T.E ≤ 1000 := by have := liveN_le T.E; have := h.ek; omega
  have h3 := copyL_ge (liveN T.E)
  have h4 := copyL_is hn
  have h7 := liveN_le T.E
  have h8 := h.ek
  have e1 : (renum (liveL T.E)).length = liveN T.E := by rw [renum_len, liveL_len]
  refine ⟨h3, copyL_le hn, by show (renum (liveL T.E)).length ≤ 2 * 2 ^ copyL (liveN T.E) / 3; rw [e1]; exact h4, ?_, layN_fits _ _ _ h4, by show (renum (liveL T.E)).length ≤ k; omega, by show liveN T.E ≤ k; omega, by show 1 ≤ 2 * k + 1; omega, Nat.zero_le _⟩
  show CInv (copyL (liveN T.E)) (layN (copyL (liveN T.E)) (renum (liveL T.E)) (liveN T.E)) (renum (liveL T.E))
  have := layN_all (copyL (liveN T.E)) (renum (liveL T.E)) (renum_live (liveL_live _)) (by rw [e1]; generalize 2 ^ copyL (liveN T.E) = M at *; omega)
  rwa [e1] at this
end Go.Proofs.Ytcakdmapnmneoaa
end

section
namespace Go.Proofs.Ytcakdmapnmneoaa
open Go.RowKit
set_option linter.unusedVariables false

/-- A Seeker: the hash, its place on the trail, the turn, what it has visited and told, whether it is over. -/
structure Sk where
  h : Int
  L : Nat
  i : Nat
  tu : Nat
  vis : Nat
  told : Int
  over : Bool
def Tab.seek (T : Tab) (h : Int) : Sk := ⟨h, T.L, 0, T.turns, 0, -1, false⟩
/-- What a visit of a cell comes to: does it stop there? -/
def fitE (E : List Ent) (h told v : Int) : Bool := decide (told < v) && decide ((E.getD v.toNat noE).hash = h)
def stopP (T : Tab) (s : Sk) (j : Nat) : Bool := T.V (trC T.L (uh s.h) j) == -1 || fitE T.E s.h s.told (T.V (trC T.L (uh s.h) j))
/-- How far it goes to the place where it stops. -/
def Tab.far (T : Tab) (s : Sk) : Nat := fi (fun j => stopP T s (s.i + j)) (2 ^ T.L + 13)
def Tab.cellAt (T : Tab) (s : Sk) : Int := T.V (trC T.L (uh s.h) (s.i + T.far s))
def Tab.spent (T : Tab) (s : Sk) : Bool := s.over || s.tu != T.turns
def Tab.next (T : Tab) (s : Sk) : Sk :=
  if T.spent s = true then { s with over := true }
  else if T.cellAt s = -1 then { s with i := s.i + T.far s, vis := s.vis + T.far s + 1, over := true }
  else { s with i := s.i + T.far s + 1, vis := s.vis + T.far s + 1, told := T.cellAt s }
/-- How many cells it visits. -/
def Tab.walks (T : Tab) (s : Sk) : Nat := if T.spent s = true then 0 else T.far s + 1
/-- What is told. -/
def Sk.says (s : Sk) : Int := if s.over then -1 else s.told
/-- A Seeker goes with a table. -/
structure SkOk (T : Tab) (s : Sk) : Prop where
  turn : s.tu ≤ T.turns
  now : s.over = false → s.tu = T.turns → s.L = T.L ∧ s.i ≤ fe T.L (uh s.h) T.V
  low : -1 ≤ s.told
  v0 : s.vis ≤ s.i + 1
  v1 : s.over = false → s.vis = s.i
theorem TInv.fe_lt {k : Nat} {T : Tab} (h : TInv k T) (x : Int) : fe T.L (uh x) T.V < 2 ^ T.L + 13 := h.ci.fe_lt (by have := h.rm; have := two_ge h.l3; omega) x
theorem TInv.fe_is {k : Nat} {T : Tab} (h : TInv k T) (x : Int) : T.V (trC T.L (uh x) (fe T.L (uh x) T.V)) = -1 := h.ci.fe_is (by have := h.rm; have := two_ge h.l3; omega) x
theorem TInv.far_le {k : Nat} {T : Tab} (h : TInv k T) {s : Sk} (ho : s.over = false) (ht : s.tu = T.turns) (hs : SkOk T s) : s.i + T.far s ≤ fe T.L (uh s.h) T.V := by
  have h1 := (hs.now ho ht).2
  have h2 := h.fe_lt s.h
  have h3 := h.fe_is s.h
  have := fi_at (p := fun j => stopP T s (s.i + j)) (n := 2 ^ T.L + 13) (i := fe T.L (uh s.h) T.V - s.i) (by omega) (by
    show stopP T s (s.i + (fe T.L (uh s.h) T.V - s.i)) = true
    rw [show s.i + (fe T.L (uh s.h) T.V - s.i) = fe T.L (uh s.h) T.V by omega]
    simp [stopP, h3])
  unfold Tab.far; omega
theorem TInv.far_is {k : Nat} {T : Tab} (h : TInv k T) {s : Sk} (ho : s.over = false) (ht : s.tu = T.turns) (hs : SkOk T s) : stopP T s (s.i + T.far s) = true := by
  have h1 := h.far_le ho ht hs
  have h2 := h.fe_lt s.h
  exact fi_is (p := fun j => stopP T s (s.i + j)) (n := 2 ^ T.L + 13) (by unfold Tab.far at h1; omega)
theorem far_before {T : Tab} {s : Sk} {j : Nat} (hj : j < T.far s) : stopP T s (s.i + j) = false := fi_min (p := fun j => stopP T s (s.i + j)) hj
theorem far_eq {T : Tab} {s : Sk} {j : Nat} (h1 : j ≤ T.far s) (h2 : j < 2 ^ T.L + 13) (h3 : stopP T s (s.i + j) = true) : j = T.far s := by
  rcases Nat.lt_or_ge j (T.far s) with h | h
  · rw [far_before h] at h3; cases h3
  · omega
theorem far_succ {k : Nat} {T : Tab} (h : TInv k T) {s : Sk} (ho : s.over = false) (ht : s.tu = T.turns) (hs : SkOk T s) {j : Nat} (h1 : j ≤ T.far s) (h3 : stopP T s (s.i + j) = false) : j + 1 ≤ T.far s := by
  rcases Nat.lt_or_ge j (T.far s) with h4 | h4
  · omega
  · have : j = T.far s := by omega
    rw [this, h.far_is ho ht hs] at h3; cases h3
/-- A cell that is told is one of a live entry. -/
theorem TInv.live_at {k : Nat} {T : Tab} (h : TInv k T) {c : Nat} (hc : c < 2 ^ T.L) {told : Int} (hl : -1 ≤ told) (hv : told < T.V c) : ∃ (e : Nat) (x : Ent), T.V c = e ∧ T.E[e]? = some x ∧ x.live = true := by
  rcases h.ci.rng c hc with h1 | h1 | ⟨e, h1, h2⟩
  · omega
  · omega
  · obtain ⟨x, h3, h4⟩ := h.ci.dead c e hc h2
    exact ⟨e, x, h2, h3, h4⟩
theorem SkOk.seek {k : Nat} {T : Tab} (h : TInv k T) (x : Int) : SkOk T (T.seek x) :=
  ⟨Nat.le_refl _, fun _ _ => ⟨rfl, Nat.zero_le _⟩, by show (-1 : Int) ≤ -1; omega, by show 0 ≤ 0 + 1; omega, fun _ => rfl⟩
theorem SkOk.over {T : Tab} {s : Sk} (h : SkOk T s) : SkOk T { s with over := true } := ⟨h.turn, (fun h => by cases h), h.low, h.v0, (fun h => by cases h)⟩
theorem SkOk.next {k : Nat} {T : Tab} (h : TInv k T) {s : Sk} (hs : SkOk T s) : SkOk T (T.next s) := by
  unfold Tab.next
  split
  · exact hs.over
  · rename_i hsp
    simp only [Tab.spent, Bool.not_eq_true, Bool.or_eq_false_iff, bne_eq_false_iff_eq] at hsp
    obtain ⟨ho, ht⟩ := hsp
    have h1 := h.far_le ho ht hs
    have h2 := hs.v1 ho
    split
    · exact ⟨hs.turn, (fun h => by cases h), hs.low, (by show s.vis + T.far s + 1 ≤ s.i + T.far s + 1; omega), (fun h => by cases h)⟩
    · rename_i hv
      have h3 := h.far_is ho ht hs
      have hv' : ¬ T.V (trC T.L (uh s.h) (s.i + T.far s)) = -1 := hv
      have h4 : s.told < T.cellAt s := by
        simp only [stopP, fitE, Bool.or_eq_true, beq_iff_eq, Bool.and_eq_true, decide_eq_true_eq] at h3
        rcases h3 with h3 | h3
        · exact absurd h3 hv'
        · exact h3.1
      refine ⟨hs.turn, fun _ _ => ⟨(hs.now ho ht).1, ?_⟩, by have := hs.low; show -1 ≤ T.cellAt s; omega, by show s.vis + T.far s + 1 ≤ s.i + T.far s + 1 + 1; omega, fun _ => by show s.vis + T.far s + 1 = s.i + T.far s + 1; omega⟩
      show s.i + T.far s + 1 ≤ fe T.L (uh s.h) T.V
      rcases Nat.lt_or_ge (s.i + T.far s) (fe T.L (uh s.h) T.V) with h5 | h5
      · omega
      · have h6 : s.i + T.far s = fe T.L (uh s.h) T.V := by omega
        exact absurd (by rw [h6]; exact h.fe_is s.h) hv'
/-- A Seeker of a table that was turned is spent. -/
theorem SkOk.later {T U : Tab} {s : Sk} (h : SkOk T s) (hu : T.turns < U.turns) : SkOk U s :=
  ⟨by have := h.turn; omega, fun _ e => by have := h.turn; omega, h.low, h.v0, h.v1⟩
theorem SkOk.same {T U : Tab} {s : Sk} (h : SkOk T s) (h1 : U.turns = T.turns) (h2 : U.L = T.L) (h3 : U.V = T.V) : SkOk U s :=
  ⟨by rw [h1]; exact h.turn, by rw [h1, h2, h3]; exact h.now, h.low, h.v0, h.v1⟩
end Go.Proofs.Ytcakdmapnmneoaa
end

section
namespace Go.Proofs.Ytcakdmapnmneoaa
open Go.RowKit
set_option linter.unusedVariables false

/-- In the midst of a search of h. -/
structure Mid (T : Tab) (h : Int) (s : Sk) : Prop where
  hh : s.h = h
  lg : s.L = T.L
  tu : s.tu = T.turns
  ov : s.over = false
  vi : s.vis = s.i
  at_ : (s.told = -1 ∧ s.i = 0) ∨ ∃ (e : Nat) (x : Ent), s.told = e ∧ T.E[e]? = some x ∧ x.live = true ∧ x.hash = h ∧ 1 ≤ s.i ∧ T.V (trC T.L (uh h) (s.i - 1)) = e ∧ ∀ j, j < s.i - 1 → T.V (trC T.L (uh h) j) ≠ e
theorem Mid.seek (T : Tab) (h : Int) : Mid T h (T.seek h) := ⟨rfl, rfl, rfl, rfl, rfl, .inl ⟨rfl, rfl⟩⟩
theorem Mid.spent {T : Tab} {h : Int} {s : Sk} (m : Mid T h s) : T.spent s = false := by simp [Tab.spent, m.ov, m.tu]
/-- All places of a later entry are still ahead. -/
theorem Mid.ahead {k : Nat} {T : Tab} (hI : TInv k T) {h : Int} {s : Sk} (m : Mid T h s) {f : Nat} {x : Ent} (hf : s.told < f) (hx : T.E[f]? = some x) (hl : x.live = true) (hh : x.hash = h) {j : Nat} (hj : T.V (trC T.L (uh h) j) = f) : s.i ≤ j := by
  rcases m.at_ with ⟨h1, h2⟩ | ⟨e, y, h1, h2, h3, h4, h5, h6, h7⟩
  · omega
  · obtain ⟨j2, h8, h9⟩ := hI.ci.ord e f y x h2 hx h3 hl (by rw [h4, hh]) (by omega) j (by rw [h4]; exact hj)
    rw [h4] at h9
    rcases Nat.lt_or_ge j2 (s.i - 1) with h10 | h10
    · exact absurd h9 (h7 j2 h10)
    · omega
/-- The next one. -/
def Later (T : Tab) (h : Int) (told : Int) (f : Nat) : Prop := told < f ∧ ∃ x, T.E[f]? = some x ∧ x.live = true ∧ x.hash = h
theorem Mid.stop {k : Nat} {T : Tab} (hI : TInv k T) {h : Int} {s : Sk} (m : Mid T h s) (hok : SkOk T s) : s.i + T.far s ≤ fe T.L (uh h) T.V ∧ (T.cellAt s = -1 ∨ ∃ f : Nat, T.cellAt s = f ∧ Later T h s.told f) := by
  have h1 := hI.far_le m.ov m.tu hok
  have h2 := hI.far_is m.ov m.tu hok
  rw [m.hh] at h1
  refine ⟨h1, ?_⟩
  by_cases h3 : T.cellAt s = -1
  · exact .inl h3
  · refine .inr ?_
    have h3' : ¬ T.V (trC T.L (uh s.h) (s.i + T.far s)) = -1 := h3
    simp only [stopP, Bool.or_eq_true, beq_iff_eq] at h2
    rcases h2 with h2 | h2
    · exact absurd h2 h3'
    · simp only [fitE, Bool.and_eq_true, decide_eq_true_eq] at h2
      obtain ⟨e, x, h4, h5, h6⟩ := hI.live_at (trC_lt T.L (uh s.h) (s.i + T.far s)) hok.low h2.1
      rw [h4] at h2
      refine ⟨e, h4, h2.1, x, h5, h6, ?_⟩
      have h7 := h2.2
      simp only [Int.toNat_natCast] at h7
      rw [show T.E.getD e noE = x by simp [List.getD, h5]] at h7
      rw [h7, m.hh]
theorem Mid.next {k : Nat} {T : Tab} (hI : TInv k T) {h : Int} {s : Sk} (m : Mid T h s) (hok : SkOk T s) {f : Nat} (hf : Later T h s.told f) (hmin : ∀ g, Later T h s.told g → f ≤ g) : Mid T h (T.next s) ∧ (T.next s).told = f := by
  obtain ⟨hf1, x, hx, hl, hh⟩ := hf
  obtain ⟨p, hp, hp1, hp2⟩ := hI.ci.pos f x hx hl
  rw [hh] at hp1 hp2
  have hip := m.ahead hI hf1 hx hl hh hp1
  have hfar : s.i + T.far s ≤ p := by
    have h9 := fi_at (p := fun j => stopP T s (s.i + j)) (n := 2 ^ T.L + 13) (i := p - s.i) (by omega) (by
      show stopP T s (s.i + (p - s.i)) = true
      rw [show s.i + (p - s.i) = p by omega]
      simp only [stopP, m.hh, hp1, fitE, Bool.or_eq_true, Bool.and_eq_true, decide_eq_true_eq]
      refine .inr ⟨hf1, ?_⟩
      simp [List.getD, hx, hh])
    unfold Tab.far; omega
  obtain ⟨hs1, hs2⟩ := m.stop hI hok
  have hne : T.cellAt s ≠ -1 := by
    rcases Nat.lt_or_ge (s.i + T.far s) p with h1 | h1
    · have := hp2 _ h1
      unfold Tab.cellAt; rw [m.hh]; exact this
    · unfold Tab.cellAt
      rw [m.hh, show s.i + T.far s = p by omega, hp1]; omega
  have hfirst : ∀ j, j < s.i + T.far s → T.V (trC T.L (uh h) j) ≠ f := fun j hj hv => by
    have h1 := m.ahead hI hf1 hx hl hh hv
    have h2 := far_before (T := T) (s := s) (j := j - s.i) (by omega)
    rw [show s.i + (j - s.i) = j by omega] at h2
    simp only [stopP, m.hh, hv, fitE, Bool.or_eq_false_iff, Bool.and_eq_false_iff, decide_eq_false_iff_not] at h2
    rcases h2.2 with h2 | h2
    · exact h2 hf1
    · exact h2 (by simp [List.getD, hx, hh])
  have hcell : T.cellAt s = f := by
    rcases hs2 with h1 | ⟨g, h1, h2⟩
    · exact absurd h1 hne
    · have h3 := hmin g h2
      rcases Nat.lt_or_ge f g with h4 | h4
      · obtain ⟨h5, y, h6, h7, h8⟩ := h2
        have h9 : T.V (trC T.L (uh y.hash) (s.i + T.far s)) = g := by rw [h8, ← m.hh]; exact h1
        obtain ⟨j, h10, h11⟩ := hI.ci.ord f g x y hx h6 hl h7 (by rw [hh, h8]) h4 (s.i + T.far s) (by rw [hh]; rw [h8] at h9; exact h9)
        rw [hh] at h11
        exact absurd h11 (hfirst j h10)
      · rw [h1]; omega
  unfold Tab.next
  rw [m.spent]
  simp only [Bool.false_eq_true, if_false]
  rw [if_neg hne]
  refine ⟨⟨m.hh, m.lg, m.tu, m.ov, ?_, .inr ⟨f, x, hcell, hx, hl, hh, ?_, ?_, ?_⟩⟩, hcell⟩
  · show s.vis + T.far s + 1 = s.i + T.far s + 1
    rw [m.vi]
  · show 1 ≤ s.i + T.far s + 1; omega
  · show T.V (trC T.L (uh h) (s.i + T.far s + 1 - 1)) = f
    rw [Nat.add_sub_cancel, ← hcell, ← m.hh]; rfl
  · intro j hj
    exact hfirst j (by have : j < s.i + T.far s + 1 - 1 := hj; omega)
theorem Mid.over {k : Nat} {T : Tab} (hI : TInv k T) {h : Int} {s : Sk} (m : Mid T h s) (hok : SkOk T s) (hno : ∀ g, ¬ Later T h s.told g) : (T.next s).over = true ∧ 1 ≤ (T.next s).vis ∧ (T.next s).vis ≤ 2 ^ T.L + 13 := by
  obtain ⟨h1, h2⟩ := m.stop hI hok
  have h3 := hI.fe_lt h
  have h4 : T.cellAt s = -1 := by
    rcases h2 with h2 | ⟨g, _, h2⟩
    · exact h2
    · exact absurd h2 (hno g)
  unfold Tab.next
  rw [m.spent]
  simp only [Bool.false_eq_true, if_false]
  rw [if_pos h4]
  refine ⟨rfl, ?_, ?_⟩
  · show 1 ≤ s.vis + T.far s + 1; omega
  · show s.vis + T.far s + 1 ≤ 2 ^ T.L + 13
    rw [m.vi]; omega
end Go.Proofs.Ytcakdmapnmneoaa
end
