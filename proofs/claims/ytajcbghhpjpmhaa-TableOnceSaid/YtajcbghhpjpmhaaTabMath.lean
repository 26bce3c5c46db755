/- A hash table in plain numbers (chapter 7). No program in sight. -/
import Derived.Test.YtajcbghhpjpmhaaTrailPeriod
import Derived.Test.YtajcbghhpjpmhaaCellNew
namespace Go.Proofs.Ytajcbghhpjpmhaa
open Go.RowKit
set_option linter.unusedVariables false

/-- An entry. -/
structure Ent where
  live : Bool
  hash : Int
  key : Int
  val : Int
  birth : Int
deriving DecidableEq
def noE : Ent := ⟨false, 0, 0, 0, 0⟩

/-- The first number below n that fits, else n. -/
def fi (p : Nat → Bool) : Nat → Nat
  | 0 => 0
  | n + 1 => if fi p n < n then fi p n else if p n then n else n + 1
theorem fi_le (p : Nat → Bool) (n : Nat) : fi p n ≤ n := by
  induction n with
  | zero => simp [fi]
  | succ n ih => unfold fi; split; omega; split <;> omega
theorem fi_is {p : Nat → Bool} {n : Nat} (h : fi p n < n) : p (fi p n) = true := by
  induction n with
  | zero => omega
  | succ n ih =>
    unfold fi at h ⊢
    by_cases h1 : fi p n < n
    · rw [if_pos h1]; exact ih h1
    · rw [if_neg h1] at h ⊢
      by_cases h2 : p n = true
      · rw [if_pos h2]; exact h2
      · rw [if_neg h2] at h; omega
theorem fi_min {p : Nat → Bool} {n j : Nat} (h : j < fi p n) : p j = false := by
  induction n with
  | zero => simp [fi] at h
  | succ n ih =>
    unfold fi at h
    by_cases h1 : fi p n < n
    · rw [if_pos h1] at h; exact ih h
    · rw [if_neg h1] at h
      have h3 := fi_le p n
      have h4 : fi p n = n := by omega
      by_cases h2 : p n = true
      · rw [if_pos h2] at h; exact ih (by omega)
      · rw [if_neg h2] at h
        by_cases h5 : j = n
        · subst h5; simpa using h2
        · exact ih (by omega)
theorem fi_at {p : Nat → Bool} {n i : Nat} (hi : i < n) (h : p i = true) : fi p n ≤ i := by
  rcases Nat.lt_or_ge i (fi p n) with h1 | h1
  · rw [fi_min h1] at h; cases h
  · exact h1
theorem fi_congr {p q : Nat → Bool} {n : Nat} (h : ∀ i, i < n → p i = q i) : fi p n = fi q n := by
  induction n with
  | zero => rfl
  | succ n ih => unfold fi; rw [ih fun i hi => h i (by omega), h n (by omega)]
theorem fi_eq {p : Nat → Bool} {n k : Nat} (hk : k < n) (h1 : p k = true) (h2 : ∀ j, j < k → p j = false) : fi p n = k := by
  have := fi_at hk h1
  rcases Nat.lt_or_ge (fi p n) k with h3 | h3
  · have h4 := fi_is (show fi p n < n by omega); rw [h2 _ h3] at h4; cases h4
  · omega

/-- Numbers without a repetition, as many as there are. -/
theorem onto_of_apart (n : Nat) : ∀ f : Nat → Nat, (∀ i, i < n → f i < n) → (∀ i j, i < j → j < n → f i ≠ f j) → ∀ c, c < n → ∃ i, i < n ∧ f i = c := by
  induction n with
  | zero => intro f _ _ c hc; omega
  | succ n ih =>
    intro f h1 h2 c hc
    have hm := h1 n (by omega)
    have h3 := ih (fun i => if f i = n then f n else f i) (fun i hi => by
      have a := h1 i (by omega)
      have b := h2 i n hi (by omega)
      show (if f i = n then f n else f i) < n
      split <;> omega) (fun i j hij hj => by
      have a := h2 i j hij (by omega)
      have b := h2 i n (by omega) (by omega)
      have c := h2 j n hj (by omega)
      show (if f i = n then f n else f i) ≠ (if f j = n then f n else f j)
      split <;> split <;> omega)
    by_cases e : c = f n
    · exact ⟨n, by omega, e.symm⟩
    · by_cases e2 : c = n
      · obtain ⟨i, hi, hf⟩ := h3 (f n) (by omega)
        have b := h2 i n hi (by omega)
        refine ⟨i, by omega, ?_⟩
        by_cases e3 : f i = n
        · omega
        · simp only [if_neg e3] at hf; omega
      · obtain ⟨i, hi, hf⟩ := h3 c (by omega)
        refine ⟨i, by omega, ?_⟩
        by_cases e3 : f i = n
        · simp only [if_pos e3] at hf; omega
        · simp only [if_neg e3] at hf; exact hf
/-- A trail comes to every cell. -/
theorem trC_onto (L h : Nat) (hh : h < 18446744073709551616) (c : Nat) (hc : c < 2 ^ L) : ∃ i, i < 2 ^ L + 13 ∧ trC L h i = c := by
  obtain ⟨i, hi, e⟩ := onto_of_apart (2 ^ L) (fun i => trC L h (13 + i)) (fun i _ => trC_lt _ _ _) (fun i j hij hj => trC_apart L h hh 13 (shN_le h) i j hij hj) c hc
  exact ⟨13 + i, by omega, e⟩

/-- How many below n fit. -/
def cntB (p : Nat → Bool) : Nat → Nat
  | 0 => 0
  | n + 1 => cntB p n + if p n then 1 else 0
theorem cntB_le (p : Nat → Bool) (n : Nat) : cntB p n ≤ n := by
  induction n with
  | zero => simp [cntB]
  | succ n ih => unfold cntB; split <;> omega
theorem cntB_congr {p q : Nat → Bool} {n : Nat} (h : ∀ i, i < n → p i = q i) : cntB p n = cntB q n := by
  induction n with
  | zero => rfl
  | succ n ih => unfold cntB; rw [ih fun i hi => h i (by omega), h n (by omega)]
theorem cntB_put {p q : Nat → Bool} {n c : Nat} (hc : c < n) (h : ∀ i, i ≠ c → p i = q i) : cntB p n + (if q c then 1 else 0) = cntB q n + if p c then 1 else 0 := by
  induction n with
  | zero => omega
  | succ n ih =>
    unfold cntB
    by_cases e : c = n
    · subst e
      rw [cntB_congr (p := p) (q := q) (n := c) fun i hi => h i (by omega)]
      omega
    · have h1 := ih (by omega)
      rw [h n (by omega)]
      omega
theorem cntB_none {p : Nat → Bool} {n : Nat} (h : ∀ i, i < n → p i = false) : cntB p n = 0 := by
  induction n with
  | zero => rfl
  | succ n ih => unfold cntB; rw [ih fun i hi => h i (by omega), h n (by omega)]; rfl
theorem cntB_lt {p : Nat → Bool} {n : Nat} (h : cntB p n < n) : ∃ c, c < n ∧ p c = false := by
  induction n with
  | zero => omega
  | succ n ih =>
    unfold cntB at h
    by_cases e : p n = true
    · rw [if_pos e] at h
      obtain ⟨c, h1, h2⟩ := ih (by omega)
      exact ⟨c, by omega, h2⟩
    · exact ⟨n, by omega, by simpa using e⟩

/-- The trail's first empty cell is number fe of it. -/
def isE (L h : Nat) (V : Nat → Int) (i : Nat) : Bool := V (trC L h i) == -1
def fe (L h : Nat) (V : Nat → Int) : Nat := fi (isE L h V) (2 ^ L + 13)
/-- Number e is laid into the first empty cell of the trail of h. -/
def layV (L h : Nat) (V : Nat → Int) (e : Int) : Nat → Int := if fe L h V < 2 ^ L + 13 then putN V (trC L h (fe L h V)) e else V

/-- What the cells are to the entries. -/
structure CInv (L : Nat) (V : Nat → Int) (E : List Ent) : Prop where
  rng : ∀ c, c < 2 ^ L → V c = -1 ∨ V c = -2 ∨ ∃ e : Nat, e < E.length ∧ V c = e
  one : ∀ (c d e : Nat), c < 2 ^ L → d < 2 ^ L → V c = (e : Int) → V d = (e : Int) → c = d
  dead : ∀ (c e : Nat), c < 2 ^ L → V c = (e : Int) → ∃ x, E[e]? = some x ∧ x.live = true
  pos : ∀ (e : Nat) (x : Ent), E[e]? = some x → x.live = true → ∃ i, i < 2 ^ L + 13 ∧ V (trC L (uh x.hash) i) = e ∧ ∀ j, j < i → V (trC L (uh x.hash) j) ≠ -1
  ord : ∀ (e f : Nat) (x y : Ent), E[e]? = some x → E[f]? = some y → x.live = true → y.live = true → x.hash = y.hash → e < f → ∀ i, V (trC L (uh x.hash) i) = f → ∃ j, j < i ∧ V (trC L (uh x.hash) j) = e
  cnt : cntB (fun c => V c != -1) (2 ^ L) = E.length
  gone : cntB (fun c => V c == -2) (2 ^ L) = E.countP (fun x => !x.live)

theorem CInv.start (L : Nat) : CInv L (begun (2 ^ L)) [] := by
  have hb : ∀ c, c < 2 ^ L → begun (2 ^ L) c = -1 := fun c hc => by simp [begun, hc]
  refine ⟨fun c hc => .inl (hb c hc), fun c d e hc _ h _ => ?_, fun c e hc h => ?_, fun e x h => by simp at h, fun e f x y h => by simp at h, ?_, ?_⟩
  · rw [hb c hc] at h; omega
  · rw [hb c hc] at h; omega
  · exact cntB_none fun i hi => by simp [hb i hi]
  · simpa using cntB_none fun i hi => by simp [hb i hi]

theorem CInv.fe_lt {L : Nat} {V : Nat → Int} {E : List Ent} (h : CInv L V E) (hl : E.length < 2 ^ L) (hv : Int) : fe L (uh hv) V < 2 ^ L + 13 := by
  obtain ⟨c, hc, hp⟩ := cntB_lt (p := fun c => V c != -1) (n := 2 ^ L) (by rw [h.cnt]; exact hl)
  obtain ⟨i, hi, e⟩ := trC_onto L (uh hv) (uh_lt hv) c hc
  have := fi_at (p := isE L (uh hv) V) hi (by simp only [isE, e]; simpa using hp)
  unfold fe; omega
theorem CInv.fe_is {L : Nat} {V : Nat → Int} {E : List Ent} (h : CInv L V E) (hl : E.length < 2 ^ L) (hv : Int) : V (trC L (uh hv) (fe L (uh hv) V)) = -1 := by
  have := fi_is (p := isE L (uh hv) V) (h.fe_lt hl hv)
  simp only [isE, beq_iff_eq] at this; exact this
theorem fe_before {L h : Nat} {V : Nat → Int} {j : Nat} (hj : j < fe L h V) : V (trC L h j) ≠ -1 := by
  have := fi_min (p := isE L h V) hj
  simpa [isE] using this
theorem CInv.layV {L : Nat} {V : Nat → Int} {E : List Ent} (h : CInv L V E) (hl : E.length < 2 ^ L) (hv : Int) (e : Int) : layV L (uh hv) V e = putN V (trC L (uh hv) (fe L (uh hv) V)) e := by
  unfold Go.Proofs.Ytajcbghhpjpmhaa.layV; rw [if_pos (h.fe_lt hl hv)]

theorem CInv.lay {L : Nat} {V : Nat → Int} {E : List Ent} (h : CInv L V E) (hl : E.length < 2 ^ L) (x : Ent) (hx : x.live = true) : CInv L (Go.Proofs.Ytajcbghhpjpmhaa.layV L (uh x.hash) V E.length) (E ++ [x]) := by
  rw [h.layV hl]
  have hq := h.fe_is hl x.hash
  have hb : ∀ j, j < fe L (uh x.hash) V → V (trC L (uh x.hash) j) ≠ -1 := fun j hj => fe_before hj
  have hn := h.fe_lt hl x.hash
  generalize hk : fe L (uh x.hash) V = k at *
  have hc := trC_lt L (uh x.hash) k
  generalize hcc : trC L (uh x.hash) k = c at *
  have new : ∀ d, putN V c (E.length : Int) d = if d = c then (E.length : Int) else V d := fun d => rfl
  have old : ∀ (e : Nat) (y : Ent), (E ++ [x])[e]? = some y → e < E.length ∧ E[e]? = some y ∨ e = E.length ∧ y = x := fun e y he => by
    by_cases h1 : e < E.length
    · rw [List.getElem?_append_left h1] at he; exact .inl ⟨h1, he⟩
    · rw [List.getElem?_append_right (by omega)] at he
      have h2 := List.getElem?_eq_some_iff.1 he
      obtain ⟨h3, h4⟩ := h2
      simp at h3 h4
      exact .inr ⟨by omega, h4.symm⟩
  refine ⟨fun d hd => ?_, fun d d' e hd hd' e1 e2 => ?_, fun d e hd e1 => ?_, fun e y he hy => ?_, fun e f y z he hf hy hz hyz hef i hi => ?_, ?_, ?_⟩
  · rw [new]
    split
    · exact .inr (.inr ⟨E.length, by simp, rfl⟩)
    · rcases h.rng d hd with h1 | h1 | ⟨e, h1, h2⟩
      · exact .inl h1
      · exact .inr (.inl h1)
      · exact .inr (.inr ⟨e, by simp; omega, h2⟩)
  · rw [new] at e1 e2
    by_cases h1 : d = c
    · by_cases h2 : d' = c
      · omega
      · rw [if_pos h1] at e1; rw [if_neg h2] at e2
        obtain ⟨y, h3, _⟩ := h.dead d' e hd' e2
        have := (List.getElem?_eq_some_iff.1 h3).1
        omega
    · rw [if_neg h1] at e1
      by_cases h2 : d' = c
      · rw [if_pos h2] at e2
        obtain ⟨y, h3, _⟩ := h.dead d e hd e1
        have := (List.getElem?_eq_some_iff.1 h3).1
        omega
      · rw [if_neg h2] at e2
        exact h.one d d' e hd hd' e1 e2
  · rw [new] at e1
    by_cases h1 : d = c
    · rw [if_pos h1] at e1
      have : e = E.length := by omega
      subst this
      exact ⟨x, by simp, hx⟩
    · rw [if_neg h1] at e1
      obtain ⟨y, h3, h4⟩ := h.dead d e hd e1
      exact ⟨y, by rw [List.getElem?_append_left (List.getElem?_eq_some_iff.1 h3).1]; exact h3, h4⟩
  · rcases old e y he with ⟨h1, h2⟩ | ⟨rfl, rfl⟩
    · obtain ⟨i, hi, h3, h4⟩ := h.pos e y h2 hy
      refine ⟨i, hi, ?_, fun j hj => ?_⟩
      · rw [new, if_neg (fun e5 => by rw [e5, hq] at h3; omega)]; exact h3
      · rw [new]; split
        · omega
        · exact h4 j hj
    · refine ⟨k, hn, ?_, fun j hj => ?_⟩
      · rw [new, if_pos hcc]
      · rw [new]; split
        · omega
        · exact hb j hj
  · rw [new] at hi
    rcases old e y he with ⟨h1, h2⟩ | ⟨rfl, rfl⟩
    · rcases old f z hf with ⟨h3, h4⟩ | ⟨rfl, rfl⟩
      · have h5 : V (trC L (uh y.hash) i) = f := by
          by_cases h6 : trC L (uh y.hash) i = c
          · rw [if_pos h6] at hi; omega
          · rw [if_neg h6] at hi; exact hi
        obtain ⟨j, hj, h7⟩ := h.ord e f y z h2 h4 hy hz hyz hef i h5
        exact ⟨j, hj, by rw [new, if_neg (fun e5 => by rw [e5, hq] at h7; omega)]; exact h7⟩
      · have h5 : trC L (uh y.hash) i = c := by
          by_cases h6 : trC L (uh y.hash) i = c
          · exact h6
          · rw [if_neg h6] at hi
            obtain ⟨y', h7, _⟩ := h.dead _ E.length (trC_lt _ _ _) hi
            simp at h7
        obtain ⟨j, hj, h6, h7⟩ := h.pos e y h2 hy
        have hk1 : k ≤ i := by
          rcases Nat.lt_or_ge i k with h8 | h8
          · exact absurd (by rw [← hyz, h5]; exact hq) (hb i h8)
          · exact h8
        have hk2 : j < k := by
          rcases Nat.lt_or_ge j k with h8 | h8
          · exact h8
          · rcases Nat.lt_or_ge k j with h9 | h9
            · exact absurd (by rw [hyz, hcc]; exact hq) (h7 k h9)
            · have : j = k := by omega
              subst this
              rw [hyz, hcc, hq] at h6; omega
        exact ⟨j, by omega, by rw [new, if_neg (fun e5 => by rw [e5, hq] at h6; omega)]; exact h6⟩
    · have := (List.getElem?_eq_some_iff.1 hf).1
      simp at this; omega
  · have h1 := cntB_put (p := fun d => putN V c (E.length : Int) d != -1) (q := fun d => V d != -1) hc fun i hi => by show (putN V c (E.length : Int) i != -1) = _; rw [new, if_neg hi]
    simp only [new, if_pos, hq, h.cnt] at h1
    have e1 : (((E.length : Nat) : Int) != -1) = true := by simp
    rw [e1] at h1
    simp at h1 ⊢
    simpa [new] using h1
  · have h1 := cntB_put (p := fun d => putN V c (E.length : Int) d == -2) (q := fun d => V d == -2) hc fun i hi => by show (putN V c (E.length : Int) i == -2) = _; rw [new, if_neg hi]
    simp only [new, if_pos, hq, h.gone] at h1
    have e1 : (((E.length : Nat) : Int) == -2) = false := by simp
    rw [e1] at h1
    simp at h1
    rw [List.countP_append, List.countP_singleton, hx]
    simpa [new] using h1

theorem CInv.kill {L : Nat} {V : Nat → Int} {E : List Ent} (h : CInv L V E) (e : Nat) (x : Ent) (he : E[e]? = some x) (hx : x.live = true) (c : Nat) (hc : c < 2 ^ L) (hv : V c = e) : CInv L (putN V c (-2)) (E.set e noE) := by
  have new : ∀ d, putN V c (-2) d = if d = c then -2 else V d := fun d => rfl
  have hel := (List.getElem?_eq_some_iff.1 he).1
  have old : ∀ (f : Nat) (y : Ent), (E.set e noE)[f]? = some y → y.live = true → f ≠ e ∧ E[f]? = some y := fun f y hf hy => by
    rw [List.getElem?_set] at hf
    by_cases h1 : e = f
    · subst h1; rw [if_pos rfl] at hf; split at hf
      · simp at hf; rw [← hf] at hy; cases hy
      · omega
    · rw [if_neg h1] at hf; exact ⟨fun q => h1 q.symm, hf⟩
  have oth : ∀ d (f : Nat), d < 2 ^ L → f ≠ e → V d = f → putN V c (-2) d = f := fun d f hd hf hv' => by
    rw [new, if_neg (fun q => by rw [q, hv] at hv'; omega)]; exact hv'
  refine ⟨fun d hd => ?_, fun d d' f hd hd' e1 e2 => ?_, fun d f hd e1 => ?_, fun f y hf hy => ?_, fun f g y z hf hg hy hz hyz hfg i hi => ?_, ?_, ?_⟩
  · rw [new]
    split
    · exact .inr (.inl rfl)
    · simpa using h.rng d hd
  · rw [new] at e1 e2
    split at e1
    · omega
    · split at e2
      · omega
      · exact h.one d d' f hd hd' e1 e2
  · rw [new] at e1
    split at e1
    · omega
    · rename_i hdc
      obtain ⟨y, h3, h4⟩ := h.dead d f hd e1
      have : f ≠ e := fun q => hdc (h.one d c e hd hc (q ▸ e1) hv)
      exact ⟨y, by rw [List.getElem?_set_ne (fun q => this q.symm)]; exact h3, h4⟩
  · obtain ⟨h1, h2⟩ := old f y hf hy
    obtain ⟨i, hi, h3, h4⟩ := h.pos f y h2 hy
    refine ⟨i, hi, oth _ _ (trC_lt _ _ _) h1 h3, fun j hj => ?_⟩
    rw [new]; split
    · omega
    · exact h4 j hj
  · obtain ⟨h1, h2⟩ := old f y hf hy
    obtain ⟨h3, h4⟩ := old g z hg hz
    have h5 : V (trC L (uh y.hash) i) = g := by
      rw [new] at hi
      split at hi
      · omega
      · exact hi
    obtain ⟨j, hj, h6⟩ := h.ord f g y z h2 h4 hy hz hyz hfg i h5
    exact ⟨j, hj, oth _ _ (trC_lt _ _ _) h1 h6⟩
  · have h1 := cntB_put (p := fun d => putN V c (-2) d != -1) (q := fun d => V d != -1) hc fun i hi => by show (putN V c (-2) i != -1) = _; rw [new, if_neg hi]
    have e1 : (((e : Nat) : Int) != -1) = true := by simp
    simp only [new, if_pos, hv, h.cnt, e1] at h1
    simp at h1 ⊢
    simpa [new] using h1
  · have h1 := cntB_put (p := fun d => putN V c (-2) d == -2) (q := fun d => V d == -2) hc fun i hi => by show (putN V c (-2) i == -2) = _; rw [new, if_neg hi]
    have e1 : (((e : Nat) : Int) == -2) = false := by simp
    simp only [new, if_pos, hv, h.gone, e1] at h1
    simp at h1
    rw [List.countP_set hel]
    have e2 : E[e].live = true := by
      have := (List.getElem?_eq_some_iff.1 he).2; rw [this]; exact hx
    simp [e2, noE]
    simpa [new] using h1
attribute [irreducible] layV fe fi cntB
end Go.Proofs.Ytajcbghhpjpmhaa
