/- What the cells of a table count, in plain numbers (chapter 7's laws). No program in sight. -/
import Derived.Test.YtajcbghhpjpmhaaTabOps
namespace Go.Proofs.Ytajcbghhpjpmhaa
open Go.RowKit
set_option linter.unusedVariables false

theorem cntB_step (p : Nat → Bool) (n : Nat) : cntB p (n + 1) = cntB p n + if p n then 1 else 0 := by simp only [cntB]
theorem cntB_zero (p : Nat → Bool) : cntB p 0 = 0 := by simp only [cntB]
theorem cntB_not (p : Nat → Bool) : ∀ n, cntB p n + cntB (fun c => !p c) n = n := by
  intro n
  induction n with
  | zero => simp only [cntB_zero]
  | succ n h =>
    simp only [cntB_step]
    cases p n <;> simp <;> omega
theorem cntB_one {p : Nat → Bool} {c : Nat} (hp : p c = true) (h1 : ∀ d, p d = true → d = c) : ∀ n, cntB p n = if c < n then 1 else 0 := by
  intro n
  induction n with
  | zero => simp only [cntB_zero]; simp
  | succ n h =>
    rw [cntB_step, h]
    by_cases e : n = c
    · subst e; rw [hp]; simp
    · have hq : p n = false := by
        cases hq : p n
        · rfl
        · exact absurd (h1 n hq) e
      rw [hq]
      by_cases e2 : c < n
      · have e3 : c < n + 1 := by omega
        simp [e2, e3]
      · have e3 : ¬ c < n + 1 := by omega
        simp [e2, e3]
/-- How many of the first k cells are empty, dead, e's. -/
def emptyN (V : Nat → Int) (k : Nat) : Nat := cntB (fun c => V c == -1) k
def deadN (V : Nat → Int) (k : Nat) : Nat := cntB (fun c => V c == -2) k
def seenN (V : Nat → Int) (k e : Nat) : Nat := cntB (fun c => V c == (e : Int)) k
theorem cnt_empty {V : Nat → Int} {k : Nat} (h : V k = -1) : emptyN V (k + 1) = emptyN V k + 1 ∧ deadN V (k + 1) = deadN V k ∧ seenN V (k + 1) = seenN V k := by
  unfold emptyN deadN seenN
  refine ⟨by rw [cntB_step, h]; rfl, by rw [cntB_step, h]; rfl, funext fun e => ?_⟩
  rw [cntB_step, h]
  have : ((-1 : Int) == (e : Int)) = false := by simp
  simp
theorem cnt_dead {V : Nat → Int} {k : Nat} (h : V k = -2) : emptyN V (k + 1) = emptyN V k ∧ deadN V (k + 1) = deadN V k + 1 ∧ seenN V (k + 1) = seenN V k := by
  unfold emptyN deadN seenN
  refine ⟨by rw [cntB_step, h]; rfl, by rw [cntB_step, h]; rfl, funext fun e => ?_⟩
  rw [cntB_step, h]
  have : ((-2 : Int) == (e : Int)) = false := by first | (simp; done) | (simp; omega)
  rw [this]; simp
theorem cnt_seen {V : Nat → Int} {k e : Nat} (h : V k = (e : Int)) : emptyN V (k + 1) = emptyN V k ∧ deadN V (k + 1) = deadN V k ∧ seenN V (k + 1) = fun f => if f = e then seenN V k e + 1 else seenN V k f := by
  unfold emptyN deadN seenN
  have h1 : ((e : Int) == -1) = false := by simp
  have h2 : ((e : Int) == -2) = false := by first | (simp; done) | (simp; omega)
  refine ⟨by rw [cntB_step, h, h1]; rfl, by rw [cntB_step, h, h2]; rfl, funext fun f => ?_⟩
  rw [cntB_step, h]
  by_cases hf : f = e
  · subst hf; simp
  · rw [if_neg hf]
    have : ((e : Int) == (f : Int)) = false := by first | (simp; done) | (simp; omega)
    rw [this]; simp
theorem seen_live {L : Nat} {V : Nat → Int} {E : List Ent} (h : CInv L V E) {e : Nat} {x : Ent} (hx : E[e]? = some x) : seenN V (2 ^ L) e = if x.live then 1 else 0 := by
  unfold seenN
  cases hl : x.live
  · simp only [Bool.false_eq_true, if_false]
    refine cntB_none fun c hc => ?_
    cases hq : (V c == (e : Int))
    · rfl
    · obtain ⟨y, h1, h2⟩ := h.dead c e hc (by simpa using hq)
      rw [hx] at h1
      simp at h1; subst h1; rw [hl] at h2; cases h2
  · simp only [if_true]
    obtain ⟨i, hi, h1, _⟩ := h.pos e x hx hl
    have hc := trC_lt L (uh x.hash) i
    have h2 : cntB (fun c => decide (c < 2 ^ L) && (V c == (e : Int))) (2 ^ L) = if trC L (uh x.hash) i < 2 ^ L then 1 else 0 := by
      refine cntB_one (by simp [hc, h1]) (fun d hd => ?_) _
      simp only [Bool.and_eq_true, decide_eq_true_eq, beq_iff_eq] at hd
      exact h.one d _ e hd.1 hc hd.2 h1
    rw [if_pos hc] at h2
    rw [← h2]
    exact cntB_congr fun c hc => by simp [hc]
/-- How many of the first k entries are dead. -/
def goneN (E : List Ent) (k : Nat) : Nat := (E.take k).countP fun x => !x.live
theorem goneN_succ {E : List Ent} {k : Nat} {x : Ent} (h : E[k]? = some x) : goneN E (k + 1) = goneN E k + if x.live then 0 else 1 := by
  unfold goneN
  rw [List.take_add_one, h, Option.toList_some, List.countP_append]
  cases hl : x.live <;> simp [hl]
theorem room_law {k : Nat} {T : Tab} (h : TInv k T) : 2 ^ T.L ≤ 3 * emptyN T.V (2 ^ T.L) ∧ deadN T.V (2 ^ T.L) = goneN T.E T.E.length := by
  refine ⟨?_, ?_⟩
  · have h1 := cntB_not (fun c => T.V c == -1) (2 ^ T.L)
    have h2 := h.ci.cnt
    have h3 := h.rm
    unfold emptyN
    have h4 : cntB (fun c => T.V c != -1) (2 ^ T.L) = cntB (fun c => !(T.V c == -1)) (2 ^ T.L) := rfl
    omega
  · unfold deadN goneN
    rw [List.take_length]
    exact h.ci.gone
end Go.Proofs.Ytajcbghhpjpmhaa
