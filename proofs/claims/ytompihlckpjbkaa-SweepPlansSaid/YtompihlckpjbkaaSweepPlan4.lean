/- sweep.Force (chapter 12): how often each count was named. -/
import Derived.Test.YtompihlckpjbkaaSweepPlan3
import Derived.Test.YtompihlckpjbkaaArgs
namespace Go.Proofs.Ytompihlckpjbkaa
open Go.RowKit Go.Maps Go.ChangeMaps
set_option linter.unusedVariables false

theorem MapOf.put {w w1 : World} {b n : Nat} {D : DataW Unit} {f : Int → Int} (h : w.ownsMap Try.prog 3 (plainElem Try.prog 3) b n D) (hat : ∀ x, D.atKey (.int .i64 x) (.lit (.int .i64 0)) = .lit (.int .i64 (f x)))
    {x v : Int} (h1 : w1.ownsMap Try.prog 3 (plainElem Try.prog 3) b (n + 1) (D.put (.int .i64 x) (.lit (.int .i64 v)))) : MapOf w1 b (n + 1) (fun y => if y = x then v else f y) := by
  obtain ⟨es, clock, h2, h3, h4, h5⟩ := h
  refine ⟨_, h1, fun y => ?_⟩
  by_cases hy : y = x
  · subst hy
    rw [atKey_put_same ⟨_, h5⟩ (by simp [WideAt.IsKeyLit])]
    simp
  · rw [atKey_put_other (by simpa using hy), hat]
    simp [hy]

/-- How many of the first j numbers are x. -/
def cntN (A : Nat → Int) : Nat → Int → Int
  | 0, _ => 0
  | j + 1, x => if x = A j then cntN A j x + 1 else cntN A j x
theorem cntN_bd (A : Nat → Int) (x : Int) : ∀ j, 0 ≤ cntN A j x ∧ cntN A j x ≤ j
  | 0 => by simp [cntN]
  | j + 1 => by have := cntN_bd A x j; unfold cntN; split <;> omega

/-- Behind Force. -/
def ForceC (len : Nat) (A : Nat → Int) (w : World) (e : Ending) (w' : World) : Prop :=
  ∃ p b, e = .returned (.pointer (some ⟨p, 0, none⟩)) ∧ PlanAt p b len (cntN A len) 0 w' ∧ w.heap.size ≤ p ∧ w.heap.size ≤ b ∧ Below w.heap.size w w'
theorem force_any (a : Option Addr) (len cap : Nat) (A : Nat → Int) (w : World) (hr : IntRow .i64 1 w a len A) (hl : len ≤ 300) :
    Calls Try.prog 36 #[.slice a len cap] w (ForceC len A w) := by
  have HR := Lib.hid hr
  have hl3 : (len : Int) ≤ 300 := by omega
  have hmm := @run_makeMap Try.prog
  clear hr
  go_enter Try.func36, Try.ntmps36
  go_wp2_with fail
  have P0 := Lib.hid (PlanAt.mk (has_new' _ _ (by simp)) ((MapOf.made w).keeps ((Keeps.refl [] _).alloc (.cells #[.map (some w.heap.size), .int .i64 0] 67)) (by simp)) (by omega) : PlanAt (w.heap.size + 1) w.heap.size 0 (fun _ => 0) 0 ((w.alloc (.map #[] 0)).alloc (.cells #[.map (some w.heap.size), .int .i64 0] 67)))
  have B0 := Lib.hid (((Below.refl w.heap.size w).alloc (Nat.le_refl _) (.map #[] 0)).alloc (by simp) (.cells #[.map (some w.heap.size), .int .i64 0] 67))
  go_loopw [11] (fun i wr => ∃ j : Nat, j ≤ len ∧ i = .int .i64 j ∧ PlanAt (w.heap.size + 1) w.heap.size j (cntN A j) 0 wr ∧ Below w.heap.size w wr) (fun i _ => len - (intOf i).toNat)
  case atStart => exact ⟨0, by omega, rfl, P0.out, B0.out⟩
  case round =>
    obtain ⟨j, hj, rfl, hP, hb⟩ := hrel
    clear P0 B0
    have j0 : (0 : Int) ≤ (j : Int) := by omega
    have HP := Lib.hid hP
    have HB := Lib.hid hb
    by_cases hlt : j < len
    · have hlt' : (j : Int) < (len : Int) := by omega
      obtain ⟨bb, off, rfl, hbb, -, hc⟩ := (HR.out.below hb).resolve_left (by omega)
      obtain ⟨g0, hwf⟩ := hc j (by omega)
      obtain ⟨x, hx⟩ := ex_hid (A j)
      rw [← hx.out] at g0 hwf
      obtain ⟨D, hown, hat⟩ := hP.map
      have c0 := cell_has hP.box (i := 0) rfl
      have hlk := hP.map.lookup x hwf
      have hbd := cntN_bd A x j
      obtain ⟨y, hy⟩ := ex_hid (cntN A j x)
      rw [← hy.out] at hlk hbd
      have y0 := hbd.1
      have y1 : y ≤ 300 := by omega
      have hv : (Lit.int .i64 (y + 1)).wf = true := by simp [Lit.wf, IntKind.min, IntKind.max, IntKind.signed, IntKind.bits]; omega
      have HO := Lib.hid hown
      have HAT := Lib.hid hat
      have HWF := Lib.hid hwf
      have HV := Lib.hid hv
      clear hP hb hown hat hwf hv hbd hc
      go_wp2_with (at_mapUpdate; refine wpList_mapUpdate_own _ rfl _ _ _ 65 rfl 3 3 (int_keyed Try.underlying3) Try.underlying65 _ w.heap.size j D rfl HO.out (by unfold maxLen; omega) (.int .i64 x) (.int .i64 (y + 1)) (.int .i64 x) rfl rfl (keyOf_int_mk Try.underlying3 HWF.out) (.lit (.int .i64 (y + 1))) [] (plainElem_int Try.underlying3 HV.out) ?_; intro w1 hown1 hgrow1)
      have K1 := Lib.hid (Keeps.mk (S := [w.heap.size]) hgrow1.os hgrow1.tape hgrow1.output hgrow1.size (fun q hq hs => hgrow1.block q hq (fun e => hs (by simpa using e))))
      have P1 := Lib.hid (PlanAt.mk (K1.out.has HP.out.box (by simp)) (MapOf.put HO.out HAT.out hown1) (by omega) : PlanAt (w.heap.size + 1) w.heap.size (j + 1) (fun z => if z = x then y + 1 else cntN A j z) 0 w1)
      have hf : (fun z => if z = x then y + 1 else cntN A j z) = cntN A (j + 1) := by
        funext z
        simp only [cntN, ← hx.out]
        split
        · rename_i h; subst h; rw [← hy.out]
        · rfl
      rw [hf] at P1
      clear hown1 hgrow1 hlk hf
      go_wp2_with fail
      go_roundw
      case rel => exact ⟨j + 1, by omega, by go_num, P1.out, HB.out.trans (K1.out.below HB.out.size (by simp))⟩
      case measure => simp [intOf]; omega
    · have hje : j = len := by omega
      subst hje
      have hge : ¬ (j : Int) < (j : Int) := by omega
      clear hP hb
      go_wp2_with fail
      go_ret
      exact ⟨w.heap.size + 1, w.heap.size, rfl, HP.out, by omega, Nat.le_refl _, HB.out⟩
end Go.Proofs.Ytompihlckpjbkaa
