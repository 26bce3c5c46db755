/- All entries laid anew; begin; the least logarithm (chapter 7). -/
import Derived.Test.YtajcbghhpjpmhaaTabLay
import Derived.BigQuiet
import Derived.Deep.QuietTactic
namespace Go.Proofs.Ytajcbghhpjpmhaa
open Go.RowKit
set_option linter.unusedVariables false

set_option maxRecDepth 100000 in
theorem layAll_any (t lo : Nat) (S : List Nat) (m : Value) (E : List Ent) (L lv bi ma tu : Nat) (w : World) (H : TabC t lo S m E (begun (2 ^ L)) L lv bi ma tu w) (h3 : 3 ≤ L) (hL : L ≤ 20) (hE : E.length ≤ 2 * 2 ^ L / 3) (hE1 : E.length ≤ 1000000) :
    Calls Try.prog 48 #[.pointer (some ⟨t, 0, none⟩)] w fun r w' => r = .returned (.tuple #[]) ∧ TabC t lo S m E (layN L E E.length) L lv bi ma tu w' ∧ Keeps S w w' := by
  have HH := Lib.hid H
  obtain ⟨a, c, cb, cr, h1, _⟩ := H
  have e1 : w.cell? ⟨t, 1, none⟩ = some (.slice a E.length c) := cell_has h1 (i := 1) rfl
  obtain ⟨n, hn⟩ := ex_hid E.length
  rw [← hn.out] at e1 hE1
  have HE := Lib.hid hE
  clear h1 hE
  go_enter Try.func48, Try.ntmps48
  go_wp2_with fail
  clear e1
  go_loopw [8] (fun i wr => ∃ k : Nat, k ≤ n ∧ i = .int .i64 k ∧ TabC t lo S m E (layN L E k) L lv bi ma tu wr ∧ Keeps S w wr) (fun i _ => n - (intOf i).toNat)
  case atStart => exact ⟨0, by omega, rfl, by rw [layN_zero]; exact HH.out, Keeps.refl _ _⟩
  case round =>
    obtain ⟨k, hk, rfl, hT, hK⟩ := hrel
    have hk0 : (0 : Int) ≤ (k : Int) := by omega
    have HT := Lib.hid hT
    have HK := Lib.hid hK
    clear hT hK
    by_cases hlt : k < n
    · have hlt' : (k : Int) < (n : Int) := by omega
      have hx : E[k]? = some E[k] := List.getElem?_eq_getElem (by rw [← hn.out]; exact hlt)
      have HX := Lib.hid hx
      have hkE : k < 2 * 2 ^ L / 3 := by have := HE.out; have := hn.out; omega
      have HM := Lib.hid (may_of hkE)
      have HF := Lib.hid (layN_fits L E k (by omega))
      clear hx hkE
      go_wp2_with fail
      refine (lay_any t lo S m E (layN L E k) L lv bi ma tu wr HT.out h3 hL HF.out k _ HX.out HM.out).mono ?_
      rintro r w1 ⟨rfl, t1, k1⟩
      have T1 := Lib.hid t1
      have K1 := Lib.hid (HK.out.trans k1)
      clear t1 k1
      go_wp2_with fail
      go_roundw
      case rel =>
        refine ⟨k + 1, by omega, by go_num, ?_, K1.out⟩
        rw [layN_succ, List.getD_eq_getElem?_getD, HX.out]
        exact T1.out
      case measure => simp [intOf]; omega
    · obtain rfl : k = n := by omega
      have hge : ¬ (k : Int) < (k : Int) := by omega
      go_wp2_with fail
      go_end0
      exact ⟨rfl, by rw [← hn.out]; exact HT.out, HK.out⟩

/-- begin, where the table has begun. -/
theorem begin_any (t lo : Nat) (S : List Nat) (m : Value) (E : List Ent) (V : Nat → Int) (L lv bi ma tu : Nat) (w : World) (H : TabC t lo S m E V L lv bi ma tu w) :
    Calls Try.prog 41 #[.pointer (some ⟨t, 0, none⟩)] w fun r w' => r = .returned (.tuple #[]) ∧ w = w' := by
  obtain ⟨a, c, cb, cr, h1, _⟩ := H
  have e1 : w.cell? ⟨t, 2, none⟩ = some (.pointer (some ⟨cb, 0, none⟩)) := cell_has h1 (i := 2) rfl
  clear h1
  go_enter Try.func41, Try.ntmps41
  go_wp2_with fail
  go_end0
  exact ⟨rfl, rfl⟩

/-- The test of Add. -/
theorem addf_any (bt t : Nat) (l : Int) (L lv : Nat) (hl : l = (L : Int)) (hL : L ≤ 20) (hlv : lv ≤ 1000000) (m ev cp bi ma tu : Value) (w : World) (hb : w.cell? ⟨bt, 0, none⟩ = some (.pointer (some ⟨t, 0, none⟩))) (h : w.heap[t]? = some (tabO m ev cp (.int .i64 lv) bi ma tu)) :
    Calls Try.prog 75 #[.int .i64 l, .pointer (some ⟨bt, 0, none⟩)] w fun r w' => r = .returned (.bool (decide (3 * lv ≤ 2 ^ L))) ∧ Keeps [] w w' := by
  subst hl
  have e1 : w.cell? ⟨t, 3, none⟩ = some (.int .i64 lv) := cell_has h (i := 3) rfl
  obtain ⟨M, hM⟩ := ex_hid (2 ^ L)
  have e2 : wrap64 ((2 : Int) ^ L) = (M : Int) := by rw [hM.out]; rw [← IntWalk.i64_left]; exact i64_pow L hL
  have m1 : 0 < (M : Int) := by have := pow_pos L; rw [hM.out]; omega
  have m2 : (M : Int) ≤ 1048576 := by have := pow_le hL; rw [hM.out]; omega
  have l0 : (0 : Int) ≤ (L : Int) := by omega
  have l1 : (L : Int) ≤ 20 := by omega
  rw [← hM.out]
  have hd : decide (3 * (lv : Int) ≤ (M : Int)) = decide (3 * lv ≤ M) := by rw [decide_eq_decide]; omega
  have HD := Lib.hid hd
  clear h hd
  go_enter Try.func75, Try.ntmps75
  go_wp2_with fail
  go_quiet (fail)
  go_wp2_with fail
  go_ret
  exact ⟨ret_boo HD.out, (Keeps.refl _ _).drewN _⟩
theorem copyf_any (bt t : Nat) (l : Int) (L lv : Nat) (hl : l = (L : Int)) (hL : L ≤ 20) (hlv : lv ≤ 1000000) (m ev cp bi ma tu : Value) (w : World) (hb : w.cell? ⟨bt, 0, none⟩ = some (.pointer (some ⟨t, 0, none⟩))) (h : w.heap[t]? = some (tabO m ev cp (.int .i64 lv) bi ma tu)) :
    Calls Try.prog 47 #[.int .i64 l, .pointer (some ⟨bt, 0, none⟩)] w fun r w' => r = .returned (.bool (decide (lv ≤ 2 * 2 ^ L / 3))) ∧ Keeps [] w w' := by
  subst hl
  have e1 : w.cell? ⟨t, 3, none⟩ = some (.int .i64 lv) := cell_has h (i := 3) rfl
  have l0 : (0 : Int) ≤ (L : Int) := by omega
  have l1 : (L : Int) ≤ 20 := by omega
  have hv : (wrap64 ((wrap64 (2 * 2 ^ L)).tdiv 3)) = ((2 * 2 ^ L / 3 : Nat) : Int) := by
    have hn1 : 2 ^ L ≤ 1048576 := pow_le hL
    have e : (2 : Int) ^ L = ((2 ^ L : Nat) : Int) := by simp
    rw [e]
    generalize 2 ^ L = M at *
    rw [IntWalk.wrap64_in (2 * (M : Int)) (by omega), Int.tdiv_eq_ediv_of_nonneg (by omega), IntWalk.wrap64_in _ (by omega)]
    omega
  have HV := Lib.hid hv
  clear h hv
  go_enter Try.func47, Try.ntmps47
  go_wp2_with fail
  go_quiet (fail)
  go_wp2_with fail
  go_ret
  refine ⟨ret_boo ?_, (Keeps.refl _ _).drewN _⟩
  rw [HV.out, decide_eq_decide]
  omega

theorem least_step {p : Nat → Bool} {l : Nat} (h3 : 3 ≤ l) (hl : l ≤ leastL p) (h20 : l ≤ 20) (hp : p l = false) : l + 1 ≤ leastL p := by
  rcases Nat.lt_or_ge l (leastL p) with h | h
  · omega
  · have h1 : leastL p = l := by omega
    have := leastL_is (p := p) (by omega)
    rw [h1, hp] at this; cases this
theorem least_hit {p : Nat → Bool} {l : Nat} (h3 : 3 ≤ l) (hl : l ≤ leastL p) (h20 : l ≤ 20) (hp : p l = true) : l = leastL p := by
  have := leastL_le h3 h20 hp
  omega
/-- least, of a test that turns nothing. -/
theorem least_any (f : FuncId) (caps : Array Value) (hf : EntersF Try.prog f) (p : Nat → Bool) (hp : leastL p ≤ 20) (w : World)
    (hc : ∀ (W : World) (l : Int) (L : Nat), Keeps [] w W → l = (L : Int) → L ≤ 20 → Calls Try.prog f (#[.int .i64 l] ++ caps) W fun r w' => r = .returned (.bool (p L)) ∧ Keeps [] W w') :
    Calls Try.prog 46 #[.func (.func f) #[] caps] w fun r w' => r = .returned (.int .i64 (leastL p : Nat)) ∧ Keeps [] w w' := by
  have HC := Lib.hid hc
  have HF := Lib.hid hf
  clear hc hf
  go_enter Try.func46, Try.ntmps46
  go_wp2_with fail
  go_loopw [3] (fun i wr => ∃ l : Nat, 3 ≤ l ∧ l ≤ leastL p ∧ i = .int .i64 l ∧ Keeps [] w wr) (fun i _ => 21 - (intOf i).toNat)
  case atStart => exact ⟨3, by omega, leastL_ge p, rfl, Keeps.refl _ _⟩
  case round =>
    obtain ⟨l, h3, hl, rfl, hK⟩ := hrel
    have HK := Lib.hid hK
    have l20 : (l : Int) ≤ 20 := by omega
    have hrun := fun args W => HF.out args W
    cases hpl : p l
    · have HS := Lib.hid (least_step h3 hl (by omega) hpl)
      have hC := HC.out wr l l hK rfl (by omega)
      rw [hpl] at hC
      have HC2 := Lib.hid hC
      clear hC hpl hK
      go_wp2_with fail
      refine HC2.out.mono ?_
      rintro r w1 ⟨rfl, k1⟩
      have K1 := Lib.hid (HK.out.trans k1)
      clear k1
      go_wp2_with fail
      go_roundw
      case rel => exact ⟨l + 1, by omega, HS.out, by go_num, K1.out⟩
      case measure => simp [intOf]; omega
    · have HS := Lib.hid (least_hit h3 hl (by omega) hpl)
      have hC := HC.out wr l l hK rfl (by omega)
      rw [hpl] at hC
      have HC2 := Lib.hid hC
      clear hC hpl hK
      go_wp2_with fail
      refine HC2.out.mono ?_
      rintro r w1 ⟨rfl, k1⟩
      have K1 := Lib.hid (HK.out.trans k1)
      clear k1
      go_wp2_with fail
      go_ret
      exact ⟨ret_num (by rw [← HS.out]), K1.out⟩
end Go.Proofs.Ytajcbghhpjpmhaa
