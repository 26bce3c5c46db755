/- The iterator of a trail, whatever function it hands its cells to (chapter 5). -/
import Derived.Test.YtlpccmokjjldlaaTrail
namespace Go.Proofs.Ytlpccmokjjldlaa
open Go.RowKit

/-- What one round's call may come to. -/
def Stepped1 (J Jx : Nat → World → Prop) (i : Nat) (e : Ending) (W' : World) : Prop :=
  (e = .returned (.bool true) ∧ J (i + 1) W') ∨ (e = .returned (.bool false) ∧ Jx (i + 1) W')

/-- A call of a function of the program is entered. -/
def Enters (P : Program) (g : FuncId) : Prop := ∀ args W, (callFunc g args).run P W = .ok (.enter g args) W
theorem enters_of {P : Program} {g : FuncId} {fn : Func} (hg : P.funcs[g]? = some fn) (hn : (fn.name == "runtime.NumGoroutine") = false) (hb : fn.body.isNone = false) : Enters P g := by
  intro args W
  have hn' : ¬ fn.name = "runtime.NumGoroutine" := by simpa using hn
  have hb' : ¬ fn.body = none := by intro h; rw [h] at hb; cases hb
  simp [callFunc, hg, hn', hb']

theorem all1_any (g : FuncId) (caps : Array Value) (hg : Enters Try.prog g) (L h : Nat) (hL : L ≤ 20) (hi : Int) (hh : IntKind.u64.wrap hi = (h : Int)) (hlt : h < 18446744073709551616)
    (bl bh : Nat) (J Jx : Nat → World → Prop)
    (hstep : ∀ i W, i < 2 ^ L + 13 → J i W → Calls Try.prog g (#[.int .i64 (trC L h i : Nat)] ++ caps) W (Stepped1 J Jx i))
    (w : World) (h1 : w.cell? ⟨bl, 0, none⟩ = some (.int .i64 L)) (h2 : w.cell? ⟨bh, 0, none⟩ = some (.int .i64 hi)) (hJ : J 0 w) :
    Calls Try.prog 57 #[.func (.func g) #[] caps, .pointer (some ⟨bl, 0, none⟩), .pointer (some ⟨bh, 0, none⟩)] w fun e w' => e = .returned (.tuple #[]) ∧ (J (2 ^ L + 13) w' ∨ ∃ i, 1 ≤ i ∧ i ≤ 2 ^ L + 13 ∧ Jx i w') := by
  obtain ⟨M, hM⟩ := ex_hid (2 ^ L)
  have e1 : IntKind.u64.wrap ((2 : Int) ^ L) = (M : Int) := by rw [hM.out]; exact u64_pow L hL
  have e2 : wrap64 ((2 : Int) ^ L) = (M : Int) := by rw [hM.out]; rw [← IntWalk.i64_left]; exact i64_pow L hL
  have m1 : 0 < (M : Int) := by have := pow_pos L; rw [hM.out]; omega
  have m2 : (M : Int) ≤ 1048576 := by have := pow_le hL; rw [hM.out]; omega
  have m3 : (0 : Int) ≤ (M : Int) - 1 := by omega
  have l0 : (0 : Int) ≤ (L : Int) := by omega
  have l1 : (L : Int) ≤ 20 := by omega
  have hstep' : ∀ i W, i < M + 13 → J i W → Calls Try.prog g (#[.int .i64 (trC L h i : Nat)] ++ caps) W (Stepped1 J Jx i) := by rw [hM.out]; exact hstep
  have HS := Lib.hid hstep'
  have HG := Lib.hid hg
  clear hstep hstep' hg
  suffices hs : Calls Try.prog 57 #[.func (.func g) #[] caps, .pointer (some ⟨bl, 0, none⟩), .pointer (some ⟨bh, 0, none⟩)] w fun e w' => e = .returned (.tuple #[]) ∧ (J (M + 13) w' ∨ ∃ i, 1 ≤ i ∧ i ≤ M + 13 ∧ Jx i w') by
    rw [← hM.out]; exact hs
  have d1 : decide ((L : Int) < 0) = false := by simp
  have d2 : decide ((20 : Int) < (L : Int)) = false := by simp; omega
  go_enter Try.func57, Try.ntmps57
  go_wp2_with fail
  have HU := Lib.hid hh
  clear e1 e2 d1 d2 h1 h2 hh
  go_loopw [5, 6, 24] (fun p c i wr => ∃ k q d : Nat, k ≤ M + 13 ∧ i = .int .i64 k ∧ p = .int .u64 q ∧ c = .int .u64 d ∧ q < 18446744073709551616 ∧ d < M ∧ Hid (q = h / 32 ^ k) ∧ Hid (d = trC L h k) ∧ J k wr)
    (fun _ _ i _ => M + 13 - (intOf i).toNat)
  case atStart =>
    have hx : bits BinOp.and IntKind.u64 (h : Int) ((M : Int) - 1) = ((h % M : Nat) : Int) := by
      rw [and_mask L h hL hlt _ _ rfl (by rw [hM.out]), hM.out]
    exact ⟨0, h, h % M, by omega, rfl, rfl, by rw [hx], hlt, Nat.mod_lt _ (by omega), Lib.hid (by simp), Lib.hid (by rw [hM.out]; rfl), hJ⟩
  case round =>
    obtain ⟨k, q, d, hk, rfl, rfl, rfl, hq, hd, HQ, HD, hJk⟩ := hrel
    have hdi : (d : Int) < 1048576 := by omega
    by_cases hlt' : k < M + 13
    · have hki : (k : Int) < (M : Int) + 13 := by omega
      have hc := HS.out k wr hlt' hJk
      rw [← HD.out] at hc
      have HC := Lib.hid hc
      have w1 : wrap64 (d : Int) = (d : Int) := IntWalk.wrap64_in _ (by omega)
      have HJ := Lib.hid hJk
      clear hc hJk
      have hrun := fun args W => HG.out args W
      go_wp2_with fail
      refine HC.out.mono ?_
      rintro e W1 (⟨rfl, hJ1⟩ | ⟨rfl, hJ1⟩)
      · have HJ1 := Lib.hid hJ1
        clear hJ1
        go_wp2_with fail
        go_roundw
        case rel =>
          refine ⟨k + 1, q / 32, trC L h (k + 1), by omega, by go_num, by go_num, ?_, by omega, by rw [hM.out]; exact trC_lt _ _ _, Lib.hid (by rw [div_pow_succ, HQ.out]), Lib.hid rfl, HJ1.out⟩
          have hx : bits BinOp.and IntKind.u64 (5 * (d : Int) + (q : Int) / 32 + 1) ((M : Int) - 1) = ((trC L h (k + 1) : Nat) : Int) := by
            rw [and_mask L (5 * d + q / 32 + 1) hL (by omega) _ _ (by omega) (by rw [hM.out])]
            show _ = ((nxtC L (trC L h k) (h / 32 ^ k) : Nat) : Int)
            rw [← HD.out, ← HQ.out]
            rfl
          rw [hx]
        case measure => simp [intOf]; omega
      · have HJ1 := Lib.hid hJ1
        clear hJ1
        go_wp2_with fail
        refine bodyPost_ret (results_none rfl _ _ _) rfl ?_
        exact ⟨rfl, .inr ⟨k + 1, by omega, by omega, HJ1.out⟩⟩
    · have hki : (M : Int) + 13 ≤ (k : Int) := by omega
      have hke : k = M + 13 := by omega
      have HJ := Lib.hid (show J (M + 13) wr by rw [← hke]; exact hJk)
      have hdx : decide ((k : Int) < (M : Int) + 13) = false := by simp; omega
      clear hJk hke hlt' HS HG m3
      go_wp2_with fail
      go_end0
      exact ⟨rfl, .inl HJ.out⟩
end Go.Proofs.Ytlpccmokjjldlaa
