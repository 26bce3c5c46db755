/- The trail as an iterator (chapter 5). -/
import Derived.Test.YtajcbghhpjpmhaaTrailT
import Derived.Test.YtajcbghhpjpmhaaRangeF
import Derived.Test.YtajcbghhpjpmhaaCellOps
namespace Go.Proofs.Ytajcbghhpjpmhaa
open Go.RowKit Go.Shelf
set_option linter.unusedVariables false
attribute [local go_sem] Oper.semAt_some

theorem trail_all (h l : Int) (w : World) : Calls Try.prog 78 #[.int .i64 h, .int .i64 l] w fun e w' =>
    e = .returned (.func (.func 92) #[] #[.pointer (some ⟨w.heap.size + 1, 0, none⟩), .pointer (some ⟨w.heap.size, 0, none⟩)]) ∧ (w.alloc (.cells #[.int .i64 h] 3)).alloc (.cells #[.int .i64 l] 3) = w' := by
  go_enter Try.func78, Try.ntmps78
  go_wp2_with fail
  go_ret
  exact ⟨rfl, rfl⟩
theorem enters_trail : ∀ args w, (callFunc 92 args).run Try.prog w = .ok (.enter 92 args) w := entersF_of Try.func92 (by kernel_rfl) (by kernel_rfl)

/-- What the trail leans on. -/
def TrPriv (bl bh L : Nat) (hi : Int) (W : World) : Prop := W.cell? ⟨bl, 0, none⟩ = some (.int .i64 L) ∧ W.cell? ⟨bh, 0, none⟩ = some (.int .i64 hi)
set_option maxRecDepth 100000 in
set_option maxHeartbeats 2000000 in
theorem trIter (bl bh L : Nat) (hL : L ≤ 20) (hi : Int) :
    IterN Try.prog 92 #[.pointer (some ⟨bl, 0, none⟩), .pointer (some ⟨bh, 0, none⟩)] (2 ^ L + 13) (fun k => #[.int .i64 (trC L (uh hi) k : Nat)]) (TrPriv bl bh L hi) := by
  intro l J Jx W hJ hJx hP hY h0
  have hh := uh_cast hi
  have hlt := uh_lt hi
  obtain ⟨h1, h2⟩ := hP 0 W h0
  generalize uh hi = h at *
  have HJ := Lib.hid hJ
  have HY := Lib.hid hY
  have H0 := Lib.hid h0
  obtain ⟨M, hM⟩ := ex_hid (2 ^ L)
  have e1 : IntKind.u64.wrap ((2 : Int) ^ L) = (M : Int) := by rw [hM.out]; exact u64_pow L hL
  have e2 : wrap64 ((2 : Int) ^ L) = (M : Int) := by rw [hM.out]; rw [← IntWalk.i64_left]; exact i64_pow L hL
  have m1 : 0 < (M : Int) := by have := pow_pos L; rw [hM.out]; omega
  have m2 : (M : Int) ≤ 1048576 := by have := pow_le hL; rw [hM.out]; omega
  have m3 : (0 : Int) ≤ (M : Int) - 1 := by omega
  have l0 : (0 : Int) ≤ (L : Int) := by omega
  have l1 : (L : Int) ≤ 20 := by omega
  rw [← hM.out]
  clear hJ hJx hP hY h0
  refine callsIn_of_wp Try.func92 rfl trivial ?_ rfl
  simp only [Try.ntmps92, List.size_toArray, List.length_cons, List.length_nil, Nat.reduceAdd, Nat.reduceSub, Array.replicate_succ, Array.replicate_zero, List.push_toArray, List.append_toArray, List.nil_append, List.cons_append]
  have d1 : decide ((L : Int) < 0) = false := by simp
  have d2 : decide ((20 : Int) < (L : Int)) = false := by simp; omega
  gi_wp2
  clear e1 e2 d1 d2 h1 h2
  have HU := Lib.hid hh
  clear hh
  gi_loopw [5, 6, 24] (fun p c i wr => ∃ k q d : Nat, k ≤ M + 13 ∧ i = .int .i64 k ∧ p = .int .u64 q ∧ c = .int .u64 d ∧ q < 18446744073709551616 ∧ d < M ∧ Hid (q = h / 32 ^ k) ∧ Hid (d = trC L h k) ∧ J k wr)
    (fun _ _ i _ => M + 13 - (intOf i).toNat)
  case atStart =>
    have hx : bits BinOp.and IntKind.u64 (h : Int) ((M : Int) - 1) = ((h % M : Nat) : Int) := by
      rw [and_mask L h hL hlt _ _ rfl (by rw [hM.out]), hM.out]
    exact ⟨0, h, h % M, by omega, rfl, rfl, by rw [hx], hlt, Nat.mod_lt _ (by omega), Lib.hid (by simp), Lib.hid (by rw [hM.out]; rfl), H0.out⟩
  case round =>
    obtain ⟨k, q, d, hk, rfl, rfl, rfl, hq, hd, HQ, HD, hj⟩ := hrel
    have hdi : (d : Int) < 1048576 := by omega
    by_cases hlt' : k < M + 13
    · have hki : (k : Int) < (M : Int) + 13 := by omega
      have w1 : wrap64 (d : Int) = (d : Int) := IntWalk.wrap64_in _ (by omega)
      obtain ⟨fn, tmps, assign, body, hy, hR⟩ := HY.out k wr (by rw [← hM.out]; exact hlt') hj
      rw [← HD.out] at hy
      clear hj
      gi_wp2
      refine hR.mono ?_
      rintro e W3 (⟨rfl, hJ3⟩ | ⟨rfl, hJx3⟩)
      · have HJ3 := Lib.hid hJ3
        clear hJ3 hy
        gi_wp2
        go_roundw
        case rel =>
          refine ⟨k + 1, q / 32, trC L h (k + 1), by omega, by go_num, by go_num, ?_, by omega, by rw [hM.out]; exact trC_lt _ _ _, Lib.hid (by rw [div_pow_succ, HQ.out]), Lib.hid rfl, HJ3.out⟩
          have hx : bits BinOp.and IntKind.u64 (5 * (d : Int) + (q : Int) / 32 + 1) ((M : Int) - 1) = ((trC L h (k + 1) : Nat) : Int) := by
            rw [and_mask L (5 * d + q / 32 + 1) hL (by omega) _ _ (by omega) (by rw [hM.out])]
            show _ = ((nxtC L (trC L h k) (h / 32 ^ k) : Nat) : Int)
            rw [← HD.out, ← HQ.out]
            rfl
          rw [hx]
        case measure => simp [intOf]; omega
      · have HJ3 := Lib.hid hJx3
        clear hJx3 hy
        gi_wp2
        refine bodyPost_ret (results_none rfl _ _ _) rfl ?_
        exact ⟨⟨_, rfl⟩, .inr ⟨k, hlt', HJ3.out⟩⟩
    · have hki : (M : Int) + 13 ≤ (k : Int) := by omega
      have hke : k = M + 13 := by omega
      have HJ2 := Lib.hid (show J (M + 13) wr by rw [← hke]; exact hj)
      have hdx : decide ((k : Int) < (M : Int) + 13) = false := by simp; omega
      clear hj hke hlt' HY m3
      gi_wp2
      go_end0
      exact ⟨⟨_, rfl⟩, .inl HJ2.out⟩
end Go.Proofs.Ytajcbghhpjpmhaa
