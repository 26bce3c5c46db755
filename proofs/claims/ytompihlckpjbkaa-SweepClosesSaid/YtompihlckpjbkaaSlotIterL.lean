/- The iterator over slots of []int (chapter 11). -/
import Derived.Test.YtompihlckpjbkaaSlotAllL
namespace Go.Proofs.Ytompihlckpjbkaa.SL
open Go.RowKit Go.Shelf
set_option linter.unusedVariables false
attribute [local go_sem] Oper.semAt_some

set_option maxRecDepth 100000 in
set_option maxHeartbeats 2000000 in
theorem sIter (bl m cap : Nat) (a : Option Addr) (V : Nat → Value) (T : Nat → Bool) (hm : m ≤ 60000) (hV : ∀ i, i < m → T i = true → ∃ a n c, V i = .slice a n c) :
    IterN Try.prog 61 #[.pointer (some ⟨bl, 0, none⟩)] (cntT T m) (fun k => #[.int .i64 (ixN T m k : Int), V (ixN T m k)]) (AllPriv bl m cap a V T) := by
  intro l J Jx W hJ hJx hP hY h0
  have HJ := Lib.hid hJ
  have HP := Lib.hid hP
  have HY := Lib.hid hY
  have H0 := Lib.hid h0
  have c0 := (hP 0 W h0).1
  obtain ⟨N, hN⟩ := ex_hid (cntT T m)
  have hNm : N ≤ 60000 := by rw [hN.out]; have := cntT_le T m; omega
  rw [← hN.out] at c0 ⊢
  clear hJ hJx hP hY h0
  refine callsIn_of_wp Try.func61 rfl trivial ?_ rfl
  simp only [Try.ntmps61, List.size_toArray, List.length_cons, List.length_nil, Nat.reduceAdd, Nat.reduceSub, Array.replicate_succ, Array.replicate_zero, List.push_toArray, List.append_toArray, List.nil_append, List.cons_append]
  gi_wp2
  gi_loopw [7] (fun i wr => ∃ k : Nat, k ≤ N ∧ i = .int .i64 k ∧ J k wr) (fun i _ => N - (intOf i).toNat)
  case atStart => exact ⟨0, by omega, rfl, H0.out⟩
  case round =>
    obtain ⟨k, hk, rfl, hj⟩ := hrel
    have k0 : (0 : Int) ≤ (k : Int) := by omega
    by_cases hlt : k < N
    · have hlt' : (k : Int) < (N : Int) := by omega
      have hkm : k < cntT T m := by rw [← hN.out]; exact hlt
      obtain ⟨g, rfl, g1, g2⟩ := (HP.out k wr hj).2 k hkm
      obtain ⟨va, vn, vc, hv⟩ := hV _ (ixN_is T m k hkm).1 (ixN_is T m k hkm).2.1
      rw [hv] at g2
      obtain ⟨x, hx⟩ := ex_hid (ixN T m k)
      rw [← hx.out] at g1
      have hj1 := HJ.out k wr _ hj ((Keeps.refl [] wr).alloc (.cells #[.int .i64 (x : Int), .slice va vn vc] 101))
      obtain ⟨fn, tmps, assign, body, hy, hR⟩ := HY.out k _ hkm hj1
      rw [hv, ← hx.out] at hy
      clear hv hj hj1 hkm
      gi_wp2
      refine hR.mono ?_
      rintro e W3 (⟨rfl, hJ3⟩ | ⟨rfl, hJx3⟩)
      · gi_wp2
        go_roundw
        case rel => exact ⟨k + 1, by omega, by go_num, hJ3⟩
        case measure => simp [intOf]; omega
      · gi_wp2
        refine bodyPost_ret (results_none rfl _ _ _) rfl ?_
        exact ⟨⟨_, rfl⟩, .inr ⟨k, hlt, hJx3⟩⟩
    · obtain rfl : k = N := by omega
      have hge : ¬ (k : Int) < (k : Int) := by omega
      gi_wp2
      go_end0
      exact ⟨⟨_, rfl⟩, .inl hj⟩
end Go.Proofs.Ytompihlckpjbkaa.SL
