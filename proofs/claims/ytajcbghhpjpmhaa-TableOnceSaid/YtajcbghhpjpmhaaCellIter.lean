/- All of index cells as an iterator (chapter 6). -/
import Derived.Test.YtajcbghhpjpmhaaCellAllT
import Derived.Test.YtajcbghhpjpmhaaRangeF
namespace Go.Proofs.Ytajcbghhpjpmhaa
open Go.RowKit Go.Shelf
set_option linter.unusedVariables false
attribute [local go_sem] Oper.semAt_some

theorem enters_cells : ∀ args w, (callFunc 82 args).run Try.prog w = .ok (.enter 82 args) w := entersF_of Try.func82 (by kernel_rfl) (by kernel_rfl)
/-- What the cells' iterator leans on. -/
def CePriv (bl g n : Nat) (V : Nat → Int) (W : World) : Prop := W.cell? ⟨bl, 0, none⟩ = some (.slice (some ⟨g, 0, none⟩) n n) ∧ RefAt g n V W
set_option maxRecDepth 100000 in
set_option maxHeartbeats 2000000 in
theorem ceIter (bl g n : Nat) (V : Nat → Int) (hn : n ≤ 1048576) :
    IterN Try.prog 82 #[.pointer (some ⟨bl, 0, none⟩)] n (fun k => #[.int .i64 (k : Int), .int .i64 (V k)]) (CePriv bl g n V) := by
  intro l J Jx W hJ hJx hP hY h0
  have HJ := Lib.hid hJ
  have HP := Lib.hid hP
  have HY := Lib.hid hY
  have H0 := Lib.hid h0
  have c0 := (hP 0 W h0).1
  clear hJ hJx hP hY h0
  refine callsIn_of_wp Try.func82 rfl trivial ?_ rfl
  simp only [Try.ntmps82, List.size_toArray, List.length_cons, List.length_nil, Nat.reduceAdd, Nat.reduceSub, Array.replicate_succ, Array.replicate_zero, List.push_toArray, List.append_toArray, List.nil_append, List.cons_append]
  gi_wp2
  gi_loopw [7] (fun i wr => ∃ k : Nat, k ≤ n ∧ i = .int .i64 k ∧ J k wr) (fun i _ => n - (intOf i).toNat)
  case atStart => exact ⟨0, by omega, rfl, H0.out⟩
  case round =>
    obtain ⟨k, hk, rfl, hj⟩ := hrel
    have k0 : (0 : Int) ≤ (k : Int) := by omega
    by_cases hlt : k < n
    · have hlt' : (k : Int) < (n : Int) := by omega
      have g2 := cell_has (HP.out k wr hj).2 (numA_get hlt)
      obtain ⟨x, hx⟩ := ex_hid (V k)
      rw [← hx.out] at g2
      obtain ⟨fn, tmps, assign, body, hy, hR⟩ := HY.out k _ hlt hj
      rw [← hx.out] at hy
      clear hj
      gi_wp2
      refine hR.mono ?_
      rintro e W3 (⟨rfl, hJ3⟩ | ⟨rfl, hJx3⟩)
      · gi_wp2
        go_roundw
        case rel => exact ⟨k + 1, by omega, by go_num, hJ3⟩
        case measure => simp [intOf]; omega
      · gi_wp2
        refine bodyPost_ret (results_none rfl _ _ _) rfl ?_
        exact ⟨⟨_, rfl⟩, .inr ⟨k, hlt, hJx3⟩⟩
    · obtain rfl : k = n := by omega
      have hge : ¬ (k : Int) < (k : Int) := by omega
      gi_wp2
      go_end0
      exact ⟨⟨_, rfl⟩, .inl hj⟩
end Go.Proofs.Ytajcbghhpjpmhaa
