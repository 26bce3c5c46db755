/- A table's live entries as iterators, both ways (chapter 7). -/
import Derived.Test.YtajcbghhpjpmhaaTabLived
namespace Go.Proofs.Ytajcbghhpjpmhaa
open Go.RowKit Go.Shelf
set_option linter.unusedVariables false
attribute [local go_sem] Oper.semAt_some

theorem enters_tall : ∀ args w, (callFunc 70 args).run Try.prog w = .ok (.enter 70 args) w := entersF_of Try.func70 (by kernel_rfl) (by kernel_rfl)
theorem enters_tback : ∀ args w, (callFunc 71 args).run Try.prog w = .ok (.enter 71 args) w := entersF_of Try.func71 (by kernel_rfl) (by kernel_rfl)
/-- What an iterator of entries leans on. -/
def NuPriv (b lo : Nat) (a : Option Addr) (c : Nat) (N : List (Nat × Ent)) (W : World) : Prop := W.heap[b]? = some (.cells #[.slice a N.length c] 121 (0, 0)) ∧ NumRow lo a c N W
theorem NuPriv.keeps {b lo c : Nat} {a : Option Addr} {N : List (Nat × Ent)} {W W' : World} {S : List Nat} (h : NuPriv b lo a c N W) (k : Keeps S W W') (hb : b ∉ S) (ha : ∀ x, x ∈ blk a → x ∉ S) : NuPriv b lo a c N W' :=
  ⟨k.has h.1 hb, h.2.keeps k ha⟩
def encN (N : List (Nat × Ent)) (k : Nat) : Array Value := #[.int .i64 (N.getD k (0, noE)).1, (N.getD k (0, noE)).2.agg]
theorem nuget {N : List (Nat × Ent)} {k : Nat} (h : k < N.length) : N[k]? = some (N.getD k (0, noE)) := by simp [List.getD, List.getElem?_eq_getElem h]
theorem NumRow.six {lo g c : Nat} {N : List (Nat × Ent)} {W : World} (h : NumRow lo (some ⟨g, 0, none⟩) c N W) {k : Nat} {p : Nat × Ent} (hp : N[k]? = some p) :
    W.cell? ⟨g, k * 6, none⟩ = some (.int .i64 p.1) ∧ W.cell? ⟨g, k * 6 + 1, none⟩ = some (.bool p.2.live) ∧ W.cell? ⟨g, k * 6 + 2, none⟩ = some (.int .i64 p.2.hash) ∧ W.cell? ⟨g, k * 6 + 3, none⟩ = some (.int .i64 p.2.key) ∧ W.cell? ⟨g, k * 6 + 4, none⟩ = some (.int .i64 p.2.val) ∧ W.cell? ⟨g, k * 6 + 5, none⟩ = some (.int .i64 p.2.birth) :=
  ⟨h.cell hp 0 (by omega), h.cell hp 1 (by omega), h.cell hp 2 (by omega), h.cell hp 3 (by omega), h.cell hp 4 (by omega), h.cell hp 5 (by omega)⟩
set_option maxRecDepth 100000 in
set_option maxHeartbeats 2000000 in
theorem nuIter (b lo : Nat) (a : Option Addr) (c : Nat) (N : List (Nat × Ent)) (hN : N.length ≤ 1000000) :
    IterN Try.prog 70 #[.pointer (some ⟨b, 0, none⟩)] N.length (encN N) (NuPriv b lo a c N) := by
  intro l J Jx W hJ hJx hP hY h0
  have HJ := Lib.hid hJ
  have HP := Lib.hid hP
  have HY := Lib.hid hY
  have H0 := Lib.hid h0
  have p2 := (hP 0 W h0).2
  have c0 : W.cell? ⟨b, 0, none⟩ = some (.slice a N.length c) := cell_has (hP 0 W h0).1 (i := 0) rfl
  obtain ⟨n, hn⟩ := ex_hid N.length
  rw [← hn.out] at c0 hN ⊢
  have hsh : 0 < n → ∃ g, a = some ⟨g, 0, none⟩ := fun h => p2.shape (by rw [← hn.out]; exact h)
  have HSH := Lib.hid hsh
  clear hJ hJx hP hY h0 p2 hsh
  refine callsIn_of_wp Try.func70 rfl trivial ?_ rfl
  simp only [Try.ntmps70, List.size_toArray, List.length_cons, List.length_nil, Nat.reduceAdd, Nat.reduceSub, Array.replicate_succ, Array.replicate_zero, List.push_toArray, List.append_toArray, List.nil_append, List.cons_append]
  gi_wp2
  gi_loopw [7] (fun i wr => ∃ k : Nat, k ≤ n ∧ i = .int .i64 k ∧ J k wr) (fun i _ => n - (intOf i).toNat)
  case atStart => exact ⟨0, by omega, rfl, H0.out⟩
  case round =>
    obtain ⟨k, hk, rfl, hj⟩ := hrel
    have k0 : (0 : Int) ≤ (k : Int) := by omega
    by_cases hlt : k < n
    · have hlt' : (k : Int) < (n : Int) := by omega
      obtain ⟨g, rfl⟩ := HSH.out (by omega)
      have hlN : k < N.length := by rw [← hn.out]; exact hlt
      obtain ⟨q0, q1, q2, q3, q4, q5⟩ := (HP.out k wr hj).2.six (nuget hlN)
      have J2 := HJ.out k wr _ hj ((Keeps.refl [] wr).alloc (.cells #[.int .i64 (N.getD k (0, noE)).1, .bool (N.getD k (0, noE)).2.live, .int .i64 (N.getD k (0, noE)).2.hash, .int .i64 (N.getD k (0, noE)).2.key, .int .i64 (N.getD k (0, noE)).2.val, .int .i64 (N.getD k (0, noE)).2.birth] 125))
      obtain ⟨fn, tmps, assign, body, hy, hR⟩ := HY.out k _ hlN J2
      simp only [encN, Ent.agg] at hy
      generalize N.getD k (0, noE) = p at *
      obtain ⟨x0, x1, x2, x3, x4, x5⟩ := p
      simp only at q0 q1 q2 q3 q4 q5 hy
      clear hj J2
      gi_wp2
      refine hR.mono ?_
      rintro e W3 (⟨rfl, hJ3⟩ | ⟨rfl, hJx3⟩)
      · gi_wp2
        go_roundw
        case rel => exact ⟨k + 1, by omega, by go_num, hJ3⟩
        case measure => simp [intOf]; omega
      · gi_wp2
        refine bodyPost_ret (results_none rfl _ _ _) rfl ?_
        exact ⟨⟨_, rfl⟩, .inr ⟨k, hlt, hJx3⟩⟩
    · obtain rfl : k = n := by omega
      have hge : ¬ (k : Int) < (k : Int) := by omega
      gi_wp2
      go_end0
      exact ⟨⟨_, rfl⟩, .inl hj⟩
end Go.Proofs.Ytajcbghhpjpmhaa
