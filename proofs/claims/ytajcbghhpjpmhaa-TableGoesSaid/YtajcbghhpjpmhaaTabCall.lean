/- A table's iterators, called with a plain function (chapter 7). -/
import Derived.Test.YtajcbghhpjpmhaaRNums
import Derived.Deep.RegionHeld3
namespace Go.Proofs.Ytajcbghhpjpmhaa
open Go.RowKit
set_option linter.unusedVariables false
set_option linter.unusedSimpArgs false

/-- A function that is handed n things. -/
def YieldN (f : FuncId) (caps : Array Value) (n : Nat) (enc : Nat → Array Value) (J Jx : Nat → World → Prop) : Prop :=
  ∀ i W, i < n → J i W → Calls Try.prog f (enc i ++ caps) W fun e B => (e = .returned (.bool true) ∧ J (i + 1) B) ∨ (e = .returned (.bool false) ∧ Jx i B)
def CallN (g : FuncId) (b lo : Nat) (a : Option Addr) (c : Nat) (N : List (Nat × Ent)) (enc : Nat → Array Value) : Prop :=
  ∀ (f : FuncId) (caps : Array Value) (J Jx : Nat → World → Prop) (W : World), EntersF Try.prog f → (∀ i A B, J i A → Keeps [] A B → J i B) → (∀ i A, J i A → NuPriv b lo a c N A) → (∀ i A, Jx i A → NuPriv b lo a c N A) → YieldN f caps N.length enc J Jx → J 0 W →
    Calls Try.prog g #[.func (.func f) #[] caps, .pointer (some ⟨b, 0, none⟩)] W fun e B => e = .returned (.tuple #[]) ∧ (J N.length B ∨ ∃ i, i < N.length ∧ Jx i B)
set_option maxRecDepth 100000 in
set_option maxHeartbeats 2000000 in
theorem all1_call (b lo : Nat) (a : Option Addr) (c : Nat) (N : List (Nat × Ent)) (hN : N.length ≤ 1000000) : CallN 70 b lo a c N (encN N) := by
  intro f caps J Jx W hf hJ hP hPx hY h0
  have HJ := Lib.hid hJ
  have HP := Lib.hid hP
  have HY := Lib.hid hY
  have H0 := Lib.hid h0
  have hrun := fun args W => hf args W
  have p2 := (hP 0 W h0).2
  have c0 : W.cell? ⟨b, 0, none⟩ = some (.slice a N.length c) := cell_has (hP 0 W h0).1 (i := 0) rfl
  obtain ⟨n, hn⟩ := ex_hid N.length
  rw [← hn.out] at c0 hN ⊢
  have hsh : 0 < n → ∃ g, a = some ⟨g, 0, none⟩ := fun h => p2.shape (by rw [← hn.out]; exact h)
  have HSH := Lib.hid hsh
  clear hJ hP hY h0 p2 hsh
  go_enter Try.func70, Try.ntmps70
  go_wp2_with fail
  go_loopw [7] (fun i wr => ∃ k : Nat, k ≤ n ∧ i = .int .i64 k ∧ J k wr) (fun i _ => n - (intOf i).toNat)
  case atStart => exact ⟨0, by omega, rfl, H0.out⟩
  case round =>
    obtain ⟨k, hk, rfl, hj⟩ := hrel
    have k0 : (0 : Int) ≤ (k : Int) := by omega
    by_cases hlt : k < n
    · have hlt' : (k : Int) < (n : Int) := by omega
      obtain ⟨g, rfl⟩ := HSH.out (by omega)
      have hlN : k < N.length := by rw [← hn.out]; exact hlt
      obtain ⟨q0, q1, q2, q3, q4, q5⟩ := (HP.out k wr hj).2.six (nuget hlN)
      have J2 := HJ.out k wr _ hj ((Keeps.refl [] wr).alloc (.cells #[.int .i64 (N.getD k (0, noE)).1, .bool (N.getD k (0, noE)).2.live, .int .i64 (N.getD k (0, noE)).2.hash, .int .i64 (N.getD k (0, noE)).2.key, .int .i64 (N.getD k (0, noE)).2.val, .int .i64 (N.getD k (0, noE)).2.birth] 125))
      have hC := HY.out k _ hlN J2
      simp only [encN, Ent.agg] at hC
      generalize N.getD k (0, noE) = p at *
      obtain ⟨x0, x1, x2, x3, x4, x5⟩ := p
      simp only at q0 q1 q2 q3 q4 q5 hC
      have HC := Lib.hid hC
      clear hj J2 hC
      go_wp2_with fail
      refine HC.out.mono ?_
      rintro e W3 (⟨rfl, hJ3⟩ | ⟨rfl, hJx3⟩)
      · go_wp2_with fail
        go_roundw
        case rel => exact ⟨k + 1, by omega, by go_num, hJ3⟩
        case measure => simp [intOf]; omega
      · go_wp2_with fail
        refine bodyPost_ret (results_none rfl _ _ _) rfl ?_
        exact ⟨rfl, .inr ⟨k, hlt, hJx3⟩⟩
    · obtain rfl : k = n := by omega
      have hge : ¬ (k : Int) < (k : Int) := by omega
      go_wp2_with fail
      go_end0
      exact ⟨rfl, .inl hj⟩
/-- From the last one on. -/
def encB (N : List (Nat × Ent)) (k : Nat) : Array Value := encN N (N.length - 1 - k)
set_option maxRecDepth 100000 in
set_option maxHeartbeats 2000000 in
theorem back1_call (b lo : Nat) (a : Option Addr) (c : Nat) (N : List (Nat × Ent)) (hN : N.length ≤ 1000000) : CallN 71 b lo a c N (encB N) := by
  intro f caps J Jx W hf hJ hP hPx hY h0
  have HJ := Lib.hid hJ
  have HP := Lib.hid hP
  have HPX := Lib.hid hPx
  have HY := Lib.hid hY
  have H0 := Lib.hid h0
  have hrun := fun args W => hf args W
  have p2 := (hP 0 W h0).2
  have c0 : W.cell? ⟨b, 0, none⟩ = some (.slice a N.length c) := cell_has (hP 0 W h0).1 (i := 0) rfl
  obtain ⟨n, hn⟩ := ex_hid N.length
  rw [← hn.out] at c0 hN ⊢
  have hsh : 0 < n → ∃ g, a = some ⟨g, 0, none⟩ := fun h => p2.shape (by rw [← hn.out]; exact h)
  have HSH := Lib.hid hsh
  have nb : (n : Int) ≤ 1000000 := by omega
  clear hJ hP hPx hY h0 p2 hsh
  go_enter Try.func71, Try.ntmps71
  go_wp2_with fail
  go_loopw [3] (fun i wr => ∃ k : Nat, k ≤ n ∧ i = .int .i64 ((n : Int) - 1 - k) ∧ J k wr) (fun i _ => (intOf i + 1).toNat)
  case atStart => exact ⟨0, by omega, by go_num, H0.out⟩
  case round =>
    obtain ⟨k, hk, rfl, hj⟩ := hrel
    by_cases hlt : k < n
    · obtain ⟨m, hmh⟩ := ex_hid (n - 1 - k)
      have hm := hmh.out
      have hmi : (n : Int) - 1 - k = (m : Int) := by omega
      have hmn : (m : Int) < (n : Int) := by omega
      have m0 : (0 : Int) ≤ (m : Int) := by omega
      have d0 : decide ((0 : Int) ≤ (m : Int)) = true := by simp
      rw [hmi]
      obtain ⟨g, rfl⟩ := HSH.out (by omega)
      have hlN : k < N.length := by rw [← hn.out]; exact hlt
      have hmN : m < N.length := by rw [← hn.out]; omega
      have P2 := HP.out k wr hj
      have c1 : wr.cell? ⟨b, 0, none⟩ = some (.slice (some ⟨g, 0, none⟩) n c) := by rw [hn.out]; exact cell_has P2.1 (i := 0) rfl
      obtain ⟨q0, q1, q2, q3, q4, q5⟩ := P2.2.six (nuget hmN)
      have J2 := HJ.out k wr wr.drew hj (Keeps.refl [] wr).drew
      have hC := HY.out k _ hlN J2
      simp only [encB, encN, Ent.agg] at hC
      rw [← hn.out, ← hm] at hC
      have nh : m < n := by omega
      have hnu := Lib.hid (nuget hmN)
      generalize N.getD m (0, noE) = p at *
      obtain ⟨x0, x1, x2, x3, x4, x5⟩ := p
      simp only at q0 q1 q2 q3 q4 q5 hC
      have HC := Lib.hid hC
      clear hj J2 hC P2 hm
      have hold : ∀ w' : World, NuPriv b lo (some ⟨g, 0, none⟩) c N w' → (w'.cell? ⟨b, 0, none⟩ = some (.slice (some ⟨g, 0, none⟩) n c) ∧ w'.cell? ⟨g, m * 6, none⟩ = some (.int .i64 (x0 : Nat)) ∧ w'.cell? ⟨g, m * 6 + 1, none⟩ = some (.bool x1) ∧ w'.cell? ⟨g, m * 6 + 2, none⟩ = some (.int .i64 x2) ∧ w'.cell? ⟨g, m * 6 + 3, none⟩ = some (.int .i64 x3) ∧ w'.cell? ⟨g, m * 6 + 4, none⟩ = some (.int .i64 x4) ∧ w'.cell? ⟨g, m * 6 + 5, none⟩ = some (.int .i64 x5)) := fun w' P => ⟨by rw [hn.out]; exact cell_has P.1 (i := 0) rfl, P.2.six hnu.out⟩
      have hF0 : wr.cell? ⟨b, 0, none⟩ = some (.slice (some ⟨g, 0, none⟩) n c) ∧ wr.cell? ⟨g, m * 6, none⟩ = some (.int .i64 (x0 : Nat)) ∧ wr.cell? ⟨g, m * 6 + 1, none⟩ = some (.bool x1) ∧ wr.cell? ⟨g, m * 6 + 2, none⟩ = some (.int .i64 x2) ∧ wr.cell? ⟨g, m * 6 + 3, none⟩ = some (.int .i64 x3) ∧ wr.cell? ⟨g, m * 6 + 4, none⟩ = some (.int .i64 x4) ∧ wr.cell? ⟨g, m * 6 + 5, none⟩ = some (.int .i64 x5) := ⟨c1, q0, q1, q2, q3, q4, q5⟩
      go_upto_region 3 with (fail)
      refine wp_regionG (fun w' => w'.cell? ⟨b, 0, none⟩ = some (.slice (some ⟨g, 0, none⟩) n c) ∧ w'.cell? ⟨g, m * 6, none⟩ = some (.int .i64 (x0 : Nat)) ∧ w'.cell? ⟨g, m * 6 + 1, none⟩ = some (.bool x1) ∧ w'.cell? ⟨g, m * 6 + 2, none⟩ = some (.int .i64 x2) ∧ w'.cell? ⟨g, m * 6 + 3, none⟩ = some (.int .i64 x3) ∧ w'.cell? ⟨g, m * 6 + 4, none⟩ = some (.int .i64 x4) ∧ w'.cell? ⟨g, m * 6 + 5, none⟩ = some (.int .i64 x5)) 13 (by kernel_rfl) hF0 (fun hF => ?_)
      refine wpAnyG_takeY (i := 0) (v := ?_) rfl (by kernel_rfl) (by decide +kernel) (by decide +kernel) (by decide +kernel) (fun _ _ _ h => h) (by kernel_rfl) ?_ (by assumption) ?_
      rotate_left
      · (intro wz; go_simp; with_reducible rfl)
      try simp only [Act.put, List.setIfInBounds_toArray, List.set_cons_zero, List.set_cons_succ]
      refine wpAnyG_take (i := 1) (v := ?_) rfl (by kernel_rfl) (by decide +kernel) (by decide +kernel) (by decide +kernel) (by decide +kernel) (by rfl) (fun _ _ _ h => h) (by kernel_rfl) ?_ (by assumption) ?_
      rotate_left
      · (intro wz hSw; (try dsimp only at hSw); go_simp; with_reducible rfl)
      try simp only [Act.put, List.setIfInBounds_toArray, List.set_cons_zero, List.set_cons_succ]
      refine wpAnyG_takeY (i := 2) (v := ?_) rfl (by kernel_rfl) (by decide +kernel) (by decide +kernel) (by decide +kernel) (fun _ _ _ h => h) (by kernel_rfl) ?_ (by assumption) ?_
      rotate_left
      · (intro wz; go_simp; with_reducible rfl)
      try simp only [Act.put, List.setIfInBounds_toArray, List.set_cons_zero, List.set_cons_succ]
      refine wpAnyG_takeY (i := 3) (v := ?_) rfl (by kernel_rfl) (by decide +kernel) (by decide +kernel) (by decide +kernel) (fun _ _ _ h => h) (by kernel_rfl) ?_ (by assumption) ?_
      rotate_left
      · (intro wz; go_simp; with_reducible rfl)
      try simp only [Act.put, List.setIfInBounds_toArray, List.set_cons_zero, List.set_cons_succ]
      refine wpAnyG_takeY (i := 4) (v := ?_) rfl (by kernel_rfl) (by decide +kernel) (by decide +kernel) (by decide +kernel) (fun _ _ _ h => h) (by kernel_rfl) ?_ (by assumption) ?_
      rotate_left
      · (intro wz; go_simp; with_reducible rfl)
      try simp only [Act.put, List.setIfInBounds_toArray, List.set_cons_zero, List.set_cons_succ]
      refine wpAnyG_take (i := 5) (v := ?_) rfl (by kernel_rfl) (by decide +kernel) (by decide +kernel) (by decide +kernel) (by decide +kernel) (by rfl) (fun _ _ _ h => h) (by kernel_rfl) ?_ (by assumption) ?_
      rotate_left
      · (intro wz hSw; (try dsimp only at hSw); go_simp; with_reducible rfl)
      try simp only [Act.put, List.setIfInBounds_toArray, List.set_cons_zero, List.set_cons_succ]
      refine wpAnyG_take (i := 6) (v := ?_) rfl (by kernel_rfl) (by decide +kernel) (by decide +kernel) (by decide +kernel) (by decide +kernel) (by rfl) (fun _ _ _ h => h) (by kernel_rfl) ?_ (by assumption) ?_
      rotate_left
      · (intro wz hSw; (try dsimp only at hSw); go_simp; with_reducible rfl)
      try simp only [Act.put, List.setIfInBounds_toArray, List.set_cons_zero, List.set_cons_succ]
      refine wpAnyG_takeY (i := 7) (v := ?_) rfl (by kernel_rfl) (by decide +kernel) (by decide +kernel) (by decide +kernel) (fun _ _ _ h => h) (by kernel_rfl) ?_ (by assumption) ?_
      rotate_left
      · (intro wz; go_simp; with_reducible rfl)
      try simp only [Act.put, List.setIfInBounds_toArray, List.set_cons_zero, List.set_cons_succ]
      refine wpAnyG_takeY (i := 8) (v := ?_) rfl (by kernel_rfl) (by decide +kernel) (by decide +kernel) (by decide +kernel) (fun _ _ _ h => h) (by kernel_rfl) ?_ (by assumption) ?_
      rotate_left
      · (intro wz; go_simp; with_reducible rfl)
      try simp only [Act.put, List.setIfInBounds_toArray, List.set_cons_zero, List.set_cons_succ]
      refine wpAnyG_takeY (i := 9) (v := ?_) rfl (by kernel_rfl) (by decide +kernel) (by decide +kernel) (by decide +kernel) (fun _ _ _ h => h) (by kernel_rfl) ?_ (by assumption) ?_
      rotate_left
      · (intro wz; go_simp; with_reducible rfl)
      try simp only [Act.put, List.setIfInBounds_toArray, List.set_cons_zero, List.set_cons_succ]
      refine wpAnyG_take (i := 10) (v := ?_) rfl (by kernel_rfl) (by decide +kernel) (by decide +kernel) (by decide +kernel) (by decide +kernel) (by rfl) (fun _ _ _ h => h) (by kernel_rfl) ?_ (by assumption) ?_
      rotate_left
      · (intro wz hSw; (try dsimp only at hSw); go_simp; with_reducible rfl)
      try simp only [Act.put, List.setIfInBounds_toArray, List.set_cons_zero, List.set_cons_succ]
      refine wpAnyG_one (i := 11) rfl (by kernel_rfl) (by kernel_rfl) (fun K hK => ?_)
      have HK := Lib.hid hK
      clear hK
      go_simp
      refine HC.out.mono ?_
      rintro e W3 (⟨rfl, hJ3⟩ | ⟨rfl, hJx3⟩)
      · have hF3 := hold W3 (HP.out _ _ hJ3)
        refine HK.out _ _ hF3 ?_
        clear HK K
        try simp only [Act.put, List.setIfInBounds_toArray, List.set_cons_zero, List.set_cons_succ]
        refine wpAnyG_takeY (i := 12) (v := ?_) rfl (by kernel_rfl) (by decide +kernel) (by decide +kernel) (by decide +kernel) (fun _ _ _ h => h) (by kernel_rfl) ?_ (by assumption) ?_
        rotate_left
        · (intro wz; go_simp; with_reducible rfl)
        try simp only [Act.put, List.setIfInBounds_toArray, List.set_cons_zero, List.set_cons_succ]
        refine wpAnyG_done (by kernel_rfl) ?_ _
        go_simp
        go_wp2_with fail
        go_roundw
        case rel => exact ⟨k + 1, by omega, by go_num, hJ3⟩
        case measure => simp [intOf] <;> omega
      · have hF3 := hold W3 (HPX.out _ _ hJx3)
        refine HK.out _ _ hF3 ?_
        clear HK K
        try simp only [Act.put, List.setIfInBounds_toArray, List.set_cons_zero, List.set_cons_succ]
        refine wpAnyG_takeY (i := 12) (v := ?_) rfl (by kernel_rfl) (by decide +kernel) (by decide +kernel) (by decide +kernel) (fun _ _ _ h => h) (by kernel_rfl) ?_ (by assumption) ?_
        rotate_left
        · (intro wz; go_simp; with_reducible rfl)
        try simp only [Act.put, List.setIfInBounds_toArray, List.set_cons_zero, List.set_cons_succ]
        refine wpAnyG_done (by kernel_rfl) ?_ _
        go_simp
        go_wp2_with fail
        refine bodyPost_ret (results_none rfl _ _ _) rfl ?_
        exact ⟨rfl, .inr ⟨k, hlt, hJx3⟩⟩
    · obtain rfl : k = n := by omega
      have hge : (k : Int) - 1 - k = -1 := by omega
      rw [hge]
      have d0 : decide ((0 : Int) ≤ (-1 : Int)) = false := rfl
      go_wp2_with fail
      go_end0
      exact ⟨rfl, .inl hj⟩
end Go.Proofs.Ytajcbghhpjpmhaa
