/- The pairs of a namespace: rows of pairs, row.pairs (chapter 10). -/
import Derived.Test.YtajmfenfajbakaaGreatShF
namespace Go.Proofs.YtajmfenfajbakaaGreat
open Go.RowKit
set_option linter.unusedVariables false
set_option linter.unusedSimpArgs false

abbrev Pr10 := ByteArray × Int
def Pr10.cs (p : Pr10) : List Value := [.string p.1, .int .i64 p.2]
def flatP (P : List Pr10) : List Value := P.flatMap Pr10.cs
theorem flatP_cons (x : Pr10) (P : List Pr10) : flatP (x :: P) = Pr10.cs x ++ flatP P := rfl
theorem flatP_len (P : List Pr10) : (flatP P).length = P.length * 2 := by
  induction P with
  | nil => rfl
  | cons x P ih => rw [flatP_cons, List.length_append, ih]; simp [Pr10.cs]; omega
theorem flatP_snoc (P : List Pr10) (x : Pr10) : flatP (P ++ [x]) = flatP P ++ Pr10.cs x := by simp [flatP]
def Pr10.c (p : Pr10) : Nat → Value
  | 0 => .string p.1
  | _ => .int .i64 p.2
theorem flatP_get (P : List Pr10) : ∀ (i : Nat) (x : Pr10), P[i]? = some x → ∀ j, j < 2 → (flatP P)[i * 2 + j]? = some (Pr10.c x j) := by
  induction P with
  | nil => intro i x h; simp at h
  | cons y P ih =>
    intro i x h j hj
    rw [flatP_cons]
    cases i with
    | zero =>
      simp at h; subst h
      rw [List.getElem?_append_left (by simp [Pr10.cs]; omega)]
      match j, hj with
      | 0, _ | 1, _ => simp [Pr10.cs, Pr10.c]
    | succ i =>
      rw [List.getElem?_append_right (by simp [Pr10.cs]; omega)]
      rw [show (i + 1) * 2 + j - (Pr10.cs y).length = i * 2 + j by simp [Pr10.cs]; omega]
      exact ih i x (by simpa using h) j hj
/-- A row of pairs in a block of its own. -/
def PairRow (lo : Nat) (a : Option Addr) (c : Nat) (P : List Pr10) (w : World) : Prop := w.ownsRow lo 134 2 (.slice a P.length c) P.length (flatP P)
section
variable {lo : Nat} {a : Option Addr} {c : Nat} {P : List Pr10} {w w' : World}
theorem PairRow.nil (lo : Nat) (w : World) : PairRow lo none 0 [] w := World.ownsRow_nil _ _ _ _
theorem PairRow.blk_lt (h : PairRow lo a c P w) : ∀ x, x ∈ blk a → lo ≤ x ∧ x < w.heap.size := by
  intro x hx
  cases a with
  | none => simp [blk] at hx
  | some p => simp [blk] at hx; subst hx; exact h.lt p.block (by simp [Value.ownBlock])
theorem PairRow.keeps {S : List Nat} (h : PairRow lo a c P w) (k : Keeps S w w') (hd : ∀ x, x ∈ blk a → x ∉ S) : PairRow lo a c P w' := by
  obtain ⟨h1, h2⟩ := h
  refine ⟨h1, ?_⟩
  rcases h2 with h2 | ⟨g, cap, cur, a1, a2, a3, a4⟩
  · exact .inl h2
  · refine .inr ⟨g, cap, cur, a1, a2, k.has a3 (hd g ?_), a4⟩
    simp at a1
    simp [a1.1, blk]
theorem PairRow.shape (h : PairRow lo a c P w) (hm : 0 < P.length) : ∃ g, a = some ⟨g, 0, none⟩ := by
  rcases h.2 with ⟨_, h2⟩ | ⟨g, cap, cur, a1, _⟩
  · omega
  · simp at a1; exact ⟨g, a1.1⟩
theorem PairRow.cell {g : Nat} (h : PairRow lo (some ⟨g, 0, none⟩) c P w) {i : Nat} {x : Pr10} (hx : P[i]? = some x) (j : Nat) (hj : j < 2) : w.cell? ⟨g, i * 2 + j, none⟩ = some (Pr10.c x j) := by
  have hi := (List.getElem?_eq_some_iff.1 hx).1
  rw [World.ownsRow.cellAt h (i * 2 + j) (by omega)]
  exact flatP_get P i x hx j hj
theorem PairRow.free {g : Nat} (h : PairRow lo (some ⟨g, 0, none⟩) c P w) (j : Nat) : w.frozen? ⟨g, j, none⟩ = false := World.ownsRow.frozenAt h j
end
theorem infoPair : (Tryz.prog.info? 134).map (fun i => (i.zero, i.size, i.bytes)) = some (some (.agg #[.string .empty, .int .i64 0]), 2, 24) := by kernel_rfl
theorem pair_append (lo : Nat) (a : Option Addr) (c : Nat) (P : List Pr10) (x : Pr10) (W : World) (B : Nat) (h : PairRow lo a c P W) (hB : W.heap[B]? = some (.cells #[.string x.1, .int .i64 x.2] 134 (0, 0))) (hl : P.length ≤ 1000000) (hlo : lo ≤ W.heap.size) :
    ∃ g cap w', (Builtin.append_ #[89, 89] 89 #[.slice a P.length c, .slice (some ⟨B, 0, none⟩) 1 1]).run Tryz.prog W = .ok (.slice (some ⟨g, 0, none⟩) (P.length + 1) cap) w' ∧ PairRow lo (some ⟨g, 0, none⟩) cap (P ++ [x]) w' ∧ Keeps (blk a) W w' ∧ (g ∈ blk a ∨ g = W.heap.size) ∧ g < w'.heap.size := by
  obtain ⟨j0, hi, hz0, hz1, hz2⟩ := info_parts infoPair
  obtain ⟨g, cap, w', r1, r2, r3, r4, r5⟩ := run_append_lies (P := Tryz.prog) W 89 89 lo 134 j0 (.agg #[.string .empty, .int .i64 0]) 2 24 Tryz.underlying89 hi hz0 hz1 hz2 rfl (by decide) _ P.length (flatP P) h ⟨B, 0, none⟩ 1 1 (Pr10.cs x) rfl
    (fun j u hj => by
      have hlt : j < 2 := by have := (List.getElem?_eq_some_iff.1 hj).1; simpa [Pr10.cs] using this
      rw [show (⟨B, 0, none⟩ : Addr).add j = ⟨B, j, none⟩ by unfold Addr.add; split <;> simp_all, cell_of_has hB]
      match j, hlt with
      | 0, _ | 1, _ => simpa [Pr10.cs] using hj) (by intro u hu; simp [Pr10.cs] at hu; rcases hu with rfl | rfl <;> rfl) (by decide) (by unfold maxLen; omega) (by omega) hlo _ rfl
  refine ⟨g, cap, w', r1, ?_, ?_, ?_, r5⟩
  · unfold PairRow
    rw [flatP_snoc, List.length_append]
    exact r2
  · exact ⟨r3.os, r3.tape, r3.output, r3.size, fun k hk hn => r3.block k hk (fun e => hn (blk_own a _ _ k e.symm))⟩
  · rcases r4 with r4 | r4
    · exact .inl (blk_own a _ _ g r4)
    · exact .inr r4
def rowP (f : Fam) (vs : List Int) (i : Nat) : Pr10 := (f.N.getD (atE (entE f.K.E (i : Int))).key.toNat .empty, vs.getD i 0)
def rowPs (f : Fam) (vs : List Int) (n : Nat) : List Pr10 := (List.range n).map (rowP f vs)
theorem rowPs_len (f : Fam) (vs : List Int) (n : Nat) : (rowPs f vs n).length = n := by simp [rowPs]
theorem rowPs_succ (f : Fam) (vs : List Int) (n : Nat) : rowPs f vs (n + 1) = rowPs f vs n ++ [rowP f vs n] := by simp [rowPs, List.range_succ]
def KeyOk (f : Fam) (vs : List Int) : Prop := ∀ i, i < vs.length → ∃ n, n < f.N.length ∧ (atE (entE f.K.E (i : Int))).key = (n : Int)
def Pairs10 (P : List Pr10) (w : World) (r : Ending) (w' : World) : Prop := ∃ a c, r = .returned (.slice a P.length c) ∧ PairRow w.heap.size a c P w' ∧ Keeps [] w w'
set_option maxRecDepth 100000 in
set_option maxHeartbeats 4000000 in
theorem rpairs_any (k : Nat) (hk0 : k ≤ 1000) (fb t mb lo : Nat) (a : Option Addr) (ST : List Nat) (m : Option Nat) (f : Fam) (rb lor : Nat) (ar : Option Addr) (vs : List Int) (w : World) (H : FamAt fb t mb lo a ST m f w) (HR : RowAt rb lor ar vs w) (hI : TInv k f.K) (hv : vs.length ≤ 100000) (hk : KeyOk f vs) :
    Calls Tryz.prog 137 #[.pointer (some ⟨rb, 0, none⟩), .pointer (some ⟨fb, 0, none⟩)] w (Pairs10 (rowPs f vs vs.length) w) := by
  have HF := Lib.hid H
  have HRR := Lib.hid HR
  have HI := Lib.hid hI
  have HK9 := Lib.hid hk
  obtain ⟨cr, r1, q1⟩ := HR.b
  obtain ⟨n, hn⟩ := ex_hid vs.length
  rw [← hn.out] at r1 q1 hv
  have y0 : w.cell? ⟨rb, 0, none⟩ = some (.slice ar n cr) := cell_has r1 (i := 0) rfl
  have Q1 := Lib.hid q1
  have HN := Lib.hid (show Pairs10 (rowPs f vs vs.length) w = Pairs10 (rowPs f vs n) w from by rw [hn.out])
  rw [HN.out]
  clear H HR hI hk r1 q1
  go_enter Tryz.func137, Tryz.ntmps137
  go_wp2_with fail
  go_loopw [5, 15] (fun z5 z15 wr => ∃ (i : Nat) (ao : Option Addr) (co : Nat), i ≤ n ∧ z15 = .int .i64 i ∧ z5 = .slice ao i co ∧ Hid (PairRow w.heap.size ao co (rowPs f vs i) wr ∧ Keeps [] w wr)) (fun _ z15 _ => n - (intOf z15).toNat)
  case atStart => exact ⟨0, none, 0, Nat.zero_le _, rfl, rfl, Lib.hid ⟨PairRow.nil _ _, Keeps.refl _ _⟩⟩
  case round =>
    obtain ⟨i, ao, co, hi, rfl, rfl, I⟩ := hrel
    by_cases hlt : i < n
    · have i1 : (i : Int) < (n : Int) := by omega
      have i0 : (0 : Int) ≤ (i : Int) := by omega
      obtain ⟨gr, rfl⟩ := Q1.out.shape (by omega)
      have F1 := Lib.hid (HF.out.keeps I.out.2 (by simp))
      have c1 : wr.cell? ⟨gr, i, none⟩ = some (.int .i64 (vs.getD i 0)) := (Q1.out.keeps I.out.2 (by simp)).cell hlt
      obtain ⟨v, hv1⟩ := ex_hid (vs.getD i 0)
      rw [← hv1.out] at c1
      obtain ⟨c9, h9, p9⟩ := F1.out.b
      have e3 : wr.cell? ⟨fb, 3, none⟩ = some (.pointer (some ⟨t, 0, none⟩)) := cell_has h9 (i := 3) rfl
      have P9 := Lib.hid p9
      obtain ⟨ta, tc, tcb, tcr, g1, g2, _⟩ := F1.out.k
      have AT := at_any t lo tc ta f.K.E _ _ _ _ _ _ (i : Int) wr g1 g2 (by have := HI.out.ek; omega)
      obtain ⟨x, hx⟩ := ex_hid (atE (entE f.K.E (i : Int)))
      rw [← hx.out] at AT
      unfold Ent.agg at AT
      have H9 := Lib.hid h9
      clear g1 g2 h9 p9 hi
      go_wp2_with fail
      refine AT.mono ?_
      rintro r w1 ⟨rfl, b1⟩
      have k1 := Below.keeps b1 []
      have K1 := Lib.hid k1
      clear b1 k1 AT c1 e3 y0
      go_upto_region 6 with (fail)
      refine wp_gen (fun V => V.heap[w1.heap.size]? = some (.cells #[.bool x.live, .int .i64 x.hash, .int .i64 x.key, .int .i64 x.val, .int .i64 x.birth] 99 (0, 0)) ∧ Keeps [] w1 V) ⟨has_new _ _, (Keeps.refl [] w1).alloc _⟩ ?_
      rintro w2 ⟨b2, k2⟩
      obtain ⟨key, hkey1, hkey2⟩ := HK9.out i (by rw [← hn.out]; exact hlt)
      obtain ⟨nn, hnn⟩ := ex_hid f.N.length
      rw [← hnn.out] at hkey1
      have K2 := Lib.hid (K1.out.trans k2)
      have y2 : w2.cell? ⟨w1.heap.size, 2, none⟩ = some (.int .i64 key) := by
        have h0 := cell_has b2 (i := 2) rfl
        rw [hx.out, hkey2] at h0; exact h0
      obtain ⟨ga, hga⟩ := P9.out.shape (by rw [← hnn.out]; omega)
      have z4 : w2.cell? ⟨fb, 4, none⟩ = some (.slice (some ⟨ga, 0, none⟩) nn c9) := by
        have h0 := cell_has (K2.out.has H9.out (by simp)) (i := 4) rfl
        rw [hga, ← hnn.out] at h0; exact h0
      have s4 : w2.cell? ⟨ga, key, none⟩ = some (.string (f.N.getD key .empty)) := by
        have h0 := P9.out
        rw [hga] at h0
        exact (h0.keeps K2.out (by simp)).cell (by rw [← hnn.out]; exact hkey1)
      have j0 : (0 : Int) ≤ (key : Int) := by omega
      have j1 : (key : Int) < (nn : Int) := by omega
      obtain ⟨nm, hnm⟩ := ex_hid (f.N.getD key .empty)
      rw [← hnm.out] at s4
      have PP := Lib.hid (show rowP f vs i = (nm, v) from by unfold rowP; rw [hkey2, hnm.out, hv1.out]; rfl)
      obtain ⟨g, cap, W5, run5, v5, k5, g5, l5⟩ := pair_append w.heap.size ao co (rowPs f vs i) (nm, v) (w2.drew.alloc (.cells #[.string nm, .int .i64 v] 134)) w2.heap.size (((I.out.1.keeps K2.out (by simp)).keeps (Keeps.refl [] w2).drew (by simp)).keeps ((Keeps.refl [] w2.drew).alloc _) (by simp)) (has_new _ _) (by rw [rowPs_len]; omega) (by have := I.out.2.size; have := K2.out.size; simp; omega)
      rw [rowPs_len] at run5
      have RUN := Lib.hid run5
      have K5 := Lib.hid (show Keeps (blk ao) w2 W5 from ((Keeps.refl (blk ao) w2).drew.alloc _).trans k5)
      have FIN := Lib.hid (And.intro v5 (And.intro g5 l5))
      have na := Lib.hid (show fb ∉ blk ao ∧ w1.heap.size ∉ blk ao ∧ ga ∉ blk ao from by
        have lfb := (HF.out.foot fb (by unfold famS; simp)).2
        have lga := (HF.out.foot ga (by
          unfold famS; rw [hga]; simp [blk])).2
        refine ⟨fun h => ?_, fun h => ?_, fun h => ?_⟩
        · have := (I.out.1.blk_lt _ h).1; omega
        · have := (I.out.1.blk_lt _ h).2; have := K1.out.size; omega
        · have := (I.out.1.blk_lt _ h).1; omega)
      have q4 := Lib.hid (show W5.cell? ⟨fb, 4, none⟩ = some (.slice (some ⟨ga, 0, none⟩) nn c9) ∧ W5.cell? ⟨w1.heap.size, 2, none⟩ = some (.int .i64 key) ∧ W5.cell? ⟨ga, key, none⟩ = some (.string nm) from ⟨K5.out.cell z4 na.out.1, K5.out.cell y2 na.out.2.1, K5.out.cell s4 na.out.2.2⟩)
      clear run5 v5 k5 g5 l5 b2 k2 hkey2
      refine wp_regionG (fun w' => w'.cell? ⟨fb, 4, none⟩ = some (.slice (some ⟨ga, 0, none⟩) nn c9) ∧ w'.cell? ⟨w1.heap.size, 2, none⟩ = some (.int .i64 key) ∧ w'.cell? ⟨ga, key, none⟩ = some (.string nm)) 14 (by kernel_rfl) ⟨z4, y2, s4⟩ (fun hF => ?_)
      refine wpAnyG_takeY (i := 0) (v := ?_) rfl (by kernel_rfl) (by decide +kernel) (by decide +kernel) (by decide +kernel) (fun _ _ _ h => h) (by kernel_rfl) ?_ (by assumption) ?_
      rotate_left
      · (intro wz; go_simp; with_reducible rfl)
      try simp only [Act.put, List.setIfInBounds_toArray, List.set_cons_zero, List.set_cons_succ]
      refine wpAnyG_takeY (i := 1) (v := ?_) rfl (by kernel_rfl) (by decide +kernel) (by decide +kernel) (by decide +kernel) (fun _ _ _ h => h) (by kernel_rfl) ?_ (by assumption) ?_
      rotate_left
      · (intro wz; go_simp; with_reducible rfl)
      try simp only [Act.put, List.setIfInBounds_toArray, List.set_cons_zero, List.set_cons_succ]
      refine wpAnyG_takeY (i := 2) (v := ?_) rfl (by kernel_rfl) (by decide +kernel) (by decide +kernel) (by decide +kernel) (fun _ _ _ h => h) (by kernel_rfl) ?_ (by assumption) ?_
      rotate_left
      · (intro wz; go_simp; with_reducible rfl)
      try simp only [Act.put, List.setIfInBounds_toArray, List.set_cons_zero, List.set_cons_succ]
      refine wpAnyG_takeY (i := 3) (v := ?_) rfl (by kernel_rfl) (by decide +kernel) (by decide +kernel) (by decide +kernel) (fun _ _ _ h => h) (by kernel_rfl) ?_ (by assumption) ?_
      rotate_left
      · (intro wz; go_simp; with_reducible rfl)
      try simp only [Act.put, List.setIfInBounds_toArray, List.set_cons_zero, List.set_cons_succ]
      refine wpAnyG_take (i := 4) (v := ?_) rfl (by kernel_rfl) (by decide +kernel) (by decide +kernel) (by decide +kernel) (by decide +kernel) (by rfl) (fun _ _ _ h => h) (by kernel_rfl) ?_ (by assumption) ?_
      rotate_left
      · (intro wz hSw; (try dsimp only at hSw); go_simp; with_reducible rfl)
      try simp only [Act.put, List.setIfInBounds_toArray, List.set_cons_zero, List.set_cons_succ]
      refine wpAnyG_takeY (i := 5) (v := ?_) rfl (by kernel_rfl) (by decide +kernel) (by decide +kernel) (by decide +kernel) (fun _ _ _ h => h) (by kernel_rfl) ?_ (by assumption) ?_
      rotate_left
      · (intro wz; go_simp; with_reducible rfl)
      try simp only [Act.put, List.setIfInBounds_toArray, List.set_cons_zero, List.set_cons_succ]
      refine wpAnyG_take (i := 6) (v := ?_) rfl (by kernel_rfl) (by decide +kernel) (by decide +kernel) (by decide +kernel) (by decide +kernel) (by rfl) (fun _ _ _ h => h) (by kernel_rfl) ?_ (by assumption) ?_
      rotate_left
      · (intro wz hSw; (try dsimp only at hSw); go_simp; with_reducible rfl)
      try simp only [Act.put, List.setIfInBounds_toArray, List.set_cons_zero, List.set_cons_succ]
      refine wpAnyG_takeY (i := 7) (v := ?_) rfl (by kernel_rfl) (by decide +kernel) (by decide +kernel) (by decide +kernel) (fun _ _ _ h => h) (by kernel_rfl) ?_ (by assumption) ?_
      rotate_left
      · (intro wz; go_simp; with_reducible rfl)
      try simp only [Act.put, List.setIfInBounds_toArray, List.set_cons_zero, List.set_cons_succ]
      refine wpAnyG_take (i := 8) (v := ?_) rfl (by kernel_rfl) (by decide +kernel) (by decide +kernel) (by decide +kernel) (by decide +kernel) (by rfl) (fun _ _ _ h => h) (by kernel_rfl) ?_ (by assumption) ?_
      rotate_left
      · (intro wz hSw; (try dsimp only at hSw); go_simp; with_reducible rfl)
      try simp only [Act.put, List.setIfInBounds_toArray, List.set_cons_zero, List.set_cons_succ]
      refine wpAnyG_takeY (i := 9) (v := ?_) rfl (by kernel_rfl) (by decide +kernel) (by decide +kernel) (by decide +kernel) (fun _ _ _ h => h) (by kernel_rfl) ?_ (by assumption) ?_
      rotate_left
      · (intro wz; go_simp; with_reducible rfl)
      try simp only [Act.put, List.setIfInBounds_toArray, List.set_cons_zero, List.set_cons_succ]
      refine wpAnyG_takeY (i := 10) (v := ?_) rfl (by kernel_rfl) (by decide +kernel) (by decide +kernel) (by decide +kernel) (fun _ _ _ h => h) (by kernel_rfl) ?_ (by assumption) ?_
      rotate_left
      · (intro wz; go_simp; with_reducible rfl)
      try simp only [Act.put, List.setIfInBounds_toArray, List.set_cons_zero, List.set_cons_succ]
      refine wpAnyG_one (i := 11) rfl (by kernel_rfl) (by kernel_rfl) (fun K hK => ?_)
      have HK := Lib.hid hK
      clear hK
      go_simp
      refine HK.out _ _ ⟨cell_alloc hF.1 _, cell_alloc hF.2.1 _, cell_alloc hF.2.2 _⟩ ?_
      clear HK K hF
      refine wpAnyG_one (i := 12) rfl (by kernel_rfl) (by kernel_rfl) (fun K hK => ?_)
      have HK := Lib.hid hK
      clear hK
      refine wp_append_run (.tmp 29) (.tmp 40) 89 rfl _ _ rfl rfl _ _ RUN.out ?_
      have hF := q4.out
      refine HK.out _ _ hF ?_
      clear HK K
      try simp only [Act.put, List.setIfInBounds_toArray, List.set_cons_zero, List.set_cons_succ]
      refine wpAnyG_takeY (i := 13) (v := ?_) rfl (by kernel_rfl) (by decide +kernel) (by decide +kernel) (by decide +kernel) (fun _ _ _ h => h) (by kernel_rfl) ?_ (by assumption) ?_
      rotate_left
      · (intro wz; go_simp; with_reducible rfl)
      try simp only [Act.put, List.setIfInBounds_toArray, List.set_cons_zero, List.set_cons_succ]
      refine wpAnyG_done (by kernel_rfl) ?_ _
      go_wp2_with fail
      go_roundw
      case rel =>
        have i2 := I.out.2.size
        refine ⟨i + 1, some ⟨g, 0, none⟩, cap, by omega, by go_num, rfl, Lib.hid ⟨?_, ?_⟩⟩
        · rw [rowPs_succ, PP.out]; exact FIN.out.1
        · exact (I.out.2.trans K2.out).then K5.out (fun z hz => .inl (by have := (I.out.1.blk_lt z hz).1; omega))
      case measure => simp [intOf]; omega
    · obtain rfl : i = n := by omega
      go_wp2_with fail
      go_ret
      exact ⟨ao, co, by rw [rowPs_len]; rfl, I.out.1, I.out.2⟩
end Go.Proofs.YtajmfenfajbakaaGreat
