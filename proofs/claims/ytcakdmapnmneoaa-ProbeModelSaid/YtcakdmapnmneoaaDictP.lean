/- A dictionary's pairs (chapter 8). -/
import Derived.Test.YtcakdmapnmneoaaDictN
import Derived.Test.YtcakdmapnmneoaaTabCopy
namespace Go
theorem wpListIn_append_run {F : Fence} {n : Nat} {P : Program} (w : World) {ops : Array Oper} {rest : List Oper} {o : Oper} {a : Act} {Q : Exit → Act → World → Prop}
    (hg : o.guard = none) (s x : Operand) (t : TypeId) (hop : o.op = Op.call { callee := Callee.builtin Builtin.append, args := #[s, x], argTypes := #[t, t] })
    (v1 v2 : Value) (hs : a.eval s = v1) (hx : a.eval x = v2) (r : Value) (w' : World) (hrun : (Builtin.append_ #[t, t] o.type #[v1, v2]).run P w = .ok r w') (h : wpListIn F n P ops Q rest (a.put o.dst r) w') :
    wpListIn F n P ops Q (o :: rest) a w := by
  refine wpListIn_plain hg fun K hK' => ?_
  unfold Oper.wpIn
  refine ⟨?_, ?_⟩
  · simp [Oper.about, hop, resolve, Target.leads, Sem.run_pure]
  · rw [Oper.semAt_plain F _ _ (by rw [hop]; intro c hc'; cases hc')]
    simp [execOp, hop, resolve, invoke, builtin, hs, hx, hrun, Result.andThen]
    exact hK' _ _ h
end Go
namespace Go.Proofs.Ytcakdmapnmneoaa
open Go.RowKit Go.Shelf
set_option linter.unusedVariables false
set_option linter.unusedSimpArgs false
attribute [local go_sem] Oper.semAt_some

theorem make_ent (W : World) (n : Nat) (hn : n ≤ 1000000) :
    ∃ w', (Instr.makeSlice 33 (.int .i64 0) (.int .i64 (n : Int))).run Try.prog W = .ok (.slice (some ⟨W.heap.size, 0, none⟩) 0 n) w' ∧ EntRow W.heap.size (some ⟨W.heap.size, 0, none⟩) n [] w' ∧ Keeps [] W w' := by
  obtain ⟨j0, hi, hz0, hz1, hz2⟩ := info_parts infoEnt5
  obtain ⟨w', h1, h2, h3⟩ := run_make_own (P := Try.prog) W W.heap.size 33 36 j0 noE.agg 5 Try.underlying33 hi hz0 hz1 .i64 .i64 n (by rw [hz2]; omega) (by unfold maxLen; omega) (Nat.le_refl _)
  exact ⟨w', h1, h2, ⟨h3.os, h3.tape, h3.output, h3.size, fun k hk _ => h3.block k hk (by simp)⟩⟩
def PairsP (E : List Ent) (w : World) (r : Ending) (w' : World) : Prop := ∃ a c, r = .returned (.slice a (liveN E) c) ∧ EntRow w.heap.size a c (liveL E) w' ∧ Keeps [] w w'
def outO (a : Option Addr) (i c : Nat) : Obj := .cells #[.slice a i c] 33 (0, 0)
/-- In the midst of the pairs. -/
def PrI (B R0 D : Nat) (E : List Ent) (w2 : World) (i : Nat) (a : Option Addr) (c : Nat) (W : World) : Prop :=
  W.heap[B]? = some (outO a i c) ∧ EntRow R0 a c ((liveL E).take i) W ∧ Keeps [B, R0] w2 W ∧ ∀ x, x ∈ blk a → x = R0 ∨ D + 2 ≤ x
theorem PrI.keeps {B R0 D : Nat} {E : List Ent} {w2 : World} {i : Nat} {a : Option Addr} {c : Nat} {A A' : World} (h : PrI B R0 D E w2 i a c A) (hB : B < D) (hR : R0 < D) (hD : w2.heap.size = D) (k : Keeps [D, D + 1] A A') : PrI B R0 D E w2 i a c A' :=
  ⟨k.has h.1 (by simp; omega), h.2.1.keeps k (fun x hx => by have := h.2.2.2 x hx; simp; omega), h.2.2.1.then k (by intro y hy; simp at hy; left; omega), h.2.2.2⟩
set_option maxRecDepth 100000 in
set_option maxHeartbeats 4000000 in
theorem pairs_any (db t lo : Nat) (S : List Nat) (mv : Value) (d : Dic) (w : World) (H : DicAt db t lo S mv d w) (hl : d.T.E.length ≤ 1000) :
    Calls Try.prog 15 #[.pointer (some ⟨db, 0, none⟩)] w (PairsP d.T.E w) := by
  have HD := Lib.hid H
  have c0 : w.cell? ⟨db, 0, none⟩ = some (.pointer (some ⟨t, 0, none⟩)) := cell_has H.b (i := 0) rfl
  obtain ⟨w1, hmk, r1, k1⟩ := make_ent w (liveN d.T.E) (by have := liveN_le d.T.E; omega)
  have R1 := Lib.hid r1
  have K1 := Lib.hid k1
  have c1 := k1.cell c0 (by simp)
  have c1a : (w1.alloc (outO (some ⟨w.heap.size, 0, none⟩) 0 (liveN d.T.E))).cell? ⟨db, 0, none⟩ = some (.pointer (some ⟨t, 0, none⟩)) := cell_alloc c1 _
  unfold outO at c1a
  obtain ⟨n, hn⟩ := ex_hid (liveN d.T.E)
  have hn1 : n ≤ 1000 := by rw [hn.out]; have := liveN_le d.T.E; omega
  rw [← hn.out] at hmk c1a
  clear H c0 r1 k1
  refine calls_of_wp_ranges Try.func15 rfl ?_
  simp only [Try.ntmps15, List.size_toArray, List.length_cons, List.length_nil, Nat.reduceAdd, Nat.reduceSub, Array.replicate_succ, Array.replicate_zero, List.push_toArray, List.append_toArray, List.nil_append, List.cons_append]
  go_wp2_with fail
  refine (dlen_any db t lo S mv d _ HD.out).mono ?_
  rintro r w0 ⟨rfl, rfl⟩
  rw [← hn.out]
  go_wp2_with fail
  have kA : Keeps [] w (w1.alloc (outO (some ⟨w.heap.size, 0, none⟩) 0 n)) := K1.out.alloc _
  have bA : (w1.alloc (outO (some ⟨w.heap.size, 0, none⟩) 0 n)).heap[w1.heap.size]? = some (outO (some ⟨w.heap.size, 0, none⟩) 0 n) := has_new _ _
  have rA : EntRow w.heap.size (some ⟨w.heap.size, 0, none⟩) n [] (w1.alloc (outO (some ⟨w.heap.size, 0, none⟩) 0 n)) := by rw [hn.out]; exact R1.out.keeps ((Keeps.refl [] w1).alloc _) (by simp)
  obtain ⟨ta, tc, tcb, tcr, a1, a2, _⟩ := HD.out.t
  have A12 := Lib.hid (And.intro a1 a2)
  have lr0 := (R1.out.blk_lt w.heap.size (by simp [blk])).2
  clear a1 a2
  refine (all_gen t lo ta tc d.T.E _ (kA.cell (cell_has A12.out.1 (i := 1) rfl) (by simp)) (kA.cell (cell_has A12.out.1 (i := 3) rfl) (by simp)) (A12.out.2.keeps kA (by simp)) (by omega)).mono ?_
  rintro r w2 ⟨b, ra, rc, rfl, rb, rr, rz, rk⟩
  have B2 := Lib.hid (rk.has bA (by simp))
  have E2 := Lib.hid (rA.keeps rk (by simp))
  have K2 := Lib.hid (kA.trans rk)
  have PV : Hid (NuPriv b (w1.heap.size + 1) ra rc (numL d.T.E 0) w2) := Lib.hid ⟨by rw [numL_len]; exact rb, by have h := rr; simp only [World.size_alloc] at h; exact h⟩
  have lb := lt_of_block rb
  simp only [World.size_alloc] at rz
  have hlen : (numL d.T.E 0).length = n := by rw [numL_len, hn.out]
  have HLN := Lib.hid hlen
  have NB := Lib.hid PV.out.2.blk_lt
  have lB := lt_of_block B2.out
  clear kA bA rA rb rr rk hmk c1 c1a hlen
  go_wp2_with fail
  refine wp_rangeN (gf := 82) (lb := #[.pointer (some ⟨b, 0, none⟩)]) rfl enters_tall (nuIter b (w1.heap.size + 1) ra rc (numL d.T.E 0) (by rw [HLN.out]; omega)) (fun _ => rfl)
    (fun i W => ∃ a c, PrI w1.heap.size w.heap.size w2.heap.size d.T.E w2 i a c W) (fun _ _ _ => False)
    (fun i A B h k => by
      obtain ⟨a, c, q⟩ := h
      exact ⟨a, c, q.keeps (by omega) (by omega) rfl k⟩)
    (fun _ _ _ _ h _ => h) ?priv ⟨some ⟨w.heap.size, 0, none⟩, n, B2.out, by simpa using E2.out, Keeps.refl _ _, by simp [blk]⟩ ?round ?done ?stop
  case priv =>
    intro i A h
    obtain ⟨a, c, q1, q2, q3, q4⟩ := h
    exact PV.out.keeps q3 (by simp; omega) (fun x hx => by have := (NB.out x hx).1; simp; omega)
  case stop => intro c i W _ h; exact h.elim
  case round =>
    intro l i W K hi hW hsz hK
    have hi2 : i < n := by rw [← HLN.out]; exact hi
    obtain ⟨⟨y0, y⟩, hy⟩ : ∃ q, Hid ((numL d.T.E 0).getD i (0, noE) = q) := ⟨_, Lib.hid rfl⟩
    have hyg : (liveL d.T.E)[i]? = some y := by have := numL_get (nuget hi); rw [hy.out] at this; exact this
    have HY := Lib.hid hyg
    simp only [encN, hy.out, Ent.agg]
    clear hy hyg
    gi_wp2
    obtain ⟨a1, c1, hq⟩ := hW
    refine hK _ _ (fun W' => W'.heap[W.heap.size]? = some (.cells #[.bool y.live, .int .i64 y.hash, .int .i64 y.key, .int .i64 y.val, .int .i64 y.birth] 36 (0, 0)) ∧ PrI w1.heap.size w.heap.size w2.heap.size d.T.E w2 i a1 c1 W' ∧ W.heap.size ∉ blk a1) (fun A B h k => ⟨k.has h.1 (by simp; omega), h.2.1.keeps (by omega) (by omega) rfl k, h.2.2⟩) ⟨has_new _ _, ⟨has_alloc hq.1 _, hq.2.1.keeps ((Keeps.refl [] W).alloc _) (by simp), hq.2.2.1.alloc _, hq.2.2.2⟩, fun hx => by have := (hq.2.1.blk_lt _ hx).2; omega⟩ ((Keeps.refl [] W).alloc _) ?_
    clear hK hq
    obtain ⟨X, hX⟩ := ex_hid W.heap.size
    have zX : w2.heap.size + 1 < X := by rw [hX.out]; exact hsz
    rw [← hX.out]
    clear hX hsz
    intro W _ hbx hsz
    obtain ⟨hbx, ⟨q1, q2, q3, q4⟩, zb⟩ := hbx
    have x0 : W.cell? ⟨w1.heap.size, 0, none⟩ = some (.slice a1 i c1) := cell_has q1 (i := 0) rfl
    have u0 : W.cell? ⟨X, 0, none⟩ = some (.bool y.live) := cell_has hbx (i := 0) rfl
    have u1 : W.cell? ⟨X, 1, none⟩ = some (.int .i64 y.hash) := cell_has hbx (i := 1) rfl
    have u2 : W.cell? ⟨X, 2, none⟩ = some (.int .i64 y.key) := cell_has hbx (i := 2) rfl
    have u3 : W.cell? ⟨X, 3, none⟩ = some (.int .i64 y.val) := cell_has hbx (i := 3) rfl
    have u4 : W.cell? ⟨X, 4, none⟩ = some (.int .i64 y.birth) := cell_has hbx (i := 4) rfl
    have hti : ((liveL d.T.E).take i).length = i := by rw [List.length_take, liveL_len, ← hn.out]; omega
    obtain ⟨g, cap, W5, hrun, r1, r2, r3, r4⟩ := ent_append w.heap.size a1 c1 ((liveL d.T.E).take i) y (W.alloc (.cells #[.bool y.live, .int .i64 y.hash, .int .i64 y.key, .int .i64 y.val, .int .i64 y.birth] 36)) W.heap.size (q2.keeps ((Keeps.refl [] W).alloc _) (by simp)) (has_new _ _) (by rw [hti]; omega) (by simp; omega)
    rw [hti] at hrun
    have HRun := Lib.hid hrun
    have k5 : Keeps (blk a1) W W5 := ((Keeps.refl (blk a1) W).alloc _).trans r2
    have nB : w1.heap.size ∉ blk a1 := fun hx => by have := q4 _ hx; omega
    have b5 := k5.has q1 nB
    have x5 : W5.cell? ⟨w1.heap.size, 0, none⟩ = some (.slice a1 i c1) := cell_has b5 (i := 0) rfl
    have f5 : W5.frozen? ⟨w1.heap.size, 0, none⟩ = false := free_of_has b5 0
    have Q3 := Lib.hid q3
    have Q4 := Lib.hid q4
    have B5 := Lib.hid b5
    have K5 := Lib.hid k5
    have R5 := Lib.hid (And.intro r1 (And.intro r3 r4))
    clear hbx q1 q2 q3 q4 hrun r1 r2 r3 r4 k5 b5
    gi_wp2_with (gi_at_builtin; go_must (refine wpListIn_append_run _ rfl _ _ 33 rfl _ _ rfl rfl _ _ HRun.out ?_))
    have kS : Keeps [w1.heap.size] W5 (W5.setCell ⟨w1.heap.size, 0, none⟩ (.slice (some ⟨g, 0, none⟩) (i + 1) cap)) := (Keeps.refl _ _).setCell (.inr (by simp)) _
    have hg : g = w.heap.size ∨ w2.heap.size + 2 ≤ g := by
      rcases R5.out.2.1 with h9 | h9
      · exact Q4.out g h9
      · rw [h9]; simp; omega
    have z5 := K5.out.size
    have na : ∀ x, w2.heap.size ≤ x → x < w2.heap.size + 2 → x ∉ blk a1 := fun x h1 h2 hx => by have := Q4.out x hx; omega
    refine ⟨⟨some ⟨g, 0, none⟩, cap, ?_, ?_, ?_, fun x hx => by simp [blk] at hx; subst hx; exact hg⟩, ?_, ?_⟩
    · have h := has_setCell B5.out 0 (.slice (some ⟨g, 0, none⟩) (i + 1) cap)
      exact h
    · rw [List.take_add_one, HY.out]
      exact R5.out.1.keeps kS (by intro x hx hx2; simp [blk] at hx; simp at hx2; omega)
    · exact (Q3.out.then K5.out (fun x hx => by rcases Q4.out x hx with rfl | h9; · right; simp
                                                · left; omega)).trans (kS.mono (by simp))
    · exact (kS.block _ (by omega) (by simp; omega)).trans (K5.out.block _ (by omega) (na _ (by omega) (by omega)))
    · exact (kS.block _ (by omega) (by simp; omega)).trans (K5.out.block _ (by omega) (na _ (by omega) (by omega)))
  case done =>
    intro W hW hDD
    obtain ⟨a1, c1, q1, q2, q3, q4⟩ := hW
    rw [HLN.out] at q1 q2
    have x0 : W.cell? ⟨w1.heap.size, 0, none⟩ = some (.slice a1 n c1) := cell_has q1 (i := 0) rfl
    have htk : (liveL d.T.E).take n = liveL d.T.E := by rw [List.take_of_length_le (by rw [liveL_len, hn.out]; exact Nat.le_refl _)]
    rw [htk] at q2
    have Q2 := Lib.hid q2
    have Q3 := Lib.hid (And.intro q3 q4)
    have HDD := Lib.hid hDD
    clear q1 q2 q3 q4 hDD htk
    go_wp2_with fail
    refine bodyPostR_ret1 (D := w2.heap.size) (v := .slice a1 n c1) (fun w => by simp [results, Try.results15, go_sem]) rfl HDD.out fun w' kD => ?_
    refine ⟨a1, c1, by rw [hn.out], Q2.out.keeps kD (fun x hx => by have := Q3.out.2 x hx; simp; omega), ?_⟩
    exact (K2.out.then Q3.out.1 (fun x hx => by simp at hx; rcases hx with rfl | rfl <;> (left; omega))).then kD (fun x hx => by simp at hx; left; have := K2.out.size; omega)
end Go.Proofs.Ytcakdmapnmneoaa
