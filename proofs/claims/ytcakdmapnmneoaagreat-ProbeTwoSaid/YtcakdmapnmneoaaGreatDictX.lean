/- A dictionary's first and last pair, out (chapter 8). -/
import Derived.Test.YtcakdmapnmneoaaGreatBackIt
import Derived.Test.YtcakdmapnmneoaaGreatRefK
import Derived.Test.YtcakdmapnmneoaaGreatTabKill
namespace Go.Proofs.YtcakdmapnmneoaaGreat
open Go.RowKit Go.Shelf
set_option linter.unusedVariables false
set_option linter.unusedSimpArgs false
attribute [local go_sem] Oper.semAt_some

def OutP (n : Nat) (db t lo : Nat) (S : List Nat) (mv : Value) (d : Dic) (y0 : Nat) (y : Ent) (w : World) (r : Ending) (w' : World) : Prop :=
  ((n = 0 ∧ r = .returned (.tuple #[noE.agg, .int .i64 7]) ∧ DicAt db t lo S mv d w') ∨ (0 < n ∧ r = .returned (.tuple #[y.agg, .int .i64 0]) ∧ DicAt db t lo S mv (d.took y0) w')) ∧ Keeps (db :: S) w w'
set_option maxRecDepth 100000 in
set_option maxHeartbeats 4000000 in
theorem out_gen (gf : Nat) (eg : ∀ args w, (callFunc gf args).run Tryz.prog w = .ok (.enter gf args) w) (b lo2 : Nat) (a : Option Addr) (c : Nat) (N : List (Nat × Ent)) (enc : Nat → Array Value)
    (hit : IterNx Tryz.prog gf #[.pointer (some ⟨b, 0, none⟩)] N.length enc (NuPriv b lo2 a c N)) (hsz : ∀ i, (enc i).size = 2) (y0 : Nat) (y : Ent) (hy : 0 < N.length → enc 0 = #[.int .i64 y0, y.agg])
    (db t lo : Nat) (S : List Nat) (mv : Value) (d : Dic) (w : World) (HD : DicAt db t lo S mv d w) (PV : NuPriv b lo2 a c N w) (hb : b ∉ db :: S) (ha : ∀ x, x ∈ blk a → x ∉ db :: S) (hI : TInv 1000 d.T) (hv : d.ver ≤ 1000000) :
    Calls Tryz.prog 71 #[.pointer (some ⟨db, 0, none⟩), .func (.func gf) #[] #[.pointer (some ⟨b, 0, none⟩)]] w (OutP N.length db t lo S mv d y0 y w) := by
  obtain ⟨lr, hlr⟩ : ∃ lr, lr = w.heap.size := ⟨_, rfl⟩
  obtain ⟨W0, hW0⟩ : ∃ W0, ((w.alloc (.cells #[.pointer (some ⟨db, 0, none⟩)] 24)).alloc (.cells #[.bool false, .int .i64 0, .int .i64 0, .int .i64 0, .int .i64 0] 78)).alloc (.cells #[.int .i64 0] 25) = W0 := ⟨_, rfl⟩
  have k0 : Keeps [] w W0 := by rw [← hW0]; exact (((Keeps.refl [] w).alloc _).alloc _).alloc _
  have z0 : W0.heap.size = lr + 3 := by rw [← hW0, hlr]; simp
  have B0 := Lib.hid (show W0.heap[lr]? = some (.cells #[.pointer (some ⟨db, 0, none⟩)] 24 (0, 0)) by rw [← hW0, hlr]; exact has_alloc (has_alloc (has_new _ _) _) _)
  have B1 := Lib.hid (show W0.heap[lr + 1]? = some (entR noE) by rw [← hW0, hlr]; exact has_alloc (has_new' _ _ (by simp)) _)
  have B2 := Lib.hid (show W0.heap[lr + 2]? = some (.cells #[.int .i64 0] 25 (0, 0)) by rw [← hW0, hlr]; exact has_new' _ _ (by simp))
  have HLR := Lib.hid hlr
  have HW0 := Lib.hid hW0
  have K0 := Lib.hid k0
  have Z0 := Lib.hid z0
  have DH := Lib.hid HD
  have HI := Lib.hid hI
  have HV := Lib.hid hv
  have HY := Lib.hid hy
  have HB := Lib.hid hb
  have HA := Lib.hid ha
  have PVH := Lib.hid PV
  have LD := Lib.hid (show db < lr from by rw [hlr]; exact lt_of_block HD.b)
  have LS := Lib.hid (show ∀ z, z ∈ S → z < lr from fun z hz => by rw [hlr]; exact (HD.t.foot z hz).2)
  have LB := Lib.hid (show b < lr from by rw [hlr]; exact lt_of_block PV.1)
  have LA := Lib.hid (show ∀ x, x ∈ blk a → x < lr from fun x hx => by rw [hlr]; exact (PV.2.blk_lt x hx).2)
  obtain ⟨n, hn⟩ := ex_hid N.length
  rw [← hn.out] at hit ⊢
  clear HD PV hb ha hI hv hy hlr hW0 k0 z0
  refine calls_of_wp_ranges Tryz.func71 rfl ?_
  simp only [Tryz.ntmps71, List.size_toArray, List.length_cons, List.length_nil, Nat.reduceAdd, Nat.reduceSub, Array.replicate_succ, Array.replicate_zero, List.push_toArray, List.append_toArray, List.nil_append, List.cons_append]
  go_wp2_with fail
  rw [HW0.out, ← HLR.out]
  refine wp_rangeNx (gf := gf) (lb := #[.pointer (some ⟨b, 0, none⟩)]) rfl eg hit (fun i => by rw [hsz i]; rfl)
    (fun i W => i = 0 ∧ Keeps [] W0 W) (fun c i W => c = .ret ∧ i = 0 ∧ DicAt db t lo S mv (d.took y0) W ∧ W.heap[lr + 1]? = some (entR y) ∧ W.heap[lr + 2]? = some (.cells #[.int .i64 0] 25 (0, 0)) ∧ Keeps ((lr + 1) :: (lr + 2) :: db :: S) W0 W)
    (fun i A B h k => ⟨h.1, h.2.then k (by intro y hy; simp at hy; left; omega)⟩)
    (fun c i A B h k => ⟨h.1, h.2.1, h.2.2.1.keeps k (by have := LD.out; have := Z0.out; simp; omega) (fun z hz => by have := LS.out z hz; have := Z0.out; simp; omega), k.has h.2.2.2.1 (by have := Z0.out; simp; omega), k.has h.2.2.2.2.1 (by have := Z0.out; simp; omega), h.2.2.2.2.2.then k (by intro y hy; simp at hy; left; omega)⟩)
    (fun i A h => PVH.out.keeps (K0.out.trans h.2) (by simp) (by simp))
    (fun c i A h => by
      have h5 := K0.out.mono (T := (lr + 1) :: (lr + 2) :: db :: S) (by simp)
      refine PVH.out.keeps (h5.trans h.2.2.2.2.2) ?_ ?_
      · have := LB.out; have h9 := HB.out; simp at h9 ⊢; exact ⟨by omega, by omega, h9.1, h9.2⟩
      · intro x hx; have := LA.out x hx; have h9 := HA.out x hx; simp at h9 ⊢; exact ⟨by omega, by omega, h9.1, h9.2⟩)
    ⟨rfl, Keeps.refl _ _⟩ ?round ?done ?stop
  case round =>
    rintro l i W K hi ⟨rfl, kW⟩ hsz2 hK
    rw [HY.out (by rw [← hn.out]; exact hi)]
    simp only [Ent.agg]
    have KW := Lib.hid kW
    clear kW hsz hit
    gi_wp2
    refine hK _ _ (fun W' => W'.heap[W.heap.size]? = some (entR y)) (fun A B h k => k.has h (by simp; omega)) (has_new _ _) ((Keeps.refl [] W).alloc _) ?_
    clear hK
    obtain ⟨X, hX⟩ := ex_hid W.heap.size
    have zX : lr + 4 < X := by have := Z0.out; rw [hX.out]; omega
    rw [← hX.out]
    clear hX hsz2 KW
    rintro W ⟨_, kW⟩ hbx hsz
    unfold entR at hbx
    have u0 : W.cell? ⟨X, 0, none⟩ = some (.bool y.live) := cell_has hbx (i := 0) rfl
    have u1 : W.cell? ⟨X, 1, none⟩ = some (.int .i64 y.hash) := cell_has hbx (i := 1) rfl
    have u2 : W.cell? ⟨X, 2, none⟩ = some (.int .i64 y.key) := cell_has hbx (i := 2) rfl
    have u3 : W.cell? ⟨X, 3, none⟩ = some (.int .i64 y.val) := cell_has hbx (i := 3) rfl
    have u4 : W.cell? ⟨X, 4, none⟩ = some (.int .i64 y.birth) := cell_has hbx (i := 4) rfl
    have lX := lt_of_block hbx
    have D2 := Lib.hid (DH.out.keeps (K0.out.trans kW) (by simp) (by simp))
    have x0 : W.cell? ⟨lr, 0, none⟩ = some (.pointer (some ⟨db, 0, none⟩)) := kW.cell (cell_has B0.out (i := 0) rfl) (by simp)
    have y0' : W.cell? ⟨db, 0, none⟩ = some (.pointer (some ⟨t, 0, none⟩)) := cell_has D2.out.b (i := 0) rfl
    have KW := Lib.hid kW
    have BX := Lib.hid hbx
    clear kW hbx
    gi_wp2
    refine ⟨trivial, (CallsIn.inRound l (callsIn_wide.2 (kill_any t lo S mv d.T _ D2.out.t HI.out (y0 : Nat)))).mono ?_⟩
    rintro r w1 ⟨rfl, t1, k1⟩
    have nS : ∀ z, lr ≤ z → z ∉ S := fun z h hz => by have := LS.out z hz; omega
    have NS := Lib.hid nS
    have T1 := Lib.hid t1
    have K1 := Lib.hid k1
    have b1 := k1.has D2.out.b D2.out.n
    have B1' := Lib.hid b1
    have x1 : w1.cell? ⟨lr, 0, none⟩ = some (.pointer (some ⟨db, 0, none⟩)) := k1.cell x0 (nS _ (Nat.le_refl _))
    have X1 := Lib.hid (k1.has BX.out (nS _ (by omega)))
    clear t1 k1 b1 nS x0 y0' u0 u1 u2 u3 u4
    gi_wp2
    refine ⟨trivial, (CallsIn.inRound l (callsIn_wide.2 (changed_any db t d.most d.ver w1 B1'.out HV.out))).mono ?_⟩
    rintro r w2 ⟨rfl, b2, k2⟩
    have ld := LD.out
    have X2 := Lib.hid (k2.has X1.out (by simp; omega))
    have D3 := Lib.hid (show DicAt db t lo S mv (d.took y0) w2 from ⟨b2, T1.out.keeps k2 (fun z hz hq => by simp at hq; exact D2.out.n (hq ▸ hz)), D2.out.n, D2.out.l⟩)
    have K2 := Lib.hid k2
    have KA : Hid (Keeps (db :: S) W w2) := Lib.hid ((K1.out.mono (T := db :: S) (fun z hz => by simp [hz])).trans (k2.mono (fun z hz => by simp at hz; simp [hz])))
    have r1 : w2.heap[lr + 1]? = some (entR noE) := KA.out.has (KW.out.has B1.out (by simp)) (by simp; exact ⟨by omega, NS.out _ (by omega)⟩)
    have r2 : w2.heap[lr + 2]? = some (.cells #[.int .i64 0] 25 (0, 0)) := KA.out.has (KW.out.has B2.out (by simp)) (by simp; exact ⟨by omega, NS.out _ (by omega)⟩)
    have R1 := Lib.hid r1
    have R2 := Lib.hid r2
    have v0 : w2.cell? ⟨X, 0, none⟩ = some (.bool y.live) := cell_has X2.out (i := 0) rfl
    have v1 : w2.cell? ⟨X, 1, none⟩ = some (.int .i64 y.hash) := cell_has X2.out (i := 1) rfl
    have v2 : w2.cell? ⟨X, 2, none⟩ = some (.int .i64 y.key) := cell_has X2.out (i := 2) rfl
    have v3 : w2.cell? ⟨X, 3, none⟩ = some (.int .i64 y.val) := cell_has X2.out (i := 3) rfl
    have v4 : w2.cell? ⟨X, 4, none⟩ = some (.int .i64 y.birth) := cell_has X2.out (i := 4) rfl
    unfold entR at r1
    have s0 : w2.cell? ⟨lr + 1, 0, none⟩ = some (.bool noE.live) := cell_has r1 (i := 0) rfl
    have s1 : w2.cell? ⟨lr + 1, 1, none⟩ = some (.int .i64 noE.hash) := cell_has r1 (i := 1) rfl
    have s2 : w2.cell? ⟨lr + 1, 2, none⟩ = some (.int .i64 noE.key) := cell_has r1 (i := 2) rfl
    have s3 : w2.cell? ⟨lr + 1, 3, none⟩ = some (.int .i64 noE.val) := cell_has r1 (i := 3) rfl
    have s4 : w2.cell? ⟨lr + 1, 4, none⟩ = some (.int .i64 noE.birth) := cell_has r1 (i := 4) rfl
    have g0 := free_of_has r1 0
    have g1 := free_of_has r1 1
    have g2 := free_of_has r1 2
    have g3 := free_of_has r1 3
    have g4 := free_of_has r1 4
    have s5 : w2.cell? ⟨lr + 2, 0, none⟩ = some (.int .i64 0) := cell_has r2 (i := 0) rfl
    have g5 := free_of_has r2 0
    clear b2 k2 r1 r2 x1 ld
    gi_wp2
    obtain ⟨q1, q2⟩ := entR_store noE y R1.out
    have q3 := q2.has R2.out (by simp)
    have q4 := has_setCell q3 0 (.int .i64 0)
    have kS := q2.mono (T := [lr + 1, lr + 2]) (by simp)
    have kT := kS.setCell (p := ⟨lr + 2, 0, none⟩) (.inr (by simp)) (.int .i64 0)
    have zd := Z0.out
    have lw : w2.heap.size ≥ W.heap.size := KA.out.size
    refine ⟨⟨rfl, rfl, D3.out.keeps kT ?_ ?_, ?_, q4, ?_⟩, ?_, ?_⟩
    · have := LD.out; simp; omega
    · intro z hz; have := LS.out z hz; simp; omega
    · exact has_setCell_other q1 (by simp) _
    · refine ((KW.out.mono (by simp)).trans (KA.out.mono (T := (lr + 1) :: (lr + 2) :: db :: S) (fun z hz => by simp at hz ⊢; simp [hz]))).trans (kT.mono (fun z hz => by simp at hz ⊢; rcases hz with h | h <;> simp [h]))
    · have := LD.out
      exact (kT.block _ (by omega) (by simp; omega)).trans (KA.out.block _ (by omega) (by simp; exact ⟨by omega, NS.out _ (by omega)⟩))
    · have := LD.out
      exact (kT.block _ (by omega) (by simp; omega)).trans (KA.out.block _ (by omega) (by simp; exact ⟨by omega, NS.out _ (by omega)⟩))
  case done =>
    rintro W ⟨hn0, kW⟩ hDD
    have HDD := Lib.hid hDD
    have KW := Lib.hid kW
    have HN0 := Lib.hid hn0
    have r1 : W.heap[lr + 1]? = some (entR noE) := kW.has B1.out (by simp)
    have r2 : W.heap[lr + 2]? = some (.cells #[.int .i64 0] 25 (0, 0)) := kW.has B2.out (by simp)
    have R1 := Lib.hid r1
    have R2 := Lib.hid r2
    unfold entR at r1
    have s0 : W.cell? ⟨lr + 1, 0, none⟩ = some (.bool noE.live) := cell_has r1 (i := 0) rfl
    have s1 : W.cell? ⟨lr + 1, 1, none⟩ = some (.int .i64 noE.hash) := cell_has r1 (i := 1) rfl
    have s2 : W.cell? ⟨lr + 1, 2, none⟩ = some (.int .i64 noE.key) := cell_has r1 (i := 2) rfl
    have s3 : W.cell? ⟨lr + 1, 3, none⟩ = some (.int .i64 noE.val) := cell_has r1 (i := 3) rfl
    have s4 : W.cell? ⟨lr + 1, 4, none⟩ = some (.int .i64 noE.birth) := cell_has r1 (i := 4) rfl
    have g0 := free_of_has r1 0
    have g1 := free_of_has r1 1
    have g2 := free_of_has r1 2
    have g3 := free_of_has r1 3
    have g4 := free_of_has r1 4
    have s5 : W.cell? ⟨lr + 2, 0, none⟩ = some (.int .i64 0) := cell_has r2 (i := 0) rfl
    have g5 := free_of_has r2 0
    clear hDD kW hn0 r1 r2 hsz hit
    go_wp2_with fail
    obtain ⟨q1, q2⟩ := entR_store noE noE R1.out
    have q3 := q2.has R2.out (by simp)
    have q4 := has_setCell q3 0 (.int .i64 7)
    have kS := q2.mono (T := [lr + 1, lr + 2]) (by simp)
    have kT := kS.setCell (p := ⟨lr + 2, 0, none⟩) (.inr (by simp)) (.int .i64 7)
    have q5 := has_setCell_other (p := ⟨lr + 2, 0, none⟩) q1 (by simp) (.int .i64 7)
    have zd := Z0.out
    have ld := LD.out
    have hDD2 := kT.has HDD.out (by simp; omega)
    have kP := Keeps.putObj ((((((W.setCell ⟨lr + 1, 0, none⟩ (.bool noE.live)).setCell ⟨lr + 1, 1, none⟩ (.int .i64 noE.hash)).setCell ⟨lr + 1, 2, none⟩ (.int .i64 noE.key)).setCell ⟨lr + 1, 3, none⟩ (.int .i64 noE.val)).setCell ⟨lr + 1, 4, none⟩ (.int .i64 noE.birth)).setCell ⟨lr + 2, 0, none⟩ (.int .i64 7)) W0.heap.size (.deferred none)
    have p1 := kP.has q5 (by simp; omega)
    have p2 := kP.has q4 (by simp; omega)
    unfold entR at p1
    have rc1 := cell_of_has p1
    have rc2 := cell_of_has p2
    have kF := (kT.mono (T := [lr + 1, lr + 2, W0.heap.size]) (by simp)).trans (kP.mono (T := [lr + 1, lr + 2, W0.heap.size]) (by simp))
    show bodyPostR _ _ _ _ _ ((((((W.setCell ⟨lr + 1, 0, none⟩ (.bool noE.live)).setCell ⟨lr + 1, 1, none⟩ (.int .i64 noE.hash)).setCell ⟨lr + 1, 2, none⟩ (.int .i64 noE.key)).setCell ⟨lr + 1, 3, none⟩ (.int .i64 noE.val)).setCell ⟨lr + 1, 4, none⟩ (.int .i64 noE.birth)).setCell ⟨lr + 2, 0, none⟩ (.int .i64 7))
    refine (bodyPostR_end [W0.heap.size] (v := .tuple #[noE.agg, .int .i64 7]) rfl (by intro D hD; rw [List.mem_singleton] at hD; rw [hD]; exact hDD2) (by simp) ?_ ?_).1
    · simp [results, Tryz.results71, go_sem, unmark, rc1, rc2, Ent.agg]
    · have kW9 : Keeps [] w W := K0.out.trans KW.out
      have hlr := HLR.out
      have kZ : Keeps [] w _ := kW9.then kF (by intro x hx; simp at hx; left; omega)
      exact ⟨.inl ⟨HN0.out, rfl, DH.out.keeps kZ (by simp) (by simp)⟩, kZ.mono (by simp)⟩
  case stop =>
    rintro c' i W hi ⟨rfl, rfl, hd2, q1, q2, hk2⟩ hD
    have zd := Z0.out
    have ld := LD.out
    go_wp2_with fail
    have kP := Keeps.putObj W W0.heap.size (.deferred none)
    have p1 := kP.has q1 (by simp; omega)
    have p2 := kP.has q2 (by simp; omega)
    unfold entR at p1
    have rc1 := cell_of_has p1
    have rc2 := cell_of_has p2
    refine (bodyPostR_end [W0.heap.size] (v := .tuple #[y.agg, .int .i64 0]) rfl (by simpa using hD) (by simp) ?_ ?_).1
    · simp [results, Tryz.results71, go_sem, unmark, rc1, rc2, Ent.agg]
    · refine ⟨.inr ⟨by omega, rfl, hd2.keeps kP (by simp; omega) (fun z hz => by have := LS.out z hz; simp; omega)⟩, ?_⟩
      have hlr := HLR.out
      exact ((K0.out.mono (T := db :: S) (by simp)).then hk2 (by intro x hx; simp at hx; rcases hx with h | h | h | h <;> first | (left; omega) | (right; simp [h]))).then kP (by intro x hx; simp at hx; left; omega)
theorem Dic.out_enc (d : Dic) (back : Bool) (h : 0 < liveN d.T.E) : encN (numL d.T.E 0) (if back = true then liveN d.T.E - 1 else 0) = #[.int .i64 (d.outN back : Nat), (d.outX back).agg] := by
  have hlt : (if back = true then liveN d.T.E - 1 else 0) < (liveL d.T.E).length := by rw [liveL_len]; split <;> omega
  obtain ⟨h1, h2, h3⟩ := nthN_spec (List.getElem?_eq_getElem hlt)
  have h4 : d.T.ent (d.outN back : Nat) = some ((liveL d.T.E)[if back = true then liveN d.T.E - 1 else 0]'hlt) := by
    unfold Tab.ent; rw [if_pos (by omega)]
    simp only [Int.toNat_natCast]
    unfold Dic.outN
    rw [h2]; simp [Option.filter, h3]
  have h5 : d.outX back = (liveL d.T.E)[if back = true then liveN d.T.E - 1 else 0]'hlt := by
    unfold Dic.outX
    rw [if_neg (by omega), Dic.at_of h4]
  have h6 : (numL d.T.E 0).getD (if back = true then liveN d.T.E - 1 else 0) (0, noE) = (d.outN back, d.outX back) := by
    rw [h5]; unfold Dic.outN
    simp only [List.getD, h1, Option.getD_some]
  unfold encN
  rw [h6]
theorem Dic.out_post {n db t lo : Nat} {S : List Nat} {mv : Value} {d : Dic} {back : Bool} {w w' : World} {r : Ending} (hn : n = liveN d.T.E) (h : OutP n db t lo S mv d (d.outN back) (d.outX back) w r w') :
    r = .returned (.tuple #[(d.outX back).agg, .int .i64 d.outE]) ∧ DicAt db t lo S mv (d.outD back) w' ∧ Keeps (db :: S) w w' := by
  obtain ⟨h1, h2⟩ := h
  unfold Dic.outE Dic.outD
  rcases h1 with ⟨h3, h4, h5⟩ | ⟨h3, h4, h5⟩
  · rw [if_pos (by omega), if_pos (by omega)]
    refine ⟨?_, h5, h2⟩
    rw [h4, show d.outX back = noE from by unfold Dic.outX; rw [if_pos (by omega)]]
  · rw [if_neg (by omega), if_neg (by omega)]
    exact ⟨h4, h5, h2⟩
set_option maxRecDepth 100000 in
set_option maxHeartbeats 4000000 in
theorem last8_any (db t lo : Nat) (S : List Nat) (mv : Value) (d : Dic) (w : World) (HD : DicAt db t lo S mv d w) (hI : TInv 1000 d.T) (hv : d.ver ≤ 1000000) :
    Calls Tryz.prog 29 #[.pointer (some ⟨db, 0, none⟩)] w fun r w' => r = .returned (.tuple #[(d.outX true).agg, .int .i64 d.outE]) ∧ DicAt db t lo S mv (d.outD true) w' ∧ Keeps (db :: S) w w' := by
  obtain ⟨lr, hlr⟩ : ∃ lr, lr = w.heap.size := ⟨_, rfl⟩
  obtain ⟨WA, hWA⟩ : ∃ WA, w.alloc (.cells #[.bool false, .int .i64 0, .int .i64 0, .int .i64 0, .int .i64 0] 78) = WA := ⟨_, rfl⟩
  have kb : Keeps [] w WA := by rw [← hWA]; exact (Keeps.refl [] w).alloc _
  have KB := Lib.hid kb
  have BT := Lib.hid (show WA.heap[lr]? = some (entR noE) by rw [← hWA, hlr]; exact has_new _ _)
  have HWA := Lib.hid hWA
  have HLR := Lib.hid hlr
  have DA := Lib.hid (HD.keeps kb (by simp) (by simp))
  have LD := Lib.hid (lt_of_block HD.b)
  have LS := Lib.hid (show ∀ z, z ∈ S → z < w.heap.size from fun z hz => (HD.t.foot z hz).2)
  have HI := Lib.hid hI
  have HV := Lib.hid hv
  have y2 : WA.cell? ⟨db, 0, none⟩ = some (.pointer (some ⟨t, 0, none⟩)) := cell_has DA.out.b (i := 0) rfl
  obtain ⟨ta, tc, tcb, tcr, a1, a2, _⟩ := DA.out.t
  have A12 := Lib.hid (And.intro a1 a2)
  obtain ⟨x, hx⟩ : ∃ x, Hid (x = d.outX true) := ⟨_, Lib.hid rfl⟩
  obtain ⟨e, he⟩ : ∃ e, Hid (e = d.outE) := ⟨_, Lib.hid rfl⟩
  rw [← hx.out, ← he.out]
  clear HD hlr hWA kb hI hv a1 a2
  go_enter Tryz.func29, Tryz.ntmps29
  go_upto_region 1 with (fail)
  rw [HWA.out, ← HLR.out]
  go_wp2_with fail
  refine (back_gen t lo ta tc d.T.E _ (cell_has A12.out.1 (i := 1) rfl) (cell_has A12.out.1 (i := 3) rfl) A12.out.2 (by have := HI.out.ek; omega)).mono ?_
  rintro r w2 ⟨b, ra, rc, rfl, rb, rr, rz, rk⟩
  have PV : NuPriv b WA.heap.size ra rc (numL d.T.E 0) w2 := ⟨by rw [numL_len]; exact rb, rr⟩
  have hlen := numL_len d.T.E 0
  have la := DA.out.t.foot
  have ld := lt_of_block DA.out.b
  have OUT := out_gen 112 enters_tback b WA.heap.size ra rc (numL d.T.E 0) (RI.encB (numL d.T.E 0)) (RI.backIter b WA.heap.size ra rc (numL d.T.E 0) (by rw [hlen]; have := liveN_le d.T.E; have := HI.out.ek; omega)) (fun _ => rfl) (d.outN true) (d.outX true)
    (fun h => by have h9 := d.out_enc true (by omega); unfold RI.encB; rw [hlen]; simpa using h9) db t lo S mv d w2 (DA.out.keeps rk (by simp) (by simp)) PV (by simp; exact ⟨by omega, fun h => by have := (la b h).2; omega⟩)
    (fun x hx => by have := (PV.2.blk_lt x hx).1; simp; exact ⟨by omega, fun h => by have := (la x h).2; omega⟩) HI.out HV.out
  have OT := Lib.hid OUT
  have K2 := Lib.hid rk
  have HLN := Lib.hid hlen
  clear PV hlen la ld OUT rb rr rz rk
  go_wp2_with fail
  refine OT.out.mono ?_
  rintro r w3 h3
  obtain ⟨rfl, d3, k3⟩ := Dic.out_post HLN.out h3
  clear h3
  rw [← hx.out, ← he.out]
  have D3 := Lib.hid d3
  have K3 := Lib.hid k3
  have b3 : w3.heap[lr]? = some (entR noE) := k3.has (K2.out.has BT.out (by simp)) (by have := LD.out; have := HLR.out; simp; exact ⟨by omega, fun h => by have := LS.out _ h; omega⟩)
  have B3 := Lib.hid b3
  unfold entR at b3
  have s0 : w3.cell? ⟨lr, 0, none⟩ = some (.bool noE.live) := cell_has b3 (i := 0) rfl
  have s1 : w3.cell? ⟨lr, 1, none⟩ = some (.int .i64 noE.hash) := cell_has b3 (i := 1) rfl
  have s2 : w3.cell? ⟨lr, 2, none⟩ = some (.int .i64 noE.key) := cell_has b3 (i := 2) rfl
  have s3 : w3.cell? ⟨lr, 3, none⟩ = some (.int .i64 noE.val) := cell_has b3 (i := 3) rfl
  have s4 : w3.cell? ⟨lr, 4, none⟩ = some (.int .i64 noE.birth) := cell_has b3 (i := 4) rfl
  have g0 := free_of_has b3 0
  have g1 := free_of_has b3 1
  have g2 := free_of_has b3 2
  have g3 := free_of_has b3 3
  have g4 := free_of_has b3 4
  clear d3 k3 b3
  unfold Ent.agg
  go_wp2_with fail
  obtain ⟨q1, q2⟩ := entR_store noE x B3.out
  have q9 := q1
  unfold entR at q9
  have rc1 := cell_of_has q9
  refine bodyPost_ret (v := .tuple #[x.agg, .int .i64 e]) (by simp [results, Tryz.results29, go_sem, Ent.agg, rc1]) rfl ⟨rfl, ?_, ?_⟩
  · exact D3.out.keeps q2 (by have := LD.out; have := HLR.out; simp; omega) (fun z hz => by have := LS.out z hz; have := HLR.out; simp; omega)
  · exact (((KB.out.trans K2.out).mono (by simp)).trans K3.out).then q2 (by intro z hz; simp at hz; left; have := HLR.out; omega)
set_option maxRecDepth 100000 in
set_option maxHeartbeats 4000000 in
theorem first8_any (db t lo : Nat) (S : List Nat) (mv : Value) (d : Dic) (w : World) (HD : DicAt db t lo S mv d w) (hI : TInv 1000 d.T) (hv : d.ver ≤ 1000000) :
    Calls Tryz.prog 38 #[.pointer (some ⟨db, 0, none⟩)] w fun r w' => r = .returned (.tuple #[(d.outX false).agg, .int .i64 d.outE]) ∧ DicAt db t lo S mv (d.outD false) w' ∧ Keeps (db :: S) w w' := by
  obtain ⟨lr, hlr⟩ : ∃ lr, lr = w.heap.size := ⟨_, rfl⟩
  obtain ⟨WA, hWA⟩ : ∃ WA, w.alloc (.cells #[.bool false, .int .i64 0, .int .i64 0, .int .i64 0, .int .i64 0] 78) = WA := ⟨_, rfl⟩
  have kb : Keeps [] w WA := by rw [← hWA]; exact (Keeps.refl [] w).alloc _
  have KB := Lib.hid kb
  have BT := Lib.hid (show WA.heap[lr]? = some (entR noE) by rw [← hWA, hlr]; exact has_new _ _)
  have HWA := Lib.hid hWA
  have HLR := Lib.hid hlr
  have DA := Lib.hid (HD.keeps kb (by simp) (by simp))
  have LD := Lib.hid (lt_of_block HD.b)
  have LS := Lib.hid (show ∀ z, z ∈ S → z < w.heap.size from fun z hz => (HD.t.foot z hz).2)
  have HI := Lib.hid hI
  have HV := Lib.hid hv
  have y2 : WA.cell? ⟨db, 0, none⟩ = some (.pointer (some ⟨t, 0, none⟩)) := cell_has DA.out.b (i := 0) rfl
  obtain ⟨ta, tc, tcb, tcr, a1, a2, _⟩ := DA.out.t
  have A12 := Lib.hid (And.intro a1 a2)
  obtain ⟨x, hx⟩ : ∃ x, Hid (x = d.outX false) := ⟨_, Lib.hid rfl⟩
  obtain ⟨e, he⟩ : ∃ e, Hid (e = d.outE) := ⟨_, Lib.hid rfl⟩
  rw [← hx.out, ← he.out]
  clear HD hlr hWA kb hI hv a1 a2
  go_enter Tryz.func38, Tryz.ntmps38
  go_upto_region 1 with (fail)
  rw [HWA.out, ← HLR.out]
  go_wp2_with fail
  refine (all_gen t lo ta tc d.T.E _ (cell_has A12.out.1 (i := 1) rfl) (cell_has A12.out.1 (i := 3) rfl) A12.out.2 (by have := HI.out.ek; omega)).mono ?_
  rintro r w2 ⟨b, ra, rc, rfl, rb, rr, rz, rk⟩
  have PV : NuPriv b WA.heap.size ra rc (numL d.T.E 0) w2 := ⟨by rw [numL_len]; exact rb, rr⟩
  have hlen := numL_len d.T.E 0
  have la := DA.out.t.foot
  have ld := lt_of_block DA.out.b
  have OUT := out_gen 114 enters_tall b WA.heap.size ra rc (numL d.T.E 0) (encN (numL d.T.E 0)) (nuIter b WA.heap.size ra rc (numL d.T.E 0) (by rw [hlen]; have := liveN_le d.T.E; have := HI.out.ek; omega)).x (fun _ => rfl) (d.outN false) (d.outX false)
    (fun h => by have h9 := d.out_enc false (by omega); simpa using h9) db t lo S mv d w2 (DA.out.keeps rk (by simp) (by simp)) PV (by simp; exact ⟨by omega, fun h => by have := (la b h).2; omega⟩)
    (fun x hx => by have := (PV.2.blk_lt x hx).1; simp; exact ⟨by omega, fun h => by have := (la x h).2; omega⟩) HI.out HV.out
  have OT := Lib.hid OUT
  have K2 := Lib.hid rk
  have HLN := Lib.hid hlen
  clear PV hlen la ld OUT rb rr rz rk
  go_wp2_with fail
  refine OT.out.mono ?_
  rintro r w3 h3
  obtain ⟨rfl, d3, k3⟩ := Dic.out_post HLN.out h3
  clear h3
  rw [← hx.out, ← he.out]
  have D3 := Lib.hid d3
  have K3 := Lib.hid k3
  have b3 : w3.heap[lr]? = some (entR noE) := k3.has (K2.out.has BT.out (by simp)) (by have := LD.out; have := HLR.out; simp; exact ⟨by omega, fun h => by have := LS.out _ h; omega⟩)
  have B3 := Lib.hid b3
  unfold entR at b3
  have s0 : w3.cell? ⟨lr, 0, none⟩ = some (.bool noE.live) := cell_has b3 (i := 0) rfl
  have s1 : w3.cell? ⟨lr, 1, none⟩ = some (.int .i64 noE.hash) := cell_has b3 (i := 1) rfl
  have s2 : w3.cell? ⟨lr, 2, none⟩ = some (.int .i64 noE.key) := cell_has b3 (i := 2) rfl
  have s3 : w3.cell? ⟨lr, 3, none⟩ = some (.int .i64 noE.val) := cell_has b3 (i := 3) rfl
  have s4 : w3.cell? ⟨lr, 4, none⟩ = some (.int .i64 noE.birth) := cell_has b3 (i := 4) rfl
  have g0 := free_of_has b3 0
  have g1 := free_of_has b3 1
  have g2 := free_of_has b3 2
  have g3 := free_of_has b3 3
  have g4 := free_of_has b3 4
  clear d3 k3 b3
  unfold Ent.agg
  go_wp2_with fail
  obtain ⟨q1, q2⟩ := entR_store noE x B3.out
  have q9 := q1
  unfold entR at q9
  have rc1 := cell_of_has q9
  refine bodyPost_ret (v := .tuple #[x.agg, .int .i64 e]) (by simp [results, Tryz.results38, go_sem, Ent.agg, rc1]) rfl ⟨rfl, ?_, ?_⟩
  · exact D3.out.keeps q2 (by have := LD.out; have := HLR.out; simp; omega) (fun z hz => by have := LS.out z hz; have := HLR.out; simp; omega)
  · exact (((KB.out.trans K2.out).mono (by simp)).trans K3.out).then q2 (by intro z hz; simp at hz; left; have := HLR.out; omega)
end Go.Proofs.YtcakdmapnmneoaaGreat
