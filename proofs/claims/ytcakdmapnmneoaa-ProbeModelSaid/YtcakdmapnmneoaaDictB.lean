/- What a hit and a miss do (chapter 8). -/
import Derived.Test.YtcakdmapnmneoaaDictA
namespace Go.Proofs.Ytcakdmapnmneoaa
open Go.RowKit
set_option linter.unusedVariables false
set_option linter.unusedSimpArgs false

theorem trn_store {W : World} {b : Nat} (y x : Trn) (h : W.heap[b]? = some (trnO y)) :
    (((((W.setCell ⟨b, 0, none⟩ (.int .i64 x.kind)).setCell ⟨b, 1, none⟩ (.int .i64 x.key)).setCell ⟨b, 2, none⟩ (.bool x.found)).setCell ⟨b, 3, none⟩ (.int .i64 x.val)).setCell ⟨b, 4, none⟩ (.int .i64 x.ent)).heap[b]? = some (trnO x) ∧ Keeps [b] W (((((W.setCell ⟨b, 0, none⟩ (.int .i64 x.kind)).setCell ⟨b, 1, none⟩ (.int .i64 x.key)).setCell ⟨b, 2, none⟩ (.bool x.found)).setCell ⟨b, 3, none⟩ (.int .i64 x.val)).setCell ⟨b, 4, none⟩ (.int .i64 x.ent)) := by
  unfold trnO at h
  have h0 := has_setCell h 0 (.int .i64 x.kind)
  simp only [List.setIfInBounds_toArray, List.set_cons_zero] at h0
  have h1 := has_setCell h0 1 (.int .i64 x.key)
  simp only [List.setIfInBounds_toArray, List.set_cons_zero, List.set_cons_succ] at h1
  have h2 := has_setCell h1 2 (.bool x.found)
  simp only [List.setIfInBounds_toArray, List.set_cons_zero, List.set_cons_succ] at h2
  have h3 := has_setCell h2 3 (.int .i64 x.val)
  simp only [List.setIfInBounds_toArray, List.set_cons_zero, List.set_cons_succ] at h3
  have h4 := has_setCell h3 4 (.int .i64 x.ent)
  simp only [List.setIfInBounds_toArray, List.set_cons_zero, List.set_cons_succ] at h4
  exact ⟨h4, ((((((Keeps.refl [b] W).setCell (p := ⟨b, 0, none⟩) (.inr (by simp)) _).setCell (p := ⟨b, 1, none⟩) (.inr (by simp)) _).setCell (p := ⟨b, 2, none⟩) (.inr (by simp)) _).setCell (p := ⟨b, 3, none⟩) (.inr (by simp)) _).setCell (p := ⟨b, 4, none⟩) (.inr (by simp)) _)⟩
/-- All that a walk wants of a block that it stores a turn into. -/
theorem trn_cells {W : World} {b : Nat} {y : Trn} (h : W.heap[b]? = some (trnO y)) :
    W.cell? ⟨b, 0, none⟩ = some (.int .i64 y.kind) ∧ W.cell? ⟨b, 1, none⟩ = some (.int .i64 y.key) ∧ W.cell? ⟨b, 2, none⟩ = some (.bool y.found) ∧ W.cell? ⟨b, 3, none⟩ = some (.int .i64 y.val) ∧ W.cell? ⟨b, 4, none⟩ = some (.int .i64 y.ent) :=
  ⟨cell_has h (i := 0) rfl, cell_has h (i := 1) rfl, cell_has h (i := 2) rfl, cell_has h (i := 3) rfl, cell_has h (i := 4) rfl⟩
theorem trn_free {W : World} {b : Nat} {y : Trn} (h : W.heap[b]? = some (trnO y)) :
    W.frozen? ⟨b, 0, none⟩ = false ∧ W.frozen? ⟨b, 1, none⟩ = false ∧ W.frozen? ⟨b, 2, none⟩ = false ∧ W.frozen? ⟨b, 3, none⟩ = false ∧ W.frozen? ⟨b, 4, none⟩ = false :=
  ⟨free_of_has h 0, free_of_has h 1, free_of_has h 2, free_of_has h 3, free_of_has h 4⟩
theorem see_any (p : Value) (e : Int) (x : Ent) (w : World) :
    Calls Try.prog 65 #[p, .int .i64 e, x.agg] w fun r w' => r = .returned (hitT x e).agg ∧ Keeps [] w w' := by
  obtain ⟨y, hy⟩ : ∃ y, Hid (y = x) := ⟨_, Lib.hid rfl⟩
  obtain ⟨x0, x1, x2, x3, x4⟩ := x
  unfold Ent.agg
  simp only
  go_enter Try.func65, Try.ntmps65
  go_wp2_with fail
  refine (found_any e ⟨x0, x1, x2, x3, x4⟩ _).mono ?_
  rintro r w1 ⟨rfl, k1⟩
  rw [← hy.out]
  have kb : Keeps [] w ((w.alloc (.cells #[.bool x0, .int .i64 x1, .int .i64 x2, .int .i64 x3, .int .i64 x4] 36)).alloc (.cells #[.int .i64 0, .int .i64 0, .bool false, .int .i64 0, .int .i64 0] 29)) := ((Keeps.refl [] w).alloc _).alloc _
  have b1 : w1.heap[w.heap.size + 1]? = some (trnO noTrn) := k1.has (has_new' _ _ (by simp)) (by simp)
  obtain ⟨z0, z1, z2, z3, z4⟩ := trn_cells b1
  obtain ⟨f0, f1, f2, f3, f4⟩ := trn_free b1
  have K1 := Lib.hid (kb.trans k1)
  have B1 := Lib.hid b1
  obtain ⟨tt, htt⟩ : ∃ tt, Hid (tt = hitT y e) := ⟨_, Lib.hid rfl⟩
  rw [← htt.out]
  unfold Trn.agg
  clear k1 b1 kb
  go_wp2_with fail
  obtain ⟨s1, s2⟩ := trn_store noTrn tt B1.out
  have rc := cell_of_has s1
  refine bodyPost_ret (v := tt.agg) (by simp [results, Try.results65, go_sem, rc, Trn.agg]) rfl ⟨by rw [htt.out, hy.out], K1.out.then s2 (by intro z hz; simp at hz; left; omega)⟩

set_option maxRecDepth 100000 in
theorem turn_any (mb db t lo : Nat) (S : List Nat) (mv : Value) (d : Dic) (w : World) (H : DicAt db t lo S mv d w) (v : Int) (c1 : w.cell? ⟨mb, 1, none⟩ = some (.pointer (some ⟨db, 0, none⟩))) (c6 : w.cell? ⟨mb, 6, none⟩ = some (.int .i64 v)) (hmS : mb ∉ S) (hmd : mb ≠ db) (hI : TInv 1000 d.T) (hv : d.ver ≤ 1000000) (e : Int) (x : Ent) :
    Calls Try.prog 67 #[.pointer (some ⟨mb, 0, none⟩), .int .i64 e, x.agg] w fun r w' => r = .returned (hitT x e).agg ∧ DicAt db t lo S mv { d with T := d.T.put e v, ver := d.ver + 1 } w' ∧ Keeps (db :: S) w w' := by
  obtain ⟨y, hy⟩ : ∃ y, Hid (y = x) := ⟨_, Lib.hid rfl⟩
  obtain ⟨x0, x1, x2, x3, x4⟩ := x
  unfold Ent.agg
  simp only
  have HD := Lib.hid H
  have HI := Lib.hid hI
  have e0 : w.cell? ⟨db, 0, none⟩ = some (.pointer (some ⟨t, 0, none⟩)) := cell_has H.b (i := 0) rfl
  obtain ⟨WA, hWA⟩ : ∃ WA, (w.alloc (.cells #[.bool x0, .int .i64 x1, .int .i64 x2, .int .i64 x3, .int .i64 x4] 36)).alloc (.cells #[.int .i64 0, .int .i64 0, .bool false, .int .i64 0, .int .i64 0] 29) = WA := ⟨_, rfl⟩
  have kb : Keeps [] w WA := by rw [← hWA]; exact ((Keeps.refl [] w).alloc _).alloc _
  have bE : WA.heap[w.heap.size]? = some (.cells #[.bool x0, .int .i64 x1, .int .i64 x2, .int .i64 x3, .int .i64 x4] 36 (0, 0)) := by rw [← hWA]; exact has_alloc (has_new _ _) _
  have bT : WA.heap[w.heap.size + 1]? = some (trnO noTrn) := by rw [← hWA]; exact has_new' _ _ (by simp)
  have HWA := Lib.hid hWA
  have ldb := lt_of_block H.b
  have lS : ∀ z, z ∈ S → z < w.heap.size := fun z hz => (H.t.foot z hz).2
  have LS := Lib.hid lS
  have n0 : w.heap.size ∉ S := fun hz => by have := lS _ hz; omega
  have n1 : w.heap.size + 1 ∉ S := fun hz => by have := lS _ hz; omega
  have nd : db ∉ S := H.n
  have y1 := kb.cell c1 (by simp)
  have y6 := kb.cell c6 (by simp)
  have y0 := kb.cell e0 (by simp)
  have KB := Lib.hid kb
  have BE := Lib.hid bE
  have BT := Lib.hid bT
  clear H hI kb bE bT hWA lS e0 c1 c6
  go_enter Try.func67, Try.ntmps67
  go_upto_region 1 with (fail)
  rw [HWA.out]
  go_region_held3 (fun w' => w'.cell? ⟨mb, 1, none⟩ = some (.pointer (some ⟨db, 0, none⟩)) ∧ w'.cell? ⟨mb, 6, none⟩ = some (.int .i64 v) ∧ w'.cell? ⟨db, 0, none⟩ = some (.pointer (some ⟨t, 0, none⟩))) (go_keep)
    (first
      | (go_at_call 68; refine (put_any t lo S mv d.T _ (HD.out.t.keeps KB.out.drew (by simp)) (by have := HI.out.ek; omega) e v).mono ?_; rintro r w1 ⟨rfl, t1, k1⟩; have T1 := Lib.hid t1; have K1 := Lib.hid (show Keeps S WA w1 from ((Keeps.refl S WA).drew).trans k1); have q1 := k1.cell (w := WA.drew) y1 hmS; have q6 := k1.cell (w := WA.drew) y6 hmS; have q0 := k1.cell (w := WA.drew) y0 nd; clear t1 k1))

  have yy1 : w1.cell? ⟨mb, 1, none⟩ = some (.pointer (some ⟨db, 0, none⟩)) := K1.out.cell y1 hmS
  have B1 := Lib.hid (K1.out.has (KB.out.has HD.out.b (by simp)) nd)
  go_wp2_with fail
  refine (changed_any db t d.most d.ver w1 B1.out hv).mono ?_
  rintro r w2 ⟨rfl, b2, k2⟩
  have B2 := Lib.hid b2
  have T2 := Lib.hid (T1.out.keeps k2 (fun z hz hq => by simp at hq; subst hq; exact nd hz))
  have E2 : w2.heap[w.heap.size]? = some (.cells #[.bool x0, .int .i64 x1, .int .i64 x2, .int .i64 x3, .int .i64 x4] 36 (0, 0)) := k2.has (K1.out.has BE.out n0) (by simp; omega)
  have R2 := Lib.hid (k2.has (K1.out.has BT.out n1) (by simp; omega))
  have z0 : w2.cell? ⟨w.heap.size, 0, none⟩ = some (.bool x0) := cell_has E2 (i := 0) rfl
  have z1 : w2.cell? ⟨w.heap.size, 1, none⟩ = some (.int .i64 x1) := cell_has E2 (i := 1) rfl
  have z2 : w2.cell? ⟨w.heap.size, 2, none⟩ = some (.int .i64 x2) := cell_has E2 (i := 2) rfl
  have z3 : w2.cell? ⟨w.heap.size, 3, none⟩ = some (.int .i64 x3) := cell_has E2 (i := 3) rfl
  have z4 : w2.cell? ⟨w.heap.size, 4, none⟩ = some (.int .i64 x4) := cell_has E2 (i := 4) rfl
  have K2 := Lib.hid (show Keeps (db :: S) w w2 from ((KB.out.mono (T := db :: S) (by simp)).trans (K1.out.mono (fun z hz => by simp [hz]))).trans (k2.mono (by simp)))
  have N2 := Lib.hid (And.intro n0 n1)
  clear b2 k2 E2 y1 y6 y0 yy1 n0 n1
  go_wp2_with fail
  refine (found_any e ⟨x0, x1, x2, x3, x4⟩ _).mono ?_
  rintro r w3 ⟨rfl, k3⟩
  rw [← hy.out]
  have b3 := k3.has R2.out (by simp)
  obtain ⟨v0, v1, v2, v3, v4⟩ := trn_cells b3
  obtain ⟨f0, f1, f2, f3, f4⟩ := trn_free b3
  have K3 := Lib.hid k3
  have B3 := Lib.hid b3
  obtain ⟨tt, htt⟩ : ∃ tt, Hid (tt = hitT y e) := ⟨_, Lib.hid rfl⟩
  rw [← htt.out]
  unfold Trn.agg
  clear k3 b3 z0 z1 z2 z3 z4
  go_wp2_with fail
  obtain ⟨s1, s2⟩ := trn_store noTrn tt B3.out
  have rc := cell_of_has s1
  refine bodyPost_ret (v := tt.agg) (by simp [results, Try.results67, go_sem, rc, Trn.agg]) rfl ⟨by rw [htt.out, hy.out], ⟨?_, ?_, nd, HD.out.l⟩, ?_⟩
  · exact s2.has (K3.out.has B2.out (by simp)) (by simp; omega)
  · exact (T2.out.keeps K3.out (by simp)).keeps s2 (fun z hz hq => by simp at hq; have := LS.out z hz; omega)
  · exact (K2.out.trans (K3.out.mono (by simp))).then s2 (by intro z hz; simp at hz; left; omega)

set_option maxRecDepth 100000 in
theorem killm_any (mb db t lo : Nat) (S : List Nat) (mv : Value) (d : Dic) (w : World) (H : DicAt db t lo S mv d w) (v : Int) (c1 : w.cell? ⟨mb, 1, none⟩ = some (.pointer (some ⟨db, 0, none⟩))) (c6 : w.cell? ⟨mb, 6, none⟩ = some (.int .i64 v)) (hmS : mb ∉ S) (hmd : mb ≠ db) (hI : TInv 1000 d.T) (hv : d.ver ≤ 1000000) (e : Int) (x : Ent) :
    Calls Try.prog 69 #[.pointer (some ⟨mb, 0, none⟩), .int .i64 e, x.agg] w fun r w' => r = .returned (hitT x e).agg ∧ DicAt db t lo S mv { d with T := d.T.kill e, ver := d.ver + 1 } w' ∧ Keeps (db :: S) w w' := by
  obtain ⟨y, hy⟩ : ∃ y, Hid (y = x) := ⟨_, Lib.hid rfl⟩
  obtain ⟨x0, x1, x2, x3, x4⟩ := x
  unfold Ent.agg
  simp only
  have HD := Lib.hid H
  have HI := Lib.hid hI
  have e0 : w.cell? ⟨db, 0, none⟩ = some (.pointer (some ⟨t, 0, none⟩)) := cell_has H.b (i := 0) rfl
  obtain ⟨WA, hWA⟩ : ∃ WA, (w.alloc (.cells #[.bool x0, .int .i64 x1, .int .i64 x2, .int .i64 x3, .int .i64 x4] 36)).alloc (.cells #[.int .i64 0, .int .i64 0, .bool false, .int .i64 0, .int .i64 0] 29) = WA := ⟨_, rfl⟩
  have kb : Keeps [] w WA := by rw [← hWA]; exact ((Keeps.refl [] w).alloc _).alloc _
  have bE : WA.heap[w.heap.size]? = some (.cells #[.bool x0, .int .i64 x1, .int .i64 x2, .int .i64 x3, .int .i64 x4] 36 (0, 0)) := by rw [← hWA]; exact has_alloc (has_new _ _) _
  have bT : WA.heap[w.heap.size + 1]? = some (trnO noTrn) := by rw [← hWA]; exact has_new' _ _ (by simp)
  have HWA := Lib.hid hWA
  have ldb := lt_of_block H.b
  have lS : ∀ z, z ∈ S → z < w.heap.size := fun z hz => (H.t.foot z hz).2
  have LS := Lib.hid lS
  have n0 : w.heap.size ∉ S := fun hz => by have := lS _ hz; omega
  have n1 : w.heap.size + 1 ∉ S := fun hz => by have := lS _ hz; omega
  have nd : db ∉ S := H.n
  have y1 := kb.cell c1 (by simp)
  have y6 := kb.cell c6 (by simp)
  have y0 := kb.cell e0 (by simp)
  have KB := Lib.hid kb
  have BE := Lib.hid bE
  have BT := Lib.hid bT
  clear H hI kb bE bT hWA lS e0 c1 c6
  go_enter Try.func69, Try.ntmps69
  go_upto_region 1 with (fail)
  rw [HWA.out]
  go_wp2_with fail
  refine (kill_any t lo S mv d.T _ (HD.out.t.keeps KB.out (by simp)) HI.out e).mono ?_
  rintro r w1 ⟨rfl, t1, k1⟩
  have T1 := Lib.hid t1
  have K1 := Lib.hid k1
  clear t1 k1
  have yy1 : w1.cell? ⟨mb, 1, none⟩ = some (.pointer (some ⟨db, 0, none⟩)) := K1.out.cell y1 hmS
  have B1 := Lib.hid (K1.out.has (KB.out.has HD.out.b (by simp)) nd)
  go_wp2_with fail
  refine (changed_any db t d.most d.ver w1 B1.out hv).mono ?_
  rintro r w2 ⟨rfl, b2, k2⟩
  have B2 := Lib.hid b2
  have T2 := Lib.hid (T1.out.keeps k2 (fun z hz hq => by simp at hq; subst hq; exact nd hz))
  have E2 : w2.heap[w.heap.size]? = some (.cells #[.bool x0, .int .i64 x1, .int .i64 x2, .int .i64 x3, .int .i64 x4] 36 (0, 0)) := k2.has (K1.out.has BE.out n0) (by simp; omega)
  have R2 := Lib.hid (k2.has (K1.out.has BT.out n1) (by simp; omega))
  have z0 : w2.cell? ⟨w.heap.size, 0, none⟩ = some (.bool x0) := cell_has E2 (i := 0) rfl
  have z1 : w2.cell? ⟨w.heap.size, 1, none⟩ = some (.int .i64 x1) := cell_has E2 (i := 1) rfl
  have z2 : w2.cell? ⟨w.heap.size, 2, none⟩ = some (.int .i64 x2) := cell_has E2 (i := 2) rfl
  have z3 : w2.cell? ⟨w.heap.size, 3, none⟩ = some (.int .i64 x3) := cell_has E2 (i := 3) rfl
  have z4 : w2.cell? ⟨w.heap.size, 4, none⟩ = some (.int .i64 x4) := cell_has E2 (i := 4) rfl
  have K2 := Lib.hid (show Keeps (db :: S) w w2 from ((KB.out.mono (T := db :: S) (by simp)).trans (K1.out.mono (fun z hz => by simp [hz]))).trans (k2.mono (by simp)))
  have N2 := Lib.hid (And.intro n0 n1)
  clear b2 k2 E2 y1 y6 y0 yy1 n0 n1
  go_wp2_with fail
  refine (found_any e ⟨x0, x1, x2, x3, x4⟩ _).mono ?_
  rintro r w3 ⟨rfl, k3⟩
  rw [← hy.out]
  have b3 := k3.has R2.out (by simp)
  obtain ⟨v0, v1, v2, v3, v4⟩ := trn_cells b3
  obtain ⟨f0, f1, f2, f3, f4⟩ := trn_free b3
  have K3 := Lib.hid k3
  have B3 := Lib.hid b3
  obtain ⟨tt, htt⟩ : ∃ tt, Hid (tt = hitT y e) := ⟨_, Lib.hid rfl⟩
  rw [← htt.out]
  unfold Trn.agg
  clear k3 b3 z0 z1 z2 z3 z4
  go_wp2_with fail
  obtain ⟨s1, s2⟩ := trn_store noTrn tt B3.out
  have rc := cell_of_has s1
  refine bodyPost_ret (v := tt.agg) (by simp [results, Try.results69, go_sem, rc, Trn.agg]) rfl ⟨by rw [htt.out, hy.out], ⟨?_, ?_, nd, HD.out.l⟩, ?_⟩
  · exact s2.has (K3.out.has B2.out (by simp)) (by simp; omega)
  · exact (T2.out.keeps K3.out (by simp)).keeps s2 (fun z hz hq => by simp at hq; have := LS.out z hz; omega)
  · exact (K2.out.trans (K3.out.mono (by simp))).then s2 (by intro z hz; simp at hz; left; omega)

theorem nonem_any (p : Value) (w : World) : Calls Try.prog 71 #[p] w fun r w' => r = .returned (⟨2, 0, false, 0, -1⟩ : Trn).agg ∧ Keeps [] w w' := by
  go_enter Try.func71, Try.ntmps71
  go_wp2_with fail
  have b := has_new w (.cells #[.int .i64 2, .int .i64 0, .bool false, .int .i64 0, .int .i64 (-1)] 29)
  have rc := cell_of_has b
  exact bodyPost_ret (v := (⟨2, 0, false, 0, -1⟩ : Trn).agg) (by simp [results, Try.results71, go_sem, Trn.agg, rc]) rfl ⟨rfl, (Keeps.refl [] w).alloc _⟩

/-- What a miss leaves. -/
def MissP (db t lo : Nat) (S : List Nat) (m : Option Nat) (c : C4) (d : Dic) (q : Mac) (w : World) (r : Ending) (w' : World) : Prop :=
  ∃ S', r = .returned (missT d q).agg ∧ DicAt db t lo S' (mV m) (d.miss q) w' ∧ MtrAt m (missC d q c) w' ∧ Keeps (db :: S ++ mS m) w w' ∧ Grew S w S'
theorem add8_tab (k : Nat) (hk : k ≤ 1000) (t lo : Nat) (S : List Nat) (m : Option Nat) (c : C4) (T : Tab) (w : World) (H : TabAt t lo S (mV m) T w) (hM : MtrAt m c w) (hm : ∀ b, m = some b → b < lo) (hI : TInv k T) (h ky v : Int) :
    Calls Try.prog 73 #[.pointer (some ⟨t, 0, none⟩), .int .i64 h, .int .i64 ky, .int .i64 v] w (AddP t lo S m (if T.E.length = T.room then c.tab else c) T.ready h ky v w) := by
  by_cases he : T.E.length = T.room
  · rw [if_pos he]
    exact add_grow k hk t lo S m c T w H hM hm hI he h ky v
  · rw [if_neg he]
    have hr : T.ready = T := by unfold Tab.ready; rw [if_neg he]
    rw [hr]
    exact add_stay k hk t lo S m c T w H hM hm hI he h ky v
set_option maxRecDepth 100000 in
set_option maxHeartbeats 1000000 in
theorem addm_any (k : Nat) (hk : k ≤ 1000) (mb db t lo : Nat) (S : List Nat) (m : Option Nat) (c : C4) (d : Dic) (q : Mac) (w : World) (H : DicAt db t lo S (mV m) d w) (hM : MtrAt m c w) (hm : ∀ b, m = some b → b < lo) (hI : TInv k d.T) (hv : d.ver ≤ 1000000) (hg : ¬ (q.g = 1 ∨ q.g = 3))
    (c1 : w.cell? ⟨mb, 1, none⟩ = some (.pointer (some ⟨db, 0, none⟩))) (c4 : w.cell? ⟨mb, 4, none⟩ = some (.int .i64 q.h)) (c5 : w.cell? ⟨mb, 5, none⟩ = some (.int .i64 q.k)) (c6 : w.cell? ⟨mb, 6, none⟩ = some (.int .i64 q.v)) (hmS : mb ∉ S) (hmd : mb ≠ db) (hmm : mb ∉ mS m) :
    Calls Try.prog 72 #[.pointer (some ⟨mb, 0, none⟩)] w (MissP db t lo S m c d q w) := by
  unfold MissP missT Dic.miss missC
  simp only [if_neg hg]
  have HD := Lib.hid H
  have HI := Lib.hid hI
  have HM := Lib.hid hM
  have e0 : w.cell? ⟨db, 0, none⟩ = some (.pointer (some ⟨t, 0, none⟩)) := cell_has H.b (i := 0) rfl
  have e1 : w.cell? ⟨db, 1, none⟩ = some (.int .i64 d.most) := cell_has H.b (i := 1) rfl
  obtain ⟨WA, hWA⟩ : ∃ WA, w.alloc (.cells #[.int .i64 0, .int .i64 0, .bool false, .int .i64 0, .int .i64 0] 29) = WA := ⟨_, rfl⟩
  have kb : Keeps [] w WA := by rw [← hWA]; exact (Keeps.refl [] w).alloc _
  have bT : WA.heap[w.heap.size]? = some (trnO noTrn) := by rw [← hWA]; exact has_new _ _
  have HWA := Lib.hid hWA
  have ldb := lt_of_block H.b
  have nd : db ∉ S := H.n
  have ndm : db ∉ mS m := fun hx => by cases m with | none => simp [mS] at hx | some b => simp [mS] at hx; subst hx; have := hm _ rfl; have := H.l; omega
  have lS : ∀ z, z ∈ S → lo ≤ z ∧ z < w.heap.size := fun z hz => H.t.foot z hz
  have LS := Lib.hid lS
  have lM : ∀ z, z ∈ mS m → z < lo := fun z hx => by cases m with | none => simp [mS] at hx | some b => simp [mS] at hx; subst hx; exact hm _ rfl
  have LM := Lib.hid lM
  have lol := H.l
  have y1 := kb.cell c1 (by simp)
  have y4 := kb.cell c4 (by simp)
  have y5 := kb.cell c5 (by simp)
  have y6 := kb.cell c6 (by simp)
  have x0 := kb.cell e0 (by simp)
  have x1 := kb.cell e1 (by simp)
  have KB := Lib.hid kb
  have BT := Lib.hid bT
  clear H hI hM kb bT hWA lS lM e0 e1 c1 c4 c5 c6
  obtain ⟨lv, hlv⟩ := ex_hid (liveN d.T.E)
  by_cases hf : d.most ≤ (lv : Int)
  · have hfd : decide (d.most ≤ (lv : Int)) = true := by simpa using hf
    have hff : d.full = true := by unfold Dic.full; rw [← hlv.out]; exact hfd
    simp only [if_pos hff]
    go_enter Try.func72, Try.ntmps72
    go_upto_region 1 with (fail)
    rw [HWA.out]
    go_region_held3 (fun w' => w'.cell? ⟨mb, 1, none⟩ = some (.pointer (some ⟨db, 0, none⟩)) ∧ w'.cell? ⟨db, 1, none⟩ = some (.int .i64 d.most)) (go_keep)
      (first
        | (go_at_call 19; refine (dlen_any db t lo S (mV m) d _ (HD.out.keeps KB.out.drew (by simp) (by simp))).mono ?_; rintro r w1 ⟨rfl, rfl⟩; rw [← hlv.out]))
    obtain ⟨z0, z1, z2, z3, z4⟩ := trn_cells BT.out
    obtain ⟨f0, f1, f2, f3, f4⟩ := trn_free BT.out
    clear y1 y4 y5 y6 x0 x1
    go_wp2_with fail
    obtain ⟨s1, s2⟩ := trn_store noTrn ⟨3, 0, false, 0, 0⟩ BT.out
    have rc := cell_of_has s1
    have k9 := KB.out.then s2 (S := []) (by intro z hz; simp at hz; left; omega)
    refine bodyPost_ret (v := (⟨3, 0, false, 0, 0⟩ : Trn).agg) (by simp [results, Try.results72, go_sem, Trn.agg, rc]) rfl ⟨S, rfl, ?_, ?_, ?_, Grew.refl _ _⟩
    · exact (HD.out.keeps k9 (by simp) (by simp)).keeps (Keeps.refl [] _).drew (by simp) (by simp)
    · exact HM.out.keeps (k9.drew) (by simp)
    · exact k9.drew.mono (by simp)
  · have hfd : decide (d.most ≤ (lv : Int)) = false := by simpa using hf
    have hff : ¬ d.full = true := by unfold Dic.full; rw [← hlv.out]; simpa using hf
    simp only [if_neg hff]
    obtain ⟨c2, hc2⟩ : ∃ c2, Hid (c2 = (if d.T.E.length = d.T.room then c.tab else c)) := ⟨_, Lib.hid rfl⟩
    rw [← hc2.out]
    go_enter Try.func72, Try.ntmps72
    go_upto_region 1 with (fail)
    rw [HWA.out]
    go_region_held3 (fun w' => w'.cell? ⟨mb, 1, none⟩ = some (.pointer (some ⟨db, 0, none⟩)) ∧ w'.cell? ⟨db, 1, none⟩ = some (.int .i64 d.most)) (go_keep)
      (first
        | (go_at_call 19; refine (dlen_any db t lo S (mV m) d _ (HD.out.keeps KB.out.drew (by simp) (by simp))).mono ?_; rintro r w1 ⟨rfl, rfl⟩; rw [← hlv.out]))
    go_wp2_with fail
    go_region_held3 (fun w' => w'.cell? ⟨mb, 1, none⟩ = some (.pointer (some ⟨db, 0, none⟩)) ∧ w'.cell? ⟨mb, 4, none⟩ = some (.int .i64 q.h) ∧ w'.cell? ⟨mb, 5, none⟩ = some (.int .i64 q.k) ∧ w'.cell? ⟨mb, 6, none⟩ = some (.int .i64 q.v) ∧ w'.cell? ⟨db, 0, none⟩ = some (.pointer (some ⟨t, 0, none⟩))) (go_keep)
      (first
        | (go_at_call 73; refine (add8_tab k hk t lo S m c d.T _ (HD.out.t.keeps KB.out.drew.drew (by simp)) (HM.out.keeps KB.out.drew.drew (by simp)) hm HI.out q.h q.k q.v).mono ?_; rintro r w1 ⟨S1, rfl, t1, m1, k1, g1⟩; have T1 := Lib.hid (And.intro t1 (And.intro m1 g1)); have K1 := Lib.hid k1; have q1 := k1.cell (w := WA.drew.drew) y1 (by simp; exact ⟨hmS, hmm⟩); have q4 := k1.cell (w := WA.drew.drew) y4 (by simp; exact ⟨hmS, hmm⟩); have q5 := k1.cell (w := WA.drew.drew) y5 (by simp; exact ⟨hmS, hmm⟩); have q6 := k1.cell (w := WA.drew.drew) y6 (by simp; exact ⟨hmS, hmm⟩); have q0 := k1.cell (w := WA.drew.drew) x0 (by simp; exact ⟨nd, ndm⟩); clear t1 m1 g1 k1))
    have hb1 : w1.heap[db]? = some (dictO t d.most d.ver) := K1.out.has (w := WA.drew.drew) (KB.out.has HD.out.b (by simp)) (by simp; exact ⟨nd, ndm⟩)
    have BT1 := Lib.hid (K1.out.has (w := WA.drew.drew) BT.out (by simp; exact ⟨fun hx => by have := (LS.out _ hx).2; omega, fun hx => by have := LM.out _ hx; omega⟩))
    have B1 := Lib.hid hb1
    clear hb1 y1 y4 y5 y6 x0 x1
    go_wp2_with fail
    refine (changed_any db t d.most d.ver w1 B1.out hv).mono ?_
    rintro r w2 ⟨rfl, b2, k2⟩
    have q62 := k2.cell q6 (by simp; exact hmd)
    have bt2 := k2.has BT1.out (by simp; omega)
    obtain ⟨z0, z1, z2, z3, z4⟩ := trn_cells bt2
    obtain ⟨f0, f1, f2, f3, f4⟩ := trn_free bt2
    have BT2 := Lib.hid bt2
    have K2 := Lib.hid k2
    have B2 := Lib.hid b2
    obtain ⟨n, hn⟩ := ex_hid d.T.ready.E.length
    rw [← hn.out]
    clear q1 q4 q5 q6 q0 bt2 k2 b2
    go_wp2_with fail
    obtain ⟨s1, s2⟩ := trn_store noTrn ⟨2, 0, false, q.v, n⟩ BT2.out
    have rc := cell_of_has s1
    have g1 : ∀ z, z ∈ S1 → z ≠ db ∧ z ≠ w.heap.size := fun z hz => by
      rcases T1.out.2.2 z hz with h9 | h9
      · have := LS.out z h9; exact ⟨fun e => nd (e ▸ h9), by omega⟩
      · have := KB.out.size
        have h8 : WA.drew.drew.heap.size = WA.heap.size := rfl
        have h7 := lt_of_block BT.out
        exact ⟨by omega, by omega⟩
    refine bodyPost_ret (v := (⟨2, 0, false, q.v, n⟩ : Trn).agg) (by simp [results, Try.results72, go_sem, Trn.agg, rc]) rfl ⟨S1, by rw [hn.out], ⟨?_, ?_, fun hz => (g1 _ hz).1 rfl, lol⟩, ?_, ?_, fun z hz => ?_⟩
    · exact s2.has B2.out (by simp; omega)
    · exact (T1.out.1.keeps K2.out (fun z hz hq => by simp at hq; exact (g1 z hz).1 hq)).keeps s2 (fun z hz hq => by simp at hq; exact (g1 z hz).2 hq)
    · rw [hc2.out]
      exact (T1.out.2.1.keeps K2.out (fun b hb hq => by simp at hq; exact ndm (by rw [hb]; simp [mS, hq]))).keeps s2 (fun b hb hq => by simp at hq; have := hm b hb; omega)
    · refine (((KB.out.drew.drew.mono (T := db :: S ++ mS m) (by simp)).trans (K1.out.mono (fun z hz => by simp at hz ⊢; exact .inr hz))).trans (K2.out.mono (by simp))).then s2 (fun z hz => by simp at hz; left; omega)
    · rcases T1.out.2.2 z hz with h9 | h9
      · exact .inl h9
      · have := KB.out.size
        have h8 : WA.drew.drew.heap.size = WA.heap.size := rfl
        exact .inr (by omega)
end Go.Proofs.Ytcakdmapnmneoaa
