/- A machine ends, hits, is told (chapter 8). -/
import Derived.Test.YtcakdmapnmneoaaDictB
import Derived.Deep.RegionHeld3
import Derived.Test.YtcakdmapnmneoaaPast
namespace Go.Proofs.Ytcakdmapnmneoaa
open Go.RowKit
set_option linter.unusedVariables false
set_option linter.unusedSimpArgs false

theorem mac_cells {W : World} {mb db g : Nat} {skp : Value} {h k v : Int} {st : Nat} {ev : Int} {scans ver : Nat} {y : Trn} (H : W.heap[mb]? = some (macO skp db g h k v st ev scans ver y)) :
    W.cell? ⟨mb, 7, none⟩ = some (.int .i64 st) ∧ W.cell? ⟨mb, 11, none⟩ = some (.int .i64 y.kind) ∧ W.cell? ⟨mb, 12, none⟩ = some (.int .i64 y.key) ∧ W.cell? ⟨mb, 13, none⟩ = some (.bool y.found) ∧ W.cell? ⟨mb, 14, none⟩ = some (.int .i64 y.val) ∧ W.cell? ⟨mb, 15, none⟩ = some (.int .i64 y.ent) :=
  ⟨cell_has H (i := 7) rfl, cell_has H (i := 11) rfl, cell_has H (i := 12) rfl, cell_has H (i := 13) rfl, cell_has H (i := 14) rfl, cell_has H (i := 15) rfl⟩
theorem mac_free {W : World} {mb db g : Nat} {skp : Value} {h k v : Int} {st : Nat} {ev : Int} {scans ver : Nat} {y : Trn} (H : W.heap[mb]? = some (macO skp db g h k v st ev scans ver y)) :
    W.frozen? ⟨mb, 7, none⟩ = false ∧ W.frozen? ⟨mb, 11, none⟩ = false ∧ W.frozen? ⟨mb, 12, none⟩ = false ∧ W.frozen? ⟨mb, 13, none⟩ = false ∧ W.frozen? ⟨mb, 14, none⟩ = false ∧ W.frozen? ⟨mb, 15, none⟩ = false :=
  ⟨free_of_has H 7, free_of_has H 11, free_of_has H 12, free_of_has H 13, free_of_has H 14, free_of_has H 15⟩
theorem mac_end {W : World} {mb db g : Nat} {skp : Value} {h k v : Int} {st : Nat} {ev : Int} {scans ver : Nat} {y : Trn} (x : Trn) (H : W.heap[mb]? = some (macO skp db g h k v st ev scans ver y)) :
    ((((((W.setCell ⟨mb, 7, none⟩ (.int .i64 4)).setCell ⟨mb, 11, none⟩ (.int .i64 x.kind)).setCell ⟨mb, 12, none⟩ (.int .i64 x.key)).setCell ⟨mb, 13, none⟩ (.bool x.found)).setCell ⟨mb, 14, none⟩ (.int .i64 x.val)).setCell ⟨mb, 15, none⟩ (.int .i64 x.ent)).heap[mb]? = some (macO skp db g h k v 4 ev scans ver x) ∧
    Keeps [mb] W ((((((W.setCell ⟨mb, 7, none⟩ (.int .i64 4)).setCell ⟨mb, 11, none⟩ (.int .i64 x.kind)).setCell ⟨mb, 12, none⟩ (.int .i64 x.key)).setCell ⟨mb, 13, none⟩ (.bool x.found)).setCell ⟨mb, 14, none⟩ (.int .i64 x.val)).setCell ⟨mb, 15, none⟩ (.int .i64 x.ent)) := by
  unfold macO at H
  have h0 := has_setCell H 7 (.int .i64 4)
  simp only [List.setIfInBounds_toArray, List.set_cons_zero, List.set_cons_succ] at h0
  have h1 := has_setCell h0 11 (.int .i64 x.kind)
  simp only [List.setIfInBounds_toArray, List.set_cons_zero, List.set_cons_succ] at h1
  have h2 := has_setCell h1 12 (.int .i64 x.key)
  simp only [List.setIfInBounds_toArray, List.set_cons_zero, List.set_cons_succ] at h2
  have h3 := has_setCell h2 13 (.bool x.found)
  simp only [List.setIfInBounds_toArray, List.set_cons_zero, List.set_cons_succ] at h3
  have h4 := has_setCell h3 14 (.int .i64 x.val)
  simp only [List.setIfInBounds_toArray, List.set_cons_zero, List.set_cons_succ] at h4
  have h5 := has_setCell h4 15 (.int .i64 x.ent)
  simp only [List.setIfInBounds_toArray, List.set_cons_zero, List.set_cons_succ] at h5
  exact ⟨h5, ((((((Keeps.refl [mb] W).setCell (p := ⟨mb, 7, none⟩) (.inr (by simp)) _).setCell (p := ⟨mb, 11, none⟩) (.inr (by simp)) _).setCell (p := ⟨mb, 12, none⟩) (.inr (by simp)) _).setCell (p := ⟨mb, 13, none⟩) (.inr (by simp)) _).setCell (p := ⟨mb, 14, none⟩) (.inr (by simp)) _).setCell (p := ⟨mb, 15, none⟩) (.inr (by simp)) _⟩
set_option maxRecDepth 100000 in
theorem end_any (mb db g : Nat) (skp : Value) (h k v : Int) (st : Nat) (ev : Int) (scans ver : Nat) (y x : Trn) (w : World) (H : w.heap[mb]? = some (macO skp db g h k v st ev scans ver y)) :
    Calls Try.prog 42 #[.pointer (some ⟨mb, 0, none⟩), x.agg] w fun r w' => r = .returned x.agg ∧ w'.heap[mb]? = some (macO skp db g h k v 4 ev scans ver x) ∧ Keeps [mb] w w' := by
  have HH := Lib.hid H
  obtain ⟨WA, hWA⟩ : ∃ WA, (w.alloc (trnO x)).alloc (trnO noTrn) = WA := ⟨_, rfl⟩
  have kb : Keeps [] w WA := by rw [← hWA]; exact ((Keeps.refl [] w).alloc _).alloc _
  have bX : WA.heap[w.heap.size]? = some (trnO x) := by rw [← hWA]; exact has_alloc (has_new _ _) _
  have bT : WA.heap[w.heap.size + 1]? = some (trnO noTrn) := by rw [← hWA]; exact has_new' _ _ (by simp)
  unfold trnO noTrn at hWA
  have HWA := Lib.hid hWA
  have hm := kb.has H (by simp)
  have lm := lt_of_block H
  obtain ⟨x0, x1, x2, x3, x4⟩ := trn_cells bX
  obtain ⟨m7, m11, m12, m13, m14, m15⟩ := mac_cells hm
  obtain ⟨f7, f11, f12, f13, f14, f15⟩ := mac_free hm
  obtain ⟨t0, t1, t2, t3, t4⟩ := trn_cells bT
  obtain ⟨u0, u1, u2, u3, u4⟩ := trn_free bT
  have KB := Lib.hid kb
  have BX := Lib.hid bX
  have BT := Lib.hid bT
  have HM := Lib.hid hm
  unfold Trn.agg
  have n1 : ¬ mb = w.heap.size := by omega
  have n2 : ¬ w.heap.size = mb := by omega
  have n3 : ¬ mb = w.heap.size + 1 := by omega
  have n4 : ¬ w.heap.size + 1 = mb := by omega
  clear H hWA kb bX bT hm
  go_enter Try.func42, Try.ntmps42
  go_upto_region 1 with (fail)
  rw [HWA.out]
  go_region_held3 (fun w' => w'.cell? ⟨w.heap.size, 0, none⟩ = some (.int .i64 x.kind) ∧ w'.cell? ⟨w.heap.size, 1, none⟩ = some (.int .i64 x.key) ∧ w'.cell? ⟨w.heap.size, 2, none⟩ = some (.bool x.found) ∧ w'.cell? ⟨w.heap.size, 3, none⟩ = some (.int .i64 x.val) ∧ w'.cell? ⟨w.heap.size, 4, none⟩ = some (.int .i64 x.ent)) (go_keep)
    (fail)
  go_upto_region 2 with (fail)
  refine wp_gen (fun V => V.heap[mb]? = some (macO skp db g h k v 4 ev scans ver x) ∧ Keeps [mb] WA V) ?_ ?_
  · exact ⟨has_drew (mac_end x HM.out).1, (mac_end x HM.out).2.drew⟩
  rintro W3 ⟨b3, k3⟩
  have B3 := Lib.hid b3
  have K3 := Lib.hid k3
  have bx := k3.has BX.out (by simp; omega)
  have bt := k3.has BT.out (by simp; omega)
  clear x0 x1 x2 x3 x4 t0 t1 t2 t3 t4 u0 u1 u2 u3 u4 m7 m11 m12 m13 m14 m15 f7 f11 f12 f13 f14 f15
  obtain ⟨x0, x1, x2, x3, x4⟩ := trn_cells bx
  obtain ⟨t0, t1, t2, t3, t4⟩ := trn_cells bt
  obtain ⟨u0, u1, u2, u3, u4⟩ := trn_free bt
  have BT3 := Lib.hid bt
  clear b3 k3 bx bt
  go_wp2_with fail
  obtain ⟨s1, s2⟩ := trn_store noTrn x BT3.out
  have rc := cell_of_has s1
  refine bodyPost_ret (v := x.agg) (by simp [results, Try.results42, go_sem, Trn.agg, rc]) rfl ⟨rfl, s2.has B3.out (by simp; omega), ?_⟩
  exact ((KB.out.mono (T := [mb]) (by simp)).trans K3.out).then s2 (fun z hz => by simp at hz; left; omega)
/-- What a machine does with an entry that is the one. -/
theorem hitf_enters (g : Nat) : EntersF Try.prog (hitF g) := by
  unfold hitF
  split
  · exact entersF_of Try.func67 (by kernel_rfl) (by kernel_rfl)
  · split
    · exact entersF_of Try.func69 (by kernel_rfl) (by kernel_rfl)
    · exact entersF_of Try.func65 (by kernel_rfl) (by kernel_rfl)
theorem missf_enters (g : Nat) : EntersF Try.prog (missF g) := by
  unfold missF
  split
  · exact entersF_of Try.func71 (by kernel_rfl) (by kernel_rfl)
  · exact entersF_of Try.func72 (by kernel_rfl) (by kernel_rfl)
theorem hitf_any (mb db t lo : Nat) (S : List Nat) (mv : Value) (d : Dic) (q : Mac) (w : World) (H : DicAt db t lo S mv d w) (c1 : w.cell? ⟨mb, 1, none⟩ = some (.pointer (some ⟨db, 0, none⟩))) (c6 : w.cell? ⟨mb, 6, none⟩ = some (.int .i64 q.v)) (hmS : mb ∉ S) (hmd : mb ≠ db) (hI : TInv 1000 d.T) (hv : d.ver ≤ 1000000) (e : Int) (x : Ent) :
    Calls Try.prog (hitF q.g) #[.pointer (some ⟨mb, 0, none⟩), .int .i64 e, x.agg] w fun r w' => r = .returned (hitT x e).agg ∧ DicAt db t lo S mv (d.hit q e) w' ∧ Keeps (db :: S) w w' := by
  unfold hitF Dic.hit
  by_cases h2 : q.g = 2
  · rw [if_pos h2, if_pos h2]
    exact turn_any mb db t lo S mv d w H q.v c1 c6 hmS hmd hI hv e x
  · rw [if_neg h2, if_neg h2]
    by_cases h3 : q.g = 3
    · rw [if_pos h3, if_pos h3]
      exact killm_any mb db t lo S mv d w H q.v c1 c6 hmS hmd hI hv e x
    · rw [if_neg h3, if_neg h3]
      refine (see_any _ e x w).mono ?_
      rintro r w' ⟨h1, h2⟩
      exact ⟨h1, H.keeps h2 (by simp) (by simp), h2.mono (by simp)⟩
theorem missf_any (k : Nat) (hk : k ≤ 1000) (mb db t lo : Nat) (S : List Nat) (m : Option Nat) (c : C4) (d : Dic) (q : Mac) (w : World) (H : DicAt db t lo S (mV m) d w) (hM : MtrAt m c w) (hm : ∀ b, m = some b → b < lo) (hI : TInv k d.T) (hv : d.ver ≤ 1000000)
    (c1 : w.cell? ⟨mb, 1, none⟩ = some (.pointer (some ⟨db, 0, none⟩))) (c4 : w.cell? ⟨mb, 4, none⟩ = some (.int .i64 q.h)) (c5 : w.cell? ⟨mb, 5, none⟩ = some (.int .i64 q.k)) (c6 : w.cell? ⟨mb, 6, none⟩ = some (.int .i64 q.v)) (hmS : mb ∉ S) (hmd : mb ≠ db) (hmm : mb ∉ mS m) :
    Calls Try.prog (missF q.g) #[.pointer (some ⟨mb, 0, none⟩)] w (MissP db t lo S m c d q w) := by
  by_cases hg : q.g = 1 ∨ q.g = 3
  · unfold missF
    rw [if_pos hg]
    refine (nonem_any _ w).mono ?_
    rintro r w' ⟨h1, h2⟩
    unfold MissP missT Dic.miss missC
    simp only [if_pos hg]
    exact ⟨S, h1, H.keeps h2 (by simp) (by simp), hM.keeps h2 (by simp), h2.mono (by simp), Grew.refl _ _⟩
  · unfold missF
    rw [if_neg hg]
    exact addm_any k hk mb db t lo S m c d q w H hM hm hI hv hg c1 c4 c5 c6 hmS hmd hmm
/-- A machine without its block. -/
def hitP (mb db t lo : Nat) (S : List Nat) (mv skp : Value) (d : Dic) (q : Mac) (st : Nat) (ev : Int) (e : Int) (x : Ent) (w : World) (r : Ending) (w' : World) : Prop :=
  r = .returned (hitT x e).agg ∧ DicAt db t lo S mv (d.hit q e) w' ∧ w'.heap[mb]? = some (macO skp db q.g q.h q.k q.v 4 ev q.scans q.ver (hitT x e)) ∧ Keeps (mb :: db :: S) w w'
set_option maxRecDepth 100000 in
set_option maxHeartbeats 1000000 in
theorem hitm_any (mb db t lo : Nat) (S : List Nat) (mv skp : Value) (d : Dic) (q : Mac) (st : Nat) (ev : Int) (w : World) (H : DicAt db t lo S mv d w) (hb : w.heap[mb]? = some (macO skp db q.g q.h q.k q.v st ev q.scans q.ver q.turn)) (hmS : mb ∉ S) (hmd : mb ≠ db) (hI : TInv 1000 d.T) (hv : d.ver ≤ 1000000) (e : Int) (x : Ent) (hx : d.T.ent e = some x) :
    Calls Try.prog 40 #[.pointer (some ⟨mb, 0, none⟩), .int .i64 e] w (hitP mb db t lo S mv skp d q st ev e x w) := by
  have HD := Lib.hid H
  have HB := Lib.hid hb
  have HI := Lib.hid hI
  have hE := Lib.hid hx
  have c1 : w.cell? ⟨mb, 1, none⟩ = some (.pointer (some ⟨db, 0, none⟩)) := cell_has hb (i := 1) rfl
  have e0 : w.cell? ⟨db, 0, none⟩ = some (.pointer (some ⟨t, 0, none⟩)) := cell_has H.b (i := 0) rfl
  have lm := lt_of_block hb
  have lS : ∀ z, z ∈ S → z < w.heap.size := fun z hz => (H.t.foot z hz).2
  have LS := Lib.hid lS
  have ldb := lt_of_block H.b
  have hrun := fun args W => hitf_enters q.g args W
  obtain ⟨WA, hWA⟩ : ∃ WA, w.alloc (.cells #[.int .i64 0, .int .i64 0, .bool false, .int .i64 0, .int .i64 0] 29) = WA := ⟨_, rfl⟩
  have kb : Keeps [] w WA := by rw [← hWA]; exact (Keeps.refl [] w).alloc _
  have bT : WA.heap[w.heap.size]? = some (trnO noTrn) := by rw [← hWA]; exact has_new _ _
  have HWA := Lib.hid hWA
  have y1 := kb.cell c1 (by simp)
  have y0 := kb.cell e0 (by simp)
  have KB := Lib.hid kb
  have BT := Lib.hid bT
  clear H hb hI hx c1 e0 lS hWA kb bT
  go_enter Try.func40, Try.ntmps40
  go_upto_region 1 with (fail)
  rw [HWA.out]
  obtain ⟨ta, tc, tcb, tcr, a1, a2, _⟩ := HD.out.t
  have A12 := Lib.hid (And.intro a1 a2)
  clear a1 a2
  go_wp2_with fail
  refine (at_any t lo tc ta d.T.E mv _ _ _ _ _ e WA (KB.out.has A12.out.1 (by simp)) (A12.out.2.keeps KB.out (by simp)) (by have := HI.out.ek; omega)).mono ?_
  rintro r w1 ⟨rfl, b1⟩
  have k1 := Below.keeps b1 []
  have K1 := Lib.hid (KB.out.trans k1)
  rw [show entE d.T.E e = some x from hE.out]
  have BT1 := Lib.hid (k1.has BT.out (by simp))
  have w1m := K1.out.has HB.out (by simp)
  have y2 : w1.cell? ⟨mb, 2, none⟩ = some (.func (.func (hitF q.g)) #[] #[]) := cell_has w1m (i := 2) rfl
  have W1M := Lib.hid w1m
  have z1 := k1.size
  clear b1 k1 w1m y1 y0
  obtain ⟨hf, hhf⟩ : ∃ hf, Hid (hf = hitF q.g) := ⟨_, Lib.hid rfl⟩
  rw [← hhf.out] at y2 hrun
  simp only [atE, okE, Option.getD_some, Option.isSome_some, if_true, Ent.agg]
  go_upto_region 2 with (fail)
  obtain ⟨W2, hW2⟩ : ∃ W2, w1.alloc (.cells #[.bool x.live, .int .i64 x.hash, .int .i64 x.key, .int .i64 x.val, .int .i64 x.birth] 36) = W2 := ⟨_, rfl⟩
  have k2 : Keeps [] w1 W2 := by rw [← hW2]; exact (Keeps.refl [] w1).alloc _
  have b2 : W2.heap[w1.heap.size]? = some (.cells #[.bool x.live, .int .i64 x.hash, .int .i64 x.key, .int .i64 x.val, .int .i64 x.birth] 36 (0, 0)) := by rw [← hW2]; exact has_new _ _
  have x0 : W2.cell? ⟨w1.heap.size, 0, none⟩ = some (.bool x.live) := cell_has b2 (i := 0) rfl
  have x1 : W2.cell? ⟨w1.heap.size, 1, none⟩ = some (.int .i64 x.hash) := cell_has b2 (i := 1) rfl
  have x2 : W2.cell? ⟨w1.heap.size, 2, none⟩ = some (.int .i64 x.key) := cell_has b2 (i := 2) rfl
  have x3 : W2.cell? ⟨w1.heap.size, 3, none⟩ = some (.int .i64 x.val) := cell_has b2 (i := 3) rfl
  have x4 : W2.cell? ⟨w1.heap.size, 4, none⟩ = some (.int .i64 x.birth) := cell_has b2 (i := 4) rfl
  have K2 := Lib.hid k2
  have v2 := k2.cell y2 (by simp)
  rw [hW2]
  clear hW2 k2 b2 y2
  refine wp_regionG (fun w' => w'.cell? ⟨mb, 2, none⟩ = some (.func (.func hf) #[] #[]) ∧ w'.cell? ⟨w1.heap.size, 0, none⟩ = some (.bool x.live) ∧ w'.cell? ⟨w1.heap.size, 1, none⟩ = some (.int .i64 x.hash) ∧ w'.cell? ⟨w1.heap.size, 2, none⟩ = some (.int .i64 x.key) ∧ w'.cell? ⟨w1.heap.size, 3, none⟩ = some (.int .i64 x.val) ∧ w'.cell? ⟨w1.heap.size, 4, none⟩ = some (.int .i64 x.birth)) 9 (by kernel_rfl) ⟨v2, x0, x1, x2, x3, x4⟩ (fun hF => ?_)
  refine wpAnyG_takeY (i := 0) (v := ?_) rfl (by kernel_rfl) (by decide +kernel) (by decide +kernel) (by decide +kernel) (fun _ _ _ h => h) (by kernel_rfl) ?_ (by assumption) ?_
  rotate_left
  · (intro wz; go_simp; with_reducible rfl)
  try simp only [Act.put, List.setIfInBounds_toArray, List.set_cons_zero, List.set_cons_succ]
  refine wpAnyG_takeY (i := 1) (v := ?_) rfl (by kernel_rfl) (by decide +kernel) (by decide +kernel) (by decide +kernel) (fun _ _ _ h => h) (by kernel_rfl) ?_ (by assumption) ?_
  rotate_left
  · (intro wz; go_simp; with_reducible rfl)
  try simp only [Act.put, List.setIfInBounds_toArray, List.set_cons_zero, List.set_cons_succ]
  refine wpAnyG_takeY (i := 2) (v := ?_) rfl (by kernel_rfl) (by decide +kernel) (by decide +kernel) (by decide +kernel) (fun _ _ _ h => h) (by kernel_rfl) ?_ (by assumption) ?_
  rotate_left
  · (intro wz; go_simp; with_reducible rfl)
  try simp only [Act.put, List.setIfInBounds_toArray, List.set_cons_zero, List.set_cons_succ]
  refine wpAnyG_takeY (i := 3) (v := ?_) rfl (by kernel_rfl) (by decide +kernel) (by decide +kernel) (by decide +kernel) (fun _ _ _ h => h) (by kernel_rfl) ?_ (by assumption) ?_
  rotate_left
  · (intro wz; go_simp; with_reducible rfl)
  try simp only [Act.put, List.setIfInBounds_toArray, List.set_cons_zero, List.set_cons_succ]
  refine wpAnyG_takeY (i := 4) (v := ?_) rfl (by kernel_rfl) (by decide +kernel) (by decide +kernel) (by decide +kernel) (fun _ _ _ h => h) (by kernel_rfl) ?_ (by assumption) ?_
  rotate_left
  · (intro wz; go_simp; with_reducible rfl)
  try simp only [Act.put, List.setIfInBounds_toArray, List.set_cons_zero, List.set_cons_succ]
  refine wpAnyG_take (i := 5) (v := ?_) rfl (by kernel_rfl) (by decide +kernel) (by decide +kernel) (by decide +kernel) (by decide +kernel) (by rfl) (fun _ _ _ h => h) (by kernel_rfl) ?_ (by assumption) ?_
  rotate_left
  · (intro wz hSw; (try dsimp only at hSw); go_simp; with_reducible rfl)
  try simp only [Act.put, List.setIfInBounds_toArray, List.set_cons_zero, List.set_cons_succ]
  refine wpAnyG_takeY (i := 6) (v := ?_) rfl (by kernel_rfl) (by decide +kernel) (by decide +kernel) (by decide +kernel) (fun _ _ _ h => h) (by kernel_rfl) ?_ (by assumption) ?_
  rotate_left
  · (intro wz; go_simp; with_reducible rfl)
  try simp only [Act.put, List.setIfInBounds_toArray, List.set_cons_zero, List.set_cons_succ]
  refine wpAnyG_takeY (i := 7) (v := ?_) rfl (by kernel_rfl) (by decide +kernel) (by decide +kernel) (by decide +kernel) (fun _ _ _ h => h) (by kernel_rfl) ?_ (by assumption) ?_
  rotate_left
  · (intro wz; go_simp; with_reducible rfl)
  try simp only [Act.put, List.setIfInBounds_toArray, List.set_cons_zero, List.set_cons_succ]
  refine wpAnyG_take (i := 8) (v := ?_) rfl (by kernel_rfl) (by decide +kernel) (by decide +kernel) (by decide +kernel) (by decide +kernel) (by rfl) (fun _ _ _ h => h) (by kernel_rfl) ?_ (by assumption) ?_
  rotate_left
  · (intro wz hSw; (try dsimp only at hSw); go_simp; with_reducible rfl)
  try simp only [Act.put, List.setIfInBounds_toArray, List.set_cons_zero, List.set_cons_succ]
  refine wpAnyG_last rfl (by kernel_rfl) (by rfl) (by rfl) (fun K hK => ?_)
  have HK := Lib.hid hK
  clear hK
  go_simp
  have hm2 := K2.out.has W1M.out (by simp)
  have hD2 := HD.out.keeps (K1.out.trans K2.out) (by simp) (by simp)
  have hC := hitf_any mb db t lo S mv d q W2.drew (hD2.keeps (Keeps.refl [] W2).drew (by simp) (by simp)) (cell_has hm2 (i := 1) rfl) (cell_has hm2 (i := 6) rfl) hmS hmd HI.out hv e x
  rw [← hhf.out] at hC
  refine hC.mono ?_
  rintro r w3 ⟨rfl, d3, k3⟩
  have hm3 := k3.has (w := W2.drew) hm2 (by simp; exact ⟨hmd, hmS⟩)
  have hb3 := k3.has (w := W2.drew) (K2.out.has BT1.out (by simp)) (by simp; exact ⟨by omega, fun hz => by have := LS.out _ hz; omega⟩)
  have M3 := Lib.hid hm3
  have D3 := Lib.hid d3
  have K3 := Lib.hid k3
  have B3 := Lib.hid hb3
  obtain ⟨tt, htt⟩ : ∃ tt, Hid (tt = hitT x e) := ⟨_, Lib.hid rfl⟩
  rw [← htt.out]
  clear hC hm2 hD2 d3 k3 hm3 hb3
  refine HK.out _ _ ?_
  clear HK K hF
  refine wpAnyG_past _ _ _ _ (by decide +kernel) ?_
  refine wpAny_of_g (F := fun _ => True) (s := 11) _ _ _ _ ?_
  try simp only [Act.put, List.setIfInBounds_toArray, List.set_cons_zero, List.set_cons_succ]
  have hF : True := trivial
  refine wpAnyG_one (i := 10) rfl (by kernel_rfl) (by kernel_rfl) (fun K hK => ?_)
  have HK := Lib.hid hK
  clear hK
  go_simp
  refine (end_any mb db q.g skp q.h q.k q.v st ev q.scans q.ver q.turn tt w3 M3.out).mono ?_
  rintro r w4 ⟨rfl, m4, k4⟩
  have b4 := k4.has B3.out (by simp; omega)
  obtain ⟨t0, t1, t2, t3, t4⟩ := trn_cells b4
  obtain ⟨u0, u1, u2, u3, u4⟩ := trn_free b4
  have M4 := Lib.hid m4
  have K4 := Lib.hid k4
  have B4 := Lib.hid b4
  unfold Trn.agg
  clear m4 k4 b4
  refine HK.out _ _ trivial ?_
  clear HK K
  try simp only [Act.put, List.setIfInBounds_toArray, List.set_cons_zero, List.set_cons_succ]
  refine wpAnyG_last rfl (by kernel_rfl) (by rfl) (by rfl) (fun K hK => ?_)
  have HK := Lib.hid hK
  clear hK
  go_simp
  refine HK.out _ _ ?_
  clear HK K
  refine wpAnyG_done (by kernel_rfl) ?_ _
  go_simp
  go_wp2_with fail
  obtain ⟨s1, s2⟩ := trn_store noTrn tt B4.out
  have rc := cell_of_has s1
  have nd : db ∉ S := HD.out.n
  have fin : ∀ (W9 : World), W9.heap[w.heap.size]? = some (trnO tt) → Keeps [w.heap.size] w4 W9 → hitP mb db t lo S mv skp d q st ev e x w (.returned tt.agg) W9 := fun W9 _ k9 => by
    refine ⟨by rw [htt.out], (D3.out.keeps K4.out (by simp; omega) (fun z hz hq => by simp at hq; subst hq; exact hmS hz)).keeps k9 (by simp; omega) (fun z hz hq => by simp at hq; have := LS.out z hz; omega), ?_, ?_⟩
    · rw [← htt.out]; exact k9.has M4.out (by simp; omega)
    · refine (((((K1.out.trans K2.out).drew).mono (T := mb :: db :: S) (by simp)).trans (K3.out.mono (fun z hz => List.mem_cons_of_mem _ hz))).trans (K4.out.mono (by simp))).then k9 (fun z hz => by simp at hz; left; omega)
  first
    | exact bodyPost_ret (v := tt.agg) (by simp [results, Try.results40, go_sem, Trn.agg, rc]) rfl (fin _ s1 s2)
    | exact bodyPost_ret (v := tt.agg) (by simp [results, Try.results40, go_sem, Trn.agg, rc]) rfl (fin _ (has_drew s1) s2.drew)
/-- A machine is told. -/
theorem tell_any (mb sb db t : Nat) (q : Mac) (w : World) (H : MacAt mb sb db t q w) (same : Bool) (hsb : q.st ≠ 0 → sb ≠ mb) (hst : q.st ≤ 4) :
    Calls Try.prog 18 #[.pointer (some ⟨mb, 0, none⟩), .bool same] w fun r w' => r = .returned (.int .i64 (tellE q)) ∧ MacAt mb sb db t (tellM q same) w' ∧ Keeps [mb] w w' := by
  have HH := Lib.hid H
  obtain ⟨ev, h1, h2, h3⟩ := H
  have c7 : w.cell? ⟨mb, 7, none⟩ = some (.int .i64 q.st) := cell_has h1 (i := 7) rfl
  have f7 := free_of_has h1 7
  have H1 := Lib.hid h1
  have H23 := Lib.hid (And.intro h2 h3)
  clear h1 h2 h3
  unfold tellE tellM
  by_cases hs : q.st = 2
  · simp only [if_pos hs]
    rw [hs] at c7
    have hsb2 := hsb (by omega)
    have fin : ∀ b : Bool, MacAt mb sb db t { q with st := if b then 3 else 1 } (w.setCell ⟨mb, 7, none⟩ (.int .i64 ((if b then 3 else 1 : Nat) : Int))) := fun b => by
      have h9 := H1.out
      unfold macO at h9
      have h8 := has_setCell h9 7 (.int .i64 ((if b then 3 else 1 : Nat) : Int))
      simp only [List.setIfInBounds_toArray, List.set_cons_zero, List.set_cons_succ] at h8
      refine ⟨ev, ?_, fun _ => H23.out.1 (.inl hs), fun _ => (H23.out.2 (by omega)).keeps ((Keeps.refl [mb] w).setCell (p := ⟨mb, 7, none⟩) (.inr (by simp)) _) (by simp; exact hsb2)⟩
      rw [h8]
      simp [macO, skV, hs]
      cases b <;> simp
    have FIN := Lib.hid fin
    clear fin
    cases same
    · go_enter Try.func18, Try.ntmps18
      go_wp2_with fail
      go_ret
      exact ⟨rfl, FIN.out false, (Keeps.refl [mb] w).setCell (p := ⟨mb, 7, none⟩) (.inr (by simp)) _⟩
    · go_enter Try.func18, Try.ntmps18
      go_wp2_with fail
      go_ret
      exact ⟨rfl, FIN.out true, (Keeps.refl [mb] w).setCell (p := ⟨mb, 7, none⟩) (.inr (by simp)) _⟩
  · simp only [if_neg hs]
    have hn : ((q.st : Int) != 2) = true := by simp; omega
    obtain ⟨z, hz⟩ := ex_hid q.st
    rw [← hz.out] at c7 hn
    go_enter Try.func18, Try.ntmps18
    go_wp2_with fail
    go_ret
    exact ⟨rfl, HH.out, Keeps.refl _ _⟩
def scanN (q : Mac) : Nat := if q.st = 0 then 0 else q.sk.vis
theorem scan_any (mb sb db t : Nat) (q : Mac) (w : World) (H : MacAt mb sb db t q w) :
    Calls Try.prog 21 #[.pointer (some ⟨mb, 0, none⟩)] w fun r w' => r = .returned (.int .i64 (scanN q)) ∧ w = w' := by
  obtain ⟨ev, h1, h2, h3⟩ := H
  unfold scanN
  by_cases hs : q.st = 0
  · simp only [if_pos hs]
    have c0 : w.cell? ⟨mb, 0, none⟩ = some (.pointer none) := by
      have h9 := cell_has h1 (i := 0) rfl
      unfold skV at h9; rw [if_pos hs] at h9; exact h9
    clear h1 h2 h3
    go_enter Try.func21, Try.ntmps21
    go_wp2_with fail
    refine (visited_nil _).mono ?_
    rintro r w1 ⟨rfl, rfl⟩
    go_wp2_with fail
    go_ret
    exact ⟨rfl, rfl⟩
  · simp only [if_neg hs]
    have c0 : w.cell? ⟨mb, 0, none⟩ = some (.pointer (some ⟨sb, 0, none⟩)) := by
      have h9 := cell_has h1 (i := 0) rfl
      unfold skV at h9; rw [if_neg hs] at h9; exact h9
    have H3 := Lib.hid (h3 hs)
    clear h1 h2 h3
    go_enter Try.func21, Try.ntmps21
    go_wp2_with fail
    refine (visited_any sb t q.sk _ H3.out).mono ?_
    rintro r w1 ⟨rfl, rfl⟩
    go_wp2_with fail
    go_ret
    exact ⟨rfl, rfl⟩
theorem scans_any (mb sb db t : Nat) (q : Mac) (w : World) (H : MacAt mb sb db t q w) :
    Calls Try.prog 20 #[.pointer (some ⟨mb, 0, none⟩)] w fun r w' => r = .returned (.int .i64 q.scans) ∧ w = w' := by
  obtain ⟨ev, h1, h2, h3⟩ := H
  have c9 : w.cell? ⟨mb, 9, none⟩ = some (.int .i64 q.scans) := cell_has h1 (i := 9) rfl
  clear h1 h2 h3
  go_enter Try.func20, Try.ntmps20
  go_wp2_with fail
  go_ret
  exact ⟨rfl, rfl⟩
end Go.Proofs.Ytcakdmapnmneoaa
