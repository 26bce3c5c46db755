/- The document's dictionary: New, Clear, First, Last, Copy (chapter 8). -/
import Derived.Test.YtcakdmapnmneoaaGreatRefI
import Derived.Test.YtcakdmapnmneoaaGreatRNums
import Derived.Test.YtcakdmapnmneoaaGreatDictE
namespace Go.Proofs.YtcakdmapnmneoaaGreat
open Go.RowKit
set_option linter.unusedVariables false
set_option linter.unusedSimpArgs false

theorem rnew8_tab (m : Option Nat) (c : C4) (w : World) (hM : CtrAt m c w) : Calls Tryz.prog 23 #[mV m] w fun r w' => ∃ t S, r = .returned (.pointer (some ⟨t, 0, none⟩)) ∧ RTabAt t w.heap.size S m newT w' ∧ CtrAt m c.tab w' ∧ Keeps (mS m) w w' := by
  have HM := Lib.hid hM
  obtain ⟨p, hp⟩ : ∃ p : Option Addr, Hid (mV m = .pointer p) := ⟨_, Lib.hid rfl⟩
  rw [hp.out]
  have hm : ∀ b, m = some b → b < w.heap.size := fun b hb => lt_of_block (hM b hb)
  have HMM := Lib.hid hm
  clear hM hm
  go_enter Tryz.func23, Tryz.ntmps23
  go_wp2_with fail
  have ka : Keeps [] w (w.alloc (.cells #[.slice none 0 0, .int .i64 0, .slice none 0 0, .int .i64 0, .int .i64 0, .int .i64 0, .int .i64 0, .pointer p] 144)) := (Keeps.refl [] w).alloc _
  have ba : (w.alloc (.cells #[.slice none 0 0, .int .i64 0, .slice none 0 0, .int .i64 0, .int .i64 0, .int .i64 0, .int .i64 0, .pointer p] 144)).heap[w.heap.size]? = some (rtabO (.slice none 0 0) 0 (.slice none 0 0) (.int .i64 0) (.int .i64 0) (.int .i64 0) (.int .i64 0) (mV m)) := by rw [hp.out]; exact has_new _ _
  refine (rindex_any w.heap.size 3 8 3 rfl _ _ _ _ 0 _ 0 m c _ ba (HM.out.keeps ka (by simp)) (by omega) (by omega) rfl (by omega) (by omega) ⟨_, _, _, rfl⟩).mono ?_
  rintro r w1 ⟨rfl, q, h1, h2, h3, h4, h5⟩
  have H1 := Lib.hid h1
  have H2 := Lib.hid h2
  have H3 := Lib.hid h3
  have K := Lib.hid (show Keeps (mS m) w w1 from (ka.mono (by simp)).then h5 (fun x hx => by
    simp only [List.mem_cons] at hx
    rcases hx with rfl | hx
    · exact .inl (Nat.le_refl _)
    · exact .inr hx))
  simp only [World.size_alloc] at h4
  clear h1 h2 h3 h5 ka ba
  go_wp2_with fail
  go_ret
  refine ⟨w.heap.size, [w.heap.size, q], rfl, ⟨none, 0, q, ?_, EntRow.nil _ _, H2.out, by simp, by simp, by simp [blk], fun x hx => ?_⟩, H3.out, K.out⟩
  · exact H1.out
  · have l1 := lt_of_block H1.out
    have l2 := lt_of_block H2.out
    simp at hx
    rcases hx with rfl | rfl
    · exact ⟨Nat.le_refl _, l1⟩
    · exact ⟨by omega, l2⟩
theorem rnew8_any (most : Int) (m : Option Nat) (c : C4) (w : World) (hM : CtrAt m c w) (h0 : 0 ≤ most) (h1 : most ≤ 65536) :
    Calls Tryz.prog 9 #[.int .i64 most, mV m] w fun r w' => ∃ db t S, r = .returned (.tuple #[.pointer (some ⟨db, 0, none⟩), .int .i64 0]) ∧ RDicAt db t w.heap.size S m (newD most) w' ∧ CtrAt m c.tab w' ∧ Keeps (mS m) w w' := by
  have HM := Lib.hid hM
  have d0 : decide (most < 0) = false := by simp; omega
  have d1 : decide (65536 < most) = false := by simp; omega
  obtain ⟨p, hp⟩ : ∃ p : Option Addr, Hid (mV m = .pointer p) := ⟨_, Lib.hid rfl⟩
  rw [hp.out]
  have R := rnew8_tab m c w hM
  rw [hp.out] at R
  clear hM
  go_enter Tryz.func9, Tryz.ntmps9
  go_wp2_with (go_at_call 23; refine R.mono ?_; rintro r w1 ⟨t, S, rfl, t1, c1, k1⟩)
  have ka : Keeps [] w1 (w1.alloc (.cells #[.int .i64 most, .int .i64 0, .pointer (some ⟨t, 0, none⟩)] 89)) := (Keeps.refl [] w1).alloc _
  refine bodyPost_ret (v := .tuple #[.pointer (some ⟨w1.heap.size, 0, none⟩), .int .i64 0]) (by simp [results, Tryz.results9, go_sem]) rfl ⟨w1.heap.size, t, S, rfl, ⟨has_new w1 _, t1.keeps ka (by simp), fun h => by have := (t1.foot _ h).2; omega, k1.size⟩, c1.keeps ka (by simp), k1.trans (ka.mono (by simp))⟩

def RClr8P (db t lo : Nat) (S : List Nat) (m : Option Nat) (c : C4) (d : Dic) (w : World) (r : Ending) (w' : World) : Prop :=
  ∃ S', r = .returned (.tuple #[]) ∧ RDicAt db t lo S' m d.clr w' ∧ CtrAt m c.tab w' ∧ Keeps (db :: (S ++ mS m)) w w' ∧ Grew S w S'
theorem rclear8_any (k : Nat) (hk : k ≤ 1000) (db t lo : Nat) (S : List Nat) (m : Option Nat) (c : C4) (d : Dic) (w : World) (HD : RDicAt db t lo S m d w) (hC : CtrAt m c w) (hm : ∀ b, m = some b → b < lo) (hI : DicOk k d) :
    Calls Tryz.prog 26 #[.pointer (some ⟨db, 0, none⟩)] w (RClr8P db t lo S m c d w) := by
  have y2 : w.cell? ⟨db, 2, none⟩ = some (.pointer (some ⟨t, 0, none⟩)) := cell_has HD.b (i := 2) rfl
  have R := rclear_any t lo S m c d.T w HD.t hC (by have := hI.t.mdk; omega) (by have := hI.t.tk; omega)
  have HDD := Lib.hid HD
  have hv0 : (d.ver : Int) ≤ 1000000 := by have := hI.v; omega
  have hv1 : (0 : Int) ≤ (d.ver : Int) := by omega
  have NM := Lib.hid (show db ∉ S ++ mS m from by
    simp only [List.mem_append, not_or]
    refine ⟨HD.n, fun h => ?_⟩
    cases m with
    | none => simp [mS] at h
    | some b => simp [mS] at h; have := hm b rfl; have := HD.l; omega)
  have NM2 := Lib.hid (show ∀ b, m = some b → b ≠ db from fun b hb => by have := hm b hb; have := HD.l; omega)
  obtain ⟨vr, hvr⟩ := ex_hid d.ver
  rw [← hvr.out] at hv0 hv1
  clear HD hC hm hI
  go_enter Tryz.func26, Tryz.ntmps26
  go_wp2_with (go_at_call 69; refine R.mono ?_; rintro r w1 ⟨S1, rfl, t1, c1, k1, g1⟩; have b1 := k1.has HDD.out.b NM.out; have z1 : w1.cell? ⟨db, 1, none⟩ = some (.int .i64 d.ver) := cell_has b1 (i := 1) rfl; have zf := free_of_has b1 1; rw [← hvr.out] at z1; have B1 := Lib.hid b1; have T1 := Lib.hid t1; have C1 := Lib.hid c1; have K1 := Lib.hid k1; have G1 := Lib.hid g1; clear b1 t1 c1 k1 g1)
  go_end0
  have RV := rd_ver B1.out
  rw [show ((d.ver + 1 : Nat) : Int) = (vr : Int) + 1 by rw [hvr.out]; omega] at RV
  have hdb : db ∉ S1 := fun h => by
    rcases G1.out _ h with h1 | h1
    · exact HDD.out.n h1
    · have := lt_of_block HDD.out.b; omega
  exact ⟨S1, rfl, ⟨RV.1, T1.out.keeps RV.2 (fun z hz h => by simp at h; subst h; exact hdb hz), hdb, HDD.out.l⟩, C1.out.keeps RV.2 (fun b hb h => by simp at h; exact NM2.out b hb h), (K1.out.mono (fun z hz => by simp at hz ⊢; exact .inr hz)).trans (RV.2.mono (by simp)), G1.out⟩
theorem entR_store {W : World} {b : Nat} (y x : Ent) (h : W.heap[b]? = some (entR y)) :
    (((((W.setCell ⟨b, 0, none⟩ (.bool x.live)).setCell ⟨b, 1, none⟩ (.int .i64 x.hash)).setCell ⟨b, 2, none⟩ (.int .i64 x.key)).setCell ⟨b, 3, none⟩ (.int .i64 x.val)).setCell ⟨b, 4, none⟩ (.int .i64 x.birth)).heap[b]? = some (entR x) ∧ Keeps [b] W (((((W.setCell ⟨b, 0, none⟩ (.bool x.live)).setCell ⟨b, 1, none⟩ (.int .i64 x.hash)).setCell ⟨b, 2, none⟩ (.int .i64 x.key)).setCell ⟨b, 3, none⟩ (.int .i64 x.val)).setCell ⟨b, 4, none⟩ (.int .i64 x.birth)) := by
  unfold entR at h
  have h0 := has_setCell h 0 (.bool x.live)
  simp only [List.setIfInBounds_toArray, List.set_cons_zero] at h0
  have h1 := has_setCell h0 1 (.int .i64 x.hash)
  simp only [List.setIfInBounds_toArray, List.set_cons_zero, List.set_cons_succ] at h1
  have h2 := has_setCell h1 2 (.int .i64 x.key)
  simp only [List.setIfInBounds_toArray, List.set_cons_zero, List.set_cons_succ] at h2
  have h3 := has_setCell h2 3 (.int .i64 x.val)
  simp only [List.setIfInBounds_toArray, List.set_cons_zero, List.set_cons_succ] at h3
  have h4 := has_setCell h3 4 (.int .i64 x.birth)
  simp only [List.setIfInBounds_toArray, List.set_cons_zero, List.set_cons_succ] at h4
  exact ⟨h4, ((((((Keeps.refl [b] W).setCell (p := ⟨b, 0, none⟩) (.inr (by simp)) _).setCell (p := ⟨b, 1, none⟩) (.inr (by simp)) _).setCell (p := ⟨b, 2, none⟩) (.inr (by simp)) _).setCell (p := ⟨b, 3, none⟩) (.inr (by simp)) _).setCell (p := ⟨b, 4, none⟩) (.inr (by simp)) _)⟩
/-- The pair of an entry, out. -/
def Dic.took (d : Dic) (e : Int) : Dic := { d with T := d.T.kill e, ver := d.ver + 1 }
set_option maxRecDepth 100000 in
set_option maxHeartbeats 4000000 in
theorem rtake_any (k0 : Nat) (hk : k0 ≤ 1000) (db t lo : Nat) (S : List Nat) (m : Option Nat) (d : Dic) (n : Nat) (y : Ent) (w : World) (HD : RDicAt db t lo S m d w) (hI : TInv k0 d.T) (hv : d.ver ≤ 1000000) (he : d.T.ent (n : Int) = some y) :
    Calls Tryz.prog 74 #[.pointer (some ⟨db, 0, none⟩), .int .i64 n] w fun r w' => r = .returned (.tuple #[y.agg, .int .i64 0]) ∧ RDicAt db t lo S m (d.took n) w' ∧ Keeps (db :: S) w w' := by
  obtain ⟨h0, h1, h2⟩ := ent_some he
  simp only [Int.toNat_natCast] at h1
  obtain ⟨lr, hlr⟩ : ∃ lr, lr = w.heap.size := ⟨_, rfl⟩
  have HLR := Lib.hid hlr
  obtain ⟨WA, hWA⟩ : ∃ WA, w.alloc (.cells #[.bool false, .int .i64 0, .int .i64 0, .int .i64 0, .int .i64 0] 78) = WA := ⟨_, rfl⟩
  have kb : Keeps [] w WA := by rw [← hWA]; exact (Keeps.refl [] w).alloc _
  have KB := Lib.hid kb
  have BT := Lib.hid (show WA.heap[lr]? = some (entR noE) by rw [← hWA, hlr]; exact has_new _ _)
  have HWA := Lib.hid hWA
  have DA := Lib.hid (HD.keeps kb (by simp) (by simp))
  have LD := Lib.hid (lt_of_block HD.b)
  have LS := Lib.hid (show ∀ z, z ∈ S → z < w.heap.size from fun z hz => (HD.foot z (by simp [hz])).2)
  have HI := Lib.hid hI
  have hv0 : (d.ver : Int) ≤ 1000000 := by omega
  have hv1 : (0 : Int) ≤ (d.ver : Int) := by omega
  obtain ⟨ta, tc, tq, b1, b2, _⟩ := DA.out.t
  have hlen := (List.getElem?_eq_some_iff.1 h1).1
  obtain ⟨g, rfl⟩ := b2.shape (by omega)
  obtain ⟨e0, e1, e2, e3, e4⟩ := at_cells b2 h1
  obtain ⟨len, hln⟩ := ex_hid d.T.E.length
  rw [← hln.out] at b1 hlen
  have x0 : WA.cell? ⟨t, 0, none⟩ = some (.slice (some ⟨g, 0, none⟩) len tc) := cell_has b1 (i := 0) rfl
  have y2 : WA.cell? ⟨db, 2, none⟩ = some (.pointer (some ⟨t, 0, none⟩)) := cell_has DA.out.b (i := 2) rfl
  have hl1 : (n : Int) < (len : Int) := by omega
  have hl0 : (0 : Int) ≤ (n : Int) := by omega
  obtain ⟨vr, hvr⟩ := ex_hid d.ver
  rw [← hvr.out] at hv0 hv1
  clear HD hlr hWA kb hI he h0 h1 h2 b1 b2 hlen hv
  go_enter Tryz.func74, Tryz.ntmps74
  go_upto_region 1 with (fail)
  rw [HWA.out, ← HLR.out]
  go_upto_region 2 with (fail)
  obtain ⟨lx, hlx⟩ := ex_hid WA.heap.size
  rw [← hlx.out]
  refine wp_gen (fun V => V.heap[lx]? = some (entR y) ∧ Keeps [] WA V) ⟨by rw [hlx.out]; exact has_new _ _, (Keeps.refl [] WA).alloc _⟩ ?_
  rintro W1 ⟨bx, k1⟩
  have BX := Lib.hid bx
  have K1 := Lib.hid k1
  have D1 := Lib.hid (DA.out.keeps k1 (by simp) (by simp))
  have NW := Lib.hid (show w.heap.size < lx ∧ lr = w.heap.size by rw [hlx.out, ← HWA.out, HLR.out]; simp)
  have y2 := k1.cell y2 (by simp)
  clear bx k1 e0 e1 e2 e3 e4 x0
  go_wp2_with fail
  refine (rkill_any k0 hk t lo S m d.T W1 D1.out.t HI.out n).mono ?_
  rintro r w2 ⟨rfl, t2, k2⟩
  have b2 := k2.has D1.out.b D1.out.n
  have z1 : w2.cell? ⟨db, 1, none⟩ = some (.int .i64 d.ver) := cell_has b2 (i := 1) rfl
  have zf := free_of_has b2 1
  rw [← hvr.out] at z1
  have far : ∀ z, w.heap.size ≤ z → z ∉ db :: S := fun z hz h => by
    simp only [List.mem_cons] at h
    have := LD.out
    rcases h with h | h
    · omega
    · have := LS.out _ h; omega
  have B2 := Lib.hid b2
  have T2 := Lib.hid t2
  have K2 := Lib.hid k2
  have X2 := Lib.hid (k2.has BX.out (fun h => far lx (by have := NW.out; omega) (by simp [h])))
  have R2 := Lib.hid (k2.has (K1.out.has BT.out (by simp)) (fun h => far lr (by have := NW.out; omega) (by simp [h])))
  have FX := Lib.hid (And.intro (far lx (by have := NW.out; omega)) (far lr (by have := NW.out; omega)))
  clear b2 t2 k2 far
  go_upto_region 4 with (fail)
  have RV := rd_ver B2.out
  rw [show ((d.ver + 1 : Nat) : Int) = (vr : Int) + 1 by rw [hvr.out]; omega] at RV
  refine wp_gen (fun V => V.heap[db]? = some (rdicO t d.most (d.ver + 1)) ∧ Keeps [db] w2 V) RV ?_
  rintro W3 ⟨b3, k3⟩
  have D3 := Lib.hid (show RDicAt db t lo S m (d.took n) W3 from ⟨b3, T2.out.keeps k3 (fun z hz h => by simp at h; subst h; exact D1.out.n hz), D1.out.n, D1.out.l⟩)
  have x3 := k3.has X2.out (by simp; intro e; exact FX.out.1 (by simp [e]))
  have r3 := k3.has R2.out (by simp; intro e; exact FX.out.2 (by simp [e]))
  obtain ⟨t0, t1, t2, t3, t4⟩ : W3.cell? ⟨lx, 0, none⟩ = some (.bool y.live) ∧ W3.cell? ⟨lx, 1, none⟩ = some (.int .i64 y.hash) ∧ W3.cell? ⟨lx, 2, none⟩ = some (.int .i64 y.key) ∧ W3.cell? ⟨lx, 3, none⟩ = some (.int .i64 y.val) ∧ W3.cell? ⟨lx, 4, none⟩ = some (.int .i64 y.birth) := ⟨cell_has x3 (i := 0) rfl, cell_has x3 (i := 1) rfl, cell_has x3 (i := 2) rfl, cell_has x3 (i := 3) rfl, cell_has x3 (i := 4) rfl⟩
  obtain ⟨s0, s1, s2, s3, s4⟩ : W3.cell? ⟨lr, 0, none⟩ = some (.bool false) ∧ W3.cell? ⟨lr, 1, none⟩ = some (.int .i64 0) ∧ W3.cell? ⟨lr, 2, none⟩ = some (.int .i64 0) ∧ W3.cell? ⟨lr, 3, none⟩ = some (.int .i64 0) ∧ W3.cell? ⟨lr, 4, none⟩ = some (.int .i64 0) := ⟨cell_has r3 (i := 0) rfl, cell_has r3 (i := 1) rfl, cell_has r3 (i := 2) rfl, cell_has r3 (i := 3) rfl, cell_has r3 (i := 4) rfl⟩
  have u0 := free_of_has r3 0
  have u1 := free_of_has r3 1
  have u2 := free_of_has r3 2
  have u3 := free_of_has r3 3
  have u4 := free_of_has r3 4
  have RR := Lib.hid r3
  have K3 := Lib.hid (show Keeps (db :: S) w W3 from ((((KB.out.trans K1.out).mono (by simp) : Keeps (db :: S) w W1).trans (K2.out.mono (by simp; exact fun z hz => .inr hz))).trans (k3.mono (by simp))))
  clear b3 k3 x3 r3 RV z1 zf
  go_wp2_with fail
  obtain ⟨v1, v2⟩ := entR_store noE y RR.out
  have rc := cell_of_has v1
  refine bodyPost_ret (v := .tuple #[y.agg, .int .i64 0]) (by simp [results, Tryz.results74, go_sem, Ent.agg, rc]) rfl ⟨rfl, D3.out.keeps v2 (by simp; intro e; exact FX.out.2 (by simp [e])) (fun z hz h => by simp at h; subst h; exact FX.out.2 (by simp [hz])), K3.out.then v2 (fun z hz => by simp at hz; have := NW.out; left; omega)⟩
end Go.Proofs.YtcakdmapnmneoaaGreat
