/- What a namespace and its family let see of their tables; two sights (chapter 10). -/
import Derived.Test.YtajmfenfajbakaaGreatShOd
import Derived.Test.YtajmfenfajbakaaGreatShN
import Derived.Test.YtajmfenfajbakaaGreatB7
namespace Go.Proofs.YtajmfenfajbakaaGreat
open Go.RowKit
set_option linter.unusedVariables false
set_option linter.unusedSimpArgs false
attribute [local go_sem] meth_rlen meth_rfind meth_rvalue meth_rturn meth_radd meth_rpairs meth_olen meth_ofind meth_ovalue meth_oturn meth_oadd meth_opairs ta_rr ta_ro ta_or ta_oo

set_option maxRecDepth 100000 in
set_option maxHeartbeats 4000000 in
theorem fsight_any (fb t mb lo : Nat) (a : Option Addr) (ST : List Nat) (m : Option Nat) (f : Fam) (w : World) (H : FamAt fb t mb lo a ST m f w) (hL : f.K.L ≤ 20) (hF : Fits (2 ^ f.K.L) f.K.V) (hl : f.K.E.length ≤ 1000000) :
    Calls Tryz.prog 17 #[.pointer (some ⟨fb, 0, none⟩)] w (SightP f.K w) := by
  have HD := Lib.hid H
  have HF := Lib.hid hF
  have k0 : Keeps [] w (w.alloc (.cells #[.int .i64 0, .int .i64 0, .slice none 0 0, .slice none 0 0, .int .i64 0, .int .i64 0, .int .i64 0] 63)) := (Keeps.refl [] w).alloc _
  have K0 := Lib.hid k0
  have b0 : (w.alloc (.cells #[.int .i64 0, .int .i64 0, .slice none 0 0, .slice none 0 0, .int .i64 0, .int .i64 0, .int .i64 0] 63)).heap[w.heap.size]? = some (.cells #[.int .i64 0, .int .i64 0, .slice none 0 0, .slice none 0 0, .int .i64 0, .int .i64 0, .int .i64 0] 63 (0, 0)) := has_new _ _
  have B0 := Lib.hid b0
  clear H hF k0 b0
  obtain ⟨T, hT⟩ := ex_hid f.K
  have HDK := Lib.hid HD.out.k
  rw [← hT.out] at hL HF hl HDK ⊢
  go_enter Tryz.func17, Tryz.ntmps17
  go_wp2_with fail
  refine (fbegin_any fb t mb lo a ST m f _ (HD.out.keeps K0.out (by simp))).mono ?_
  rintro r w1 ⟨rfl, rfl⟩
  obtain ⟨cN, q1, _⟩ := HD.out.b
  have e3 := K0.out.cell (cell_has q1 (i := 3) rfl) (by simp)
  clear q1
  go_wp2_with fail
  refine (sight_any t lo ST (mV m) T _ (HDK.out.keeps K0.out (by simp)) hL HF.out hl).mono ?_
  rintro r w2 ⟨ca, cc, ea, ec, rfl, g1, g2, b2⟩
  have b3 := (Below.keeps b2 []).has B0.out (by simp)
  have G1 := Lib.hid g1
  have G2 := Lib.hid g2
  have K2 := Lib.hid (Below.keeps b2 [])
  have c0 := cell_has b3 (i := 0) rfl
  have c1 := cell_has b3 (i := 1) rfl
  have c2 := cell_has b3 (i := 2) rfl
  have c3 := cell_has b3 (i := 3) rfl
  have c4 := cell_has b3 (i := 4) rfl
  have c5 := cell_has b3 (i := 5) rfl
  have c6 := cell_has b3 (i := 6) rfl
  have f0 := free_of_has b3 0
  have f1 := free_of_has b3 1
  have f2 := free_of_has b3 2
  have f3 := free_of_has b3 3
  have f4 := free_of_has b3 4
  have f5 := free_of_has b3 5
  have f6 := free_of_has b3 6
  have B3 := Lib.hid b3
  obtain ⟨en, hen⟩ := ex_hid T.E.length
  obtain ⟨cn, hcn⟩ := ex_hid (2 ^ T.L)
  rw [← hen.out, ← hcn.out]
  unfold sightAgg
  clear g1 g2 b2 b3
  go_wp2_with fail
  have s1 := sight_store T (.slice ca cn cc) (.slice ea en ec) B3.out
  have rc := cell_of_has s1
  have k9 : Keeps [w.heap.size] w2 (((((((w2.setCell ⟨w.heap.size, 0, none⟩ (.int .i64 T.L)).setCell ⟨w.heap.size, 1, none⟩ (.int .i64 (wdOf T.L))).setCell ⟨w.heap.size, 2, none⟩ (.slice ca cn cc)).setCell ⟨w.heap.size, 3, none⟩ (.slice ea en ec)).setCell ⟨w.heap.size, 4, none⟩ (.int .i64 (liveN T.E : Nat))).setCell ⟨w.heap.size, 5, none⟩ (.int .i64 T.births)).setCell ⟨w.heap.size, 6, none⟩ (.int .i64 T.made)) := (((((((Keeps.refl _ _).setCell (.inr (by simp)) _).setCell (.inr (by simp)) _).setCell (.inr (by simp)) _).setCell (.inr (by simp)) _).setCell (.inr (by simp)) _).setCell (.inr (by simp)) _).setCell (.inr (by simp)) _
  refine bodyPost_ret (v := sightAgg T (.slice ca cn cc) (.slice ea en ec)) (by simp [results, Tryz.results17, go_sem, rc, sightAgg]) rfl ⟨ca, cc, ea, ec, by rw [hen.out, hcn.out], ?_, ?_, ?_⟩
  · have h9 := G1.out
    simp only [World.size_alloc] at h9
    exact (h9.keeps k9 (fun x hx => by have := (h9.blk_lt x hx).1; simp; omega)).mono (by omega)
  · have h9 := G2.out
    simp only [World.size_alloc] at h9
    exact (h9.keeps k9 (fun x hx => by have := (h9.blk_lt x hx).1; simp; omega)).lift (fun x hx => by have := (h9.blk_lt x hx).1; omega)
  · exact ((K0.out.trans K2.out).then k9 (S := []) (by intro z hz; simp at hz; left; omega)).below (Nat.le_refl _) (by simp)
set_option maxRecDepth 100000 in
set_option maxHeartbeats 4000000 in
theorem ssight_own (sb fb ob t lo : Nat) (S : List Nat) (m : Option Nat) (T : Tab) (ver : Int) (w : World) (hsb : w.heap[sb]? = some (spO fb (wayO ob) ver)) (H : OwnAt ob t lo S m T w) (hL : T.L ≤ 20) (hF : Fits (2 ^ T.L) T.V) (hl : T.E.length ≤ 1000000) :
    Calls Tryz.prog 39 #[.pointer (some ⟨sb, 0, none⟩)] w (SightP T w) := by
  have HD := Lib.hid H
  have c1 : w.cell? ⟨sb, 1, none⟩ = some (.iface 128 (.pointer (some ⟨ob, 0, none⟩))) := cell_has hsb (i := 1) rfl
  have HS := Lib.hid hsb
  have HF := Lib.hid hF
  have k0 : Keeps [] w (w.alloc (.cells #[.int .i64 0, .int .i64 0, .slice none 0 0, .slice none 0 0, .int .i64 0, .int .i64 0, .int .i64 0] 63)) := (Keeps.refl [] w).alloc _
  have K0 := Lib.hid k0
  have b0 : (w.alloc (.cells #[.int .i64 0, .int .i64 0, .slice none 0 0, .slice none 0 0, .int .i64 0, .int .i64 0, .int .i64 0] 63)).heap[w.heap.size]? = some (.cells #[.int .i64 0, .int .i64 0, .slice none 0 0, .slice none 0 0, .int .i64 0, .int .i64 0, .int .i64 0] 63 (0, 0)) := has_new _ _
  have B0 := Lib.hid b0
  have e1 := K0.out.cell c1 (by simp)
  have e2 := K0.out.cell H.cell (by simp)
  have HDK := Lib.hid H.k
  clear H hF k0 b0 c1 hsb
  go_enter Tryz.func39, Tryz.ntmps39
  go_wp2_with fail
  refine (snone_any sb fb _ ver _ (K0.out.has HS.out (by simp))).mono ?_
  rintro r w1 ⟨rfl, rfl⟩
  go_wp2_with fail
  refine (sight_any t lo S (mV m) T _ (HDK.out.keeps K0.out (by simp)) hL HF.out hl).mono ?_
  rintro r w2 ⟨ca, cc, ea, ec, rfl, g1, g2, b2⟩
  have b3 := (Below.keeps b2 []).has B0.out (by simp)
  have G1 := Lib.hid g1
  have G2 := Lib.hid g2
  have K2 := Lib.hid (Below.keeps b2 [])
  have c0 := cell_has b3 (i := 0) rfl
  have c1 := cell_has b3 (i := 1) rfl
  have c2 := cell_has b3 (i := 2) rfl
  have c3 := cell_has b3 (i := 3) rfl
  have c4 := cell_has b3 (i := 4) rfl
  have c5 := cell_has b3 (i := 5) rfl
  have c6 := cell_has b3 (i := 6) rfl
  have f0 := free_of_has b3 0
  have f1 := free_of_has b3 1
  have f2 := free_of_has b3 2
  have f3 := free_of_has b3 3
  have f4 := free_of_has b3 4
  have f5 := free_of_has b3 5
  have f6 := free_of_has b3 6
  have B3 := Lib.hid b3
  obtain ⟨en, hen⟩ := ex_hid T.E.length
  obtain ⟨cn, hcn⟩ := ex_hid (2 ^ T.L)
  rw [← hen.out, ← hcn.out]
  unfold sightAgg
  clear g1 g2 b2 b3
  go_wp2_with fail
  have s1 := sight_store T (.slice ca cn cc) (.slice ea en ec) B3.out
  have rc := cell_of_has s1
  have k9 : Keeps [w.heap.size] w2 (((((((w2.setCell ⟨w.heap.size, 0, none⟩ (.int .i64 T.L)).setCell ⟨w.heap.size, 1, none⟩ (.int .i64 (wdOf T.L))).setCell ⟨w.heap.size, 2, none⟩ (.slice ca cn cc)).setCell ⟨w.heap.size, 3, none⟩ (.slice ea en ec)).setCell ⟨w.heap.size, 4, none⟩ (.int .i64 (liveN T.E : Nat))).setCell ⟨w.heap.size, 5, none⟩ (.int .i64 T.births)).setCell ⟨w.heap.size, 6, none⟩ (.int .i64 T.made)) := (((((((Keeps.refl _ _).setCell (.inr (by simp)) _).setCell (.inr (by simp)) _).setCell (.inr (by simp)) _).setCell (.inr (by simp)) _).setCell (.inr (by simp)) _).setCell (.inr (by simp)) _).setCell (.inr (by simp)) _
  refine bodyPost_ret (v := sightAgg T (.slice ca cn cc) (.slice ea en ec)) (by simp [results, Tryz.results39, go_sem, rc, sightAgg]) rfl ⟨ca, cc, ea, ec, by rw [hen.out, hcn.out], ?_, ?_, ?_⟩
  · have h9 := G1.out
    simp only [World.size_alloc] at h9
    exact (h9.keeps k9 (fun x hx => by have := (h9.blk_lt x hx).1; simp; omega)).mono (by omega)
  · have h9 := G2.out
    simp only [World.size_alloc] at h9
    exact (h9.keeps k9 (fun x hx => by have := (h9.blk_lt x hx).1; simp; omega)).lift (fun x hx => by have := (h9.blk_lt x hx).1; omega)
  · exact ((K0.out.trans K2.out).then k9 (S := []) (by intro z hz; simp at hz; left; omega)).below (Nat.le_refl _) (by simp)
set_option maxRecDepth 100000 in
theorem ssight_row (sb fb rb : Nat) (ver : Int) (w : World) (hsb : w.heap[sb]? = some (spO fb (wayR rb) ver)) :
    Calls Tryz.prog 39 #[.pointer (some ⟨sb, 0, none⟩)] w fun r w' => r = .returned noSight ∧ Keeps [] w w' := by
  have c1 : w.cell? ⟨sb, 1, none⟩ = some (.iface 107 (.pointer (some ⟨rb, 0, none⟩))) := cell_has hsb (i := 1) rfl
  have HS := Lib.hid hsb
  have k0 : Keeps [] w (w.alloc (.cells #[.int .i64 0, .int .i64 0, .slice none 0 0, .slice none 0 0, .int .i64 0, .int .i64 0, .int .i64 0] 63)) := (Keeps.refl [] w).alloc _
  have e1 := k0.cell c1 (by simp)
  have K0 := Lib.hid k0
  clear c1 hsb k0
  go_enter Tryz.func39, Tryz.ntmps39
  go_wp2_with fail
  refine (snone_any sb fb _ ver _ (K0.out.has HS.out (by simp))).mono ?_
  rintro r w1 ⟨rfl, rfl⟩
  go_wp2_with fail
  exact bodyPost_ret (v := noSight) (by simp [results, Tryz.results39, go_sem, noSight]) rfl ⟨rfl, K0.out⟩
end Go.Proofs.YtajmfenfajbakaaGreat
