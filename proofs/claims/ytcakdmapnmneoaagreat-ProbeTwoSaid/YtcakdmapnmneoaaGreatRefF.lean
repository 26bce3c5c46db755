/- The document's machine misses (chapter 8). -/
import Derived.Test.YtcakdmapnmneoaaGreatRefE
namespace Go.Proofs.YtcakdmapnmneoaaGreat
open Go.RowKit
set_option linter.unusedVariables false
set_option linter.unusedSimpArgs false

theorem rlen8_any (db t lo : Nat) (S : List Nat) (m : Option Nat) (d : Dic) (w : World) (H : RDicAt db t lo S m d w) :
    Calls Tryz.prog 41 #[.pointer (some ⟨db, 0, none⟩)] w fun r w' => r = .returned (.int .i64 (liveN d.T.E : Nat)) ∧ w = w' := by
  have y2 : w.cell? ⟨db, 2, none⟩ = some (.pointer (some ⟨t, 0, none⟩)) := cell_has H.b (i := 2) rfl
  obtain ⟨a, c, q, b1, _⟩ := H.t
  have x3 : w.cell? ⟨t, 3, none⟩ = some (.int .i64 (liveN d.T.E : Nat)) := cell_has b1 (i := 3) rfl
  have x2 : w.cell? ⟨t, 2, none⟩ = some (.slice (some ⟨q, 0, none⟩) (2 ^ d.T.L) (2 ^ d.T.L)) := cell_has b1 (i := 2) rfl
  obtain ⟨n, hn⟩ := ex_hid (liveN d.T.E)
  rw [← hn.out] at x3 ⊢
  clear H b1 x2
  go_enter Tryz.func41, Tryz.ntmps41
  go_wp2_with fail
  go_ret
  exact ⟨rfl, rfl⟩
def RMissP (rb db t lo : Nat) (S : List Nat) (m : Option Nat) (c : C4) (d : Dic) (q : Mac) (skp : Value) (kept : Nat) (at_ : Int) (waits same : Bool) (scans : Nat) (w : World) (r : Ending) (w' : World) : Prop :=
  ∃ S', r = .returned (missT d q).agg ∧ RDicAt db t lo S' m (d.miss q) w' ∧ CtrAt m (missC d q c) w' ∧ w'.heap[rb]? = some (rmO db q.g q.h q.k q.v skp kept at_ waits same true (missT d q) scans) ∧ Keeps (rb :: db :: (S ++ mS m)) w w' ∧ Grew S w S'
set_option maxRecDepth 100000 in
set_option maxHeartbeats 4000000 in
theorem rmiss_any (k0 : Nat) (hk : k0 ≤ 1000) (rb db t lo : Nat) (S : List Nat) (m : Option Nat) (c : C4) (d : Dic) (q : Mac) (skp : Value) (kept : Nat) (at_ : Int) (waits same over : Bool) (x : Trn) (scans : Nat) (w : World) (HD : RDicAt db t lo S m d w) (hC : CtrAt m c w) (hm : ∀ b, m = some b → b < lo) (HM : w.heap[rb]? = some (rmO db q.g q.h q.k q.v skp kept at_ waits same over x scans)) (hrb : rb ∉ S) (hn : rb ≠ db) (hlo : lo ≤ rb) (hI : TInv k0 d.T) (hv : d.ver ≤ 1000000) :
    Calls Tryz.prog 110 #[.pointer (some ⟨rb, 0, none⟩)] w (RMissP rb db t lo S m c d q skp kept at_ waits same scans w) := by
  have HI := Lib.hid hI
  have HRB := Lib.hid hrb
  have HN := Lib.hid hn
  have HCC := Lib.hid hC
  have HMM := Lib.hid hm
  have hv0 : (d.ver : Int) ≤ 1000000 := by omega
  have hv1 : (0 : Int) ≤ (d.ver : Int) := by omega
  have LMD := Lib.hid (And.intro (lt_of_block HM) (lt_of_block HD.b))
  have LS := Lib.hid (show ∀ z, z ∈ S → z < w.heap.size from fun z hz => (HD.foot z (by simp [hz])).2)
  have MN := Lib.hid (show rb ∉ mS m ∧ db ∉ mS m from by
    cases m with
    | none => simp [mS]
    | some b => have h1 := hm b rfl; have h2 := HD.l; simp [mS]; omega)
  obtain ⟨lr, hlr⟩ : ∃ lr, lr = w.heap.size := ⟨_, rfl⟩
  have HLR := Lib.hid hlr
  obtain ⟨WA, hWA⟩ : ∃ WA, w.alloc (.cells #[.int .i64 0, .int .i64 0, .bool false, .int .i64 0, .int .i64 0] 75) = WA := ⟨_, rfl⟩
  have kb : Keeps [] w WA := by rw [← hWA]; exact (Keeps.refl [] w).alloc _
  have KB := Lib.hid kb
  have BT := Lib.hid (show WA.heap[lr]? = some (trnO noTrn) by rw [← hWA, hlr]; exact has_new _ _)
  have HWA := Lib.hid hWA
  have DA := Lib.hid (HD.keeps kb (by simp) (by simp))
  have MA := Lib.hid (kb.has HM (by simp))
  have CA := Lib.hid (hC.keeps kb (by simp))
  obtain ⟨gg, hgg⟩ := ex_hid q.g
  obtain ⟨c0, c1, c2, c3, c4, _⟩ := rm_cells MA.out
  rw [← hgg.out] at c1
  have NR := Lib.hid (show lr ≠ rb ∧ lr ≠ db ∧ lr ∉ S from ⟨by have := LMD.out; omega, by have := LMD.out; omega, fun h => by have := LS.out _ h; omega⟩)
  -- what follows ends
  have fin : ∀ (S' : List Nat) (W4 W9 : World), RDicAt db t lo S' m (d.miss q) W4 → CtrAt m (missC d q c) W4 → Keeps (rb :: db :: (S ++ mS m)) w W4 → Grew S w S' → lr ∉ S' → W4.heap[rb]? = some (rmO db q.g q.h q.k q.v skp kept at_ waits same true (missT d q) scans) → Keeps [lr] W4 W9 → RMissP rb db t lo S m c d q skp kept at_ waits same scans w (.returned (missT d q).agg) W9 := fun S' W4 W9 hD hC' hK hG hl hM k9 => by
    refine ⟨S', rfl, hD.keeps k9 (by simp; exact NR.out.2.1.symm) (fun z hz h => by simp at h; subst h; exact hl hz), hC'.keeps k9 (fun b hb h => ?_), k9.has hM (by simp; exact NR.out.1.symm), hK.then k9 (fun z hz => by simp at hz; have := HLR.out; left; omega), hG⟩
    simp at h; subst h
    have := lt_of_block (HCC.out _ hb)
    have := HLR.out
    omega
  have FIN := Lib.hid fin
  have rends : ∀ (W : World) (y : Trn) (wt : Bool), W.heap[rb]? = some (rmO db q.g q.h q.k q.v skp kept at_ waits same over x scans) → Calls Tryz.prog 131 #[.pointer (some ⟨rb, 0, none⟩), y.agg] W fun r w' => r = .returned y.agg ∧ w'.heap[rb]? = some (rmO db q.g q.h q.k q.v skp kept at_ waits same true y scans) ∧ Keeps [rb] W w' := fun W y _ h => rends_any y W h
  have RENDS := Lib.hid rends
  clear HD hC hm HM hlr hWA kb hI hrb hn fin rends
  go_enter Tryz.func110, Tryz.ntmps110
  go_upto_region 1 with (fail)
  rw [HWA.out, ← HLR.out]
  by_cases hg : gg = 1 ∨ gg = 3
  · have HG := Lib.hid (show q.g = 1 ∨ q.g = 3 by rw [← hgg.out]; exact hg)
    have eT : missT d q = ⟨2, 0, false, 0, -1⟩ := by unfold missT; rw [if_pos HG.out]
    have eD : d.miss q = d := by unfold Dic.miss; rw [if_pos HG.out]
    have eC : missC d q c = c := by unfold missC; rw [if_pos HG.out]
    have ET := Lib.hid eT
    have ED := Lib.hid eD
    have EC := Lib.hid eC
    have RE := RENDS.out WA ⟨2, 0, false, 0, -1⟩ true MA.out
    unfold Trn.agg at RE
    simp only at RE
    have hq : ((gg : Int) == 1) = true ∨ (((gg : Int) == 1) = false ∧ ((gg : Int) == 3) = true) := by
      by_cases h : gg = 1
      · left; simp; omega
      · right; simp; omega
    clear eT eD eC hg
    rcases hq with q1 | ⟨q1, q2⟩
    all_goals
      go_wp2_with (go_at_call 131; refine RE.mono ?_; rintro r w4 ⟨rfl, m4, k4⟩; have r4 := k4.has BT.out (by simp; exact NR.out.1); have R4 := Lib.hid r4; have M4 := Lib.hid m4; have K4 := Lib.hid k4; obtain ⟨s0, s1, s2, s3, s4⟩ := trn_cells r4; obtain ⟨u0, u1, u2, u3, u4⟩ := trn_free r4; clear r4 m4 k4)
      obtain ⟨v1, v2⟩ := trn_store noTrn ⟨2, 0, false, 0, -1⟩ R4.out
      have rc := cell_of_has v1
      simp only at rc v2
      refine bodyPost_ret (v := (missT d q).agg) (by rw [ET.out]; simp [results, Tryz.results110, go_sem, Trn.agg, rc]) rfl (FIN.out S _ _ ?_ ?_ ?_ (Grew.refl _ _) NR.out.2.2 (by rw [ET.out]; exact M4.out) v2)
      · rw [ED.out]; exact DA.out.keeps K4.out (by simp; exact HN.out.symm) (fun z hz h => by simp at h; subst h; exact HRB.out hz)
      · rw [EC.out]; exact CA.out.keeps K4.out (fun b hb h => by simp at h; subst h; exact MN.out.1 (by rw [hb]; simp [mS]))
      · exact (KB.out.mono (by simp) : Keeps (rb :: db :: (S ++ mS m)) w WA).trans (K4.out.mono (by simp))
  · have HG := Lib.hid (show ¬ (q.g = 1 ∨ q.g = 3) by rw [← hgg.out]; exact hg)
    have q1 : ((gg : Int) == 1) = false := by simp; omega
    have q2 : ((gg : Int) == 3) = false := by simp; omega
    clear hg
    have y0 : WA.cell? ⟨db, 0, none⟩ = some (.int .i64 d.most) := cell_has DA.out.b (i := 0) rfl
    have y2 : WA.cell? ⟨db, 2, none⟩ = some (.pointer (some ⟨t, 0, none⟩)) := cell_has DA.out.b (i := 2) rfl
    obtain ⟨ln, hln⟩ := ex_hid (liveN d.T.E)
    obtain ⟨mo, hmo⟩ := ex_hid d.most
    rw [← hmo.out] at y0
    go_upto_region 3 with (fail)
    go_region_held3 (fun w' => w'.cell? ⟨rb, 0, none⟩ = some (.pointer (some ⟨db, 0, none⟩)) ∧ w'.cell? ⟨db, 0, none⟩ = some (.int .i64 mo)) (go_keep)
      (first
        | (go_at_call 41; refine (rlen8_any db t lo S m d WA.drew (DA.out.keeps (Keeps.refl [] WA).drew (by simp) (by simp))).mono ?_; rintro r w2 ⟨rfl, rfl⟩; rw [← hln.out]))
    have KD := Lib.hid ((Keeps.refl [] WA).drew)
    obtain ⟨WB, hWB⟩ : ∃ WB, WA.drew = WB := ⟨_, rfl⟩
    rw [hWB] at KD ⊢
    have DB := Lib.hid (DA.out.keeps KD.out (by simp) (by simp))
    have MB := Lib.hid (KD.out.has MA.out (by simp))
    have CB := Lib.hid (CA.out.keeps KD.out (by simp))
    have BB := Lib.hid (KD.out.has BT.out (by simp))
    have KBB := Lib.hid (KB.out.trans KD.out)
    have FU := Lib.hid (show d.full = decide (mo ≤ (ln : Int)) by unfold Dic.full; rw [hmo.out, hln.out])
    clear c0 c1 c2 c3 c4 y0 y2 hWB
    by_cases hf : mo ≤ (ln : Int)
    · have e1 : decide (mo ≤ (ln : Int)) = true := by simpa using hf
      rw [e1]
      have HF := Lib.hid (FU.out.trans e1)
      have ET := Lib.hid (show missT d q = ⟨3, 0, false, 0, 0⟩ by unfold missT; rw [if_neg HG.out, if_pos HF.out])
      have ED := Lib.hid (show d.miss q = d by unfold Dic.miss; rw [if_neg HG.out, if_pos HF.out])
      have EC := Lib.hid (show missC d q c = c by unfold missC; rw [if_neg HG.out, if_pos HF.out])
      have RE := RENDS.out WB ⟨3, 0, false, 0, 0⟩ true MB.out
      unfold Trn.agg at RE
      simp only at RE
      clear hf e1
      go_wp2_with (go_at_call 131; refine RE.mono ?_; rintro r w4 ⟨rfl, m4, k4⟩; have r4 := k4.has BB.out (by simp; exact NR.out.1); have R4 := Lib.hid r4; have M4 := Lib.hid m4; have K4 := Lib.hid k4; obtain ⟨s0, s1, s2, s3, s4⟩ := trn_cells r4; obtain ⟨u0, u1, u2, u3, u4⟩ := trn_free r4; clear r4 m4 k4)
      obtain ⟨v1, v2⟩ := trn_store noTrn ⟨3, 0, false, 0, 0⟩ R4.out
      have rc := cell_of_has v1
      simp only at rc v2
      refine bodyPost_ret (v := (missT d q).agg) (by rw [ET.out]; simp [results, Tryz.results110, go_sem, Trn.agg, rc]) rfl (FIN.out S _ _ ?_ ?_ ?_ (Grew.refl _ _) NR.out.2.2 (by rw [ET.out]; exact M4.out) v2)
      · rw [ED.out]; exact DB.out.keeps K4.out (by simp; exact HN.out.symm) (fun z hz h => by simp at h; subst h; exact HRB.out hz)
      · rw [EC.out]; exact CB.out.keeps K4.out (fun b hb h => by simp at h; subst h; exact MN.out.1 (by rw [hb]; simp [mS]))
      · exact (KBB.out.mono (by simp) : Keeps (rb :: db :: (S ++ mS m)) w WB).trans (K4.out.mono (by simp))
    · have e1 : decide (mo ≤ (ln : Int)) = false := by simpa using hf
      rw [e1]
      have HF := Lib.hid (FU.out.trans e1)
      have ET := Lib.hid (show missT d q = ⟨2, 0, false, q.v, d.T.ready.E.length⟩ by unfold missT; rw [if_neg HG.out, HF.out, if_neg (by simp)])
      have ED := Lib.hid (show d.miss q = { d with T := d.T.add q.h q.k q.v, ver := d.ver + 1 } by unfold Dic.miss; rw [if_neg HG.out, HF.out, if_neg (by simp)])
      have EC := Lib.hid (show missC d q c = if d.T.E.length = d.T.room then c.tab else c by unfold missC; rw [if_neg HG.out, HF.out, if_neg (by simp)])
      obtain ⟨c0, _, c2, c3, c4, _⟩ := rm_cells MB.out
      have y2 : WB.cell? ⟨db, 2, none⟩ = some (.pointer (some ⟨t, 0, none⟩)) := cell_has DB.out.b (i := 2) rfl
      have NA := Lib.hid (show rb ∉ S ++ mS m ∧ db ∉ S ++ mS m from by simp only [List.mem_append, not_or]; exact ⟨⟨HRB.out, MN.out.1⟩, ⟨DB.out.n, MN.out.2⟩⟩)
      obtain ⟨nn, hnn⟩ := ex_hid d.T.ready.E.length
      clear hf e1
      go_upto_region 5 with (fail)
      go_region_held3 (fun w' => w'.cell? ⟨rb, 0, none⟩ = some (.pointer (some ⟨db, 0, none⟩)) ∧ w'.cell? ⟨db, 2, none⟩ = some (.pointer (some ⟨t, 0, none⟩)) ∧ w'.cell? ⟨rb, 2, none⟩ = some (.int .i64 q.h) ∧ w'.cell? ⟨rb, 3, none⟩ = some (.int .i64 q.k) ∧ w'.cell? ⟨rb, 4, none⟩ = some (.int .i64 q.v)) (go_keep)
        (first
          | (go_at_call 132; refine (radd_any k0 hk t lo S m c d.T WB.drew (DB.out.t.keeps (Keeps.refl [] WB).drew (by simp)) (CB.out.keeps (Keeps.refl [] WB).drew (by simp)) HMM.out HI.out q.h q.k q.v).mono ?_; rintro r w2 ⟨S2, rfl, p2, pc2, k2, g2⟩; rw [← hnn.out]; have j0 := k2.cell (w := WB.drew) c0 NA.out.1; have j2 := k2.cell (w := WB.drew) y2 NA.out.2; have j3 := k2.cell (w := WB.drew) c2 NA.out.1; have j4 := k2.cell (w := WB.drew) c3 NA.out.1; have j5 := k2.cell (w := WB.drew) c4 NA.out.1))
      have b2 := k2.has (w := WB.drew) DB.out.b NA.out.2
      have m2 := k2.has (w := WB.drew) MB.out NA.out.1
      have z1 : w2.cell? ⟨db, 1, none⟩ = some (.int .i64 d.ver) := cell_has b2 (i := 1) rfl
      have zf := free_of_has b2 1
      have G2 := Lib.hid (show Grew S w S2 from fun z hz => by
        rcases g2 z hz with h | h
        · exact .inl h
        · have h1 : WB.drew.heap.size = WB.heap.size := rfl
          have := KBB.out.size
          right; omega)
      have LRN := Lib.hid (show lr ∉ S2 ∧ db ∉ S2 ∧ rb ∉ S2 from by
        have hz : ∀ z, z < WB.heap.size → z ∉ S → z ∉ S2 := fun z h1 h2 h3 => by
          rcases g2 z h3 with h | h
          · exact h2 h
          · have h9 : WB.drew.heap.size = WB.heap.size := rfl
            omega
        have h0 := lt_of_block BB.out
        have h1 := lt_of_block DB.out.b
        have h2 := lt_of_block MB.out
        exact ⟨hz lr h0 NR.out.2.2, hz db h1 DB.out.n, hz rb h2 HRB.out⟩)
      have NRS := Lib.hid (show lr ∉ S ++ mS m from by
        simp only [List.mem_append, not_or]
        refine ⟨NR.out.2.2, fun h => ?_⟩
        cases m with
        | none => simp [mS] at h
        | some b => simp [mS] at h; subst h; have := HMM.out _ rfl; have := DB.out.l; have := LMD.out; have := HLR.out; omega)
      have r2 := k2.has (w := WB.drew) BB.out NRS.out
      have B2 := Lib.hid b2
      have M2 := Lib.hid m2
      have P2 := Lib.hid p2
      have PC2 := Lib.hid pc2
      have R2 := Lib.hid r2
      have K2 := Lib.hid (show Keeps (rb :: db :: (S ++ mS m)) w w2 from (KBB.out.mono (by simp) : Keeps (rb :: db :: (S ++ mS m)) w WB).trans (((Keeps.refl (S ++ mS m) WB).drew.trans k2).mono (fun z hz => by simp at hz ⊢; exact .inr (.inr hz))))
      obtain ⟨vr, hvr⟩ := ex_hid d.ver
      rw [← hvr.out] at z1 hv0 hv1
      clear p2 pc2 k2 g2 b2 m2 r2 j3 j4 j5 y2 c0 c2 c3 c4
      go_upto_region 7 with (fail)
      have R := rd_ver B2.out
      rw [show ((d.ver + 1 : Nat) : Int) = (vr : Int) + 1 by rw [hvr.out]; omega] at R
      refine wp_gen (fun V => V.heap[db]? = some (rdicO t d.most (d.ver + 1)) ∧ Keeps [db] w2 V) R ?_
      rintro W3 ⟨b3, k3⟩
      have m3 := k3.has M2.out (by simp; exact HN.out)
      have M3 := Lib.hid m3
      have c4 : W3.cell? ⟨rb, 4, none⟩ = some (.int .i64 q.v) := cell_has m3 (i := 4) rfl
      have D3 := Lib.hid (show RDicAt db t lo S2 m (d.miss q) W3 by rw [ED.out]; exact ⟨b3, P2.out.keeps k3 (fun z hz h => by simp at h; subst h; exact LRN.out.2.1 hz), LRN.out.2.1, DB.out.l⟩)
      have C3 := Lib.hid (show CtrAt m (missC d q c) W3 by rw [EC.out]; exact PC2.out.keeps k3 (fun b hb h => by simp at h; subst h; exact MN.out.2 (by rw [hb]; simp [mS])))
      have R3 := Lib.hid (k3.has R2.out (by simp; exact NR.out.2.1))
      have K3 := Lib.hid (K2.out.trans (k3.mono (by simp)))
      have RE := RENDS.out W3 ⟨2, 0, false, q.v, nn⟩ true M3.out
      unfold Trn.agg at RE
      simp only at RE
      clear b3 k3 m3 z1 zf R j0 j2
      go_wp2_with (go_at_call 131; refine RE.mono ?_; rintro r w4 ⟨rfl, m4, k4⟩; have r4 := k4.has R3.out (by simp; exact NR.out.1); have R4 := Lib.hid r4; have M4 := Lib.hid m4; have K4 := Lib.hid k4; obtain ⟨s0, s1, s2, s3, s4⟩ := trn_cells r4; obtain ⟨u0, u1, u2, u3, u4⟩ := trn_free r4; clear r4 m4 k4)
      obtain ⟨v1, v2⟩ := trn_store noTrn ⟨2, 0, false, q.v, nn⟩ R4.out
      have rc := cell_of_has v1
      simp only at rc v2
      refine bodyPost_ret (v := (missT d q).agg) (by rw [ET.out, ← hnn.out]; simp [results, Tryz.results110, go_sem, Trn.agg, rc]) rfl (FIN.out S2 _ _ ?_ ?_ ?_ G2.out LRN.out.1 (by rw [ET.out, ← hnn.out]; exact M4.out) v2)
      · exact D3.out.keeps K4.out (by simp; exact HN.out.symm) (fun z hz h => by simp at h; subst h; exact LRN.out.2.2 hz)
      · exact C3.out.keeps K4.out (fun b hb h => by simp at h; subst h; exact MN.out.1 (by rw [hb]; simp [mS]))
      · exact K3.out.trans (K4.out.mono (by simp))
end Go.Proofs.YtcakdmapnmneoaaGreat
