/- The document's machine steps (chapter 8). -/
import Derived.Test.YtcakdmapnmneoaaGreatRefF
namespace Go.Proofs.YtcakdmapnmneoaaGreat
open Go.RowKit
set_option linter.unusedVariables false
set_option linter.unusedSimpArgs false

/-- Behind a Step. -/
def RStepP (rb kb db t lo : Nat) (S : List Nat) (m : Option Nat) (c : C4) (d : Dic) (q : Mac) (w : World) (r : Ending) (w' : World) : Prop :=
  ∃ S' kb', r = .returned (stepM d q).turn.agg ∧ RDicAt db t lo S' m (stepD d q) w' ∧ CtrAt m (stepC d q c) w' ∧ RMacAt rb kb' db t (stepM d q) w' ∧ Keeps (rb :: db :: (skS q.st kb ++ S ++ mS m)) w w' ∧ Grew S w S' ∧ ((kb' = kb ∧ q.st ≠ 0) ∨ w.heap.size ≤ kb') ∧ ((stepM d q).st ≠ 0 → kb' ∉ S' ∧ kb' ≠ rb ∧ kb' ≠ db)
set_option maxRecDepth 100000 in
set_option maxHeartbeats 4000000 in
theorem rstep_done (rb kb db t lo : Nat) (S : List Nat) (m : Option Nat) (c : C4) (d : Dic) (q : Mac) (w : World) (HD : RDicAt db t lo S m d w) (hC : CtrAt m c w) (HQ : RMacAt rb kb db t q w) (hkb : q.st ≠ 0 → kb ∉ S ∧ kb ≠ rb ∧ kb ≠ db ∧ kb ∉ mS m) (hst : q.st = 4 ∨ q.st = 2) :
    Calls Tryz.prog 66 #[.pointer (some ⟨rb, 0, none⟩)] w (RStepP rb kb db t lo S m c d q w) := by
  obtain ⟨at_, same, hb, hat, hsm, hsk⟩ := HQ
  have hs0 : q.st ≠ 0 := by omega
  have eM : stepM d q = q := by unfold stepM; rw [if_pos hst]
  have eD : stepD d q = d := by unfold stepD; rw [if_pos hst]
  have eC : stepC d q c = c := by unfold stepC; rw [if_pos hst]
  obtain ⟨lr, hlr⟩ : ∃ lr, lr = w.heap.size := ⟨_, rfl⟩
  have HLR := Lib.hid hlr
  obtain ⟨WA, hWA⟩ : ∃ WA, w.alloc (.cells #[.int .i64 0, .int .i64 0, .bool false, .int .i64 0, .int .i64 0] 75) = WA := ⟨_, rfl⟩
  have kb0 : Keeps [] w WA := by rw [← hWA]; exact (Keeps.refl [] w).alloc _
  have BT := Lib.hid (show WA.heap[lr]? = some (trnO noTrn) by rw [← hWA, hlr]; exact has_new _ _)
  have HWA := Lib.hid hWA
  have MA := Lib.hid (kb0.has hb (by simp))
  have hlb := lt_of_block hb
  have fin : ∀ W9 : World, Keeps [lr] WA W9 → RStepP rb kb db t lo S m c d q w (.returned q.turn.agg) W9 := fun W9 k9 => by
    have k8 : Keeps [] w W9 := kb0.then k9 (fun z hz => by simp at hz; have := HLR.out; left; omega)
    refine ⟨S, kb, by rw [eM], by rw [eD]; exact HD.keeps k8 (by simp) (by simp), by rw [eC]; exact hC.keeps k8 (by simp), ?_, k8.mono (by simp), Grew.refl _ _, .inl ⟨rfl, hs0⟩, fun _ => ⟨(hkb hs0).1, (hkb hs0).2.1, (hkb hs0).2.2.1⟩⟩
    rw [eM]
    exact ⟨at_, same, k8.has hb (by simp), hat, hsm, fun h => (hsk h).keeps k8 (by simp)⟩
  have FIN := Lib.hid fin
  obtain ⟨_, _, _, _, _, _, _, _, c8, _, c10, c11, c12, c13, c14, c15, _⟩ := rm_cells MA.out
  obtain ⟨t0, t1, t2, t3, t4⟩ := trn_cells BT.out
  obtain ⟨u0, u1, u2, u3, u4⟩ := trn_free BT.out
  have hst' := hst
  clear HD hC hb hat hsm hsk hs0 eM eD eC hlr hWA kb0 fin hlb hkb hst
  rcases hst' with h | h
  · rw [show (q.st == 4) = true by simp; omega] at c10
    clear h
    go_enter Tryz.func66, Tryz.ntmps66
    go_upto_region 1 with (fail)
    rw [HWA.out, ← HLR.out]
    go_wp2_with fail
    obtain ⟨s1, s2⟩ := trn_store noTrn q.turn BT.out
    have rc := cell_of_has s1
    exact bodyPost_ret (v := q.turn.agg) (by simp [results, Tryz.results66, go_sem, Trn.agg, rc]) rfl (FIN.out _ s2)
  · rw [show (q.st == 4) = false by simp; omega] at c10
    rw [show (q.st == 2) = true by simp; omega] at c8
    clear h
    go_enter Tryz.func66, Tryz.ntmps66
    go_upto_region 1 with (fail)
    rw [HWA.out, ← HLR.out]
    go_wp2_with fail
    obtain ⟨s1, s2⟩ := trn_store noTrn q.turn BT.out
    have rc := cell_of_has s1
    exact bodyPost_ret (v := q.turn.agg) (by simp [results, Tryz.results66, go_sem, Trn.agg, rc]) rfl (FIN.out _ s2)
theorem Mac.fresh_not {q : Mac} {d : Dic} (h : q.fresh d = false) : q.st ≠ 0 ∧ q.ver = d.ver := by unfold Mac.fresh at h; simp at h; exact h
set_option maxRecDepth 100000 in
set_option maxHeartbeats 4000000 in
theorem rstep_hit (k : Nat) (hk : k ≤ 990) (rb kb db t lo : Nat) (S : List Nat) (m : Option Nat) (c : C4) (d : Dic) (q : Mac) (w : World) (HD : RDicAt db t lo S m d w) (hC : CtrAt m c w) (hm : ∀ b, m = some b → b < lo) (HQ : RMacAt rb kb db t q w) (hrb : rb ∉ S) (hn : rb ≠ db) (hlo : lo ≤ rb) (hkb : q.st ≠ 0 → kb ∉ S ∧ kb ≠ rb ∧ kb ≠ db ∧ kb ∉ mS m) (hI : DicOk k d) (hO : MacOk d q) (hst : q.st = 3) (hf : q.fresh d = false) :
    Calls Tryz.prog 66 #[.pointer (some ⟨rb, 0, none⟩)] w (RStepP rb kb db t lo S m c d q w) := by
  obtain ⟨at_, same, hb, hat, hsm, hsk⟩ := HQ
  obtain ⟨h0, hver⟩ := Mac.fresh_not hf
  obtain ⟨y, hy⟩ := hO.ent (.inr hst) hver
  have eat := hat (.inr hst)
  subst eat
  have esm : same = true := by rw [hsm (by omega)]; simp; omega
  subst esm
  have hyat : d.at_ q.ent = y := Dic.at_of hy
  have n2 : ¬ (q.st = 4 ∨ q.st = 2) := by omega
  have eM : stepM d q = q.done (hitT y q.ent) := by unfold stepM; rw [if_neg n2, if_neg (by rw [hf]; simp), if_pos hst, hyat]
  have eD : stepD d q = d.hit q q.ent := by unfold stepD; rw [if_neg n2, if_neg (by rw [hf]; simp), if_pos hst]
  have eC : stepC d q c = c := by unfold stepC; rw [if_neg n2, if_neg (by rw [hf]; simp), if_pos hst]
  rw [show (q.st == 4) = false by simp; omega, show (q.st == 2) = false by simp; omega] at hb
  obtain ⟨lr, hlr⟩ : ∃ lr, lr = w.heap.size := ⟨_, rfl⟩
  have HLR := Lib.hid hlr
  obtain ⟨WA, hWA⟩ : ∃ WA, w.alloc (.cells #[.int .i64 0, .int .i64 0, .bool false, .int .i64 0, .int .i64 0] 75) = WA := ⟨_, rfl⟩
  have kb0 : Keeps [] w WA := by rw [← hWA]; exact (Keeps.refl [] w).alloc _
  have BT := Lib.hid (show WA.heap[lr]? = some (trnO noTrn) by rw [← hWA, hlr]; exact has_new _ _)
  have HWA := Lib.hid hWA
  have MA := Lib.hid (kb0.has hb (by simp))
  have DA := Lib.hid (HD.keeps kb0 (by simp) (by simp))
  have l1 := lt_of_block hb
  have l2 := lt_of_block HD.b
  have LS := Lib.hid (show ∀ z, z ∈ S → z < w.heap.size from fun z hz => (HD.foot z (by simp [hz])).2)
  have LRN := Lib.hid (show lr ∉ rb :: db :: S from fun h => by
    simp only [List.mem_cons] at h
    rcases h with h | h | h
    · omega
    · omega
    · have := LS.out _ h; omega)
  have fin : ∀ W4 W9 : World, RDicAt db t lo S m (d.hit q q.ent) W4 → W4.heap[rb]? = some (rmO db q.g q.h q.k q.v (skV q.st kb) q.ver q.ent false true true (hitT y q.ent) q.scans) → Keeps (rb :: db :: S) WA W4 → Keeps [lr] W4 W9 → RStepP rb kb db t lo S m c d q w (.returned (hitT y q.ent).agg) W9 := fun W4 W9 hD hM k4 k9 => by
    have K4 : Keeps (rb :: db :: S) w W4 := (kb0.mono (by simp) : Keeps (rb :: db :: S) w WA).trans k4
    have K9 : Keeps (rb :: db :: S) w W9 := K4.then k9 (fun z hz => by simp at hz; left; omega)
    have hmf : ∀ b, m = some b → b ∉ rb :: db :: S := fun b hb h => by
      have h1 := hm b hb
      simp only [List.mem_cons] at h
      have := HD.l
      rcases h with h | h | h
      · omega
      · omega
      · have := (HD.t.foot b h).1; omega
    refine ⟨S, kb, by rw [eM]; rfl, ?_, ?_, ?_, K9.mono (fun z hz => by simp at hz ⊢; rcases hz with h | h | h <;> simp [h]), Grew.refl _ _, .inl ⟨rfl, h0⟩, fun _ => ⟨(hkb h0).1, (hkb h0).2.1, (hkb h0).2.2.1⟩⟩
    · rw [eD]; exact hD.keeps k9 (by simp; intro e; exact LRN.out (by simp [e])) (fun z hz h => by simp at h; subst h; exact LRN.out (by simp [hz]))
    · rw [eC]; exact hC.keeps K9 hmf
    · rw [eM]
      refine ⟨q.ent, true, ?_, (fun h => by rcases h with h | h <;> cases h), fun h => absurd rfl h, fun _ => ?_⟩
      · have h9 := k9.has hM (by simp; intro e; exact LRN.out (by simp [e]))
        have e5 : skV q.st kb = skV (4 : Nat) kb := by unfold skV; rw [if_neg h0]; rfl
        rw [e5] at h9
        exact h9
      · exact (hsk h0).keeps K9 (by simp; exact ⟨(hkb h0).2.1, (hkb h0).2.2.1, (hkb h0).1⟩)
  have FIN := Lib.hid fin
  obtain ⟨c0, _, _, _, _, c5, c6, _, c8, c9, c10, _⟩ := rm_cells MA.out
  have y1 : WA.cell? ⟨db, 1, none⟩ = some (.int .i64 d.ver) := cell_has DA.out.b (i := 1) rfl
  have e5 : skV q.st kb = .pointer (some ⟨kb, 0, none⟩) := by unfold skV; rw [if_neg h0]
  rw [e5] at c5
  rw [hver] at c6
  obtain ⟨vr, hvr⟩ := ex_hid d.ver
  rw [← hvr.out] at c6 y1
  have ev : ((vr : Int) != (vr : Int)) = false := by simp
  have HIT := Lib.hid (fun (W : World) (hD : RDicAt db t lo S m d W) (hM : W.heap[rb]? = some (rmO db q.g q.h q.k q.v (skV q.st kb) q.ver q.ent false true false q.turn q.scans)) => rhit_any k (by omega) rb db t lo S m d q (skV q.st kb) q.ver q.ent false true false q.turn q.scans y W hD hM hrb hn hI.t (by have := hI.v; omega) hy)
  clear HD hC hm hb hat hsm hsk eM eD eC hlr hWA kb0 fin l1 l2 hrb hn hkb hI hO hst hf n2 h0 hver hy hyat e5
  go_enter Tryz.func66, Tryz.ntmps66
  go_upto_region 1 with (fail)
  rw [HWA.out, ← HLR.out]
  go_upto_region 3 with (fail)
  refine wp_regionG (fun w' => w'.cell? ⟨rb, 5, none⟩ = some (.pointer (some ⟨kb, 0, none⟩)) ∧ w'.cell? ⟨rb, 0, none⟩ = some (.pointer (some ⟨db, 0, none⟩)) ∧ w'.cell? ⟨db, 1, none⟩ = some (.int .i64 vr) ∧ w'.cell? ⟨rb, 6, none⟩ = some (.int .i64 vr)) 19 (by kernel_rfl) ⟨c5, c0, y1, c6⟩ (fun hF => ?_)
  refine wpAnyG_takeY (i := 0) (v := ?_) rfl (by kernel_rfl) (by decide +kernel) (by decide +kernel) (by decide +kernel) (fun _ _ _ h => h) (by kernel_rfl) ?_ (by assumption) ?_
  rotate_left
  · (intro wz; go_simp; with_reducible rfl)
  try simp only [Act.put, List.setIfInBounds_toArray, List.set_cons_zero, List.set_cons_succ]
  refine wpAnyG_takeY (i := 1) (v := ?_) rfl (by kernel_rfl) (by decide +kernel) (by decide +kernel) (by decide +kernel) (fun _ _ _ h => h) (by kernel_rfl) ?_ (by assumption) ?_
  rotate_left
  · (intro wz; go_simp; with_reducible rfl)
  try simp only [Act.put, List.setIfInBounds_toArray, List.set_cons_zero, List.set_cons_succ]
  refine wpAnyG_takeY (i := 2) (v := ?_) rfl (by kernel_rfl) (by decide +kernel) (by decide +kernel) (by decide +kernel) (fun _ _ _ h => h) (by kernel_rfl) ?_ (by assumption) ?_
  rotate_left
  · (intro wz; go_simp; with_reducible rfl)
  try simp only [Act.put, List.setIfInBounds_toArray, List.set_cons_zero, List.set_cons_succ]
  refine wpAnyG_take (i := 3) (v := ?_) rfl (by kernel_rfl) (by decide +kernel) (by decide +kernel) (by decide +kernel) (by decide +kernel) (by rfl) (fun _ _ _ h => h) (by kernel_rfl) ?_ (by assumption) ?_
  rotate_left
  · (intro wz hSw; (try dsimp only at hSw); go_simp; with_reducible rfl)
  try simp only [Act.put, List.setIfInBounds_toArray, List.set_cons_zero, List.set_cons_succ]
  refine wpAnyG_takeY (i := 4) (v := ?_) rfl (by kernel_rfl) (by decide +kernel) (by decide +kernel) (by decide +kernel) (fun _ _ _ h => h) (by kernel_rfl) ?_ (by assumption) ?_
  rotate_left
  · (intro wz; go_simp; with_reducible rfl)
  try simp only [Act.put, List.setIfInBounds_toArray, List.set_cons_zero, List.set_cons_succ]
  refine wpAnyG_takeY (i := 5) (v := ?_) rfl (by kernel_rfl) (by decide +kernel) (by decide +kernel) (by decide +kernel) (fun _ _ _ h => h) (by kernel_rfl) ?_ (by assumption) ?_
  rotate_left
  · (intro wz; go_simp; with_reducible rfl)
  try simp only [Act.put, List.setIfInBounds_toArray, List.set_cons_zero, List.set_cons_succ]
  refine wpAnyG_takeY (i := 6) (v := ?_) rfl (by kernel_rfl) (by decide +kernel) (by decide +kernel) (by decide +kernel) (fun _ _ _ h => h) (by kernel_rfl) ?_ (by assumption) ?_
  rotate_left
  · (intro wz; go_simp; with_reducible rfl)
  try simp only [Act.put, List.setIfInBounds_toArray, List.set_cons_zero, List.set_cons_succ]
  refine wpAnyG_takeY (i := 7) (v := ?_) rfl (by kernel_rfl) (by decide +kernel) (by decide +kernel) (by decide +kernel) (fun _ _ _ h => h) (by kernel_rfl) ?_ (by assumption) ?_
  rotate_left
  · (intro wz; go_simp; with_reducible rfl)
  try simp only [Act.put, List.setIfInBounds_toArray, List.set_cons_zero, List.set_cons_succ]
  refine wpAnyG_takeY (i := 8) (v := ?_) rfl (by kernel_rfl) (by decide +kernel) (by decide +kernel) (by decide +kernel) (fun _ _ _ h => h) (by kernel_rfl) ?_ (by assumption) ?_
  rotate_left
  · (intro wz; go_simp; with_reducible rfl)
  try simp only [Act.put, List.setIfInBounds_toArray, List.set_cons_zero, List.set_cons_succ]
  refine wpAnyG_take (i := 9) (v := ?_) rfl (by kernel_rfl) (by decide +kernel) (by decide +kernel) (by decide +kernel) (by decide +kernel) (by rfl) (fun _ _ _ h => h) (by kernel_rfl) ?_ (by assumption) ?_
  rotate_left
  · (intro wz hSw; (try dsimp only at hSw); go_simp; with_reducible rfl)
  try simp only [Act.put, List.setIfInBounds_toArray, List.set_cons_zero, List.set_cons_succ]
  refine wpAnyG_takeY (i := 10) (v := ?_) rfl (by kernel_rfl) (by decide +kernel) (by decide +kernel) (by decide +kernel) (fun _ _ _ h => h) (by kernel_rfl) ?_ (by assumption) ?_
  rotate_left
  · (intro wz; go_simp; with_reducible rfl)
  try simp only [Act.put, List.setIfInBounds_toArray, List.set_cons_zero, List.set_cons_succ]
  refine wpAnyG_takeY (i := 11) (v := ?_) rfl (by kernel_rfl) (by decide +kernel) (by decide +kernel) (by decide +kernel) (fun _ _ _ h => h) (by kernel_rfl) ?_ (by assumption) ?_
  rotate_left
  · (intro wz; go_simp; with_reducible rfl)
  try simp only [Act.put, List.setIfInBounds_toArray, List.set_cons_zero, List.set_cons_succ]
  refine wpAnyG_take (i := 12) (v := ?_) rfl (by kernel_rfl) (by decide +kernel) (by decide +kernel) (by decide +kernel) (by decide +kernel) (by rfl) (fun _ _ _ h => h) (by kernel_rfl) ?_ (by assumption) ?_
  rotate_left
  · (intro wz hSw; (try dsimp only at hSw); go_simp; with_reducible rfl)
  try simp only [Act.put, List.setIfInBounds_toArray, List.set_cons_zero, List.set_cons_succ]
  refine wpAnyG_takeY (i := 13) (v := ?_) rfl (by kernel_rfl) (by decide +kernel) (by decide +kernel) (by decide +kernel) (fun _ _ _ h => h) (by kernel_rfl) ?_ (by assumption) ?_
  rotate_left
  · (intro wz; go_simp; with_reducible rfl)
  try simp only [Act.put, List.setIfInBounds_toArray, List.set_cons_zero, List.set_cons_succ]
  refine wpAnyG_takeY (i := 14) (v := ?_) rfl (by kernel_rfl) (by decide +kernel) (by decide +kernel) (by decide +kernel) (fun _ _ _ h => h) (by kernel_rfl) ?_ (by assumption) ?_
  rotate_left
  · (intro wz; go_simp; with_reducible rfl)
  try simp only [Act.put, List.setIfInBounds_toArray, List.set_cons_zero, List.set_cons_succ]
  refine wpAnyG_takeY (i := 15) (v := ?_) rfl (by kernel_rfl) (by decide +kernel) (by decide +kernel) (by decide +kernel) (fun _ _ _ h => h) (by kernel_rfl) ?_ (by assumption) ?_
  rotate_left
  · (intro wz; go_simp; with_reducible rfl)
  try simp only [Act.put, List.setIfInBounds_toArray, List.set_cons_zero, List.set_cons_succ]
  refine wpAnyG_take (i := 16) (v := ?_) rfl (by kernel_rfl) (by decide +kernel) (by decide +kernel) (by decide +kernel) (by decide +kernel) (by rfl) (fun _ _ _ h => h) (by kernel_rfl) ?_ (by assumption) ?_
  rotate_left
  · (intro wz hSw; (try dsimp only at hSw); go_simp; with_reducible rfl)
  try simp only [Act.put, List.setIfInBounds_toArray, List.set_cons_zero, List.set_cons_succ]
  refine wpAnyG_takeY (i := 17) (v := ?_) rfl (by kernel_rfl) (by decide +kernel) (by decide +kernel) (by decide +kernel) (fun _ _ _ h => h) (by kernel_rfl) ?_ (by assumption) ?_
  rotate_left
  · (intro wz; go_simp; with_reducible rfl)
  try simp only [Act.put, List.setIfInBounds_toArray, List.set_cons_zero, List.set_cons_succ]
  refine wpAnyG_takeY (i := 18) (v := ?_) rfl (by kernel_rfl) (by decide +kernel) (by decide +kernel) (by decide +kernel) (fun _ _ _ h => h) (by kernel_rfl) ?_ (by assumption) ?_
  rotate_left
  · (intro wz; go_simp; with_reducible rfl)
  try simp only [Act.put, List.setIfInBounds_toArray, List.set_cons_zero, List.set_cons_succ]
  refine wpAnyG_done (by kernel_rfl) ?_ _
  go_simp
  clear hF
  have KD := Lib.hid ((Keeps.refl [] WA).drew)
  obtain ⟨WB, hWB⟩ : ∃ WB, WA.drew = WB := ⟨_, rfl⟩
  rw [hWB] at KD ⊢
  have d9 := KD.out.cell c9 (by simp)
  have HB := HIT.out WB (DA.out.keeps KD.out (by simp) (by simp)) (KD.out.has MA.out (by simp))
  clear hWB
  go_wp2_with (go_at_call 108; refine HB.mono ?_; rintro r w4 ⟨rfl, d4, m4, k4⟩; have r4 := (KD.out.has BT.out (by simp)); have r5 := k4.has r4 LRN.out; have R4 := Lib.hid r5; have D4 := Lib.hid d4; have M4 := Lib.hid m4; have K4 := Lib.hid k4; obtain ⟨s0, s1, s2, s3, s4⟩ := trn_cells r5; obtain ⟨u0, u1, u2, u3, u4⟩ := trn_free r5; clear r4 r5 m4 k4 d4; unfold Trn.agg hitT)
  obtain ⟨v1, v2⟩ := trn_store noTrn (hitT y q.ent) R4.out
  unfold hitT at v1 v2
  have rc := cell_of_has v1
  simp only at rc v2
  exact bodyPost_ret (v := (hitT y q.ent).agg) (by simp [results, Tryz.results66, go_sem, Trn.agg, hitT, rc]) rfl (FIN.out _ _ D4.out M4.out ((KD.out.mono (by simp) : Keeps (rb :: db :: S) WA WB).trans K4.out) v2)
end Go.Proofs.YtcakdmapnmneoaaGreat
