/- The document's machine goes along a trail (chapter 8). -/
import Derived.Test.YtcakdmapnmneoaaGreatRefG
namespace Go.Proofs.YtcakdmapnmneoaaGreat
open Go.RowKit
set_option linter.unusedVariables false
set_option linter.unusedSimpArgs false

section
variable {W : World} {rb db g : Nat} {h k v : Int} {skp : Value} {kept : Nat} {at_ : Int} {waits same over : Bool} {x : Trn} {scans : Nat}
theorem rm_anew (kb : Nat) (ver : Nat) (H : W.heap[rb]? = some (rmO db g h k v skp kept at_ waits same over x scans)) :
    ((((W.setCell ⟨rb, 5, none⟩ (.pointer (some ⟨kb, 0, none⟩))).setCell ⟨rb, 6, none⟩ (.int .i64 ver)).setCell ⟨rb, 16, none⟩ (.int .i64 ((scans : Int) + 1))).setCell ⟨rb, 9, none⟩ (.bool false)).heap[rb]? = some (rmO db g h k v (.pointer (some ⟨kb, 0, none⟩)) ver at_ waits false over x (scans + 1)) ∧
    Keeps [rb] W ((((W.setCell ⟨rb, 5, none⟩ (.pointer (some ⟨kb, 0, none⟩))).setCell ⟨rb, 6, none⟩ (.int .i64 ver)).setCell ⟨rb, 16, none⟩ (.int .i64 ((scans : Int) + 1))).setCell ⟨rb, 9, none⟩ (.bool false)) := by
  unfold rmO at H
  have h0 := has_setCell H 5 (.pointer (some ⟨kb, 0, none⟩))
  simp only [List.setIfInBounds_toArray, List.set_cons_zero, List.set_cons_succ] at h0
  have h1 := has_setCell h0 6 (.int .i64 ver)
  simp only [List.setIfInBounds_toArray, List.set_cons_zero, List.set_cons_succ] at h1
  have h2 := has_setCell h1 16 (.int .i64 ((scans : Int) + 1))
  simp only [List.setIfInBounds_toArray, List.set_cons_zero, List.set_cons_succ] at h2
  have h3 := has_setCell h2 9 (.bool false)
  simp only [List.setIfInBounds_toArray, List.set_cons_zero, List.set_cons_succ] at h3
  refine ⟨?_, ((((Keeps.refl [rb] W).setCell (p := ⟨rb, 5, none⟩) (.inr (by simp)) _).setCell (p := ⟨rb, 6, none⟩) (.inr (by simp)) _).setCell (p := ⟨rb, 16, none⟩) (.inr (by simp)) _).setCell (p := ⟨rb, 9, none⟩) (.inr (by simp)) _⟩
  rw [h3]; unfold rmO
  rw [show ((scans + 1 : Nat) : Int) = (scans : Int) + 1 by omega]
theorem rm_wait (e : Int) (y : Trn) (H : W.heap[rb]? = some (rmO db g h k v skp kept at_ waits same over x scans)) :
    (((((((W.setCell ⟨rb, 8, none⟩ (.bool true))).setCell ⟨rb, 11, none⟩ (.int .i64 y.kind)).setCell ⟨rb, 12, none⟩ (.int .i64 y.key)).setCell ⟨rb, 13, none⟩ (.bool y.found)).setCell ⟨rb, 14, none⟩ (.int .i64 y.val)).setCell ⟨rb, 15, none⟩ (.int .i64 y.ent)).heap[rb]? = some (rmO db g h k v skp kept at_ true same over y scans) ∧
    Keeps [rb] W (((((((W.setCell ⟨rb, 8, none⟩ (.bool true))).setCell ⟨rb, 11, none⟩ (.int .i64 y.kind)).setCell ⟨rb, 12, none⟩ (.int .i64 y.key)).setCell ⟨rb, 13, none⟩ (.bool y.found)).setCell ⟨rb, 14, none⟩ (.int .i64 y.val)).setCell ⟨rb, 15, none⟩ (.int .i64 y.ent)) := by
  unfold rmO at H
  have h0 := has_setCell H 8 (.bool true)
  simp only [List.setIfInBounds_toArray, List.set_cons_zero, List.set_cons_succ] at h0
  have h1 := has_setCell h0 11 (.int .i64 y.kind)
  simp only [List.setIfInBounds_toArray, List.set_cons_zero, List.set_cons_succ] at h1
  have h2 := has_setCell h1 12 (.int .i64 y.key)
  simp only [List.setIfInBounds_toArray, List.set_cons_zero, List.set_cons_succ] at h2
  have h3 := has_setCell h2 13 (.bool y.found)
  simp only [List.setIfInBounds_toArray, List.set_cons_zero, List.set_cons_succ] at h3
  have h4 := has_setCell h3 14 (.int .i64 y.val)
  simp only [List.setIfInBounds_toArray, List.set_cons_zero, List.set_cons_succ] at h4
  have h5 := has_setCell h4 15 (.int .i64 y.ent)
  simp only [List.setIfInBounds_toArray, List.set_cons_zero, List.set_cons_succ] at h5
  exact ⟨h5, ((((((Keeps.refl [rb] W).setCell (p := ⟨rb, 8, none⟩) (.inr (by simp)) _).setCell (p := ⟨rb, 11, none⟩) (.inr (by simp)) _).setCell (p := ⟨rb, 12, none⟩) (.inr (by simp)) _).setCell (p := ⟨rb, 13, none⟩) (.inr (by simp)) _).setCell (p := ⟨rb, 14, none⟩) (.inr (by simp)) _).setCell (p := ⟨rb, 15, none⟩) (.inr (by simp)) _⟩
theorem rm_at (e : Int) (H : W.heap[rb]? = some (rmO db g h k v skp kept at_ waits same over x scans)) :
    (W.setCell ⟨rb, 7, none⟩ (.int .i64 e)).heap[rb]? = some (rmO db g h k v skp kept e waits same over x scans) ∧ Keeps [rb] W (W.setCell ⟨rb, 7, none⟩ (.int .i64 e)) := by
  unfold rmO at H
  have h0 := has_setCell H 7 (.int .i64 e)
  simp only [List.setIfInBounds_toArray, List.set_cons_zero, List.set_cons_succ] at h0
  exact ⟨h0, (Keeps.refl [rb] W).setCell (p := ⟨rb, 7, none⟩) (.inr (by simp)) _⟩
end
set_option maxRecDepth 100000 in
set_option maxHeartbeats 8000000 in
theorem rstep_scan (k : Nat) (hk : k ≤ 990) (rb kb db t lo : Nat) (S : List Nat) (m : Option Nat) (c : C4) (d : Dic) (q : Mac) (w : World) (HD : RDicAt db t lo S m d w) (hC : CtrAt m c w) (hm : ∀ b, m = some b → b < lo) (HQ : RMacAt rb kb db t q w) (hrb : rb ∉ S) (hn : rb ≠ db) (hlo : lo ≤ rb) (hkb : q.st ≠ 0 → kb ∉ S ∧ kb ≠ rb ∧ kb ≠ db ∧ kb ∉ mS m) (hI : DicOk k d) (hO : MacOk d q) (hsc : q.scans ≤ 1000000) (h4 : q.st ≠ 4) (h2 : q.st ≠ 2) (hcase : q.fresh d = true ∨ q.st = 1) :
    Calls Tryz.prog 66 #[.pointer (some ⟨rb, 0, none⟩)] w (RStepP rb kb db t lo S m c d q w) := by
  obtain ⟨at_, same, hb, hat, hsm, hsk⟩ := HQ
  have n2 : ¬ (q.st = 4 ∨ q.st = 2) := by omega
  obtain ⟨Q, hQ⟩ : ∃ Q, Hid (Q = if q.fresh d = true then q.anew d else q) := ⟨_, Lib.hid rfl⟩
  have eM : stepM d q = scanM d Q := by
    unfold stepM; rw [if_neg n2, hQ.out]
    by_cases hf : q.fresh d = true
    · rw [if_pos hf, if_pos hf]
    · rw [if_neg hf, if_neg hf, if_neg (by have := hcase.resolve_left hf; omega)]
  have eD : stepD d q = scanD d Q := by
    unfold stepD; rw [if_neg n2, hQ.out]
    by_cases hf : q.fresh d = true
    · rw [if_pos hf, if_pos hf]
    · rw [if_neg hf, if_neg hf, if_neg (by have := hcase.resolve_left hf; omega)]
  have eC : stepC d q c = scanC d Q c := by
    unfold stepC; rw [if_neg n2, hQ.out]
    by_cases hf : q.fresh d = true
    · rw [if_pos hf, if_pos hf]
    · rw [if_neg hf, if_neg hf, if_neg (by have := hcase.resolve_left hf; omega)]
  have hQok : SkOk d.T Q.sk := by
    rw [hQ.out]
    by_cases hf : q.fresh d = true
    · rw [if_pos hf]; exact SkOk.seek hI.t q.h
    · rw [if_neg hf]; exact hO.sk (by have := hcase.resolve_left hf; omega)
  rw [show (q.st == 4) = false by simp; omega, show (q.st == 2) = false by simp; omega] at hb
  obtain ⟨lr, hlr⟩ : ∃ lr, lr = w.heap.size := ⟨_, rfl⟩
  have HLR := Lib.hid hlr
  obtain ⟨WA, hWA⟩ : ∃ WA, w.alloc (.cells #[.int .i64 0, .int .i64 0, .bool false, .int .i64 0, .int .i64 0] 75) = WA := ⟨_, rfl⟩
  have kb0 : Keeps [] w WA := by rw [← hWA]; exact (Keeps.refl [] w).alloc _
  have BT := Lib.hid (show WA.heap[lr]? = some (trnO noTrn) by rw [← hWA, hlr]; exact has_new _ _)
  have HWA := Lib.hid hWA
  have KB := Lib.hid kb0
  have MA := Lib.hid (kb0.has hb (by simp))
  have DA := Lib.hid (HD.keeps kb0 (by simp) (by simp))
  have CA := Lib.hid (hC.keeps kb0 (by simp))
  have LMD := Lib.hid (And.intro (lt_of_block hb) (lt_of_block HD.b))
  have LS := Lib.hid (show ∀ z, z ∈ S → z < w.heap.size from fun z hz => (HD.foot z (by simp [hz])).2)
  have LM := Lib.hid (show ∀ z, z ∈ mS m → z < lo from fun z hz => by
    cases m with
    | none => simp [mS] at hz
    | some b => simp [mS] at hz; subst hz; exact hm _ rfl)
  have HRB := Lib.hid hrb
  have HN := Lib.hid hn
  have HLO := Lib.hid hlo
  have HLD := Lib.hid HD.l
  have HKB := Lib.hid hkb
  have HI := Lib.hid hI
  have HMM := Lib.hid hm
  have HQK := Lib.hid hQok
  have HSM := Lib.hid hsm
  have HSK := Lib.hid hsk
  have HCS := Lib.hid hcase
  have EM := Lib.hid eM
  have ED := Lib.hid eD
  have EC := Lib.hid eC
  have zWA : WA.heap.size = lr + 1 := by rw [← hWA, hlr]; simp
  have ZWA := Lib.hid zWA
  have hv0 : (d.ver : Int) ≤ 1000000 := by have := hI.v; omega
  have hv1 : (0 : Int) ≤ (d.ver : Int) := by omega
  have HV := Lib.hid (And.intro hv0 hv1)
  have HSC := Lib.hid hsc
  obtain ⟨c0, _, _, _, _, c5, c6, _, c8, c9, c10, _⟩ := rm_cells MA.out
  have y1 : WA.cell? ⟨db, 1, none⟩ = some (.int .i64 d.ver) := cell_has DA.out.b (i := 1) rfl
  obtain ⟨vr, hvr⟩ := ex_hid d.ver
  obtain ⟨kv, hkv⟩ := ex_hid q.ver
  obtain ⟨fr, hfr⟩ := ex_hid (q.fresh d)
  rw [← hvr.out] at y1
  rw [← hkv.out] at c6
  clear HD hC hm hb hat hsm hsk hlr hWA kb0 hrb hn hkb hI hO h4 h2 n2 eM eD eC hQok zWA hv0 hv1 hsc hcase hlo
  go_enter Tryz.func66, Tryz.ntmps66
  go_upto_region 1 with (fail)
  rw [HWA.out, ← HLR.out]
  go_upto_region 3 with (fail)
  go_cut [37] from 19 to 37 (fun y wx => wx = WA.drew ∧ y = .bool fr)
  case first =>
    by_cases h0 : q.st = 0
    · have e5 : skV q.st kb = .pointer none := by unfold skV; rw [if_pos h0]
      rw [e5] at c5
      have HFR := Lib.hid (show fr = true by rw [hfr.out]; unfold Mac.fresh; rw [h0]; rfl)
      clear h0 e5 hfr
      refine wp_regionG (fun w' => w'.cell? ⟨rb, 5, none⟩ = some (.pointer none)) 19 (by kernel_rfl) c5 (fun hF => ?_)
      refine wpAnyG_takeY (i := 0) (v := ?_) rfl (by kernel_rfl) (by decide +kernel) (by decide +kernel) (by decide +kernel) (fun _ _ _ h => h) (by kernel_rfl) ?_ (by assumption) ?_
      rotate_left
      · (intro wz; go_simp; with_reducible rfl)
      try simp only [Act.put, List.setIfInBounds_toArray, List.set_cons_zero, List.set_cons_succ]
      refine wpAnyG_takeY (i := 1) (v := ?_) rfl (by kernel_rfl) (by decide +kernel) (by decide +kernel) (by decide +kernel) (fun _ _ _ h => h) (by kernel_rfl) ?_ (by assumption) ?_
      rotate_left
      · (intro wz; go_simp; with_reducible rfl)
      try simp only [Act.put, List.setIfInBounds_toArray, List.set_cons_zero, List.set_cons_succ]
      refine wpAnyG_takeY (i := 2) (v := ?_) rfl (by kernel_rfl) (by decide +kernel) (by decide +kernel) (by decide +kernel) (fun _ _ _ h => h) (by kernel_rfl) ?_ (by assumption) ?_
      rotate_left
      · (intro wz; go_simp; with_reducible rfl)
      try simp only [Act.put, List.setIfInBounds_toArray, List.set_cons_zero, List.set_cons_succ]
      refine wpAnyG_take (i := 3) (v := ?_) rfl (by kernel_rfl) (by decide +kernel) (by decide +kernel) (by decide +kernel) (by decide +kernel) (by rfl) (fun _ _ _ h => h) (by kernel_rfl) ?_ (by assumption) ?_
      rotate_left
      · (intro wz hSw; (try dsimp only at hSw); go_simp; with_reducible rfl)
      try simp only [Act.put, List.setIfInBounds_toArray, List.set_cons_zero, List.set_cons_succ]
      refine wpAnyG_takeY (i := 4) (v := ?_) rfl (by kernel_rfl) (by decide +kernel) (by decide +kernel) (by decide +kernel) (fun _ _ _ h => h) (by kernel_rfl) ?_ (by assumption) ?_
      rotate_left
      · (intro wz; go_simp; with_reducible rfl)
      try simp only [Act.put, List.setIfInBounds_toArray, List.set_cons_zero, List.set_cons_succ]
      refine wpAnyG_takeY (i := 5) (v := ?_) rfl (by kernel_rfl) (by decide +kernel) (by decide +kernel) (by decide +kernel) (fun _ _ _ h => h) (by kernel_rfl) ?_ (by assumption) ?_
      rotate_left
      · (intro wz; go_simp; with_reducible rfl)
      try simp only [Act.put, List.setIfInBounds_toArray, List.set_cons_zero, List.set_cons_succ]
      refine wpAnyG_takeU (i := 6) rfl (by kernel_rfl) (by decide +kernel) (by decide +kernel) (by decide +kernel) (fun _ _ _ h => h) (by kernel_rfl) (by assumption) ?_
      try simp only [Act.put, List.setIfInBounds_toArray, List.set_cons_zero, List.set_cons_succ]
      refine wpAnyG_takeU (i := 7) rfl (by kernel_rfl) (by decide +kernel) (by decide +kernel) (by decide +kernel) (fun _ _ _ h => h) (by kernel_rfl) (by assumption) ?_
      try simp only [Act.put, List.setIfInBounds_toArray, List.set_cons_zero, List.set_cons_succ]
      refine wpAnyG_takeU (i := 8) rfl (by kernel_rfl) (by decide +kernel) (by decide +kernel) (by decide +kernel) (fun _ _ _ h => h) (by kernel_rfl) (by assumption) ?_
      try simp only [Act.put, List.setIfInBounds_toArray, List.set_cons_zero, List.set_cons_succ]
      refine wpAnyG_takeU (i := 9) rfl (by kernel_rfl) (by decide +kernel) (by decide +kernel) (by decide +kernel) (fun _ _ _ h => h) (by kernel_rfl) (by assumption) ?_
      try simp only [Act.put, List.setIfInBounds_toArray, List.set_cons_zero, List.set_cons_succ]
      refine wpAnyG_takeU (i := 10) rfl (by kernel_rfl) (by decide +kernel) (by decide +kernel) (by decide +kernel) (fun _ _ _ h => h) (by kernel_rfl) (by assumption) ?_
      try simp only [Act.put, List.setIfInBounds_toArray, List.set_cons_zero, List.set_cons_succ]
      refine wpAnyG_takeU (i := 11) rfl (by kernel_rfl) (by decide +kernel) (by decide +kernel) (by decide +kernel) (fun _ _ _ h => h) (by kernel_rfl) (by assumption) ?_
      try simp only [Act.put, List.setIfInBounds_toArray, List.set_cons_zero, List.set_cons_succ]
      refine wpAnyG_takeU (i := 12) rfl (by kernel_rfl) (by decide +kernel) (by decide +kernel) (by decide +kernel) (fun _ _ _ h => h) (by kernel_rfl) (by assumption) ?_
      try simp only [Act.put, List.setIfInBounds_toArray, List.set_cons_zero, List.set_cons_succ]
      refine wpAnyG_takeU (i := 13) rfl (by kernel_rfl) (by decide +kernel) (by decide +kernel) (by decide +kernel) (fun _ _ _ h => h) (by kernel_rfl) (by assumption) ?_
      try simp only [Act.put, List.setIfInBounds_toArray, List.set_cons_zero, List.set_cons_succ]
      refine wpAnyG_takeU (i := 14) rfl (by kernel_rfl) (by decide +kernel) (by decide +kernel) (by decide +kernel) (fun _ _ _ h => h) (by kernel_rfl) (by assumption) ?_
      try simp only [Act.put, List.setIfInBounds_toArray, List.set_cons_zero, List.set_cons_succ]
      refine wpAnyG_takeU (i := 15) rfl (by kernel_rfl) (by decide +kernel) (by decide +kernel) (by decide +kernel) (fun _ _ _ h => h) (by kernel_rfl) (by assumption) ?_
      try simp only [Act.put, List.setIfInBounds_toArray, List.set_cons_zero, List.set_cons_succ]
      refine wpAnyG_takeU (i := 16) rfl (by kernel_rfl) (by decide +kernel) (by decide +kernel) (by decide +kernel) (fun _ _ _ h => h) (by kernel_rfl) (by assumption) ?_
      try simp only [Act.put, List.setIfInBounds_toArray, List.set_cons_zero, List.set_cons_succ]
      refine wpAnyG_takeU (i := 17) rfl (by kernel_rfl) (by decide +kernel) (by decide +kernel) (by decide +kernel) (fun _ _ _ h => h) (by kernel_rfl) (by assumption) ?_
      try simp only [Act.put, List.setIfInBounds_toArray, List.set_cons_zero, List.set_cons_succ]
      refine wpAnyG_takeY (i := 18) (v := ?_) rfl (by kernel_rfl) (by decide +kernel) (by decide +kernel) (by decide +kernel) (fun _ _ _ h => h) (by kernel_rfl) ?_ (by assumption) ?_
      rotate_left
      · (intro wz; go_simp; with_reducible rfl)
      try simp only [Act.put, List.setIfInBounds_toArray, List.set_cons_zero, List.set_cons_succ]
      refine wpAnyG_done (by kernel_rfl) ?_ _
      go_simp
      go_wp2_with fail
      go_meet
      exact ⟨rfl, by rw [HFR.out]⟩
    · have e5 : skV q.st kb = .pointer (some ⟨kb, 0, none⟩) := by unfold skV; rw [if_neg h0]
      rw [e5] at c5
      have HFR := Lib.hid (show fr = ((vr : Int) != (kv : Int)) by
        rw [hfr.out, hvr.out, hkv.out]; unfold Mac.fresh
        rw [show (q.st == 0) = false by simp; exact h0, Bool.false_or]
        by_cases hh : q.ver = d.ver
        · rw [hh]; simp
        · rw [show (q.ver != d.ver) = true by simp; exact hh]; symm; simp; omega)
      clear h0 e5 hfr
      refine wp_regionG (fun w' => w'.cell? ⟨rb, 5, none⟩ = some (.pointer (some ⟨kb, 0, none⟩)) ∧ w'.cell? ⟨rb, 0, none⟩ = some (.pointer (some ⟨db, 0, none⟩)) ∧ w'.cell? ⟨db, 1, none⟩ = some (.int .i64 vr) ∧ w'.cell? ⟨rb, 6, none⟩ = some (.int .i64 kv)) 19 (by kernel_rfl) ⟨c5, c0, y1, c6⟩ (fun hF => ?_)
      refine wpAnyG_takeY (i := 0) (v := ?_) rfl (by kernel_rfl) (by decide +kernel) (by decide +kernel) (by decide +kernel) (fun _ _ _ h => h) (by kernel_rfl) ?_ (by assumption) ?_
      rotate_left
      · (intro wz; go_simp; with_reducible rfl)
      try simp only [Act.put, List.setIfInBounds_toArray, List.set_cons_zero, List.set_cons_succ]
      refine wpAnyG_takeY (i := 1) (v := ?_) rfl (by kernel_rfl) (by decide +kernel) (by decide +kernel) (by decide +kernel) (fun _ _ _ h => h) (by kernel_rfl) ?_ (by assumption) ?_
      rotate_left
      · (intro wz; go_simp; with_reducible rfl)
      try simp only [Act.put, List.setIfInBounds_toArray, List.set_cons_zero, List.set_cons_succ]
      refine wpAnyG_takeY (i := 2) (v := ?_) rfl (by kernel_rfl) (by decide +kernel) (by decide +kernel) (by decide +kernel) (fun _ _ _ h => h) (by kernel_rfl) ?_ (by assumption) ?_
      rotate_left
      · (intro wz; go_simp; with_reducible rfl)
      try simp only [Act.put, List.setIfInBounds_toArray, List.set_cons_zero, List.set_cons_succ]
      refine wpAnyG_take (i := 3) (v := ?_) rfl (by kernel_rfl) (by decide +kernel) (by decide +kernel) (by decide +kernel) (by decide +kernel) (by rfl) (fun _ _ _ h => h) (by kernel_rfl) ?_ (by assumption) ?_
      rotate_left
      · (intro wz hSw; (try dsimp only at hSw); go_simp; with_reducible rfl)
      try simp only [Act.put, List.setIfInBounds_toArray, List.set_cons_zero, List.set_cons_succ]
      refine wpAnyG_takeY (i := 4) (v := ?_) rfl (by kernel_rfl) (by decide +kernel) (by decide +kernel) (by decide +kernel) (fun _ _ _ h => h) (by kernel_rfl) ?_ (by assumption) ?_
      rotate_left
      · (intro wz; go_simp; with_reducible rfl)
      try simp only [Act.put, List.setIfInBounds_toArray, List.set_cons_zero, List.set_cons_succ]
      refine wpAnyG_takeY (i := 5) (v := ?_) rfl (by kernel_rfl) (by decide +kernel) (by decide +kernel) (by decide +kernel) (fun _ _ _ h => h) (by kernel_rfl) ?_ (by assumption) ?_
      rotate_left
      · (intro wz; go_simp; with_reducible rfl)
      try simp only [Act.put, List.setIfInBounds_toArray, List.set_cons_zero, List.set_cons_succ]
      refine wpAnyG_takeY (i := 6) (v := ?_) rfl (by kernel_rfl) (by decide +kernel) (by decide +kernel) (by decide +kernel) (fun _ _ _ h => h) (by kernel_rfl) ?_ (by assumption) ?_
      rotate_left
      · (intro wz; go_simp; with_reducible rfl)
      try simp only [Act.put, List.setIfInBounds_toArray, List.set_cons_zero, List.set_cons_succ]
      refine wpAnyG_takeY (i := 7) (v := ?_) rfl (by kernel_rfl) (by decide +kernel) (by decide +kernel) (by decide +kernel) (fun _ _ _ h => h) (by kernel_rfl) ?_ (by assumption) ?_
      rotate_left
      · (intro wz; go_simp; with_reducible rfl)
      try simp only [Act.put, List.setIfInBounds_toArray, List.set_cons_zero, List.set_cons_succ]
      refine wpAnyG_takeY (i := 8) (v := ?_) rfl (by kernel_rfl) (by decide +kernel) (by decide +kernel) (by decide +kernel) (fun _ _ _ h => h) (by kernel_rfl) ?_ (by assumption) ?_
      rotate_left
      · (intro wz; go_simp; with_reducible rfl)
      try simp only [Act.put, List.setIfInBounds_toArray, List.set_cons_zero, List.set_cons_succ]
      refine wpAnyG_take (i := 9) (v := ?_) rfl (by kernel_rfl) (by decide +kernel) (by decide +kernel) (by decide +kernel) (by decide +kernel) (by rfl) (fun _ _ _ h => h) (by kernel_rfl) ?_ (by assumption) ?_
      rotate_left
      · (intro wz hSw; (try dsimp only at hSw); go_simp; with_reducible rfl)
      try simp only [Act.put, List.setIfInBounds_toArray, List.set_cons_zero, List.set_cons_succ]
      refine wpAnyG_takeY (i := 10) (v := ?_) rfl (by kernel_rfl) (by decide +kernel) (by decide +kernel) (by decide +kernel) (fun _ _ _ h => h) (by kernel_rfl) ?_ (by assumption) ?_
      rotate_left
      · (intro wz; go_simp; with_reducible rfl)
      try simp only [Act.put, List.setIfInBounds_toArray, List.set_cons_zero, List.set_cons_succ]
      refine wpAnyG_takeY (i := 11) (v := ?_) rfl (by kernel_rfl) (by decide +kernel) (by decide +kernel) (by decide +kernel) (fun _ _ _ h => h) (by kernel_rfl) ?_ (by assumption) ?_
      rotate_left
      · (intro wz; go_simp; with_reducible rfl)
      try simp only [Act.put, List.setIfInBounds_toArray, List.set_cons_zero, List.set_cons_succ]
      refine wpAnyG_take (i := 12) (v := ?_) rfl (by kernel_rfl) (by decide +kernel) (by decide +kernel) (by decide +kernel) (by decide +kernel) (by rfl) (fun _ _ _ h => h) (by kernel_rfl) ?_ (by assumption) ?_
      rotate_left
      · (intro wz hSw; (try dsimp only at hSw); go_simp; with_reducible rfl)
      try simp only [Act.put, List.setIfInBounds_toArray, List.set_cons_zero, List.set_cons_succ]
      refine wpAnyG_takeY (i := 13) (v := ?_) rfl (by kernel_rfl) (by decide +kernel) (by decide +kernel) (by decide +kernel) (fun _ _ _ h => h) (by kernel_rfl) ?_ (by assumption) ?_
      rotate_left
      · (intro wz; go_simp; with_reducible rfl)
      try simp only [Act.put, List.setIfInBounds_toArray, List.set_cons_zero, List.set_cons_succ]
      refine wpAnyG_takeY (i := 14) (v := ?_) rfl (by kernel_rfl) (by decide +kernel) (by decide +kernel) (by decide +kernel) (fun _ _ _ h => h) (by kernel_rfl) ?_ (by assumption) ?_
      rotate_left
      · (intro wz; go_simp; with_reducible rfl)
      try simp only [Act.put, List.setIfInBounds_toArray, List.set_cons_zero, List.set_cons_succ]
      refine wpAnyG_takeY (i := 15) (v := ?_) rfl (by kernel_rfl) (by decide +kernel) (by decide +kernel) (by decide +kernel) (fun _ _ _ h => h) (by kernel_rfl) ?_ (by assumption) ?_
      rotate_left
      · (intro wz; go_simp; with_reducible rfl)
      try simp only [Act.put, List.setIfInBounds_toArray, List.set_cons_zero, List.set_cons_succ]
      refine wpAnyG_take (i := 16) (v := ?_) rfl (by kernel_rfl) (by decide +kernel) (by decide +kernel) (by decide +kernel) (by decide +kernel) (by rfl) (fun _ _ _ h => h) (by kernel_rfl) ?_ (by assumption) ?_
      rotate_left
      · (intro wz hSw; (try dsimp only at hSw); go_simp; with_reducible rfl)
      try simp only [Act.put, List.setIfInBounds_toArray, List.set_cons_zero, List.set_cons_succ]
      refine wpAnyG_takeY (i := 17) (v := ?_) rfl (by kernel_rfl) (by decide +kernel) (by decide +kernel) (by decide +kernel) (fun _ _ _ h => h) (by kernel_rfl) ?_ (by assumption) ?_
      rotate_left
      · (intro wz; go_simp; with_reducible rfl)
      try simp only [Act.put, List.setIfInBounds_toArray, List.set_cons_zero, List.set_cons_succ]
      refine wpAnyG_takeY (i := 18) (v := ?_) rfl (by kernel_rfl) (by decide +kernel) (by decide +kernel) (by decide +kernel) (fun _ _ _ h => h) (by kernel_rfl) ?_ (by assumption) ?_
      rotate_left
      · (intro wz; go_simp; with_reducible rfl)
      try simp only [Act.put, List.setIfInBounds_toArray, List.set_cons_zero, List.set_cons_succ]
      refine wpAnyG_done (by kernel_rfl) ?_ _
      go_simp
      try go_wp2_with fail
      go_meet
      exact ⟨rfl, by rw [HFR.out]⟩
  case rest =>
    obtain ⟨e, rfl⟩ := hcut
    have KD := Lib.hid (show Keeps [] WA wc by rw [e]; exact (Keeps.refl [] WA).drew)
    obtain ⟨WB, hWB⟩ : ∃ x, x = wc := ⟨_, rfl⟩
    subst hWB
    clear e c0 c5 c6 c8 c9 c10 y1
    have MB := Lib.hid (KD.out.has MA.out (by simp))
    have DB := Lib.hid (DA.out.keeps KD.out (by simp) (by simp))
    obtain ⟨c0, _, c2, _, _, c5, c6, _, _, c9, _, _, _, _, _, _, c16⟩ := rm_cells MB.out
    go_upto_if 37 with (fail)
    go_cut [] from 37 to 72 (fun wx => ∃ (kb1 : Nat) (at1 : Int), wx.heap[rb]? = some (rmO db Q.g Q.h Q.k Q.v (.pointer (some ⟨kb1, 0, none⟩)) Q.ver at1 false false false Q.turn Q.scans) ∧ RSkAt kb1 t Q.sk wx ∧ Keeps [rb] WA wx ∧ (kb1 ∉ S ∧ kb1 ≠ rb ∧ kb1 ≠ db ∧ kb1 ∉ mS m ∧ kb1 ≠ lr) ∧ ((kb1 = kb ∧ q.st ≠ 0) ∨ w.heap.size ≤ kb1))
    case first =>
      have hfo := hfr.out
      have zWB : WB.heap.size = WA.heap.size ∨ True := .inr trivial
      cases fr
      · obtain ⟨hs0, hvv⟩ := Mac.fresh_not hfo.symm
        have hs1 : q.st = 1 := by
          rcases HCS.out with h | h
          · rw [← hfo] at h; cases h
          · exact h
        have eQ : Q = q := by rw [hQ.out, if_neg (by rw [← hfo]; simp)]
        have esm : same = false := by rw [HSM.out (by omega), hs1]; rfl
        have e5 : skV q.st kb = .pointer (some ⟨kb, 0, none⟩) := by unfold skV; rw [if_neg hs0]
        have FIN := Lib.hid (show WB.heap[rb]? = some (rmO db Q.g Q.h Q.k Q.v (.pointer (some ⟨kb, 0, none⟩)) Q.ver at_ false false false Q.turn Q.scans) by
          have h := MB.out
          rw [e5, esm] at h
          rw [eQ]; exact h)
        have FSK := Lib.hid (show RSkAt kb t Q.sk WB by rw [eQ]; exact ((HSK.out hs0).keeps KB.out (by simp)).keeps KD.out (by simp))
        have FKB := Lib.hid (HKB.out hs0)
        have FST := Lib.hid hs0
        have FLR := Lib.hid (show kb ≠ lr from fun e => by
          obtain ⟨c9', p9, h9, _⟩ := HSK.out hs0
          have := lt_of_block h9
          have := HLR.out
          omega)
        clear hfo hs0 hvv hs1 eQ esm e5 zWB
        go_wp2_with fail
        go_meet
        exact ⟨kb, at_, FIN.out, FSK.out, KD.out.mono (by simp), ⟨FKB.out.1, FKB.out.2.1, FKB.out.2.2.1, FKB.out.2.2.2, FLR.out⟩, .inl ⟨rfl, FST.out⟩⟩
      · have EQ := Lib.hid (show Q = q.anew d by rw [hQ.out, if_pos hfo.symm])
        have y2 : WB.cell? ⟨db, 2, none⟩ = some (.pointer (some ⟨t, 0, none⟩)) := cell_has DB.out.b (i := 2) rfl
        clear hfo zWB
        go_upto_region 4 with (fail)
        refine wp_regionG (fun w' => w'.cell? ⟨rb, 0, none⟩ = some (.pointer (some ⟨db, 0, none⟩)) ∧ w'.cell? ⟨db, 2, none⟩ = some (.pointer (some ⟨t, 0, none⟩)) ∧ w'.cell? ⟨rb, 2, none⟩ = some (.int .i64 q.h)) 15 (by kernel_rfl) ⟨c0, y2, c2⟩ (fun hF => ?_)
        refine wpAnyG_takeY (i := 0) (v := ?_) rfl (by kernel_rfl) (by decide +kernel) (by decide +kernel) (by decide +kernel) (fun _ _ _ h => h) (by kernel_rfl) ?_ (by assumption) ?_
        rotate_left
        · (intro wz; go_simp; with_reducible rfl)
        try simp only [Act.put, List.setIfInBounds_toArray, List.set_cons_zero, List.set_cons_succ]
        refine wpAnyG_takeY (i := 1) (v := ?_) rfl (by kernel_rfl) (by decide +kernel) (by decide +kernel) (by decide +kernel) (fun _ _ _ h => h) (by kernel_rfl) ?_ (by assumption) ?_
        rotate_left
        · (intro wz; go_simp; with_reducible rfl)
        try simp only [Act.put, List.setIfInBounds_toArray, List.set_cons_zero, List.set_cons_succ]
        refine wpAnyG_takeY (i := 2) (v := ?_) rfl (by kernel_rfl) (by decide +kernel) (by decide +kernel) (by decide +kernel) (fun _ _ _ h => h) (by kernel_rfl) ?_ (by assumption) ?_
        rotate_left
        · (intro wz; go_simp; with_reducible rfl)
        try simp only [Act.put, List.setIfInBounds_toArray, List.set_cons_zero, List.set_cons_succ]
        refine wpAnyG_takeY (i := 3) (v := ?_) rfl (by kernel_rfl) (by decide +kernel) (by decide +kernel) (by decide +kernel) (fun _ _ _ h => h) (by kernel_rfl) ?_ (by assumption) ?_
        rotate_left
        · (intro wz; go_simp; with_reducible rfl)
        try simp only [Act.put, List.setIfInBounds_toArray, List.set_cons_zero, List.set_cons_succ]
        refine wpAnyG_take (i := 4) (v := ?_) rfl (by kernel_rfl) (by decide +kernel) (by decide +kernel) (by decide +kernel) (by decide +kernel) (by rfl) (fun _ _ _ h => h) (by kernel_rfl) ?_ (by assumption) ?_
        rotate_left
        · (intro wz hSw; (try dsimp only at hSw); go_simp; with_reducible rfl)
        try simp only [Act.put, List.setIfInBounds_toArray, List.set_cons_zero, List.set_cons_succ]
        refine wpAnyG_takeY (i := 5) (v := ?_) rfl (by kernel_rfl) (by decide +kernel) (by decide +kernel) (by decide +kernel) (fun _ _ _ h => h) (by kernel_rfl) ?_ (by assumption) ?_
        rotate_left
        · (intro wz; go_simp; with_reducible rfl)
        try simp only [Act.put, List.setIfInBounds_toArray, List.set_cons_zero, List.set_cons_succ]
        refine wpAnyG_takeY (i := 6) (v := ?_) rfl (by kernel_rfl) (by decide +kernel) (by decide +kernel) (by decide +kernel) (fun _ _ _ h => h) (by kernel_rfl) ?_ (by assumption) ?_
        rotate_left
        · (intro wz; go_simp; with_reducible rfl)
        try simp only [Act.put, List.setIfInBounds_toArray, List.set_cons_zero, List.set_cons_succ]
        refine wpAnyG_take (i := 7) (v := ?_) rfl (by kernel_rfl) (by decide +kernel) (by decide +kernel) (by decide +kernel) (by decide +kernel) (by rfl) (fun _ _ _ h => h) (by kernel_rfl) ?_ (by assumption) ?_
        rotate_left
        · (intro wz hSw; (try dsimp only at hSw); go_simp; with_reducible rfl)
        try simp only [Act.put, List.setIfInBounds_toArray, List.set_cons_zero, List.set_cons_succ]
        refine wpAnyG_takeY (i := 8) (v := ?_) rfl (by kernel_rfl) (by decide +kernel) (by decide +kernel) (by decide +kernel) (fun _ _ _ h => h) (by kernel_rfl) ?_ (by assumption) ?_
        rotate_left
        · (intro wz; go_simp; with_reducible rfl)
        try simp only [Act.put, List.setIfInBounds_toArray, List.set_cons_zero, List.set_cons_succ]
        refine wpAnyG_takeY (i := 9) (v := ?_) rfl (by kernel_rfl) (by decide +kernel) (by decide +kernel) (by decide +kernel) (fun _ _ _ h => h) (by kernel_rfl) ?_ (by assumption) ?_
        rotate_left
        · (intro wz; go_simp; with_reducible rfl)
        try simp only [Act.put, List.setIfInBounds_toArray, List.set_cons_zero, List.set_cons_succ]
        refine wpAnyG_takeY (i := 10) (v := ?_) rfl (by kernel_rfl) (by decide +kernel) (by decide +kernel) (by decide +kernel) (fun _ _ _ h => h) (by kernel_rfl) ?_ (by assumption) ?_
        rotate_left
        · (intro wz; go_simp; with_reducible rfl)
        try simp only [Act.put, List.setIfInBounds_toArray, List.set_cons_zero, List.set_cons_succ]
        refine wpAnyG_take (i := 11) (v := ?_) rfl (by kernel_rfl) (by decide +kernel) (by decide +kernel) (by decide +kernel) (by decide +kernel) (by rfl) (fun _ _ _ h => h) (by kernel_rfl) ?_ (by assumption) ?_
        rotate_left
        · (intro wz hSw; (try dsimp only at hSw); go_simp; with_reducible rfl)
        try simp only [Act.put, List.setIfInBounds_toArray, List.set_cons_zero, List.set_cons_succ]
        refine wpAnyG_one (i := 12) rfl (by kernel_rfl) (by kernel_rfl) (fun K hK => ?_)
        have HK := Lib.hid hK
        clear hK
        go_simp
        refine (rseek_any t lo S m d.T WB.drew (DB.out.t.keeps (Keeps.refl [] WB).drew (by simp)) (by have := HI.out.t.l12; omega) q.h).mono ?_
        rintro r w2 ⟨kb1, rfl, s2, zs, k2⟩
        have g0 := k2.cell (w := WB.drew) c0 (by simp)
        have g2 := k2.cell (w := WB.drew) y2 (by simp)
        have g3 := k2.cell (w := WB.drew) c2 (by simp)
        have m2 := k2.has (w := WB.drew) MB.out (by simp)
        have b2 := k2.has (w := WB.drew) DB.out.b (by simp)
        have S2 := Lib.hid s2
        have ZS := Lib.hid (show lr + 1 ≤ kb1 from by
          have h9 : WB.drew.heap.size = WB.heap.size := rfl
          have := KD.out.size; have := ZWA.out; omega)
        have K2 := Lib.hid (show Keeps [] WA w2 from (KD.out.drew).trans k2)
        have M2 := Lib.hid m2
        have B2 := Lib.hid b2
        have hF2 : (fun w' : World => w'.cell? ⟨rb, 0, none⟩ = some (.pointer (some ⟨db, 0, none⟩)) ∧ w'.cell? ⟨db, 2, none⟩ = some (.pointer (some ⟨t, 0, none⟩)) ∧ w'.cell? ⟨rb, 2, none⟩ = some (.int .i64 q.h)) w2 := ⟨g0, g2, g3⟩
        refine HK.out _ _ hF2 ?_
        clear HK K hF s2 zs k2 m2 b2 c0 c2 c5 c6 c9 c16 y2
        try simp only [Act.put, List.setIfInBounds_toArray, List.set_cons_zero, List.set_cons_succ]
        obtain ⟨_, _, _, _, _, c5, c6, _, _, c9, _, _, _, _, _, _, c16⟩ := rm_cells M2.out
        have y1 : w2.cell? ⟨db, 1, none⟩ = some (.int .i64 d.ver) := cell_has B2.out (i := 1) rfl
        rw [← hvr.out] at y1
        obtain ⟨sn, hsn⟩ := ex_hid q.scans
        rw [← hsn.out] at c16
        have hs0 : (sn : Int) ≤ 1000000 := by have := HSC.out; have := hsn.out; omega
        have hs1 : (0 : Int) ≤ (sn : Int) := by omega
        have f5 := free_of_has M2.out 5
        have f6 := free_of_has M2.out 6
        have f16 := free_of_has M2.out 16
        have f9 := free_of_has M2.out 9
        have nbd : rb ≠ db := HN.out
        have nbd2 : db ≠ rb := fun e => HN.out e.symm
        refine wpAnyG_takeY (i := 13) (v := ?_) rfl (by kernel_rfl) (by decide +kernel) (by decide +kernel) (by decide +kernel) (fun _ _ _ h => h) (by kernel_rfl) ?_ (by assumption) ?_
        rotate_left
        · (intro wz; go_simp; with_reducible rfl)
        try simp only [Act.put, List.setIfInBounds_toArray, List.set_cons_zero, List.set_cons_succ]
        refine wpAnyG_takeY (i := 14) (v := ?_) rfl (by kernel_rfl) (by decide +kernel) (by decide +kernel) (by decide +kernel) (fun _ _ _ h => h) (by kernel_rfl) ?_ (by assumption) ?_
        rotate_left
        · (intro wz; go_simp; with_reducible rfl)
        try simp only [Act.put, List.setIfInBounds_toArray, List.set_cons_zero, List.set_cons_succ]
        refine wpAnyG_last rfl (by kernel_rfl) (by rfl) (by rfl) (fun K hK => ?_)
        have HK := Lib.hid hK
        clear hK
        go_simp
        refine HK.out _ _ ?_
        clear HK K g2 g3 hF2
        refine wpAnyG_done (by kernel_rfl) ?_ _
        go_simp
        go_wp2_with fail
        go_meet
        have R := rm_anew kb1 d.ver M2.out
        rw [← hsn.out, ← hvr.out] at R
        refine ⟨kb1, at_, ?_, ?_, (K2.out.mono (by simp) : Keeps [rb] WA w2).trans R.2, ⟨fun h => by have := LS.out _ h; have := HLR.out; have := ZS.out; omega, by have := LMD.out; have := HLR.out; have := ZS.out; omega, by have := LMD.out; have := HLR.out; have := ZS.out; omega, fun h => by have := LM.out _ h; have := LMD.out; have := HLO.out; have := HLR.out; have := ZS.out; omega, by have := ZS.out; omega⟩, .inr (by have := ZS.out; have := HLR.out; omega)⟩
        · rw [EQ.out]
          have h9 := R.1
          rw [hsn.out, hvr.out] at h9
          rw [hsn.out, hvr.out]
          exact h9
        · rw [EQ.out]
          exact S2.out.keeps R.2 (by simp; have := LMD.out; have := HLR.out; have := ZS.out; omega)
    case rest =>
      obtain ⟨kb1, at1, m1, s1, k1, ⟨a1, a2, a3, a4, a5⟩, a6⟩ := hcut
      obtain ⟨W1, hW1⟩ : ∃ x, x = wc := ⟨_, rfl⟩
      subst hW1
      have M1 := Lib.hid m1
      have S1 := Lib.hid s1
      have K1 := Lib.hid k1
      have A1 := Lib.hid a1
      have A2 := Lib.hid a2
      have A3 := Lib.hid a3
      have A4 := Lib.hid a4
      have A5 := Lib.hid a5
      have A6 := Lib.hid a6
      have LRN := Lib.hid (show lr ∉ S ∧ lr ≠ rb ∧ lr ≠ db ∧ lr ∉ mS m from ⟨fun h => by have := LS.out _ h; have := HLR.out; omega, by have := LMD.out; have := HLR.out; omega, by have := LMD.out; have := HLR.out; omega, fun h => by have := LM.out _ h; have := LMD.out; have := HLO.out; have := HLR.out; omega⟩)
      have RBM := Lib.hid (show rb ∉ mS m ∧ db ∉ mS m from ⟨fun h => by have := LM.out _ h; have := HLO.out; omega, fun h => by have := LM.out _ h; have := HLD.out; omega⟩)
      have D1 := Lib.hid (DA.out.keeps k1 (by simp; exact HN.out.symm) (fun z hz h => by simp at h; subst h; exact HRB.out hz))
      have C1 := Lib.hid (CA.out.keeps k1 (fun b hb h => by simp at h; subst h; exact RBM.out.1 (by rw [hb]; simp [mS])))
      have R1 := Lib.hid (k1.has BT.out (by simp; exact LRN.out.2.1))
      obtain ⟨c0', _, _, c3', _, c5', _, _, _, c9', _⟩ := rm_cells m1
      clear m1 s1 k1 a1 a2 a3 a4 a5 a6 c0 c2 c5 c6 c9 c16
      have fin : ∀ (S' : List Nat) (W4 W9 : World), RDicAt db t lo S' m (scanD d Q) W4 → CtrAt m (scanC d Q c) W4 → (∃ at2 sm2, W4.heap[rb]? = some (rmO db Q.g Q.h Q.k Q.v (.pointer (some ⟨kb1, 0, none⟩)) Q.ver at2 ((scanM d Q).st == 2) sm2 ((scanM d Q).st == 4) (scanM d Q).turn Q.scans) ∧ ((scanM d Q).st = 2 ∨ (scanM d Q).st = 3 → at2 = (scanM d Q).ent) ∧ ((scanM d Q).st ≠ 4 → sm2 = ((scanM d Q).st == 3))) → RSkAt kb1 t (d.T.next Q.sk) W4 → Keeps (rb :: db :: kb1 :: (S ++ mS m)) WA W4 → Grew S w S' → lr ∉ S' → kb1 ∉ S' → Keeps [lr] W4 W9 → RStepP rb kb db t lo S m c d q w (.returned (scanM d Q).turn.agg) W9 := fun S' W4 W9 hD hC' hM hS4 hK hG hl hkS k9 => by
        obtain ⟨at2, sm2, hM1, hM2, hM3⟩ := hM
        have hst : (scanM d Q).st ≠ 0 := by
          unfold scanM; simp only
          split
          · show (4 : Nat) ≠ 0; omega
          · split
            · show (4 : Nat) ≠ 0; omega
            · show (2 : Nat) ≠ 0; omega
        have hsk2 : (scanM d Q).sk = d.T.next Q.sk := by
          unfold scanM; simp only
          split
          · rfl
          · split <;> rfl
        have hf2 : (scanM d Q).g = Q.g ∧ (scanM d Q).h = Q.h ∧ (scanM d Q).k = Q.k ∧ (scanM d Q).v = Q.v ∧ (scanM d Q).ver = Q.ver ∧ (scanM d Q).scans = Q.scans := by
          unfold scanM; simp only
          split
          · exact ⟨rfl, rfl, rfl, rfl, rfl, rfl⟩
          · split <;> exact ⟨rfl, rfl, rfl, rfl, rfl, rfl⟩
        have n9 : lr ≠ kb1 := fun e => A5.out e.symm
        have K4 : Keeps (rb :: db :: kb1 :: (S ++ mS m)) w W4 := (KB.out.mono (by simp) : Keeps (rb :: db :: kb1 :: (S ++ mS m)) w WA).trans hK
        have K9 : Keeps (rb :: db :: kb1 :: (S ++ mS m)) w W9 := K4.then k9 (fun z hz => by simp at hz; have := HLR.out; left; omega)
        refine ⟨S', kb1, by rw [EM.out], ?_, ?_, ?_, ?_, hG, A6.out, fun _ => ⟨hkS, A2.out, A3.out⟩⟩
        · rw [ED.out]; exact hD.keeps k9 (by simp; exact LRN.out.2.2.1.symm) (fun z hz h => by simp at h; subst h; exact hl hz)
        · rw [EC.out]; exact hC'.keeps k9 (fun b hb h => by simp at h; subst h; exact LRN.out.2.2.2 (by rw [hb]; simp [mS]))
        · rw [EM.out]
          obtain ⟨e1, e2, e3, e4, e5, e6⟩ := hf2
          refine ⟨at2, sm2, ?_, hM2, hM3, fun _ => ?_⟩
          · rw [e1, e2, e3, e4, e5, e6, show skV (scanM d Q).st kb1 = .pointer (some ⟨kb1, 0, none⟩) by unfold skV; rw [if_neg hst]]
            exact k9.has hM1 (by simp; exact LRN.out.2.1.symm)
          · rw [hsk2]; exact hS4.keeps k9 (by simp; exact A5.out)
        · refine ⟨K9.os, K9.tape, K9.output, K9.size, fun z hz hq => K9.block z hz (fun h => hq ?_)⟩
          simp only [List.mem_cons, List.mem_append] at h ⊢
          rcases h with h | h | h | h | h
          · exact .inl h
          · exact .inr (.inl h)
          · rcases A6.out with ⟨h9, h8⟩ | h9
            · right; right; left; left
              unfold skS; rw [if_neg h8, h, h9]; simp
            · omega
          · exact .inr (.inr (.inl (.inr h)))
          · exact .inr (.inr (.inr h))
      have FIN := Lib.hid fin
      clear fin
      go_wp2_with fail
      refine (rnexts_any k (by omega) kb1 t lo S m c d.T Q.sk W1 D1.out.t C1.out HMM.out HI.out.t S1.out A1.out HQK.out).mono ?_
      rintro r w2 ⟨rfl, s2, cc2, k2⟩
      have lk : kb1 < W1.heap.size := by obtain ⟨c9, p9, h9, _⟩ := S1.out; exact lt_of_block h9
      have NK := Lib.hid (show rb ∉ kb1 :: mS m ∧ db ∉ kb1 :: mS m ∧ lr ∉ kb1 :: mS m from by
        simp only [List.mem_cons, not_or]
        exact ⟨⟨A2.out.symm, RBM.out.1⟩, ⟨A3.out.symm, RBM.out.2⟩, ⟨fun e => A5.out e.symm, LRN.out.2.2.2⟩⟩)
      have D2 := Lib.hid (D1.out.keeps k2 NK.out.2.1 (fun z hz h => by
        simp only [List.mem_cons] at h
        rcases h with h | h
        · subst h; exact A1.out hz
        · have := LM.out _ h; have := (D1.out.foot z (by simp [hz])).1; omega))
      have M2 := Lib.hid (k2.has M1.out NK.out.1)
      have R2 := Lib.hid (k2.has R1.out NK.out.2.2)
      have S2 := Lib.hid s2
      have C2 := Lib.hid cc2
      have LK2 := Lib.hid (show kb1 < w2.heap.size from Nat.lt_of_lt_of_le lk k2.size)
      have LR2 := Lib.hid (lt_of_block R2.out)
      have KW2 := Lib.hid (show Keeps (rb :: db :: kb1 :: (S ++ mS m)) WA w2 from (K1.out.mono (by simp) : Keeps (rb :: db :: kb1 :: (S ++ mS m)) WA W1).trans (k2.mono (fun z hz => by simp at hz ⊢; rcases hz with h | h <;> simp [h])))
      have ZW := Lib.hid (show w.heap.size ≤ w2.heap.size from by have := KB.out.size; have := KW2.out.size; omega)
      clear s2 cc2 k2 lk c0' c3' c5' c9'
      cases ho : (d.T.next Q.sk).over
      · obtain ⟨y, hy, _, _⟩ := told_live HI.out.t HQK.out ho
        have hsay : (d.T.next Q.sk).says = (d.T.next Q.sk).told := by unfold Sk.says; rw [ho]; simp
        obtain ⟨h0, h1, h2⟩ := ent_some hy
        obtain ⟨n, hn⟩ : ∃ n : Nat, (d.T.next Q.sk).told = (n : Int) := ⟨(d.T.next Q.sk).told.toNat, by omega⟩
        rw [hn] at hy h1
        rw [hsay, hn]
        simp only [Int.toNat_natCast] at h1
        have HO := Lib.hid ho
        have HTN := Lib.hid hn
        have HY := Lib.hid hy
        have H1 := Lib.hid h1
        have HAT := Lib.hid (show d.at_ (d.T.next Q.sk).told = y by rw [hn]; exact Dic.at_of hy)
        obtain ⟨_, _, _, _, _, _, _, c7, _⟩ := rm_cells M2.out
        have f7 := free_of_has M2.out 7
        clear ho hsay h0 h1 h2 hn hy
        go_upto_region 14 with (fail)
        refine wp_gen (fun V => V.heap[rb]? = some (rmO db Q.g Q.h Q.k Q.v (.pointer (some ⟨kb1, 0, none⟩)) Q.ver n false false false Q.turn Q.scans) ∧ Keeps [rb] w2 V) (rm_at n M2.out) ?_
        rintro W3 ⟨m3, k3⟩
        have D3 := Lib.hid (D2.out.keeps k3 (by simp; exact HN.out.symm) (fun z hz h => by simp at h; subst h; exact HRB.out hz))
        have M3 := Lib.hid m3
        have R3 := Lib.hid (k3.has R2.out (by simp; exact LRN.out.2.1))
        have S3 := Lib.hid (S2.out.keeps k3 (by simp; exact A2.out))
        have C3 := Lib.hid (C2.out.keeps k3 (fun b hb h => by simp at h; subst h; exact RBM.out.1 (by rw [hb]; simp [mS])))
        have KW3 := Lib.hid (KW2.out.trans (k3.mono (by simp)))
        have Z3 := Lib.hid k3.size
        clear m3 k3 c7 f7
        obtain ⟨ta, tc, tq, b1, b2, _, _, _, _, _⟩ := D3.out.t
        have hlen := (List.getElem?_eq_some_iff.1 H1.out).1
        obtain ⟨g, rfl⟩ := b2.shape (by omega)
        obtain ⟨_, _, e2, _, _⟩ := at_cells b2 H1.out
        obtain ⟨len, hln⟩ := ex_hid d.T.E.length
        rw [← hln.out] at b1 hlen
        have x0 : W3.cell? ⟨t, 0, none⟩ = some (.slice (some ⟨g, 0, none⟩) len tc) := cell_has b1 (i := 0) rfl
        have y2 : W3.cell? ⟨db, 2, none⟩ = some (.pointer (some ⟨t, 0, none⟩)) := cell_has D3.out.b (i := 2) rfl
        obtain ⟨c0, _, _, c3, _⟩ := rm_cells M3.out
        have hl1 : (n : Int) < (len : Int) := by omega
        have hl0 : (0 : Int) ≤ (n : Int) := by omega
        obtain ⟨yk, hyk⟩ := ex_hid y.key
        obtain ⟨qk, hqk⟩ := ex_hid Q.k
        rw [← hyk.out] at e2
        rw [← hqk.out] at c3
        clear b1 b2 hlen
        refine wp_regionG (fun w' => w'.cell? ⟨rb, 0, none⟩ = some (.pointer (some ⟨db, 0, none⟩)) ∧ w'.cell? ⟨db, 2, none⟩ = some (.pointer (some ⟨t, 0, none⟩)) ∧ w'.cell? ⟨t, 0, none⟩ = some (.slice (some ⟨g, 0, none⟩) len tc) ∧ w'.cell? ⟨g, n * 5 + 2, none⟩ = some (.int .i64 yk) ∧ w'.cell? ⟨rb, 3, none⟩ = some (.int .i64 qk)) 19 (by kernel_rfl) ⟨c0, y2, x0, e2, c3⟩ (fun hF => ?_)
        refine wpAnyG_takeY (i := 0) (v := ?_) rfl (by kernel_rfl) (by decide +kernel) (by decide +kernel) (by decide +kernel) (fun _ _ _ h => h) (by kernel_rfl) ?_ (by assumption) ?_
        rotate_left
        · (intro wz; go_simp; with_reducible rfl)
        try simp only [Act.put, List.setIfInBounds_toArray, List.set_cons_zero, List.set_cons_succ]
        refine wpAnyG_takeY (i := 1) (v := ?_) rfl (by kernel_rfl) (by decide +kernel) (by decide +kernel) (by decide +kernel) (fun _ _ _ h => h) (by kernel_rfl) ?_ (by assumption) ?_
        rotate_left
        · (intro wz; go_simp; with_reducible rfl)
        try simp only [Act.put, List.setIfInBounds_toArray, List.set_cons_zero, List.set_cons_succ]
        refine wpAnyG_takeY (i := 2) (v := ?_) rfl (by kernel_rfl) (by decide +kernel) (by decide +kernel) (by decide +kernel) (fun _ _ _ h => h) (by kernel_rfl) ?_ (by assumption) ?_
        rotate_left
        · (intro wz; go_simp; with_reducible rfl)
        try simp only [Act.put, List.setIfInBounds_toArray, List.set_cons_zero, List.set_cons_succ]
        refine wpAnyG_take (i := 3) (v := ?_) rfl (by kernel_rfl) (by decide +kernel) (by decide +kernel) (by decide +kernel) (by decide +kernel) (by rfl) (fun _ _ _ h => h) (by kernel_rfl) ?_ (by assumption) ?_
        rotate_left
        · (intro wz hSw; (try dsimp only at hSw); go_simp; with_reducible rfl)
        try simp only [Act.put, List.setIfInBounds_toArray, List.set_cons_zero, List.set_cons_succ]
        refine wpAnyG_takeY (i := 4) (v := ?_) rfl (by kernel_rfl) (by decide +kernel) (by decide +kernel) (by decide +kernel) (fun _ _ _ h => h) (by kernel_rfl) ?_ (by assumption) ?_
        rotate_left
        · (intro wz; go_simp; with_reducible rfl)
        try simp only [Act.put, List.setIfInBounds_toArray, List.set_cons_zero, List.set_cons_succ]
        refine wpAnyG_takeY (i := 5) (v := ?_) rfl (by kernel_rfl) (by decide +kernel) (by decide +kernel) (by decide +kernel) (fun _ _ _ h => h) (by kernel_rfl) ?_ (by assumption) ?_
        rotate_left
        · (intro wz; go_simp; with_reducible rfl)
        try simp only [Act.put, List.setIfInBounds_toArray, List.set_cons_zero, List.set_cons_succ]
        refine wpAnyG_take (i := 6) (v := ?_) rfl (by kernel_rfl) (by decide +kernel) (by decide +kernel) (by decide +kernel) (by decide +kernel) (by rfl) (fun _ _ _ h => h) (by kernel_rfl) ?_ (by assumption) ?_
        rotate_left
        · (intro wz hSw; (try dsimp only at hSw); go_simp; with_reducible rfl)
        try simp only [Act.put, List.setIfInBounds_toArray, List.set_cons_zero, List.set_cons_succ]
        refine wpAnyG_takeY (i := 7) (v := ?_) rfl (by kernel_rfl) (by decide +kernel) (by decide +kernel) (by decide +kernel) (fun _ _ _ h => h) (by kernel_rfl) ?_ (by assumption) ?_
        rotate_left
        · (intro wz; go_simp; with_reducible rfl)
        try simp only [Act.put, List.setIfInBounds_toArray, List.set_cons_zero, List.set_cons_succ]
        refine wpAnyG_takeY (i := 8) (v := ?_) rfl (by kernel_rfl) (by decide +kernel) (by decide +kernel) (by decide +kernel) (fun _ _ _ h => h) (by kernel_rfl) ?_ (by assumption) ?_
        rotate_left
        · (intro wz; go_simp; with_reducible rfl)
        try simp only [Act.put, List.setIfInBounds_toArray, List.set_cons_zero, List.set_cons_succ]
        refine wpAnyG_take (i := 9) (v := ?_) rfl (by kernel_rfl) (by decide +kernel) (by decide +kernel) (by decide +kernel) (by decide +kernel) (by rfl) (fun _ _ _ h => h) (by kernel_rfl) ?_ (by assumption) ?_
        rotate_left
        · (intro wz hSw; (try dsimp only at hSw); go_simp; with_reducible rfl)
        try simp only [Act.put, List.setIfInBounds_toArray, List.set_cons_zero, List.set_cons_succ]
        refine wpAnyG_takeY (i := 10) (v := ?_) rfl (by kernel_rfl) (by decide +kernel) (by decide +kernel) (by decide +kernel) (fun _ _ _ h => h) (by kernel_rfl) ?_ (by assumption) ?_
        rotate_left
        · (intro wz; go_simp; with_reducible rfl)
        try simp only [Act.put, List.setIfInBounds_toArray, List.set_cons_zero, List.set_cons_succ]
        refine wpAnyG_takeY (i := 11) (v := ?_) rfl (by kernel_rfl) (by decide +kernel) (by decide +kernel) (by decide +kernel) (fun _ _ _ h => h) (by kernel_rfl) ?_ (by assumption) ?_
        rotate_left
        · (intro wz; go_simp; with_reducible rfl)
        try simp only [Act.put, List.setIfInBounds_toArray, List.set_cons_zero, List.set_cons_succ]
        refine wpAnyG_takeY (i := 12) (v := ?_) rfl (by kernel_rfl) (by decide +kernel) (by decide +kernel) (by decide +kernel) (fun _ _ _ h => h) (by kernel_rfl) ?_ (by assumption) ?_
        rotate_left
        · (intro wz; go_simp; with_reducible rfl)
        try simp only [Act.put, List.setIfInBounds_toArray, List.set_cons_zero, List.set_cons_succ]
        refine wpAnyG_take (i := 13) (v := ?_) rfl (by kernel_rfl) (by decide +kernel) (by decide +kernel) (by decide +kernel) (by decide +kernel) (by rfl) (fun _ _ _ h => h) (by kernel_rfl) ?_ (by assumption) ?_
        rotate_left
        · (intro wz hSw; (try dsimp only at hSw); go_simp; with_reducible rfl)
        try simp only [Act.put, List.setIfInBounds_toArray, List.set_cons_zero, List.set_cons_succ]
        refine wpAnyG_takeY (i := 14) (v := ?_) rfl (by kernel_rfl) (by decide +kernel) (by decide +kernel) (by decide +kernel) (fun _ _ _ h => h) (by kernel_rfl) ?_ (by assumption) ?_
        rotate_left
        · (intro wz; go_simp; with_reducible rfl)
        try simp only [Act.put, List.setIfInBounds_toArray, List.set_cons_zero, List.set_cons_succ]
        refine wpAnyG_takeY (i := 15) (v := ?_) rfl (by kernel_rfl) (by decide +kernel) (by decide +kernel) (by decide +kernel) (fun _ _ _ h => h) (by kernel_rfl) ?_ (by assumption) ?_
        rotate_left
        · (intro wz; go_simp; with_reducible rfl)
        try simp only [Act.put, List.setIfInBounds_toArray, List.set_cons_zero, List.set_cons_succ]
        refine wpAnyG_takeY (i := 16) (v := ?_) rfl (by kernel_rfl) (by decide +kernel) (by decide +kernel) (by decide +kernel) (fun _ _ _ h => h) (by kernel_rfl) ?_ (by assumption) ?_
        rotate_left
        · (intro wz; go_simp; with_reducible rfl)
        try simp only [Act.put, List.setIfInBounds_toArray, List.set_cons_zero, List.set_cons_succ]
        refine wpAnyG_take (i := 17) (v := ?_) rfl (by kernel_rfl) (by decide +kernel) (by decide +kernel) (by decide +kernel) (by decide +kernel) (by rfl) (fun _ _ _ h => h) (by kernel_rfl) ?_ (by assumption) ?_
        rotate_left
        · (intro wz hSw; (try dsimp only at hSw); go_simp; with_reducible rfl)
        try simp only [Act.put, List.setIfInBounds_toArray, List.set_cons_zero, List.set_cons_succ]
        refine wpAnyG_takeY (i := 18) (v := ?_) rfl (by kernel_rfl) (by decide +kernel) (by decide +kernel) (by decide +kernel) (fun _ _ _ h => h) (by kernel_rfl) ?_ (by assumption) ?_
        rotate_left
        · (intro wz; go_simp; with_reducible rfl)
        try simp only [Act.put, List.setIfInBounds_toArray, List.set_cons_zero, List.set_cons_succ]
        refine wpAnyG_done (by kernel_rfl) ?_ _
        go_simp
        clear hF
        have KD3 := Lib.hid ((Keeps.refl [] W3).drew)
        obtain ⟨W4, hW4⟩ : ∃ W4, W3.drew = W4 := ⟨_, rfl⟩
        rw [hW4] at KD3 ⊢
        have D4 := Lib.hid (D3.out.keeps KD3.out (by simp) (by simp))
        have M4 := Lib.hid (KD3.out.has M3.out (by simp))
        have R4 := Lib.hid (KD3.out.has R3.out (by simp))
        have S4 := Lib.hid (S3.out.keeps KD3.out (by simp))
        have C4' := Lib.hid (C3.out.keeps KD3.out (by simp))
        have KW4 := Lib.hid (KW3.out.trans (KD3.out.mono (by simp)))
        have EC2 := Lib.hid (show scanC d Q c = c.visN (d.T.walks Q.sk) by unfold scanC; rw [if_neg (by rw [HO.out]; simp)])
        clear hW4 c0 c3 e2 x0 y2
        by_cases hkk : yk = qk
        · have dk : (yk == qk) = true := by simpa using hkk
          have HKK := Lib.hid (show y.key = Q.k by rw [← hyk.out, ← hqk.out]; exact hkk)
          rw [dk]
          clear hkk dk
          have HB := rhit_any k (by omega) rb db t lo S m d Q (.pointer (some ⟨kb1, 0, none⟩)) Q.ver n false false false Q.turn Q.scans y W4 D4.out M4.out HRB.out HN.out HI.out.t (by have := HI.out.v; omega) HY.out
          go_wp2_with (go_at_call 108; refine HB.mono ?_; rintro r w5 ⟨rfl, d5, m5, k5⟩; have r5 := k5.has R4.out (by simp; exact ⟨LRN.out.2.1, LRN.out.2.2.1, LRN.out.1⟩); have R5 := Lib.hid r5; have D5 := Lib.hid d5; have M5 := Lib.hid m5; have K5 := Lib.hid k5; obtain ⟨s0, s1, s2, s3, s4⟩ := trn_cells r5; obtain ⟨u0, u1, u2, u3, u4⟩ := trn_free r5; clear r5 m5 k5 d5; unfold Trn.agg hitT)
          obtain ⟨v1, v2⟩ := trn_store noTrn (hitT y n) R5.out
          have eM2 : scanM d Q = ({ Q with sk := d.T.next Q.sk } : Mac).done (hitT y n) := by
            unfold scanM; simp only
            rw [if_neg (by rw [HO.out]; simp), HAT.out, if_pos HKK.out, HTN.out]
          have eD2 : scanD d Q = d.hit Q n := by
            unfold scanD; simp only
            rw [if_neg (by rw [HO.out]; simp), HAT.out, if_pos HKK.out, HTN.out]
          have hfin := FIN.out S w5 _ (by rw [eD2]; exact D5.out) (by rw [EC2.out]; exact C4'.out.keeps K5.out (fun b hb h => by
              simp only [List.mem_cons] at h
              have h8 : b ∈ mS m := by rw [hb]; simp [mS]
              rcases h with h | h | h
              · subst h; exact RBM.out.1 h8
              · subst h; exact RBM.out.2 h8
              · have := LM.out _ h8; have := (D4.out.foot b (by simp [h])).1; omega)) (by rw [eM2]; exact ⟨n, false, M5.out, (fun h => by rcases h with h | h <;> cases h), fun h => absurd rfl h⟩) (S4.out.keeps K5.out (by simp; exact ⟨A2.out, A3.out, A1.out⟩)) (KW4.out.trans (K5.out.mono (fun z hz => by simp at hz ⊢; rcases hz with h | h | h <;> simp [h]))) (Grew.refl _ _) LRN.out.1 A1.out v2
          rw [eM2] at hfin
          have hfin2 := Lib.hid (show RStepP rb kb db t lo S m c d q w (.returned (hitT y n).agg) _ from hfin)
          unfold hitT at v1 hfin2
          have rc := cell_of_has v1
          simp only at rc
          exact bodyPost_ret (v := (hitT y n).agg) (by simp [results, Tryz.results66, go_sem, Trn.agg, hitT, rc]) rfl hfin2.out
        · have dk : (yk == qk) = false := by simpa using hkk
          have HKK := Lib.hid (show ¬ y.key = Q.k by rw [← hyk.out, ← hqk.out]; exact hkk)
          rw [dk]
          clear hkk dk
          obtain ⟨ta, tc, tq, b1, b2, _, _, _, _, _⟩ := D4.out.t
          have hlen := (List.getElem?_eq_some_iff.1 H1.out).1
          obtain ⟨g4, rfl⟩ := b2.shape (by omega)
          obtain ⟨_, _, e2, _, _⟩ := at_cells b2 H1.out
          rw [← hln.out] at b1
          have x0 : W4.cell? ⟨t, 0, none⟩ = some (.slice (some ⟨g4, 0, none⟩) len tc) := cell_has b1 (i := 0) rfl
          have y2 : W4.cell? ⟨db, 2, none⟩ = some (.pointer (some ⟨t, 0, none⟩)) := cell_has D4.out.b (i := 2) rfl
          obtain ⟨c0, _, _, _, _, _, _, _, c8, _, _, c11, c12, c13, c14, c15, _⟩ := rm_cells M4.out
          have f8 := free_of_has M4.out 8
          have f11 := free_of_has M4.out 11
          have f12 := free_of_has M4.out 12
          have f13 := free_of_has M4.out 13
          have f14 := free_of_has M4.out 14
          have f15 := free_of_has M4.out 15
          rw [← hyk.out] at e2
          have nbd : rb ≠ db := HN.out
          have nbt : rb ≠ t := fun e => HRB.out (by
            obtain ⟨_, _, _, _, _, _, h9, _⟩ := D4.out.t
            rw [e]; exact h9)
          have nbg : rb ≠ g4 := fun e => HRB.out (by
            obtain ⟨a9, c9', q9, h8, _, _, _, _, h9, _⟩ := D4.out.t
            rw [h8] at b1
            unfold rtabO at b1
            simp at b1
            rw [b1.1.1] at h9
            exact h9 rb (by simp [blk, e]))
          clear b1 b2 hlen
          go_upto_region 18 with (fail)
          refine wp_gen (fun V => V.heap[rb]? = some (rmO db Q.g Q.h Q.k Q.v (.pointer (some ⟨kb1, 0, none⟩)) Q.ver n true false false ⟨1, yk, false, 0, 0⟩ Q.scans) ∧ Keeps [rb] W4 V) (rm_wait n ⟨1, yk, false, 0, 0⟩ M4.out) ?_
          rintro W5 ⟨m5, k5⟩
          have r5 := k5.has R4.out (by simp; exact LRN.out.2.1)
          obtain ⟨_, _, _, _, _, _, _, _, _, _, _, d11, d12, d13, d14, d15, _⟩ := rm_cells m5
          obtain ⟨s0, s1, s2, s3, s4⟩ := trn_cells r5
          obtain ⟨u0, u1, u2, u3, u4⟩ := trn_free r5
          have M5 := Lib.hid m5
          have K5 := Lib.hid k5
          have R5 := Lib.hid r5
          simp only at d11 d12 d13 d14 d15
          clear m5 k5 r5 c0 c8 c11 c12 c13 c14 c15 f8 f11 f12 f13 f14 f15 e2 x0 y2
          go_wp2_with fail
          obtain ⟨v1, v2⟩ := trn_store noTrn ⟨1, yk, false, 0, 0⟩ R5.out
          have rc := cell_of_has v1
          simp only at rc v2
          have eM2 : scanM d Q = { Q with sk := d.T.next Q.sk, st := 2, ent := n, turn := ⟨1, yk, false, 0, 0⟩ } := by
            unfold scanM; simp only
            rw [if_neg (by rw [HO.out]; simp), HAT.out, if_neg HKK.out, HTN.out, ← hyk.out]
          have eD2 : scanD d Q = d := by
            unfold scanD; simp only
            rw [if_neg (by rw [HO.out]; simp), HAT.out, if_neg HKK.out]
          have hfin := FIN.out S W5 _ (by rw [eD2]; exact D4.out.keeps K5.out (by simp; exact HN.out.symm) (fun z hz h => by simp at h; subst h; exact HRB.out hz)) (by rw [EC2.out]; exact C4'.out.keeps K5.out (fun b hb h => by simp at h; subst h; exact RBM.out.1 (by rw [hb]; simp [mS]))) (by rw [eM2]; exact ⟨n, false, M5.out, fun _ => rfl, fun _ => rfl⟩) (S4.out.keeps K5.out (by simp; exact A2.out)) (KW4.out.trans (K5.out.mono (by simp))) (Grew.refl _ _) LRN.out.1 A1.out v2
          rw [eM2] at hfin
          have hfin2 : RStepP rb kb db t lo S m c d q w (.returned (⟨1, yk, false, 0, 0⟩ : Trn).agg) _ := hfin
          exact bodyPost_ret (v := (⟨1, yk, false, 0, 0⟩ : Trn).agg) (by simp [results, Tryz.results66, go_sem, Trn.agg, rc]) rfl hfin2
      · have HO := Lib.hid ho
        have HB := rmiss_any k (by omega) rb db t lo S m (c.visN (d.T.walks Q.sk)) d Q (.pointer (some ⟨kb1, 0, none⟩)) Q.ver at1 false false false Q.turn Q.scans w2 D2.out C2.out HMM.out M2.out HRB.out HN.out HLO.out HI.out.t (by have := HI.out.v; omega)
        have EC2 := Lib.hid (show scanC d Q c = missC d Q (c.visN (d.T.walks Q.sk)) by unfold scanC; rw [if_pos HO.out])
        have ED2 := Lib.hid (show scanD d Q = d.miss Q by unfold scanD; simp only; rw [if_pos HO.out])
        have EM2 := Lib.hid (show scanM d Q = ({ Q with sk := d.T.next Q.sk } : Mac).done (missT d Q) by unfold scanM; simp only; rw [if_pos HO.out]; rfl)
        obtain ⟨mt, hmt⟩ := ex_hid (missT d Q)
        clear ho
        unfold RMissP at HB
        rw [← hmt.out] at HB
        go_wp2_with (go_at_call 110; refine HB.mono ?_; rintro r w5 ⟨S5, rfl, d5, c5, m5, k5, g5⟩; have r5 := k5.has R2.out (by simp; exact ⟨LRN.out.2.1, LRN.out.2.2.1, LRN.out.1, LRN.out.2.2.2⟩); have R5 := Lib.hid r5; have D5 := Lib.hid d5; have M5 := Lib.hid m5; have K5 := Lib.hid k5; have C5 := Lib.hid c5; have G5 := Lib.hid g5; obtain ⟨s0, s1, s2, s3, s4⟩ := trn_cells r5; obtain ⟨u0, u1, u2, u3, u4⟩ := trn_free r5; clear r5 m5 k5 d5 c5 g5; unfold Trn.agg)
        obtain ⟨v1, v2⟩ := trn_store noTrn mt R5.out
        have rc := cell_of_has v1
        have hfin := FIN.out S5 w5 _ (by rw [ED2.out]; exact D5.out) (by rw [EC2.out]; exact C5.out) (by rw [EM2.out]; exact ⟨at1, false, by rw [← hmt.out]; exact M5.out, (fun h => by rcases h with h | h <;> cases h), fun h => absurd rfl h⟩) (S2.out.keeps K5.out (by simp; exact ⟨A2.out, A3.out, A1.out, A4.out⟩)) (KW2.out.trans (K5.out.mono (fun z hz => by simp at hz ⊢; rcases hz with h | h | h | h <;> simp [h]))) (fun z hz => by
            rcases G5.out z hz with h | h
            · exact .inl h
            · have := ZW.out; exact .inr (by omega)) (fun h => by
            rcases G5.out _ h with h1 | h1
            · exact LRN.out.1 h1
            · have := LR2.out; omega) (fun h => by
            rcases G5.out _ h with h1 | h1
            · exact A1.out h1
            · have := LK2.out; omega) v2
        rw [EM2.out] at hfin
        have e : (({ Q with sk := d.T.next Q.sk } : Mac).done (missT d Q)).turn = mt := hmt.out.symm
        rw [e] at hfin
        exact bodyPost_ret (v := mt.agg) (by simp [results, Tryz.results66, go_sem, Trn.agg, rc]) rfl hfin
theorem rstep_any (k : Nat) (hk : k ≤ 990) (rb kb db t lo : Nat) (S : List Nat) (m : Option Nat) (c : C4) (d : Dic) (q : Mac) (w : World) (HD : RDicAt db t lo S m d w) (hC : CtrAt m c w) (hm : ∀ b, m = some b → b < lo) (HQ : RMacAt rb kb db t q w) (hrb : rb ∉ S) (hn : rb ≠ db) (hlo : lo ≤ rb) (hkb : q.st ≠ 0 → kb ∉ S ∧ kb ≠ rb ∧ kb ≠ db ∧ kb ∉ mS m) (hI : DicOk k d) (hO : MacOk d q) (hsc : q.scans ≤ 1000000) :
    Calls Tryz.prog 66 #[.pointer (some ⟨rb, 0, none⟩)] w (RStepP rb kb db t lo S m c d q w) := by
  by_cases h1 : q.st = 4 ∨ q.st = 2
  · exact rstep_done rb kb db t lo S m c d q w HD hC HQ hkb h1
  · by_cases h2 : q.fresh d = true
    · exact rstep_scan k hk rb kb db t lo S m c d q w HD hC hm HQ hrb hn hlo hkb hI hO hsc (by omega) (by omega) (.inl h2)
    · by_cases h3 : q.st = 3
      · exact rstep_hit k hk rb kb db t lo S m c d q w HD hC hm HQ hrb hn hlo hkb hI hO h3 (by simpa using h2)
      · have h0 := (Mac.fresh_not (by simpa using h2)).1
        have := hO.st
        exact rstep_scan k hk rb kb db t lo S m c d q w HD hC hm HQ hrb hn hlo hkb hI hO hsc (by omega) (by omega) (.inr (by omega))
end Go.Proofs.YtcakdmapnmneoaaGreat
