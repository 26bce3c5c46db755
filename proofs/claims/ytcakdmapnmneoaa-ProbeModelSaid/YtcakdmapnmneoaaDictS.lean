/- A machine's Step (chapter 8). -/
import Derived.Test.YtcakdmapnmneoaaDictC
import Derived.Test.YtcakdmapnmneoaaTabNxtL
namespace Go.Proofs.Ytcakdmapnmneoaa
open Go.RowKit
set_option linter.unusedVariables false
set_option linter.unusedSimpArgs false

theorem mac_wait {W : World} {mb db g : Nat} {skp : Value} {h k v : Int} {st : Nat} {ev : Int} {scans ver : Nat} {y : Trn} (e : Int) (x : Trn) (H : W.heap[mb]? = some (macO skp db g h k v st ev scans ver y)) :
    (((((((W.setCell ⟨mb, 7, none⟩ (.int .i64 2)).setCell ⟨mb, 8, none⟩ (.int .i64 e)).setCell ⟨mb, 11, none⟩ (.int .i64 x.kind)).setCell ⟨mb, 12, none⟩ (.int .i64 x.key)).setCell ⟨mb, 13, none⟩ (.bool x.found)).setCell ⟨mb, 14, none⟩ (.int .i64 x.val)).setCell ⟨mb, 15, none⟩ (.int .i64 x.ent)).heap[mb]? = some (macO skp db g h k v 2 e scans ver x) ∧
    Keeps [mb] W (((((((W.setCell ⟨mb, 7, none⟩ (.int .i64 2)).setCell ⟨mb, 8, none⟩ (.int .i64 e)).setCell ⟨mb, 11, none⟩ (.int .i64 x.kind)).setCell ⟨mb, 12, none⟩ (.int .i64 x.key)).setCell ⟨mb, 13, none⟩ (.bool x.found)).setCell ⟨mb, 14, none⟩ (.int .i64 x.val)).setCell ⟨mb, 15, none⟩ (.int .i64 x.ent)) := by
  unfold macO at H
  have h0 := has_setCell H 7 (.int .i64 2)
  simp only [List.setIfInBounds_toArray, List.set_cons_zero, List.set_cons_succ] at h0
  have h8 := has_setCell h0 8 (.int .i64 e)
  simp only [List.setIfInBounds_toArray, List.set_cons_zero, List.set_cons_succ] at h8
  have h1 := has_setCell h8 11 (.int .i64 x.kind)
  simp only [List.setIfInBounds_toArray, List.set_cons_zero, List.set_cons_succ] at h1
  have h2 := has_setCell h1 12 (.int .i64 x.key)
  simp only [List.setIfInBounds_toArray, List.set_cons_zero, List.set_cons_succ] at h2
  have h3 := has_setCell h2 13 (.bool x.found)
  simp only [List.setIfInBounds_toArray, List.set_cons_zero, List.set_cons_succ] at h3
  have h4 := has_setCell h3 14 (.int .i64 x.val)
  simp only [List.setIfInBounds_toArray, List.set_cons_zero, List.set_cons_succ] at h4
  have h5 := has_setCell h4 15 (.int .i64 x.ent)
  simp only [List.setIfInBounds_toArray, List.set_cons_zero, List.set_cons_succ] at h5
  exact ⟨h5, (((((((Keeps.refl [mb] W).setCell (p := ⟨mb, 7, none⟩) (.inr (by simp)) _).setCell (p := ⟨mb, 8, none⟩) (.inr (by simp)) _).setCell (p := ⟨mb, 11, none⟩) (.inr (by simp)) _).setCell (p := ⟨mb, 12, none⟩) (.inr (by simp)) _).setCell (p := ⟨mb, 13, none⟩) (.inr (by simp)) _).setCell (p := ⟨mb, 14, none⟩) (.inr (by simp)) _).setCell (p := ⟨mb, 15, none⟩) (.inr (by simp)) _⟩
def skS (st sb : Nat) : List Nat := if st = 0 then [] else [sb]
/-- Behind a Step. -/
def StepP (mb sb db t lo : Nat) (S : List Nat) (m : Option Nat) (c : C4) (d : Dic) (q : Mac) (w : World) (r : Ending) (w' : World) : Prop :=
  ∃ S' sb', r = .returned (stepM d q).turn.agg ∧ DicAt db t lo S' (mV m) (stepD d q) w' ∧ MtrAt m (stepC d q c) w' ∧ MacAt mb sb' db t (stepM d q) w' ∧ Keeps (mb :: db :: (skS q.st sb ++ S ++ mS m)) w w' ∧ Grew S w S' ∧ ((sb' = sb ∧ q.st ≠ 0) ∨ w.heap.size ≤ sb') ∧ ((stepM d q).st ≠ 0 → sb' ∉ S' ∧ sb' ≠ mb ∧ sb' ≠ db ∧ sb' ∉ mS m)
/-- Behind a scan that goes on in the world W. -/
def ScanP (mb sb db t lo : Nat) (S : List Nat) (m : Option Nat) (c : C4) (d : Dic) (q : Mac) (W : World) (lr : Nat) (r : Ending) (w' : World) : Prop :=
  ∃ S', r = .returned (scanM d q).turn.agg ∧ DicAt db t lo S' (mV m) (scanD d q) w' ∧ MtrAt m (scanC d q c) w' ∧ MacAt mb sb db t (scanM d q) w' ∧ Keeps (mb :: db :: lr :: (sb :: S ++ mS m)) W w' ∧ Grew S W S'
set_option maxRecDepth 100000 in
set_option maxHeartbeats 4000000 in
theorem step_done (k : Nat) (hk : k ≤ 990) (mb sb db t lo : Nat) (S : List Nat) (m : Option Nat) (c : C4) (d : Dic) (q : Mac) (w : World) (H : DicAt db t lo S (mV m) d w) (hM : MtrAt m c w) (hm : ∀ b, m = some b → b < lo) (HQ : MacAt mb sb db t q w) (hmS : mb ∉ S) (hmd : mb ≠ db) (hmm : mb ∉ mS m) (hsb : q.st ≠ 0 → sb ∉ S ∧ sb ≠ mb ∧ sb ≠ db ∧ sb ∉ mS m) (hI : DicOk k d) (hO : MacOk d q) (hsc : q.scans ≤ 1000000) (hst : q.st = 4 ∨ q.st = 2) :
    Calls Try.prog 14 #[.pointer (some ⟨mb, 0, none⟩)] w (StepP mb sb db t lo S m c d q w) := by
  obtain ⟨evv, hb, hev, hsk⟩ := HQ
  have HD := Lib.hid H
  have HM := Lib.hid hM
  have HB := Lib.hid hb
  have HEV := Lib.hid hev
  have HSK := Lib.hid hsk
  have hI := Lib.hid hI
  have HO2 := Lib.hid hO
  have HSB := Lib.hid hsb
  have lM : ∀ z, z ∈ mS m → z < lo := fun z hx => by cases m with | none => simp [mS] at hx | some b => simp [mS] at hx; subst hx; exact hm _ rfl
  have LM := Lib.hid lM
  have lol := H.l
  have DBM := Lib.hid (show db ∉ mS m from fun hx => by have := lM _ hx; omega)
  have lm := lt_of_block hb
  have ld := lt_of_block H.b
  have lS : ∀ z, z ∈ S → z < w.heap.size := fun z hz => (H.t.foot z hz).2
  have LS := Lib.hid lS
  obtain ⟨lr, hlr⟩ : ∃ lr, lr = w.heap.size := ⟨_, rfl⟩
  have HLR := Lib.hid hlr
  have lolr : lo ≤ lr := by omega
  have LR := Lib.hid (show lr ≠ mb ∧ lr ≠ db ∧ lr ∉ S from ⟨by omega, by omega, fun hx => by have := lS _ hx; omega⟩)
  obtain ⟨WA, hWA⟩ : ∃ WA, w.alloc (.cells #[.int .i64 0, .int .i64 0, .bool false, .int .i64 0, .int .i64 0] 29) = WA := ⟨_, rfl⟩
  have kb : Keeps [] w WA := by rw [← hWA]; exact (Keeps.refl [] w).alloc _
  have bT : WA.heap[lr]? = some (trnO noTrn) := by rw [← hWA, hlr]; exact has_new _ _
  have HWA := Lib.hid hWA
  have KB := Lib.hid kb
  have BT := Lib.hid bT
  have BM := Lib.hid (kb.has hb (by simp))
  have c1 : WA.cell? ⟨mb, 1, none⟩ = some (.pointer (some ⟨db, 0, none⟩)) := cell_has BM.out (i := 1) rfl
  have c7 : WA.cell? ⟨mb, 7, none⟩ = some (.int .i64 q.st) := cell_has BM.out (i := 7) rfl
  have zWA : WA.heap.size = lr + 1 := by rw [← hWA, hlr]; simp
  clear H hM hb hev hsk hO hsb lM lS hlr hWA kb bT
  go_enter Try.func14, Try.ntmps14
  go_upto_region 1 with (fail)
  rw [HWA.out, ← HLR.out]
  have z0 : (q.st = 4 ∨ q.st = 2) := hst
  obtain ⟨_, m11, m12, m13, m14, m15⟩ := mac_cells BM.out
  obtain ⟨t0, t1, t2, t3, t4⟩ := trn_cells BT.out
  obtain ⟨u0, u1, u2, u3, u4⟩ := trn_free BT.out
  have eM : stepM d q = q := by unfold stepM; rw [if_pos hst]
  have eD : stepD d q = d := by unfold stepD; rw [if_pos hst]
  have eC : stepC d q c = c := by unfold stepC; rw [if_pos hst]
  have hs0 : q.st ≠ 0 := by omega
  have fin : ∀ W9 : World, Keeps [lr] WA W9 → StepP mb sb db t lo S m c d q w (.returned q.turn.agg) W9 := fun W9 k9 => by
    have k8 : Keeps [] w W9 := KB.out.then k9 (fun z hz => by simp at hz; have := HLR.out; left; omega)
    refine ⟨S, sb, by rw [eM], by rw [eD]; exact HD.out.keeps k8 (by simp) (by simp), by rw [eC]; exact HM.out.keeps k8 (by simp), ?_, k8.mono (by simp), Grew.refl _ _, .inl ⟨rfl, hs0⟩, fun _ => HSB.out hs0⟩
    rw [eM]
    exact ⟨evv, k8.has HB.out (by simp), HEV.out, fun h => (HSK.out h).keeps k8 (by simp)⟩
  have FIN := Lib.hid fin
  clear fin eM eD eC z0
  rcases hst with hs | hs
  · rw [hs] at c7
    clear hs hs0
    go_wp2_with fail
    obtain ⟨s1, s2⟩ := trn_store noTrn q.turn BT.out
    have rc := cell_of_has s1
    exact bodyPost_ret (v := q.turn.agg) (by simp [results, Try.results14, go_sem, Trn.agg, rc]) rfl (FIN.out _ s2)
  · rw [hs] at c7
    clear hs hs0
    go_wp2_with fail
    obtain ⟨s1, s2⟩ := trn_store noTrn q.turn BT.out
    have rc := cell_of_has s1
    exact bodyPost_ret (v := q.turn.agg) (by simp [results, Try.results14, go_sem, Trn.agg, rc]) rfl (FIN.out _ s2)
set_option maxRecDepth 100000 in
set_option maxHeartbeats 4000000 in
theorem step_fresh (k : Nat) (hk : k ≤ 990) (mb sb db t lo : Nat) (S : List Nat) (m : Option Nat) (c : C4) (d : Dic) (q : Mac) (w : World) (H : DicAt db t lo S (mV m) d w) (hM : MtrAt m c w) (hm : ∀ b, m = some b → b < lo) (HQ : MacAt mb sb db t q w) (hmS : mb ∉ S) (hmd : mb ≠ db) (hmm : mb ∉ mS m) (hsb : q.st ≠ 0 → sb ∉ S ∧ sb ≠ mb ∧ sb ≠ db ∧ sb ∉ mS m) (hI : DicOk k d) (hO : MacOk d q) (hsc : q.scans ≤ 1000000) (hst : ¬ (q.st = 4 ∨ q.st = 2)) (hf : q.fresh d = true) :
    Calls Try.prog 14 #[.pointer (some ⟨mb, 0, none⟩)] w (StepP mb sb db t lo S m c d q w) := by
  obtain ⟨evv, hb, hev, hsk⟩ := HQ
  have HD := Lib.hid H
  have HM := Lib.hid hM
  have HB := Lib.hid hb
  have HEV := Lib.hid hev
  have HSK := Lib.hid hsk
  have hI := Lib.hid hI
  have HO2 := Lib.hid hO
  have HSB := Lib.hid hsb
  have lM : ∀ z, z ∈ mS m → z < lo := fun z hx => by cases m with | none => simp [mS] at hx | some b => simp [mS] at hx; subst hx; exact hm _ rfl
  have LM := Lib.hid lM
  have lol := H.l
  have DBM := Lib.hid (show db ∉ mS m from fun hx => by have := lM _ hx; omega)
  have lm := lt_of_block hb
  have ld := lt_of_block H.b
  have lS : ∀ z, z ∈ S → z < w.heap.size := fun z hz => (H.t.foot z hz).2
  have LS := Lib.hid lS
  obtain ⟨lr, hlr⟩ : ∃ lr, lr = w.heap.size := ⟨_, rfl⟩
  have HLR := Lib.hid hlr
  have lolr : lo ≤ lr := by omega
  have LR := Lib.hid (show lr ≠ mb ∧ lr ≠ db ∧ lr ∉ S from ⟨by omega, by omega, fun hx => by have := lS _ hx; omega⟩)
  obtain ⟨WA, hWA⟩ : ∃ WA, w.alloc (.cells #[.int .i64 0, .int .i64 0, .bool false, .int .i64 0, .int .i64 0] 29) = WA := ⟨_, rfl⟩
  have kb : Keeps [] w WA := by rw [← hWA]; exact (Keeps.refl [] w).alloc _
  have bT : WA.heap[lr]? = some (trnO noTrn) := by rw [← hWA, hlr]; exact has_new _ _
  have HWA := Lib.hid hWA
  have KB := Lib.hid kb
  have BT := Lib.hid bT
  have BM := Lib.hid (kb.has hb (by simp))
  have c1 : WA.cell? ⟨mb, 1, none⟩ = some (.pointer (some ⟨db, 0, none⟩)) := cell_has BM.out (i := 1) rfl
  have c7 : WA.cell? ⟨mb, 7, none⟩ = some (.int .i64 q.st) := cell_has BM.out (i := 7) rfl
  have zWA : WA.heap.size = lr + 1 := by rw [← hWA, hlr]; simp
  clear H hM hb hev hsk hO hsb lM lS hlr hWA kb bT
  go_enter Try.func14, Try.ntmps14
  go_upto_region 1 with (fail)
  rw [HWA.out, ← HLR.out]
  have n4 : ((q.st : Int) == 4) = false := by simp; omega
  have n2 : ((q.st : Int) == 2) = false := by simp; omega
  have c10 : WA.cell? ⟨mb, 10, none⟩ = some (.int .u64 q.ver) := cell_has BM.out (i := 10) rfl
  have c4 : WA.cell? ⟨mb, 4, none⟩ = some (.int .i64 q.h) := cell_has BM.out (i := 4) rfl
  have e2 : WA.cell? ⟨db, 2, none⟩ = some (.int .u64 d.ver) := cell_has (KB.out.has HD.out.b (by simp)) (i := 2) rfl
  obtain ⟨z, hz⟩ := ex_hid q.st
  rw [← hz.out] at c7 n4 n2
  have hfr : z = 0 ∨ q.ver ≠ d.ver := by
    have h9 := hf; unfold Mac.fresh at h9; simp at h9; rw [hz.out]; exact h9
  go_wp2_with fail
  go_cut [51] from 33 to 51 (fun z51 wx => z51 = .bool true ∧ wx = WA.drew)
  case first =>
    by_cases h0 : z = 0
    · have b0 : ((z : Int) == 0) = true := by simp; omega
      clear hfr h0
      refine wp_regionG (fun w' => w'.cell? ⟨mb, 7, none⟩ = some (.int .i64 z) ∧ w'.cell? ⟨mb, 10, none⟩ = some (.int .u64 q.ver) ∧ w'.cell? ⟨mb, 1, none⟩ = some (.pointer (some ⟨db, 0, none⟩)) ∧ w'.cell? ⟨db, 2, none⟩ = some (.int .u64 d.ver)) 19 (by kernel_rfl) ⟨c7, c10, c1, e2⟩ (fun hF => ?_)
      refine wpAnyG_takeY (i := 0) (v := ?_) rfl (by kernel_rfl) (by decide +kernel) (by decide +kernel) (by decide +kernel) (fun _ _ _ h => h) (by kernel_rfl) ?_ (by assumption) ?_
      rotate_left
      · (intro wz; go_simp; with_reducible rfl)
      try simp only [Act.put, List.setIfInBounds_toArray, List.set_cons_zero, List.set_cons_succ]
      refine wpAnyG_takeY (i := 1) (v := ?_) rfl (by kernel_rfl) (by decide +kernel) (by decide +kernel) (by decide +kernel) (fun _ _ _ h => h) (by kernel_rfl) ?_ (by assumption) ?_
      rotate_left
      · (intro wz; go_simp; with_reducible rfl)
      try simp only [Act.put, List.setIfInBounds_toArray, List.set_cons_zero, List.set_cons_succ]
      refine wpAnyG_takeY (i := 2) (v := ?_) rfl (by kernel_rfl) (by decide +kernel) (by decide +kernel) (by decide +kernel) (fun _ _ _ h => h) (by kernel_rfl) ?_ (by assumption) ?_
      rotate_left
      · (intro wz; go_simp; with_reducible rfl)
      try simp only [Act.put, List.setIfInBounds_toArray, List.set_cons_zero, List.set_cons_succ]
      refine wpAnyG_take (i := 3) (v := ?_) rfl (by kernel_rfl) (by decide +kernel) (by decide +kernel) (by decide +kernel) (by decide +kernel) (by rfl) (fun _ _ _ h => h) (by kernel_rfl) ?_ (by assumption) ?_
      rotate_left
      · (intro wz hSw; (try dsimp only at hSw); go_simp; with_reducible rfl)
      try simp only [Act.put, List.setIfInBounds_toArray, List.set_cons_zero, List.set_cons_succ]
      refine wpAnyG_takeY (i := 4) (v := ?_) rfl (by kernel_rfl) (by decide +kernel) (by decide +kernel) (by decide +kernel) (fun _ _ _ h => h) (by kernel_rfl) ?_ (by assumption) ?_
      rotate_left
      · (intro wz; go_simp; with_reducible rfl)
      try simp only [Act.put, List.setIfInBounds_toArray, List.set_cons_zero, List.set_cons_succ]
      refine wpAnyG_takeY (i := 5) (v := ?_) rfl (by kernel_rfl) (by decide +kernel) (by decide +kernel) (by decide +kernel) (fun _ _ _ h => h) (by kernel_rfl) ?_ (by assumption) ?_
      rotate_left
      · (intro wz; go_simp; with_reducible rfl)
      try simp only [Act.put, List.setIfInBounds_toArray, List.set_cons_zero, List.set_cons_succ]
      refine wpAnyG_takeU (i := 6) rfl (by kernel_rfl) (by decide +kernel) (by decide +kernel) (by decide +kernel) (fun _ _ _ h => h) (by kernel_rfl) (by assumption) ?_
      try simp only [Act.put, List.setIfInBounds_toArray, List.set_cons_zero, List.set_cons_succ]
      refine wpAnyG_takeU (i := 7) rfl (by kernel_rfl) (by decide +kernel) (by decide +kernel) (by decide +kernel) (fun _ _ _ h => h) (by kernel_rfl) (by assumption) ?_
      try simp only [Act.put, List.setIfInBounds_toArray, List.set_cons_zero, List.set_cons_succ]
      refine wpAnyG_takeU (i := 8) rfl (by kernel_rfl) (by decide +kernel) (by decide +kernel) (by decide +kernel) (fun _ _ _ h => h) (by kernel_rfl) (by assumption) ?_
      try simp only [Act.put, List.setIfInBounds_toArray, List.set_cons_zero, List.set_cons_succ]
      refine wpAnyG_takeU (i := 9) rfl (by kernel_rfl) (by decide +kernel) (by decide +kernel) (by decide +kernel) (fun _ _ _ h => h) (by kernel_rfl) (by assumption) ?_
      try simp only [Act.put, List.setIfInBounds_toArray, List.set_cons_zero, List.set_cons_succ]
      refine wpAnyG_takeU (i := 10) rfl (by kernel_rfl) (by decide +kernel) (by decide +kernel) (by decide +kernel) (fun _ _ _ h => h) (by kernel_rfl) (by assumption) ?_
      try simp only [Act.put, List.setIfInBounds_toArray, List.set_cons_zero, List.set_cons_succ]
      refine wpAnyG_takeU (i := 11) rfl (by kernel_rfl) (by decide +kernel) (by decide +kernel) (by decide +kernel) (fun _ _ _ h => h) (by kernel_rfl) (by assumption) ?_
      try simp only [Act.put, List.setIfInBounds_toArray, List.set_cons_zero, List.set_cons_succ]
      refine wpAnyG_takeU (i := 12) rfl (by kernel_rfl) (by decide +kernel) (by decide +kernel) (by decide +kernel) (fun _ _ _ h => h) (by kernel_rfl) (by assumption) ?_
      try simp only [Act.put, List.setIfInBounds_toArray, List.set_cons_zero, List.set_cons_succ]
      refine wpAnyG_takeU (i := 13) rfl (by kernel_rfl) (by decide +kernel) (by decide +kernel) (by decide +kernel) (fun _ _ _ h => h) (by kernel_rfl) (by assumption) ?_
      try simp only [Act.put, List.setIfInBounds_toArray, List.set_cons_zero, List.set_cons_succ]
      refine wpAnyG_takeU (i := 14) rfl (by kernel_rfl) (by decide +kernel) (by decide +kernel) (by decide +kernel) (fun _ _ _ h => h) (by kernel_rfl) (by assumption) ?_
      try simp only [Act.put, List.setIfInBounds_toArray, List.set_cons_zero, List.set_cons_succ]
      refine wpAnyG_takeU (i := 15) rfl (by kernel_rfl) (by decide +kernel) (by decide +kernel) (by decide +kernel) (fun _ _ _ h => h) (by kernel_rfl) (by assumption) ?_
      try simp only [Act.put, List.setIfInBounds_toArray, List.set_cons_zero, List.set_cons_succ]
      refine wpAnyG_takeU (i := 16) rfl (by kernel_rfl) (by decide +kernel) (by decide +kernel) (by decide +kernel) (fun _ _ _ h => h) (by kernel_rfl) (by assumption) ?_
      try simp only [Act.put, List.setIfInBounds_toArray, List.set_cons_zero, List.set_cons_succ]
      refine wpAnyG_takeU (i := 17) rfl (by kernel_rfl) (by decide +kernel) (by decide +kernel) (by decide +kernel) (fun _ _ _ h => h) (by kernel_rfl) (by assumption) ?_
      try simp only [Act.put, List.setIfInBounds_toArray, List.set_cons_zero, List.set_cons_succ]
      refine wpAnyG_takeY (i := 18) (v := ?_) rfl (by kernel_rfl) (by decide +kernel) (by decide +kernel) (by decide +kernel) (fun _ _ _ h => h) (by kernel_rfl) ?_ (by assumption) ?_
      rotate_left
      · (intro wz; go_simp; with_reducible rfl)
      try simp only [Act.put, List.setIfInBounds_toArray, List.set_cons_zero, List.set_cons_succ]
      refine wpAnyG_done (by kernel_rfl) ?_ _
      go_simp
      go_wp2_with fail
      go_meet
      exact ⟨rfl, rfl⟩
    · have b0 : ((z : Int) == 0) = false := by simp; omega
      have b1 : ((q.ver : Int) != (d.ver : Int)) = true := by have := hfr.resolve_left h0; simp; omega
      clear hfr h0
      refine wp_regionG (fun w' => w'.cell? ⟨mb, 7, none⟩ = some (.int .i64 z) ∧ w'.cell? ⟨mb, 10, none⟩ = some (.int .u64 q.ver) ∧ w'.cell? ⟨mb, 1, none⟩ = some (.pointer (some ⟨db, 0, none⟩)) ∧ w'.cell? ⟨db, 2, none⟩ = some (.int .u64 d.ver)) 19 (by kernel_rfl) ⟨c7, c10, c1, e2⟩ (fun hF => ?_)
      refine wpAnyG_takeY (i := 0) (v := ?_) rfl (by kernel_rfl) (by decide +kernel) (by decide +kernel) (by decide +kernel) (fun _ _ _ h => h) (by kernel_rfl) ?_ (by assumption) ?_
      rotate_left
      · (intro wz; go_simp; with_reducible rfl)
      try simp only [Act.put, List.setIfInBounds_toArray, List.set_cons_zero, List.set_cons_succ]
      refine wpAnyG_takeY (i := 1) (v := ?_) rfl (by kernel_rfl) (by decide +kernel) (by decide +kernel) (by decide +kernel) (fun _ _ _ h => h) (by kernel_rfl) ?_ (by assumption) ?_
      rotate_left
      · (intro wz; go_simp; with_reducible rfl)
      try simp only [Act.put, List.setIfInBounds_toArray, List.set_cons_zero, List.set_cons_succ]
      refine wpAnyG_takeY (i := 2) (v := ?_) rfl (by kernel_rfl) (by decide +kernel) (by decide +kernel) (by decide +kernel) (fun _ _ _ h => h) (by kernel_rfl) ?_ (by assumption) ?_
      rotate_left
      · (intro wz; go_simp; with_reducible rfl)
      try simp only [Act.put, List.setIfInBounds_toArray, List.set_cons_zero, List.set_cons_succ]
      refine wpAnyG_take (i := 3) (v := ?_) rfl (by kernel_rfl) (by decide +kernel) (by decide +kernel) (by decide +kernel) (by decide +kernel) (by rfl) (fun _ _ _ h => h) (by kernel_rfl) ?_ (by assumption) ?_
      rotate_left
      · (intro wz hSw; (try dsimp only at hSw); go_simp; with_reducible rfl)
      try simp only [Act.put, List.setIfInBounds_toArray, List.set_cons_zero, List.set_cons_succ]
      refine wpAnyG_takeY (i := 4) (v := ?_) rfl (by kernel_rfl) (by decide +kernel) (by decide +kernel) (by decide +kernel) (fun _ _ _ h => h) (by kernel_rfl) ?_ (by assumption) ?_
      rotate_left
      · (intro wz; go_simp; with_reducible rfl)
      try simp only [Act.put, List.setIfInBounds_toArray, List.set_cons_zero, List.set_cons_succ]
      refine wpAnyG_takeY (i := 5) (v := ?_) rfl (by kernel_rfl) (by decide +kernel) (by decide +kernel) (by decide +kernel) (fun _ _ _ h => h) (by kernel_rfl) ?_ (by assumption) ?_
      rotate_left
      · (intro wz; go_simp; with_reducible rfl)
      try simp only [Act.put, List.setIfInBounds_toArray, List.set_cons_zero, List.set_cons_succ]
      refine wpAnyG_takeY (i := 6) (v := ?_) rfl (by kernel_rfl) (by decide +kernel) (by decide +kernel) (by decide +kernel) (fun _ _ _ h => h) (by kernel_rfl) ?_ (by assumption) ?_
      rotate_left
      · (intro wz; go_simp; with_reducible rfl)
      try simp only [Act.put, List.setIfInBounds_toArray, List.set_cons_zero, List.set_cons_succ]
      refine wpAnyG_takeY (i := 7) (v := ?_) rfl (by kernel_rfl) (by decide +kernel) (by decide +kernel) (by decide +kernel) (fun _ _ _ h => h) (by kernel_rfl) ?_ (by assumption) ?_
      rotate_left
      · (intro wz; go_simp; with_reducible rfl)
      try simp only [Act.put, List.setIfInBounds_toArray, List.set_cons_zero, List.set_cons_succ]
      refine wpAnyG_takeY (i := 8) (v := ?_) rfl (by kernel_rfl) (by decide +kernel) (by decide +kernel) (by decide +kernel) (fun _ _ _ h => h) (by kernel_rfl) ?_ (by assumption) ?_
      rotate_left
      · (intro wz; go_simp; with_reducible rfl)
      try simp only [Act.put, List.setIfInBounds_toArray, List.set_cons_zero, List.set_cons_succ]
      refine wpAnyG_take (i := 9) (v := ?_) rfl (by kernel_rfl) (by decide +kernel) (by decide +kernel) (by decide +kernel) (by decide +kernel) (by rfl) (fun _ _ _ h => h) (by kernel_rfl) ?_ (by assumption) ?_
      rotate_left
      · (intro wz hSw; (try dsimp only at hSw); go_simp; with_reducible rfl)
      try simp only [Act.put, List.setIfInBounds_toArray, List.set_cons_zero, List.set_cons_succ]
      refine wpAnyG_takeY (i := 10) (v := ?_) rfl (by kernel_rfl) (by decide +kernel) (by decide +kernel) (by decide +kernel) (fun _ _ _ h => h) (by kernel_rfl) ?_ (by assumption) ?_
      rotate_left
      · (intro wz; go_simp; with_reducible rfl)
      try simp only [Act.put, List.setIfInBounds_toArray, List.set_cons_zero, List.set_cons_succ]
      refine wpAnyG_takeY (i := 11) (v := ?_) rfl (by kernel_rfl) (by decide +kernel) (by decide +kernel) (by decide +kernel) (fun _ _ _ h => h) (by kernel_rfl) ?_ (by assumption) ?_
      rotate_left
      · (intro wz; go_simp; with_reducible rfl)
      try simp only [Act.put, List.setIfInBounds_toArray, List.set_cons_zero, List.set_cons_succ]
      refine wpAnyG_takeY (i := 12) (v := ?_) rfl (by kernel_rfl) (by decide +kernel) (by decide +kernel) (by decide +kernel) (fun _ _ _ h => h) (by kernel_rfl) ?_ (by assumption) ?_
      rotate_left
      · (intro wz; go_simp; with_reducible rfl)
      try simp only [Act.put, List.setIfInBounds_toArray, List.set_cons_zero, List.set_cons_succ]
      refine wpAnyG_take (i := 13) (v := ?_) rfl (by kernel_rfl) (by decide +kernel) (by decide +kernel) (by decide +kernel) (by decide +kernel) (by rfl) (fun _ _ _ h => h) (by kernel_rfl) ?_ (by assumption) ?_
      rotate_left
      · (intro wz hSw; (try dsimp only at hSw); go_simp; with_reducible rfl)
      try simp only [Act.put, List.setIfInBounds_toArray, List.set_cons_zero, List.set_cons_succ]
      refine wpAnyG_takeY (i := 14) (v := ?_) rfl (by kernel_rfl) (by decide +kernel) (by decide +kernel) (by decide +kernel) (fun _ _ _ h => h) (by kernel_rfl) ?_ (by assumption) ?_
      rotate_left
      · (intro wz; go_simp; with_reducible rfl)
      try simp only [Act.put, List.setIfInBounds_toArray, List.set_cons_zero, List.set_cons_succ]
      refine wpAnyG_takeY (i := 15) (v := ?_) rfl (by kernel_rfl) (by decide +kernel) (by decide +kernel) (by decide +kernel) (fun _ _ _ h => h) (by kernel_rfl) ?_ (by assumption) ?_
      rotate_left
      · (intro wz; go_simp; with_reducible rfl)
      try simp only [Act.put, List.setIfInBounds_toArray, List.set_cons_zero, List.set_cons_succ]
      refine wpAnyG_take (i := 16) (v := ?_) rfl (by kernel_rfl) (by decide +kernel) (by decide +kernel) (by decide +kernel) (by decide +kernel) (by rfl) (fun _ _ _ h => h) (by kernel_rfl) ?_ (by assumption) ?_
      rotate_left
      · (intro wz hSw; (try dsimp only at hSw); go_simp; with_reducible rfl)
      try simp only [Act.put, List.setIfInBounds_toArray, List.set_cons_zero, List.set_cons_succ]
      refine wpAnyG_takeY (i := 17) (v := ?_) rfl (by kernel_rfl) (by decide +kernel) (by decide +kernel) (by decide +kernel) (fun _ _ _ h => h) (by kernel_rfl) ?_ (by assumption) ?_
      rotate_left
      · (intro wz; go_simp; with_reducible rfl)
      try simp only [Act.put, List.setIfInBounds_toArray, List.set_cons_zero, List.set_cons_succ]
      refine wpAnyG_takeY (i := 18) (v := ?_) rfl (by kernel_rfl) (by decide +kernel) (by decide +kernel) (by decide +kernel) (fun _ _ _ h => h) (by kernel_rfl) ?_ (by assumption) ?_
      rotate_left
      · (intro wz; go_simp; with_reducible rfl)
      try simp only [Act.put, List.setIfInBounds_toArray, List.set_cons_zero, List.set_cons_succ]
      refine wpAnyG_done (by kernel_rfl) ?_ _
      go_simp
      go_wp2_with fail
      go_meet
      exact ⟨rfl, rfl⟩
  case rest =>
    obtain ⟨rfl, rfl⟩ := hcut
    obtain ⟨W1, hW1⟩ : ∃ W1, WA.drew = W1 := ⟨_, rfl⟩
    have k1 : Keeps [] WA W1 := by rw [← hW1]; exact (Keeps.refl [] WA).drew
    have y1 := k1.cell c1 (by simp)
    have y4 := k1.cell c4 (by simp)
    have K1 := Lib.hid k1
    have B1 := Lib.hid (k1.has BM.out (by simp))
    have R1 := Lib.hid (k1.has BT.out (by simp))
    have D1 := Lib.hid (HD.out.keeps (KB.out.trans k1) (by simp) (by simp))
    have f0 := free_of_has B1.out 0
    have o0 : W1.cell? ⟨mb, 0, none⟩ = some (skV q.st sb) := cell_has B1.out (i := 0) rfl
    have z1 : W1.heap.size = lr + 1 := by rw [← hW1]; exact zWA
    rw [hW1]
    obtain ⟨sv, hsv⟩ : ∃ sv, Hid (sv = skV q.st sb) := ⟨_, Lib.hid rfl⟩
    rw [← hsv.out] at o0
    clear hW1 k1 c1 c4 c7 c10 e2 hfr
    go_upto_region 6 with (fail)
    refine wp_regionG (fun w' => w'.cell? ⟨mb, 1, none⟩ = some (.pointer (some ⟨db, 0, none⟩)) ∧ w'.cell? ⟨mb, 4, none⟩ = some (.int .i64 q.h)) 13 (by kernel_rfl) ⟨y1, y4⟩ (fun hF => ?_)
    refine wpAnyG_takeY (i := 0) (v := ?_) rfl (by kernel_rfl) (by decide +kernel) (by decide +kernel) (by decide +kernel) (fun _ _ _ h => h) (by kernel_rfl) ?_ (by assumption) ?_
    rotate_left
    · (intro wz; go_simp; with_reducible rfl)
    try simp only [Act.put, List.setIfInBounds_toArray, List.set_cons_zero, List.set_cons_succ]
    refine wpAnyG_takeY (i := 1) (v := ?_) rfl (by kernel_rfl) (by decide +kernel) (by decide +kernel) (by decide +kernel) (fun _ _ _ h => h) (by kernel_rfl) ?_ (by assumption) ?_
    rotate_left
    · (intro wz; go_simp; with_reducible rfl)
    try simp only [Act.put, List.setIfInBounds_toArray, List.set_cons_zero, List.set_cons_succ]
    refine wpAnyG_takeY (i := 2) (v := ?_) rfl (by kernel_rfl) (by decide +kernel) (by decide +kernel) (by decide +kernel) (fun _ _ _ h => h) (by kernel_rfl) ?_ (by assumption) ?_
    rotate_left
    · (intro wz; go_simp; with_reducible rfl)
    try simp only [Act.put, List.setIfInBounds_toArray, List.set_cons_zero, List.set_cons_succ]
    refine wpAnyG_takeY (i := 3) (v := ?_) rfl (by kernel_rfl) (by decide +kernel) (by decide +kernel) (by decide +kernel) (fun _ _ _ h => h) (by kernel_rfl) ?_ (by assumption) ?_
    rotate_left
    · (intro wz; go_simp; with_reducible rfl)
    try simp only [Act.put, List.setIfInBounds_toArray, List.set_cons_zero, List.set_cons_succ]
    refine wpAnyG_take (i := 4) (v := ?_) rfl (by kernel_rfl) (by decide +kernel) (by decide +kernel) (by decide +kernel) (by decide +kernel) (by rfl) (fun _ _ _ h => h) (by kernel_rfl) ?_ (by assumption) ?_
    rotate_left
    · (intro wz hSw; (try dsimp only at hSw); go_simp; with_reducible rfl)
    try simp only [Act.put, List.setIfInBounds_toArray, List.set_cons_zero, List.set_cons_succ]
    refine wpAnyG_takeY (i := 6) (v := ?_) rfl (by kernel_rfl) (by decide +kernel) (by decide +kernel) (by decide +kernel) (fun _ _ _ h => h) (by kernel_rfl) ?_ (by assumption) ?_
    rotate_left
    · (intro wz; go_simp; with_reducible rfl)
    try simp only [Act.put, List.setIfInBounds_toArray, List.set_cons_zero, List.set_cons_succ]
    refine wpAnyG_takeY (i := 7) (v := ?_) rfl (by kernel_rfl) (by decide +kernel) (by decide +kernel) (by decide +kernel) (fun _ _ _ h => h) (by kernel_rfl) ?_ (by assumption) ?_
    rotate_left
    · (intro wz; go_simp; with_reducible rfl)
    try simp only [Act.put, List.setIfInBounds_toArray, List.set_cons_zero, List.set_cons_succ]
    refine wpAnyG_takeY (i := 8) (v := ?_) rfl (by kernel_rfl) (by decide +kernel) (by decide +kernel) (by decide +kernel) (fun _ _ _ h => h) (by kernel_rfl) ?_ (by assumption) ?_
    rotate_left
    · (intro wz; go_simp; with_reducible rfl)
    try simp only [Act.put, List.setIfInBounds_toArray, List.set_cons_zero, List.set_cons_succ]
    refine wpAnyG_take (i := 9) (v := ?_) rfl (by kernel_rfl) (by decide +kernel) (by decide +kernel) (by decide +kernel) (by decide +kernel) (by rfl) (fun _ _ _ h => h) (by kernel_rfl) ?_ (by assumption) ?_
    rotate_left
    · (intro wz hSw; (try dsimp only at hSw); go_simp; with_reducible rfl)
    try simp only [Act.put, List.setIfInBounds_toArray, List.set_cons_zero, List.set_cons_succ]
    refine wpAnyG_one (i := 5) rfl (by kernel_rfl) (by kernel_rfl) (fun K hK => ?_)
    have HK := Lib.hid hK
    clear hK
    go_simp
    refine (dtable_any db t d.most d.ver W1.drew D1.out.b).mono ?_
    rintro r w2 ⟨rfl, rfl⟩
    refine HK.out _ _ hF ?_
    clear HK K
    try simp only [Act.put, List.setIfInBounds_toArray, List.set_cons_zero, List.set_cons_succ]
    refine wpAnyG_one (i := 10) rfl (by kernel_rfl) (by kernel_rfl) (fun K hK => ?_)
    have HK := Lib.hid hK
    clear hK
    go_simp
    refine (seek_any t lo S (mV m) d.T W1.drew (D1.out.t.keeps (Keeps.refl [] W1).drew (by simp)) (by have := hI.out.t.l12; omega) q.h).mono ?_
    rintro r w2 ⟨sb1, rfl, s2, zs, k2⟩
    have hF2 : (fun w' => w'.cell? ⟨mb, 1, none⟩ = some (.pointer (some ⟨db, 0, none⟩)) ∧ w'.cell? ⟨mb, 4, none⟩ = some (.int .i64 q.h)) w2 := ⟨k2.cell (w := W1.drew) y1 (by simp), k2.cell (w := W1.drew) y4 (by simp)⟩
    have o02 := k2.cell (w := W1.drew) o0 (by simp)
    have b2 := k2.has (w := W1.drew) B1.out (by simp)
    have f02 := free_of_has b2 0
    have K2 := Lib.hid ((Keeps.refl [] W1).drew.trans k2)
    have S2 := Lib.hid s2
    have B2 := Lib.hid b2
    have R2 := Lib.hid (k2.has (w := W1.drew) R1.out (by simp))
    have zs1 : lr + 1 ≤ sb1 := by have h9 : W1.drew.heap.size = W1.heap.size := rfl; omega
    have ls1 : sb1 < w2.heap.size := by obtain ⟨c9, p9, h9, _⟩ := s2; exact lt_of_block h9
    clear y1 y4 o0 f0 s2 k2 b2
    refine HK.out _ _ hF2 ?_
    clear HK K hF
    try simp only [Act.put, List.setIfInBounds_toArray, List.set_cons_zero, List.set_cons_succ]
    refine wpAnyG_takeY (i := 11) (v := ?_) rfl (by kernel_rfl) (by decide +kernel) (by decide +kernel) (by decide +kernel) (fun _ _ _ h => h) (by kernel_rfl) ?_ (by assumption) ?_
    rotate_left
    · (intro wz; go_simp; with_reducible rfl)
    try simp only [Act.put, List.setIfInBounds_toArray, List.set_cons_zero, List.set_cons_succ]
    refine wpAnyG_takeY (i := 12) (v := ?_) rfl (by kernel_rfl) (by decide +kernel) (by decide +kernel) (by decide +kernel) (fun _ _ _ h => h) (by kernel_rfl) ?_ (by assumption) ?_
    rotate_left
    · (intro wz; go_simp; with_reducible rfl)
    try simp only [Act.put, List.setIfInBounds_toArray, List.set_cons_zero, List.set_cons_succ]
    refine wpAnyG_last rfl (by kernel_rfl) (by rfl) (by rfl) (fun K hK => ?_)
    have HK := Lib.hid hK
    clear hK
    go_simp
    refine HK.out _ _ ?_
    clear HK K hF2
    refine wpAnyG_done (by kernel_rfl) ?_ _
    go_simp
    go_upto_region 7 with (fail)
    refine wp_gen (fun V => V.heap[mb]? = some (macO (.pointer (some ⟨sb1, 0, none⟩)) db q.g q.h q.k q.v q.st evv q.scans q.ver q.turn) ∧ Keeps [mb] w2 V) ?_ ?_
    · have h9 := has_setCell B2.out 0 (.pointer (some ⟨sb1, 0, none⟩))
      first
        | exact ⟨has_drew h9, ((Keeps.refl [mb] w2).setCell (p := ⟨mb, 0, none⟩) (.inr (by simp)) _).drew⟩
        | exact ⟨h9, (Keeps.refl [mb] w2).setCell (p := ⟨mb, 0, none⟩) (.inr (by simp)) _⟩
    rintro W3 ⟨b3, k3⟩
    have B3 := Lib.hid b3
    have K3 := Lib.hid k3
    have x1 : W3.cell? ⟨mb, 1, none⟩ = some (.pointer (some ⟨db, 0, none⟩)) := cell_has b3 (i := 1) rfl
    have x10 : W3.cell? ⟨mb, 10, none⟩ = some (.int .u64 q.ver) := cell_has b3 (i := 10) rfl
    have g10 := free_of_has b3 10
    have e23 : W3.cell? ⟨db, 2, none⟩ = some (.int .u64 d.ver) := cell_has (k3.has (K2.out.has D1.out.b (by simp)) (by simp; exact hmd.symm)) (i := 2) rfl
    clear b3 k3 o02 f02
    go_upto_region 8 with (fail)
    refine wp_gen (fun V => V.heap[mb]? = some (macO (.pointer (some ⟨sb1, 0, none⟩)) db q.g q.h q.k q.v q.st evv q.scans d.ver q.turn) ∧ Keeps [mb] W3 V) ?_ ?_
    · have h9 := has_setCell B3.out 10 (.int .u64 d.ver)
      exact ⟨h9, (Keeps.refl [mb] W3).setCell (p := ⟨mb, 10, none⟩) (.inr (by simp)) _⟩
    rintro W4 ⟨b4, k4⟩
    have B4 := Lib.hid b4
    have K4 := Lib.hid k4
    have x9 : W4.cell? ⟨mb, 9, none⟩ = some (.int .i64 q.scans) := cell_has b4 (i := 9) rfl
    have g9 := free_of_has b4 9
    clear b4 k4 x1 x10 g10 e23
    have hs0 : (0 : Int) ≤ (q.scans : Int) := by omega
    have hs1 : (q.scans : Int) ≤ 1000000 := by omega
    go_wp2_with fail
    refine wp_gen (fun V => V.heap[mb]? = some (macO (.pointer (some ⟨sb1, 0, none⟩)) db q.g q.h q.k q.v q.st evv (q.scans + 1) d.ver q.turn) ∧ Keeps [mb] W4 V) ?_ ?_
    · have h9 := has_setCell B4.out 9 (.int .i64 ((q.scans : Int) + 1))
      exact ⟨h9, (Keeps.refl [mb] W4).setCell (p := ⟨mb, 9, none⟩) (.inr (by simp)) _⟩
    rintro W ⟨b5, k5⟩
    have KK := (K3.out.trans K4.out).trans k5
    obtain ⟨stv, hstv⟩ : ∃ s, s = q.st := ⟨_, rfl⟩
    rw [← hstv] at b5
    obtain ⟨Q, hQ⟩ : ∃ Q, Hid (Q = q.anew d) := ⟨_, Lib.hid rfl⟩
    have HW : Hid (W.heap[mb]? = some (macO (.pointer (some ⟨sb1, 0, none⟩)) db Q.g Q.h Q.k Q.v stv evv Q.scans Q.ver Q.turn)) := Lib.hid (by rw [hQ.out]; exact b5)
    have RW := Lib.hid (KK.has R2.out (by simp; exact LR.out.1))
    have DW := Lib.hid ((D1.out.keeps K2.out (by simp) (by simp)).keeps KK (by simp; exact hmd.symm) (fun z hz hq => by simp at hq; subst hq; exact hmS hz))
    have MW := Lib.hid ((((HM.out.keeps KB.out (by simp)).keeps K1.out (by simp)).keeps K2.out (by simp)).keeps KK (fun b hb hq => by simp at hq; exact hmm (by rw [hb]; simp [mS, hq])))
    have hlr := HLR.out
    have SW : Hid (SkAt sb1 t Q.sk W) := Lib.hid (by rw [hQ.out]; exact S2.out.keeps KK (by simp; omega))
    have OW : Hid (SkOk d.T Q.sk) := Lib.hid (by rw [hQ.out]; exact SkOk.seek hI.out.t q.h)
    have KW := Lib.hid (((KB.out.trans K1.out).trans K2.out).mono (T := [mb]) (by simp) |>.trans KK)
    have SB := Lib.hid (show sb1 ∉ S ∧ sb1 ≠ mb ∧ sb1 ≠ db ∧ sb1 ∉ mS m ∧ sb1 ≠ lr from ⟨fun hx => by have := LS.out _ hx; have := HLR.out; omega, by omega, by omega, fun hx => by have := LM.out _ hx; omega, by omega⟩)
    have SBL : Hid (∀ w1, Keeps (sb1 :: mS m) W w1 → sb1 < w1.heap.size) := Lib.hid (fun w1 kx => by have := kx.size; have := KK.size; omega)
    have FIN : Hid (∀ r w', ScanP mb sb1 db t lo S m c d Q W lr r w' → StepP mb sb db t lo S m c d q w r w') := Lib.hid (fun r w' hP => by
      obtain ⟨S9, p1, p2, p3, p4, p5, p6⟩ := hP
      have hns : ¬ (q.st = 4 ∨ q.st = 2) := hst
      have eM : stepM d q = scanM d Q := by unfold stepM; rw [if_neg hns, if_pos hf, hQ.out]
      have eD : stepD d q = scanD d Q := by unfold stepD; rw [if_neg hns, if_pos hf, hQ.out]
      have eC : stepC d q c = scanC d Q c := by unfold stepC; rw [if_neg hns, if_pos hf, hQ.out]
      have zW := KW.out.size
      refine ⟨S9, sb1, by rw [eM]; exact p1, by rw [eD]; exact p2, by rw [eC]; exact p3, by rw [eM]; exact p4, ?_, fun z hz => ?_, .inr (by have := HLR.out; omega), fun _ => ⟨fun hx => ?_, SB.out.2.1, SB.out.2.2.1, SB.out.2.2.2.1⟩⟩
      · refine (KW.out.mono (T := mb :: db :: (skS q.st sb ++ S ++ mS m)) (by simp)).then p5 (fun z hz => ?_)
        simp at hz
        have := HLR.out
        rcases hz with rfl | rfl | rfl | rfl | hz | hz
        · simp
        · simp
        · left; omega
        · left; omega
        · simp [hz]
        · simp [hz]
      · rcases p6 z hz with h9 | h9
        · exact .inl h9
        · exact .inr (by omega)
      · have := KK.size
        rcases p6 _ hx with h9 | h9
        · exact SB.out.1 h9
        · omega)
    clear b5 k5 KK x9 g9 hstv hlr
    go_loopw [93] (fun x wr => W = wr) (fun _ _ => 0)
    case atStart => exact rfl
    case round =>
      subst hrel
      have y0 : W.cell? ⟨mb, 0, none⟩ = some (.pointer (some ⟨sb1, 0, none⟩)) := cell_has HW.out (i := 0) rfl
      go_wp2_with fail
      refine (next_any k (by omega) sb1 t lo S m c d.T Q.sk W DW.out.t MW.out hm hI.out.t SW.out SB.out.1 OW.out).mono ?_
      rintro r w1 ⟨rfl, s1, m1, k1⟩
      have nmb : mb ∉ sb1 :: mS m := by simp; exact ⟨fun e => SB.out.2.1 e.symm, hmm⟩
      have ndb : db ∉ sb1 :: mS m := by simp; exact ⟨fun e => SB.out.2.2.1 e.symm, DBM.out⟩
      have hb1 := k1.has HW.out nmb
      have d1 := DW.out.keeps k1 ndb (fun z hz => by simp; exact ⟨fun e => SB.out.1 (e ▸ hz), fun hx => by have := LM.out z hx; have := (DW.out.t.foot z hz).1; omega⟩)
      have r1 := k1.has RW.out (by simp; exact ⟨fun e => SB.out.2.2.2.2 e.symm, fun hx => by have := LM.out _ hx; omega⟩)
      have S1 := Lib.hid s1
      have M1 := Lib.hid m1
      have K1 := Lib.hid k1
      have B1 := Lib.hid hb1
      have D1 := Lib.hid d1
      have R1 := Lib.hid r1
      have y1 : w1.cell? ⟨mb, 1, none⟩ = some (.pointer (some ⟨db, 0, none⟩)) := cell_has hb1 (i := 1) rfl
      have y3 : w1.cell? ⟨mb, 3, none⟩ = some (.func (.func (missF Q.g)) #[] #[]) := cell_has hb1 (i := 3) rfl
      have y5 : w1.cell? ⟨mb, 5, none⟩ = some (.int .i64 Q.k) := cell_has hb1 (i := 5) rfl
      have e0 : w1.cell? ⟨db, 0, none⟩ = some (.pointer (some ⟨t, 0, none⟩)) := cell_has d1.b (i := 0) rfl
      clear s1 m1 k1 hb1 d1 r1 y0
      cases ho : (d.T.next Q.sk).over
      · -- an entry
        obtain ⟨x, hx, hh1, hh2⟩ := told_live hI.out.t OW.out ho
        clear hh1 hh2
        have hsay : (d.T.next Q.sk).says = (d.T.next Q.sk).told := by unfold Sk.says; rw [ho]; simp
        rw [hsay]
        obtain ⟨e, he⟩ : ∃ e, Hid (e = (d.T.next Q.sk).told) := ⟨_, Lib.hid rfl⟩
        rw [← he.out] at hx ⊢
        have hat : d.at_ (d.T.next Q.sk).told = x := by rw [← he.out]; exact Dic.at_of hx
        have HAT := Lib.hid hat
        have HO := Lib.hid ho
        have HX := Lib.hid hx
        clear hat ho hx hsay
        obtain ⟨ta, tc, tcb, tcr, a1, a2, _⟩ := D1.out.t
        have A12 := Lib.hid (And.intro a1 a2)
        clear a1 a2
        go_wp2_with fail
        refine (at_any t lo tc ta d.T.E (mV m) _ _ _ _ _ e w1 A12.out.1 A12.out.2 (by have := hI.out.t.ek; omega)).mono ?_
        rintro r w2 ⟨rfl, b2⟩
        have k2 := Below.keeps b2 []
        rw [show entE d.T.E e = some x from HX.out]
        simp only [atE, okE, Option.getD_some, Option.isSome_some, if_true, Ent.agg]
        have K2 := Lib.hid k2
        have B2 := Lib.hid (k2.has B1.out (by simp))
        have R2 := Lib.hid (k2.has R1.out (by simp))
        have D2 := Lib.hid (D1.out.keeps k2 (by simp) (by simp))
        replace y1 := k2.cell y1 (by simp)
        replace y5 := k2.cell y5 (by simp)
        clear b2 k2 y3 e0
        go_upto_region 15 with (fail)
        obtain ⟨W3, hW3⟩ : ∃ W3, w2.alloc (.cells #[.bool x.live, .int .i64 x.hash, .int .i64 x.key, .int .i64 x.val, .int .i64 x.birth] 36) = W3 := ⟨_, rfl⟩
        have k3 : Keeps [] w2 W3 := by rw [← hW3]; exact (Keeps.refl [] w2).alloc _
        have b3 : W3.heap[w2.heap.size]? = some (.cells #[.bool x.live, .int .i64 x.hash, .int .i64 x.key, .int .i64 x.val, .int .i64 x.birth] 36 (0, 0)) := by rw [← hW3]; exact has_new _ _
        have z2 : W3.cell? ⟨w2.heap.size, 2, none⟩ = some (.int .i64 x.key) := cell_has b3 (i := 2) rfl
        have x1 := k3.cell y1 (by simp)
        have x5 := k3.cell y5 (by simp)
        have K3 := Lib.hid (K2.out.trans k3)
        have B3 := Lib.hid (k3.has B2.out (by simp))
        have R3 := Lib.hid (k3.has R2.out (by simp))
        have D3 := Lib.hid (D2.out.keeps k3 (by simp) (by simp))
        have lw2 := lt_of_block B2.out
        have lr2 := lt_of_block R2.out
        have SZ := Lib.hid (show w1.heap.size ≤ w2.heap.size from K2.out.size)
        rw [hW3]
        clear hW3 k3 b3 y1 y5
        refine wp_regionG (fun w' => w'.cell? ⟨w2.heap.size, 2, none⟩ = some (.int .i64 x.key) ∧ w'.cell? ⟨mb, 5, none⟩ = some (.int .i64 Q.k)) 7 (by kernel_rfl) ⟨z2, x5⟩ (fun hF => ?_)
        refine wpAnyG_takeY (i := 0) (v := ?_) rfl (by kernel_rfl) (by decide +kernel) (by decide +kernel) (by decide +kernel) (fun _ _ _ h => h) (by kernel_rfl) ?_ (by assumption) ?_
        rotate_left
        · (intro wz; go_simp; with_reducible rfl)
        try simp only [Act.put, List.setIfInBounds_toArray, List.set_cons_zero, List.set_cons_succ]
        refine wpAnyG_take (i := 1) (v := ?_) rfl (by kernel_rfl) (by decide +kernel) (by decide +kernel) (by decide +kernel) (by decide +kernel) (by rfl) (fun _ _ _ h => h) (by kernel_rfl) ?_ (by assumption) ?_
        rotate_left
        · (intro wz hSw; (try dsimp only at hSw); go_simp; with_reducible rfl)
        try simp only [Act.put, List.setIfInBounds_toArray, List.set_cons_zero, List.set_cons_succ]
        refine wpAnyG_takeY (i := 2) (v := ?_) rfl (by kernel_rfl) (by decide +kernel) (by decide +kernel) (by decide +kernel) (fun _ _ _ h => h) (by kernel_rfl) ?_ (by assumption) ?_
        rotate_left
        · (intro wz; go_simp; with_reducible rfl)
        try simp only [Act.put, List.setIfInBounds_toArray, List.set_cons_zero, List.set_cons_succ]
        refine wpAnyG_takeY (i := 3) (v := ?_) rfl (by kernel_rfl) (by decide +kernel) (by decide +kernel) (by decide +kernel) (fun _ _ _ h => h) (by kernel_rfl) ?_ (by assumption) ?_
        rotate_left
        · (intro wz; go_simp; with_reducible rfl)
        try simp only [Act.put, List.setIfInBounds_toArray, List.set_cons_zero, List.set_cons_succ]
        refine wpAnyG_takeY (i := 4) (v := ?_) rfl (by kernel_rfl) (by decide +kernel) (by decide +kernel) (by decide +kernel) (fun _ _ _ h => h) (by kernel_rfl) ?_ (by assumption) ?_
        rotate_left
        · (intro wz; go_simp; with_reducible rfl)
        try simp only [Act.put, List.setIfInBounds_toArray, List.set_cons_zero, List.set_cons_succ]
        refine wpAnyG_take (i := 5) (v := ?_) rfl (by kernel_rfl) (by decide +kernel) (by decide +kernel) (by decide +kernel) (by decide +kernel) (by rfl) (fun _ _ _ h => h) (by kernel_rfl) ?_ (by assumption) ?_
        rotate_left
        · (intro wz hSw; (try dsimp only at hSw); go_simp; with_reducible rfl)
        try simp only [Act.put, List.setIfInBounds_toArray, List.set_cons_zero, List.set_cons_succ]
        refine wpAnyG_takeY (i := 6) (v := ?_) rfl (by kernel_rfl) (by decide +kernel) (by decide +kernel) (by decide +kernel) (fun _ _ _ h => h) (by kernel_rfl) ?_ (by assumption) ?_
        rotate_left
        · (intro wz; go_simp; with_reducible rfl)
        try simp only [Act.put, List.setIfInBounds_toArray, List.set_cons_zero, List.set_cons_succ]
        refine wpAnyG_done (by kernel_rfl) ?_ _
        go_simp
        by_cases hkk : x.key = Q.k
        · have dk : (x.key == Q.k) = true := by simpa using hkk
          have HKK := Lib.hid hkk
          clear hkk
          have x1d : W3.drew.cell? ⟨mb, 1, none⟩ = some (.pointer (some ⟨db, 0, none⟩)) := x1
          clear hF
          go_wp2_with fail
          refine (hitm_any mb db t lo S (mV m) (.pointer (some ⟨sb1, 0, none⟩)) d Q stv evv _ (D3.out.keeps (Keeps.refl [] W3).drew (by simp) (by simp)) B3.out hmS hmd (hI.out.t.mono (by omega)) (by have := hI.out.v; omega) e x HX.out).mono ?_
          rintro r w4 ⟨rfl, d4, b4, k4⟩
          have r4 := k4.has (w := W3.drew) R3.out (by simp; exact ⟨LR.out.1, LR.out.2.1, LR.out.2.2⟩)
          obtain ⟨t0, t1, t2, t3, t4⟩ := trn_cells r4
          obtain ⟨u0, u1, u2, u3, u4⟩ := trn_free r4
          have R4 := Lib.hid r4
          have D4 := Lib.hid d4
          have B4 := Lib.hid b4
          have K4 := Lib.hid k4
          obtain ⟨tt, htt⟩ : ∃ tt, Hid (tt = hitT x e) := ⟨_, Lib.hid rfl⟩
          rw [← htt.out]
          unfold Trn.agg
          clear r4 d4 b4 k4
          go_wp2_with fail
          obtain ⟨v1, v2⟩ := trn_store noTrn tt R4.out
          have rc := cell_of_has v1
          have eM : scanM d Q = { { Q with sk := d.T.next Q.sk } with st := 4, turn := hitT x e } := by
            unfold scanM; simp only
            rw [if_neg (by rw [HO.out]; simp), HAT.out, if_pos HKK.out, ← he.out]; rfl
          have eD : scanD d Q = d.hit Q e := by
            unfold scanD; simp only
            rw [if_neg (by rw [HO.out]; simp), HAT.out, if_pos HKK.out, ← he.out]
          have eC : scanC d Q c = c.visN (d.T.walks Q.sk) := by
            unfold scanC; rw [if_neg (by rw [HO.out]; simp)]
          refine bodyPost_ret (v := tt.agg) (by simp [results, Try.results14, go_sem, Trn.agg, rc]) rfl (FIN.out _ _ ⟨S, by rw [eM, htt.out], ?_, ?_, ?_, ?_, Grew.refl _ _⟩)
          · rw [eD]
            exact D4.out.keeps v2 (by simp; exact LR.out.2.1.symm) (fun z hz hq => by simp at hq; subst hq; exact LR.out.2.2 hz)
          · rw [eC]
            have h9 : MtrAt m (c.visN (d.T.walks Q.sk)) W3.drew := (M1.out.keeps K3.out (by simp)).keeps (Keeps.refl [] W3).drew (by simp)
            have h7 : ∀ b, m = some b → b ∉ mb :: db :: S := fun b hb hq => by
              have h8 : b ∈ mS m := by rw [hb]; simp [mS]
              simp only [List.mem_cons] at hq
              rcases hq with rfl | rfl | hq
              · exact hmm h8
              · exact DBM.out h8
              · have := LM.out b h8; have := (DW.out.t.foot b hq).1; omega
            exact (h9.keeps K4.out h7).keeps v2 (fun b hb hq => by simp at hq; have := hm b hb; omega)
          · rw [eM]
            exact ⟨evv, v2.has B4.out (by simp; exact LR.out.1.symm), fun h => by simp at h, fun _ => ((S1.out.keeps (K3.out.trans (Keeps.refl [] W3).drew) (by simp)).keeps K4.out (by simp; exact ⟨SB.out.2.1, SB.out.2.2.1, SB.out.1⟩)).keeps v2 (by simp; exact SB.out.2.2.2.2)⟩
          · refine ((((K1.out.mono (T := mb :: db :: lr :: (sb1 :: S ++ mS m)) (fun z hz => by simp at hz ⊢; rcases hz with h | h <;> simp [h])).trans (K3.out.mono (by simp))).drew).trans (K4.out.mono (fun z hz => by simp at hz ⊢; rcases hz with h | h | h <;> simp [h]))).trans (v2.mono (fun z hz => by simp at hz ⊢; simp [hz]))
        · have dk : (x.key == Q.k) = false := by simpa using hkk
          have HKK := Lib.hid hkk
          clear hkk
          obtain ⟨tt, htt⟩ : ∃ tt : Trn, Hid (tt = ⟨1, x.key, false, 0, 0⟩) := ⟨_, Lib.hid rfl⟩
          have b3d := B3.out
          obtain ⟨m7, m11, m12, m13, m14, m15⟩ := mac_cells b3d
          obtain ⟨f7, f11, f12, f13, f14, f15⟩ := mac_free b3d
          have m8 : W3.cell? ⟨mb, 8, none⟩ = some (.int .i64 evv) := cell_has b3d (i := 8) rfl
          have f8 := free_of_has b3d 8
          have n1 : ¬ mb = w2.heap.size := by omega
          have n2 : ¬ w2.heap.size = mb := by omega
          clear hF x1 x5 b3d
          go_upto_region 17 with (fail)
          go_region_held3 (fun w' => w'.cell? ⟨w2.heap.size, 2, none⟩ = some (.int .i64 x.key)) (go_keep) (fail)
          go_upto_region 18 with (fail)
          refine wp_gen (fun V => V.heap[mb]? = some (macO (.pointer (some ⟨sb1, 0, none⟩)) db Q.g Q.h Q.k Q.v 2 e Q.scans Q.ver tt) ∧ Keeps [mb] W3 V) ?_ ?_
          · rw [htt.out]
            exact ⟨has_drew (has_drew (mac_wait e ⟨1, x.key, false, 0, 0⟩ B3.out).1), (mac_wait e ⟨1, x.key, false, 0, 0⟩ B3.out).2.drew.drew⟩
          rintro W4 ⟨b4, k4⟩
          have r4 := k4.has R3.out (by simp; exact LR.out.1)
          clear m7 m8 m11 m12 m13 m14 m15 f7 f8 f11 f12 f13 f14 f15 z2
          obtain ⟨_, m11, m12, m13, m14, m15⟩ := mac_cells b4
          obtain ⟨t0, t1, t2, t3, t4⟩ := trn_cells r4
          obtain ⟨u0, u1, u2, u3, u4⟩ := trn_free r4
          have R4 := Lib.hid r4
          have B4 := Lib.hid b4
          have K4 := Lib.hid k4
          clear r4 b4 k4
          go_wp2_with fail
          obtain ⟨v1, v2⟩ := trn_store noTrn tt R4.out
          have rc := cell_of_has v1
          have eM : scanM d Q = { { Q with sk := d.T.next Q.sk } with st := 2, ent := e, turn := tt } := by
            unfold scanM; simp only
            rw [if_neg (by rw [HO.out]; simp), HAT.out, if_neg HKK.out, ← he.out, htt.out]
          have eD : scanD d Q = d := by
            unfold scanD; simp only
            rw [if_neg (by rw [HO.out]; simp), HAT.out, if_neg HKK.out]
          have eC : scanC d Q c = c.visN (d.T.walks Q.sk) := by
            unfold scanC; rw [if_neg (by rw [HO.out]; simp)]
          have lr3 : ∀ z, z ∈ S → z ≠ lr := fun z hz e => LR.out.2.2 (e ▸ hz)
          refine bodyPost_ret (v := tt.agg) (by simp [results, Try.results14, go_sem, Trn.agg, rc]) rfl (FIN.out _ _ ⟨S, by rw [eM], ?_, ?_, ?_, ?_, Grew.refl _ _⟩)
          · rw [eD]
            exact (D3.out.keeps K4.out (by simp; omega) (fun z hz hq => by simp at hq; subst hq; exact hmS hz)).keeps v2 (by simp; exact LR.out.2.1.symm) (fun z hz hq => by simp at hq; exact lr3 z hz hq)
          · rw [eC]
            exact ((M1.out.keeps K3.out (by simp)).keeps K4.out (fun b hb hq => by simp at hq; have h8 : b ∈ mS m := (by rw [hb]; simp [mS]); exact hmm (hq ▸ h8))).keeps v2 (fun b hb hq => by simp at hq; have := hm b hb; omega)
          · rw [eM]
            exact ⟨e, v2.has B4.out (by simp; exact LR.out.1.symm), fun _ => rfl, fun _ => ((S1.out.keeps K3.out (by simp)).keeps K4.out (by simp; exact SB.out.2.1)).keeps v2 (by simp; exact SB.out.2.2.2.2)⟩
          · refine (((K1.out.mono (T := mb :: db :: lr :: (sb1 :: S ++ mS m)) (fun z hz => by simp at hz ⊢; rcases hz with h | h <;> simp [h])).trans (K3.out.mono (by simp))).trans (K4.out.mono (fun z hz => by simp at hz ⊢; simp [hz]))).trans (v2.mono (fun z hz => by simp at hz ⊢; simp [hz]))
      · -- none
        have HO := Lib.hid ho
        have hrun := fun args W => missf_enters Q.g args W
        have hC := missf_any k (by omega) mb db t lo S m (c.visN (d.T.walks Q.sk)) d Q w1 D1.out M1.out hm hI.out.t (by have := hI.out.v; omega) y1 (cell_has B1.out (i := 4) rfl) y5 (cell_has B1.out (i := 6) rfl) hmS hmd hmm
        have HC := Lib.hid hC
        obtain ⟨mf, hmf⟩ : ∃ mf, Hid (mf = missF Q.g) := ⟨_, Lib.hid rfl⟩
        rw [← hmf.out] at y3 hrun
        clear ho hC e0
        go_wp2_with fail
        rw [hmf.out]
        refine HC.out.mono ?_
        rintro r w2 ⟨S2, rfl, d2, m2, k2, g2⟩
        have b2 := k2.has B1.out (by simp; exact ⟨hmd, hmS, hmm⟩)
        have r2 := k2.has R1.out (by simp; exact ⟨LR.out.2.1, LR.out.2.2, fun hx => by have := LM.out _ hx; omega⟩)
        have D2 := Lib.hid d2
        have M2 := Lib.hid m2
        have K2 := Lib.hid k2
        have G2 := Lib.hid g2
        have B2 := Lib.hid b2
        have R2 := Lib.hid r2
        obtain ⟨tt, htt⟩ : ∃ tt, Hid (tt = missT d Q) := ⟨_, Lib.hid rfl⟩
        rw [← htt.out]
        have lS2 : ∀ z, z ∈ S2 → z ≠ mb ∧ z ≠ lr ∧ z ≠ sb1 := fun z hz => by
          have h8 := lt_of_block B1.out
          have h7 := lt_of_block R1.out
          have h6 := SBL.out w1 K1.out
          rcases g2 z hz with h9 | h9
          · exact ⟨fun e => hmS (e ▸ h9), fun e => LR.out.2.2 (e ▸ h9), fun e => SB.out.1 (e ▸ h9)⟩
          · exact ⟨by omega, by omega, by omega⟩
        have LS2 := Lib.hid lS2
        clear d2 m2 k2 g2 b2 r2 y1 y3 y5 lS2
        go_wp2_with fail
        refine (end_any mb db Q.g (.pointer (some ⟨sb1, 0, none⟩)) Q.h Q.k Q.v stv evv Q.scans Q.ver Q.turn tt w2 B2.out).mono ?_
        rintro r w3 ⟨rfl, b3, k3⟩
        have r3 := k3.has R2.out (by simp; exact LR.out.1)
        obtain ⟨t0, t1, t2, t3, t4⟩ := trn_cells r3
        obtain ⟨u0, u1, u2, u3, u4⟩ := trn_free r3
        have R3 := Lib.hid r3
        have B3 := Lib.hid b3
        have K3 := Lib.hid k3
        unfold Trn.agg
        clear r3 b3 k3
        go_wp2_with fail
        obtain ⟨v1, v2⟩ := trn_store noTrn tt R3.out
        have rc := cell_of_has v1
        have eM : scanM d Q = { { Q with sk := d.T.next Q.sk } with st := 4, turn := missT d Q } := by
          unfold scanM; simp only
          rw [if_pos HO.out]; rfl
        have eD : scanD d Q = d.miss Q := by
          unfold scanD; simp only
          rw [if_pos HO.out]
        have eC : scanC d Q c = missC d Q (c.visN (d.T.walks Q.sk)) := by
          unfold scanC; rw [if_pos HO.out]
        refine bodyPost_ret (v := tt.agg) (by simp [results, Try.results14, go_sem, Trn.agg, rc]) rfl (FIN.out _ _ ⟨S2, by rw [eM, htt.out], ?_, ?_, ?_, ?_, ?_⟩)
        · rw [eD]
          exact (D2.out.keeps K3.out (by simp; omega) (fun z hz hq => by simp at hq; exact (LS2.out z hz).1 hq)).keeps v2 (by simp; exact LR.out.2.1.symm) (fun z hz hq => by simp at hq; exact (LS2.out z hz).2.1 hq)
        · rw [eC]
          exact (M2.out.keeps K3.out (fun b hb hq => by simp at hq; have h8 : b ∈ mS m := (by rw [hb]; simp [mS]); exact hmm (hq ▸ h8))).keeps v2 (fun b hb hq => by simp at hq; have := hm b hb; omega)
        · rw [eM]
          exact ⟨evv, by rw [← htt.out]; exact v2.has B3.out (by simp; exact LR.out.1.symm), fun h => by simp at h, fun _ => ((S1.out.keeps K2.out (by simp; exact ⟨SB.out.2.2.1, SB.out.1, SB.out.2.2.2.1⟩)).keeps K3.out (by simp; exact SB.out.2.1)).keeps v2 (by simp; exact SB.out.2.2.2.2)⟩
        · refine (((K1.out.mono (T := mb :: db :: lr :: (sb1 :: S ++ mS m)) (fun z hz => by simp at hz ⊢; rcases hz with h | h <;> simp [h])).trans (K2.out.mono (fun z hz => by simp at hz ⊢; rcases hz with h | h | h <;> simp [h]))).trans (K3.out.mono (fun z hz => by simp at hz ⊢; simp [hz]))).trans (v2.mono (fun z hz => by simp at hz ⊢; simp [hz]))
        · intro z hz
          rcases G2.out z hz with h9 | h9
          · exact .inl h9
          · exact .inr (by have := K1.out.size; omega)
set_option maxRecDepth 100000 in
set_option maxHeartbeats 4000000 in
theorem step_hits (k : Nat) (hk : k ≤ 990) (mb sb db t lo : Nat) (S : List Nat) (m : Option Nat) (c : C4) (d : Dic) (q : Mac) (w : World) (H : DicAt db t lo S (mV m) d w) (hM : MtrAt m c w) (hm : ∀ b, m = some b → b < lo) (HQ : MacAt mb sb db t q w) (hmS : mb ∉ S) (hmd : mb ≠ db) (hmm : mb ∉ mS m) (hsb : q.st ≠ 0 → sb ∉ S ∧ sb ≠ mb ∧ sb ≠ db ∧ sb ∉ mS m) (hI : DicOk k d) (hO : MacOk d q) (hsc : q.scans ≤ 1000000) (hs3 : q.st = 3) (hf : q.fresh d = false) :
    Calls Try.prog 14 #[.pointer (some ⟨mb, 0, none⟩)] w (StepP mb sb db t lo S m c d q w) := by
  obtain ⟨evv, hb, hev, hsk⟩ := HQ
  have HD := Lib.hid H
  have HM := Lib.hid hM
  have HB := Lib.hid hb
  have HEV := Lib.hid hev
  have HSK := Lib.hid hsk
  have hI := Lib.hid hI
  have HO2 := Lib.hid hO
  have HSB := Lib.hid hsb
  have lM : ∀ z, z ∈ mS m → z < lo := fun z hx => by cases m with | none => simp [mS] at hx | some b => simp [mS] at hx; subst hx; exact hm _ rfl
  have LM := Lib.hid lM
  have lol := H.l
  have DBM := Lib.hid (show db ∉ mS m from fun hx => by have := lM _ hx; omega)
  have lm := lt_of_block hb
  have ld := lt_of_block H.b
  have lS : ∀ z, z ∈ S → z < w.heap.size := fun z hz => (H.t.foot z hz).2
  have LS := Lib.hid lS
  obtain ⟨lr, hlr⟩ : ∃ lr, lr = w.heap.size := ⟨_, rfl⟩
  have HLR := Lib.hid hlr
  have lolr : lo ≤ lr := by omega
  have LR := Lib.hid (show lr ≠ mb ∧ lr ≠ db ∧ lr ∉ S from ⟨by omega, by omega, fun hx => by have := lS _ hx; omega⟩)
  obtain ⟨WA, hWA⟩ : ∃ WA, w.alloc (.cells #[.int .i64 0, .int .i64 0, .bool false, .int .i64 0, .int .i64 0] 29) = WA := ⟨_, rfl⟩
  have kb : Keeps [] w WA := by rw [← hWA]; exact (Keeps.refl [] w).alloc _
  have bT : WA.heap[lr]? = some (trnO noTrn) := by rw [← hWA, hlr]; exact has_new _ _
  have HWA := Lib.hid hWA
  have KB := Lib.hid kb
  have BT := Lib.hid bT
  have BM := Lib.hid (kb.has hb (by simp))
  have c1 : WA.cell? ⟨mb, 1, none⟩ = some (.pointer (some ⟨db, 0, none⟩)) := cell_has BM.out (i := 1) rfl
  have c7 : WA.cell? ⟨mb, 7, none⟩ = some (.int .i64 q.st) := cell_has BM.out (i := 7) rfl
  have zWA : WA.heap.size = lr + 1 := by rw [← hWA, hlr]; simp
  clear H hM hb hev hsk hO hsb lM lS hlr hWA kb bT
  go_enter Try.func14, Try.ntmps14
  go_upto_region 1 with (fail)
  rw [HWA.out, ← HLR.out]
  have hst : ¬ (q.st = 4 ∨ q.st = 2) := by omega
  have n4 : ((q.st : Int) == 4) = false := by simp; omega
  have n2 : ((q.st : Int) == 2) = false := by simp; omega
  have n0 : q.st ≠ 0 ∧ q.ver = d.ver := by unfold Mac.fresh at hf; simp at hf; exact ⟨hf.1, hf.2⟩
  have c10 : WA.cell? ⟨mb, 10, none⟩ = some (.int .u64 q.ver) := cell_has BM.out (i := 10) rfl
  have e2 : WA.cell? ⟨db, 2, none⟩ = some (.int .u64 d.ver) := cell_has (KB.out.has HD.out.b (by simp)) (i := 2) rfl
  have z1 : 1 ≤ q.st ∧ q.st ≤ 4 := ⟨by omega, HO2.out.st⟩
  have skv : skV q.st sb = .pointer (some ⟨sb, 0, none⟩) := by unfold skV; rw [if_neg n0.1]
  have b0 : ((q.st : Int) == 0) = false := by simp; omega
  have b1 : ((q.ver : Int) != (d.ver : Int)) = false := by simp; omega
  have hst1 : q.st = 3 ∨ q.st = 1 := by omega
  obtain ⟨z, hz⟩ := ex_hid q.st
  rw [← hz.out] at c7 n4 n2 b0
  go_wp2_with fail
  refine wp_regionG (fun w' => w'.cell? ⟨mb, 7, none⟩ = some (.int .i64 z) ∧ w'.cell? ⟨mb, 10, none⟩ = some (.int .u64 q.ver) ∧ w'.cell? ⟨mb, 1, none⟩ = some (.pointer (some ⟨db, 0, none⟩)) ∧ w'.cell? ⟨db, 2, none⟩ = some (.int .u64 d.ver)) 19 (by kernel_rfl) ⟨c7, c10, c1, e2⟩ (fun hF => ?_)
  refine wpAnyG_takeY (i := 0) (v := ?_) rfl (by kernel_rfl) (by decide +kernel) (by decide +kernel) (by decide +kernel) (fun _ _ _ h => h) (by kernel_rfl) ?_ (by assumption) ?_
  rotate_left
  · (intro wz; go_simp; with_reducible rfl)
  try simp only [Act.put, List.setIfInBounds_toArray, List.set_cons_zero, List.set_cons_succ]
  refine wpAnyG_takeY (i := 1) (v := ?_) rfl (by kernel_rfl) (by decide +kernel) (by decide +kernel) (by decide +kernel) (fun _ _ _ h => h) (by kernel_rfl) ?_ (by assumption) ?_
  rotate_left
  · (intro wz; go_simp; with_reducible rfl)
  try simp only [Act.put, List.setIfInBounds_toArray, List.set_cons_zero, List.set_cons_succ]
  refine wpAnyG_takeY (i := 2) (v := ?_) rfl (by kernel_rfl) (by decide +kernel) (by decide +kernel) (by decide +kernel) (fun _ _ _ h => h) (by kernel_rfl) ?_ (by assumption) ?_
  rotate_left
  · (intro wz; go_simp; with_reducible rfl)
  try simp only [Act.put, List.setIfInBounds_toArray, List.set_cons_zero, List.set_cons_succ]
  refine wpAnyG_take (i := 3) (v := ?_) rfl (by kernel_rfl) (by decide +kernel) (by decide +kernel) (by decide +kernel) (by decide +kernel) (by rfl) (fun _ _ _ h => h) (by kernel_rfl) ?_ (by assumption) ?_
  rotate_left
  · (intro wz hSw; (try dsimp only at hSw); go_simp; with_reducible rfl)
  try simp only [Act.put, List.setIfInBounds_toArray, List.set_cons_zero, List.set_cons_succ]
  refine wpAnyG_takeY (i := 4) (v := ?_) rfl (by kernel_rfl) (by decide +kernel) (by decide +kernel) (by decide +kernel) (fun _ _ _ h => h) (by kernel_rfl) ?_ (by assumption) ?_
  rotate_left
  · (intro wz; go_simp; with_reducible rfl)
  try simp only [Act.put, List.setIfInBounds_toArray, List.set_cons_zero, List.set_cons_succ]
  refine wpAnyG_takeY (i := 5) (v := ?_) rfl (by kernel_rfl) (by decide +kernel) (by decide +kernel) (by decide +kernel) (fun _ _ _ h => h) (by kernel_rfl) ?_ (by assumption) ?_
  rotate_left
  · (intro wz; go_simp; with_reducible rfl)
  try simp only [Act.put, List.setIfInBounds_toArray, List.set_cons_zero, List.set_cons_succ]
  refine wpAnyG_takeY (i := 6) (v := ?_) rfl (by kernel_rfl) (by decide +kernel) (by decide +kernel) (by decide +kernel) (fun _ _ _ h => h) (by kernel_rfl) ?_ (by assumption) ?_
  rotate_left
  · (intro wz; go_simp; with_reducible rfl)
  try simp only [Act.put, List.setIfInBounds_toArray, List.set_cons_zero, List.set_cons_succ]
  refine wpAnyG_takeY (i := 7) (v := ?_) rfl (by kernel_rfl) (by decide +kernel) (by decide +kernel) (by decide +kernel) (fun _ _ _ h => h) (by kernel_rfl) ?_ (by assumption) ?_
  rotate_left
  · (intro wz; go_simp; with_reducible rfl)
  try simp only [Act.put, List.setIfInBounds_toArray, List.set_cons_zero, List.set_cons_succ]
  refine wpAnyG_takeY (i := 8) (v := ?_) rfl (by kernel_rfl) (by decide +kernel) (by decide +kernel) (by decide +kernel) (fun _ _ _ h => h) (by kernel_rfl) ?_ (by assumption) ?_
  rotate_left
  · (intro wz; go_simp; with_reducible rfl)
  try simp only [Act.put, List.setIfInBounds_toArray, List.set_cons_zero, List.set_cons_succ]
  refine wpAnyG_take (i := 9) (v := ?_) rfl (by kernel_rfl) (by decide +kernel) (by decide +kernel) (by decide +kernel) (by decide +kernel) (by rfl) (fun _ _ _ h => h) (by kernel_rfl) ?_ (by assumption) ?_
  rotate_left
  · (intro wz hSw; (try dsimp only at hSw); go_simp; with_reducible rfl)
  try simp only [Act.put, List.setIfInBounds_toArray, List.set_cons_zero, List.set_cons_succ]
  refine wpAnyG_takeY (i := 10) (v := ?_) rfl (by kernel_rfl) (by decide +kernel) (by decide +kernel) (by decide +kernel) (fun _ _ _ h => h) (by kernel_rfl) ?_ (by assumption) ?_
  rotate_left
  · (intro wz; go_simp; with_reducible rfl)
  try simp only [Act.put, List.setIfInBounds_toArray, List.set_cons_zero, List.set_cons_succ]
  refine wpAnyG_takeY (i := 11) (v := ?_) rfl (by kernel_rfl) (by decide +kernel) (by decide +kernel) (by decide +kernel) (fun _ _ _ h => h) (by kernel_rfl) ?_ (by assumption) ?_
  rotate_left
  · (intro wz; go_simp; with_reducible rfl)
  try simp only [Act.put, List.setIfInBounds_toArray, List.set_cons_zero, List.set_cons_succ]
  refine wpAnyG_takeY (i := 12) (v := ?_) rfl (by kernel_rfl) (by decide +kernel) (by decide +kernel) (by decide +kernel) (fun _ _ _ h => h) (by kernel_rfl) ?_ (by assumption) ?_
  rotate_left
  · (intro wz; go_simp; with_reducible rfl)
  try simp only [Act.put, List.setIfInBounds_toArray, List.set_cons_zero, List.set_cons_succ]
  refine wpAnyG_take (i := 13) (v := ?_) rfl (by kernel_rfl) (by decide +kernel) (by decide +kernel) (by decide +kernel) (by decide +kernel) (by rfl) (fun _ _ _ h => h) (by kernel_rfl) ?_ (by assumption) ?_
  rotate_left
  · (intro wz hSw; (try dsimp only at hSw); go_simp; with_reducible rfl)
  try simp only [Act.put, List.setIfInBounds_toArray, List.set_cons_zero, List.set_cons_succ]
  refine wpAnyG_takeY (i := 14) (v := ?_) rfl (by kernel_rfl) (by decide +kernel) (by decide +kernel) (by decide +kernel) (fun _ _ _ h => h) (by kernel_rfl) ?_ (by assumption) ?_
  rotate_left
  · (intro wz; go_simp; with_reducible rfl)
  try simp only [Act.put, List.setIfInBounds_toArray, List.set_cons_zero, List.set_cons_succ]
  refine wpAnyG_takeY (i := 15) (v := ?_) rfl (by kernel_rfl) (by decide +kernel) (by decide +kernel) (by decide +kernel) (fun _ _ _ h => h) (by kernel_rfl) ?_ (by assumption) ?_
  rotate_left
  · (intro wz; go_simp; with_reducible rfl)
  try simp only [Act.put, List.setIfInBounds_toArray, List.set_cons_zero, List.set_cons_succ]
  refine wpAnyG_take (i := 16) (v := ?_) rfl (by kernel_rfl) (by decide +kernel) (by decide +kernel) (by decide +kernel) (by decide +kernel) (by rfl) (fun _ _ _ h => h) (by kernel_rfl) ?_ (by assumption) ?_
  rotate_left
  · (intro wz hSw; (try dsimp only at hSw); go_simp; with_reducible rfl)
  try simp only [Act.put, List.setIfInBounds_toArray, List.set_cons_zero, List.set_cons_succ]
  refine wpAnyG_takeY (i := 17) (v := ?_) rfl (by kernel_rfl) (by decide +kernel) (by decide +kernel) (by decide +kernel) (fun _ _ _ h => h) (by kernel_rfl) ?_ (by assumption) ?_
  rotate_left
  · (intro wz; go_simp; with_reducible rfl)
  try simp only [Act.put, List.setIfInBounds_toArray, List.set_cons_zero, List.set_cons_succ]
  refine wpAnyG_takeY (i := 18) (v := ?_) rfl (by kernel_rfl) (by decide +kernel) (by decide +kernel) (by decide +kernel) (fun _ _ _ h => h) (by kernel_rfl) ?_ (by assumption) ?_
  rotate_left
  · (intro wz; go_simp; with_reducible rfl)
  try simp only [Act.put, List.setIfInBounds_toArray, List.set_cons_zero, List.set_cons_succ]
  refine wpAnyG_done (by kernel_rfl) ?_ _
  go_simp
  have b3 : ((z : Int) == 3) = true := by rw [hz.out]; simp; omega
  have c8 : WA.cell? ⟨mb, 8, none⟩ = some (.int .i64 evv) := cell_has BM.out (i := 8) rfl
  obtain ⟨x, hx⟩ := HO2.out.ent (.inr hs3) n0.2
  have hee : evv = q.ent := HEV.out (.inr hs3)
  have HE := Lib.hid hee
  have HX := Lib.hid hx
  have H0 := Lib.hid n0
  clear c10 e2 hF b0 b1 hst1 hee hx n0 z1
  go_wp2_with fail
  refine (hitm_any mb db t lo S (mV m) (skV q.st sb) d q q.st evv _ ((HD.out.keeps KB.out (by simp) (by simp)).keeps (Keeps.refl [] WA).drew (by simp) (by simp)) BM.out hmS hmd (hI.out.t.mono (by omega)) (by have := hI.out.v; omega) evv x (by rw [HE.out]; exact HX.out)).mono ?_
  rintro r w4 ⟨rfl, d4, b4, k4⟩
  have r4 := k4.has (w := WA.drew) BT.out (by simp; exact ⟨LR.out.1, LR.out.2.1, LR.out.2.2⟩)
  obtain ⟨t0, t1, t2, t3, t4⟩ := trn_cells r4
  obtain ⟨u0, u1, u2, u3, u4⟩ := trn_free r4
  have R4 := Lib.hid r4
  have D4 := Lib.hid d4
  have B4 := Lib.hid b4
  have K4 := Lib.hid k4
  obtain ⟨tt, htt⟩ : ∃ tt, Hid (tt = hitT x evv) := ⟨_, Lib.hid rfl⟩
  rw [← htt.out]
  unfold Trn.agg
  clear r4 d4 b4 k4
  go_wp2_with fail
  obtain ⟨v1, v2⟩ := trn_store noTrn tt R4.out
  have rc := cell_of_has v1
  have hns : ¬ (q.st = 4 ∨ q.st = 2) := by omega
  have hat : d.at_ q.ent = x := Dic.at_of HX.out
  have eM : stepM d q = q.done (hitT x evv) := by unfold stepM; rw [if_neg hns, if_neg (by rw [hf]; simp), if_pos hs3, hat, HE.out]
  have eD : stepD d q = d.hit q evv := by unfold stepD; rw [if_neg hns, if_neg (by rw [hf]; simp), if_pos hs3, HE.out]
  have eC : stepC d q c = c := by unfold stepC; rw [if_neg hns, if_neg (by rw [hf]; simp), if_pos hs3]
  have hsb0 := HSB.out H0.out.1
  have hlr := HLR.out
  have K9 : Keeps (mb :: db :: S) w w4 := ((KB.out.drew).mono (by simp)).trans K4.out
  refine bodyPost_ret (v := tt.agg) (by simp [results, Try.results14, go_sem, Trn.agg, rc]) rfl ⟨S, sb, by rw [eM, htt.out]; rfl, ?_, ?_, ?_, ?_, Grew.refl _ _, .inl ⟨rfl, H0.out.1⟩, fun _ => hsb0⟩
  · rw [eD]
    exact D4.out.keeps v2 (by simp; exact LR.out.2.1.symm) (fun z hz hq => by simp at hq; subst hq; exact LR.out.2.2 hz)
  · rw [eC]
    exact (HM.out.keeps K9 (fun b hb hq => by
      have h8 : b ∈ mS m := by rw [hb]; simp [mS]
      simp at hq
      rcases hq with rfl | rfl | hq
      · exact hmm h8
      · exact DBM.out h8
      · have := LM.out b h8; have := (HD.out.t.foot b hq).1; omega)).keeps v2 (fun b hb hq => by simp at hq; have := hm b hb; omega)
  · rw [eM]
    refine ⟨evv, v2.has ?_ (by simp; exact LR.out.1.symm), fun h => by simp [Mac.done] at h, fun _ => ((HSK.out H0.out.1).keeps K9 (by simp; exact ⟨hsb0.2.1, hsb0.2.2.1, hsb0.1⟩)).keeps v2 (by simp; intro e; obtain ⟨c9, p9, h9, _⟩ := HSK.out H0.out.1; have := lt_of_block h9; omega)⟩
    have h9 := B4.out
    have e1 : skV q.st sb = skV (q.done (hitT x evv)).st sb := by unfold skV Mac.done; rw [if_neg H0.out.1]; rfl
    rw [e1] at h9
    exact h9
  · refine (K9.mono (T := mb :: db :: (skS q.st sb ++ S ++ mS m)) (fun z hz => by simp at hz ⊢; rcases hz with h | h | h <;> simp [h])).then v2 (fun z hz => by simp at hz; left; omega)
set_option maxRecDepth 100000 in
set_option maxHeartbeats 4000000 in
theorem step_on (k : Nat) (hk : k ≤ 990) (mb sb db t lo : Nat) (S : List Nat) (m : Option Nat) (c : C4) (d : Dic) (q : Mac) (w : World) (H : DicAt db t lo S (mV m) d w) (hM : MtrAt m c w) (hm : ∀ b, m = some b → b < lo) (HQ : MacAt mb sb db t q w) (hmS : mb ∉ S) (hmd : mb ≠ db) (hmm : mb ∉ mS m) (hsb : q.st ≠ 0 → sb ∉ S ∧ sb ≠ mb ∧ sb ≠ db ∧ sb ∉ mS m) (hI : DicOk k d) (hO : MacOk d q) (hsc : q.scans ≤ 1000000) (hst : ¬ (q.st = 4 ∨ q.st = 2)) (hs3 : ¬ q.st = 3) (hf : q.fresh d = false) :
    Calls Try.prog 14 #[.pointer (some ⟨mb, 0, none⟩)] w (StepP mb sb db t lo S m c d q w) := by
  obtain ⟨evv, hb, hev, hsk⟩ := HQ
  have HD := Lib.hid H
  have HM := Lib.hid hM
  have HB := Lib.hid hb
  have HEV := Lib.hid hev
  have HSK := Lib.hid hsk
  have hI := Lib.hid hI
  have HO2 := Lib.hid hO
  have HSB := Lib.hid hsb
  have lM : ∀ z, z ∈ mS m → z < lo := fun z hx => by cases m with | none => simp [mS] at hx | some b => simp [mS] at hx; subst hx; exact hm _ rfl
  have LM := Lib.hid lM
  have lol := H.l
  have DBM := Lib.hid (show db ∉ mS m from fun hx => by have := lM _ hx; omega)
  have lm := lt_of_block hb
  have ld := lt_of_block H.b
  have lS : ∀ z, z ∈ S → z < w.heap.size := fun z hz => (H.t.foot z hz).2
  have LS := Lib.hid lS
  obtain ⟨lr, hlr⟩ : ∃ lr, lr = w.heap.size := ⟨_, rfl⟩
  have HLR := Lib.hid hlr
  have lolr : lo ≤ lr := by omega
  have LR := Lib.hid (show lr ≠ mb ∧ lr ≠ db ∧ lr ∉ S from ⟨by omega, by omega, fun hx => by have := lS _ hx; omega⟩)
  obtain ⟨WA, hWA⟩ : ∃ WA, w.alloc (.cells #[.int .i64 0, .int .i64 0, .bool false, .int .i64 0, .int .i64 0] 29) = WA := ⟨_, rfl⟩
  have kb : Keeps [] w WA := by rw [← hWA]; exact (Keeps.refl [] w).alloc _
  have bT : WA.heap[lr]? = some (trnO noTrn) := by rw [← hWA, hlr]; exact has_new _ _
  have HWA := Lib.hid hWA
  have KB := Lib.hid kb
  have BT := Lib.hid bT
  have BM := Lib.hid (kb.has hb (by simp))
  have c1 : WA.cell? ⟨mb, 1, none⟩ = some (.pointer (some ⟨db, 0, none⟩)) := cell_has BM.out (i := 1) rfl
  have c7 : WA.cell? ⟨mb, 7, none⟩ = some (.int .i64 q.st) := cell_has BM.out (i := 7) rfl
  have zWA : WA.heap.size = lr + 1 := by rw [← hWA, hlr]; simp
  clear H hM hb hev hsk hO hsb lM lS hlr hWA kb bT
  go_enter Try.func14, Try.ntmps14
  go_upto_region 1 with (fail)
  rw [HWA.out, ← HLR.out]
  have n4 : ((q.st : Int) == 4) = false := by simp; omega
  have n2 : ((q.st : Int) == 2) = false := by simp; omega
  have n0 : q.st ≠ 0 ∧ q.ver = d.ver := by unfold Mac.fresh at hf; simp at hf; exact ⟨hf.1, hf.2⟩
  have c10 : WA.cell? ⟨mb, 10, none⟩ = some (.int .u64 q.ver) := cell_has BM.out (i := 10) rfl
  have e2 : WA.cell? ⟨db, 2, none⟩ = some (.int .u64 d.ver) := cell_has (KB.out.has HD.out.b (by simp)) (i := 2) rfl
  have z1 : 1 ≤ q.st ∧ q.st ≤ 4 := ⟨by omega, HO2.out.st⟩
  have skv : skV q.st sb = .pointer (some ⟨sb, 0, none⟩) := by unfold skV; rw [if_neg n0.1]
  have b0 : ((q.st : Int) == 0) = false := by simp; omega
  have b1 : ((q.ver : Int) != (d.ver : Int)) = false := by simp; omega
  have hst1 : q.st = 3 ∨ q.st = 1 := by omega
  obtain ⟨z, hz⟩ := ex_hid q.st
  rw [← hz.out] at c7 n4 n2 b0
  go_wp2_with fail
  refine wp_regionG (fun w' => w'.cell? ⟨mb, 7, none⟩ = some (.int .i64 z) ∧ w'.cell? ⟨mb, 10, none⟩ = some (.int .u64 q.ver) ∧ w'.cell? ⟨mb, 1, none⟩ = some (.pointer (some ⟨db, 0, none⟩)) ∧ w'.cell? ⟨db, 2, none⟩ = some (.int .u64 d.ver)) 19 (by kernel_rfl) ⟨c7, c10, c1, e2⟩ (fun hF => ?_)
  refine wpAnyG_takeY (i := 0) (v := ?_) rfl (by kernel_rfl) (by decide +kernel) (by decide +kernel) (by decide +kernel) (fun _ _ _ h => h) (by kernel_rfl) ?_ (by assumption) ?_
  rotate_left
  · (intro wz; go_simp; with_reducible rfl)
  try simp only [Act.put, List.setIfInBounds_toArray, List.set_cons_zero, List.set_cons_succ]
  refine wpAnyG_takeY (i := 1) (v := ?_) rfl (by kernel_rfl) (by decide +kernel) (by decide +kernel) (by decide +kernel) (fun _ _ _ h => h) (by kernel_rfl) ?_ (by assumption) ?_
  rotate_left
  · (intro wz; go_simp; with_reducible rfl)
  try simp only [Act.put, List.setIfInBounds_toArray, List.set_cons_zero, List.set_cons_succ]
  refine wpAnyG_takeY (i := 2) (v := ?_) rfl (by kernel_rfl) (by decide +kernel) (by decide +kernel) (by decide +kernel) (fun _ _ _ h => h) (by kernel_rfl) ?_ (by assumption) ?_
  rotate_left
  · (intro wz; go_simp; with_reducible rfl)
  try simp only [Act.put, List.setIfInBounds_toArray, List.set_cons_zero, List.set_cons_succ]
  refine wpAnyG_take (i := 3) (v := ?_) rfl (by kernel_rfl) (by decide +kernel) (by decide +kernel) (by decide +kernel) (by decide +kernel) (by rfl) (fun _ _ _ h => h) (by kernel_rfl) ?_ (by assumption) ?_
  rotate_left
  · (intro wz hSw; (try dsimp only at hSw); go_simp; with_reducible rfl)
  try simp only [Act.put, List.setIfInBounds_toArray, List.set_cons_zero, List.set_cons_succ]
  refine wpAnyG_takeY (i := 4) (v := ?_) rfl (by kernel_rfl) (by decide +kernel) (by decide +kernel) (by decide +kernel) (fun _ _ _ h => h) (by kernel_rfl) ?_ (by assumption) ?_
  rotate_left
  · (intro wz; go_simp; with_reducible rfl)
  try simp only [Act.put, List.setIfInBounds_toArray, List.set_cons_zero, List.set_cons_succ]
  refine wpAnyG_takeY (i := 5) (v := ?_) rfl (by kernel_rfl) (by decide +kernel) (by decide +kernel) (by decide +kernel) (fun _ _ _ h => h) (by kernel_rfl) ?_ (by assumption) ?_
  rotate_left
  · (intro wz; go_simp; with_reducible rfl)
  try simp only [Act.put, List.setIfInBounds_toArray, List.set_cons_zero, List.set_cons_succ]
  refine wpAnyG_takeY (i := 6) (v := ?_) rfl (by kernel_rfl) (by decide +kernel) (by decide +kernel) (by decide +kernel) (fun _ _ _ h => h) (by kernel_rfl) ?_ (by assumption) ?_
  rotate_left
  · (intro wz; go_simp; with_reducible rfl)
  try simp only [Act.put, List.setIfInBounds_toArray, List.set_cons_zero, List.set_cons_succ]
  refine wpAnyG_takeY (i := 7) (v := ?_) rfl (by kernel_rfl) (by decide +kernel) (by decide +kernel) (by decide +kernel) (fun _ _ _ h => h) (by kernel_rfl) ?_ (by assumption) ?_
  rotate_left
  · (intro wz; go_simp; with_reducible rfl)
  try simp only [Act.put, List.setIfInBounds_toArray, List.set_cons_zero, List.set_cons_succ]
  refine wpAnyG_takeY (i := 8) (v := ?_) rfl (by kernel_rfl) (by decide +kernel) (by decide +kernel) (by decide +kernel) (fun _ _ _ h => h) (by kernel_rfl) ?_ (by assumption) ?_
  rotate_left
  · (intro wz; go_simp; with_reducible rfl)
  try simp only [Act.put, List.setIfInBounds_toArray, List.set_cons_zero, List.set_cons_succ]
  refine wpAnyG_take (i := 9) (v := ?_) rfl (by kernel_rfl) (by decide +kernel) (by decide +kernel) (by decide +kernel) (by decide +kernel) (by rfl) (fun _ _ _ h => h) (by kernel_rfl) ?_ (by assumption) ?_
  rotate_left
  · (intro wz hSw; (try dsimp only at hSw); go_simp; with_reducible rfl)
  try simp only [Act.put, List.setIfInBounds_toArray, List.set_cons_zero, List.set_cons_succ]
  refine wpAnyG_takeY (i := 10) (v := ?_) rfl (by kernel_rfl) (by decide +kernel) (by decide +kernel) (by decide +kernel) (fun _ _ _ h => h) (by kernel_rfl) ?_ (by assumption) ?_
  rotate_left
  · (intro wz; go_simp; with_reducible rfl)
  try simp only [Act.put, List.setIfInBounds_toArray, List.set_cons_zero, List.set_cons_succ]
  refine wpAnyG_takeY (i := 11) (v := ?_) rfl (by kernel_rfl) (by decide +kernel) (by decide +kernel) (by decide +kernel) (fun _ _ _ h => h) (by kernel_rfl) ?_ (by assumption) ?_
  rotate_left
  · (intro wz; go_simp; with_reducible rfl)
  try simp only [Act.put, List.setIfInBounds_toArray, List.set_cons_zero, List.set_cons_succ]
  refine wpAnyG_takeY (i := 12) (v := ?_) rfl (by kernel_rfl) (by decide +kernel) (by decide +kernel) (by decide +kernel) (fun _ _ _ h => h) (by kernel_rfl) ?_ (by assumption) ?_
  rotate_left
  · (intro wz; go_simp; with_reducible rfl)
  try simp only [Act.put, List.setIfInBounds_toArray, List.set_cons_zero, List.set_cons_succ]
  refine wpAnyG_take (i := 13) (v := ?_) rfl (by kernel_rfl) (by decide +kernel) (by decide +kernel) (by decide +kernel) (by decide +kernel) (by rfl) (fun _ _ _ h => h) (by kernel_rfl) ?_ (by assumption) ?_
  rotate_left
  · (intro wz hSw; (try dsimp only at hSw); go_simp; with_reducible rfl)
  try simp only [Act.put, List.setIfInBounds_toArray, List.set_cons_zero, List.set_cons_succ]
  refine wpAnyG_takeY (i := 14) (v := ?_) rfl (by kernel_rfl) (by decide +kernel) (by decide +kernel) (by decide +kernel) (fun _ _ _ h => h) (by kernel_rfl) ?_ (by assumption) ?_
  rotate_left
  · (intro wz; go_simp; with_reducible rfl)
  try simp only [Act.put, List.setIfInBounds_toArray, List.set_cons_zero, List.set_cons_succ]
  refine wpAnyG_takeY (i := 15) (v := ?_) rfl (by kernel_rfl) (by decide +kernel) (by decide +kernel) (by decide +kernel) (fun _ _ _ h => h) (by kernel_rfl) ?_ (by assumption) ?_
  rotate_left
  · (intro wz; go_simp; with_reducible rfl)
  try simp only [Act.put, List.setIfInBounds_toArray, List.set_cons_zero, List.set_cons_succ]
  refine wpAnyG_take (i := 16) (v := ?_) rfl (by kernel_rfl) (by decide +kernel) (by decide +kernel) (by decide +kernel) (by decide +kernel) (by rfl) (fun _ _ _ h => h) (by kernel_rfl) ?_ (by assumption) ?_
  rotate_left
  · (intro wz hSw; (try dsimp only at hSw); go_simp; with_reducible rfl)
  try simp only [Act.put, List.setIfInBounds_toArray, List.set_cons_zero, List.set_cons_succ]
  refine wpAnyG_takeY (i := 17) (v := ?_) rfl (by kernel_rfl) (by decide +kernel) (by decide +kernel) (by decide +kernel) (fun _ _ _ h => h) (by kernel_rfl) ?_ (by assumption) ?_
  rotate_left
  · (intro wz; go_simp; with_reducible rfl)
  try simp only [Act.put, List.setIfInBounds_toArray, List.set_cons_zero, List.set_cons_succ]
  refine wpAnyG_takeY (i := 18) (v := ?_) rfl (by kernel_rfl) (by decide +kernel) (by decide +kernel) (by decide +kernel) (fun _ _ _ h => h) (by kernel_rfl) ?_ (by assumption) ?_
  rotate_left
  · (intro wz; go_simp; with_reducible rfl)
  try simp only [Act.put, List.setIfInBounds_toArray, List.set_cons_zero, List.set_cons_succ]
  refine wpAnyG_done (by kernel_rfl) ?_ _
  go_simp
  have b3 : ((z : Int) == 3) = false := by rw [hz.out]; simp; omega
  have H0 := Lib.hid n0
  obtain ⟨W, hW⟩ : ∃ W, WA.drew = W := ⟨_, rfl⟩
  have kW : Keeps [] WA W := by rw [← hW]; exact (Keeps.refl [] WA).drew
  have zW : W.heap.size = lr + 1 := by rw [← hW]; exact zWA
  rw [hW]
  have c7W := kW.cell c7 (by simp)
  clear c10 e2 hF b0 b1 hst1 n0 z1 hW
  go_wp2_with fail
  · obtain ⟨Q, hQ⟩ : ∃ Q, Hid (Q = q) := ⟨_, Lib.hid rfl⟩
    obtain ⟨sb1, hsb1⟩ : ∃ s, Hid (s = sb) := ⟨_, Lib.hid rfl⟩
    obtain ⟨stv, hstv⟩ : ∃ s, Hid (s = q.st) := ⟨_, Lib.hid rfl⟩
    have hlr := HLR.out
    have hsk := HSK.out H0.out.1
    have hsb0 := HSB.out H0.out.1
    have lsb : sb < w.heap.size := by obtain ⟨c9, p9, h9, _⟩ := hsk; exact lt_of_block h9
    have HW : Hid (W.heap[mb]? = some (macO (.pointer (some ⟨sb1, 0, none⟩)) db Q.g Q.h Q.k Q.v stv evv Q.scans Q.ver Q.turn)) := Lib.hid (by rw [hQ.out, hsb1.out, hstv.out, ← skv]; exact kW.has BM.out (by simp))
    have RW := Lib.hid (kW.has BT.out (by simp))
    have KW := Lib.hid (KB.out.trans kW)
    have DW := Lib.hid (HD.out.keeps KW.out (by simp) (by simp))
    have MW := Lib.hid (HM.out.keeps KW.out (by simp))
    have SW : Hid (SkAt sb1 t Q.sk W) := Lib.hid (by rw [hQ.out, hsb1.out]; exact hsk.keeps KW.out (by simp))
    have OW : Hid (SkOk d.T Q.sk) := Lib.hid (by rw [hQ.out]; exact HO2.out.sk H0.out.1)
    have SB := Lib.hid (show sb1 ∉ S ∧ sb1 ≠ mb ∧ sb1 ≠ db ∧ sb1 ∉ mS m ∧ sb1 ≠ lr from by rw [hsb1.out]; exact ⟨hsb0.1, hsb0.2.1, hsb0.2.2.1, hsb0.2.2.2, by omega⟩)
    have SBL : Hid (∀ w1, Keeps (sb1 :: mS m) W w1 → sb1 < w1.heap.size) := Lib.hid (fun w1 kx => by rw [hsb1.out]; have := kx.size; omega)
    have FIN : Hid (∀ r w', ScanP mb sb1 db t lo S m c d Q W lr r w' → StepP mb sb db t lo S m c d q w r w') := Lib.hid (fun r w' hP => by
      rw [hQ.out, hsb1.out] at hP
      obtain ⟨S9, p1, p2, p3, p4, p5, p6⟩ := hP
      have hns : ¬ (q.st = 4 ∨ q.st = 2) := hst
      have hn3 : ¬ q.st = 3 := by omega
      have eM : stepM d q = scanM d q := by unfold stepM; rw [if_neg hns, if_neg (by rw [hf]; simp), if_neg hn3]
      have eD : stepD d q = scanD d q := by unfold stepD; rw [if_neg hns, if_neg (by rw [hf]; simp), if_neg hn3]
      have eC : stepC d q c = scanC d q c := by unfold stepC; rw [if_neg hns, if_neg (by rw [hf]; simp), if_neg hn3]
      refine ⟨S9, sb, by rw [eM]; exact p1, by rw [eD]; exact p2, by rw [eC]; exact p3, by rw [eM]; exact p4, ?_, fun z hz => ?_, .inl ⟨rfl, H0.out.1⟩, fun _ => ⟨fun hx => ?_, hsb0.2.1, hsb0.2.2.1, hsb0.2.2.2⟩⟩
      · refine (KW.out.mono (T := mb :: db :: (skS q.st sb ++ S ++ mS m)) (by simp)).then p5 (fun z hz => ?_)
        unfold skS
        rw [if_neg H0.out.1]
        simp at hz
        rcases hz with rfl | rfl | rfl | rfl | hz | hz
        · simp
        · simp
        · left; omega
        · simp
        · simp [hz]
        · simp [hz]
      · rcases p6 z hz with h9 | h9
        · exact .inl h9
        · exact .inr (by omega)
      · rcases p6 _ hx with h9 | h9
        · exact hsb0.1 h9
        · omega)
    clear hsk hsb0 kW hlr lsb
    go_loopw [93] (fun x wr => W = wr) (fun _ _ => 0)
    case atStart => exact rfl
    case round =>
      subst hrel
      have y0 : W.cell? ⟨mb, 0, none⟩ = some (.pointer (some ⟨sb1, 0, none⟩)) := cell_has HW.out (i := 0) rfl
      go_wp2_with fail
      refine (next_any k (by omega) sb1 t lo S m c d.T Q.sk W DW.out.t MW.out hm hI.out.t SW.out SB.out.1 OW.out).mono ?_
      rintro r w1 ⟨rfl, s1, m1, k1⟩
      have nmb : mb ∉ sb1 :: mS m := by simp; exact ⟨fun e => SB.out.2.1 e.symm, hmm⟩
      have ndb : db ∉ sb1 :: mS m := by simp; exact ⟨fun e => SB.out.2.2.1 e.symm, DBM.out⟩
      have hb1 := k1.has HW.out nmb
      have d1 := DW.out.keeps k1 ndb (fun z hz => by simp; exact ⟨fun e => SB.out.1 (e ▸ hz), fun hx => by have := LM.out z hx; have := (DW.out.t.foot z hz).1; omega⟩)
      have r1 := k1.has RW.out (by simp; exact ⟨fun e => SB.out.2.2.2.2 e.symm, fun hx => by have := LM.out _ hx; omega⟩)
      have S1 := Lib.hid s1
      have M1 := Lib.hid m1
      have K1 := Lib.hid k1
      have B1 := Lib.hid hb1
      have D1 := Lib.hid d1
      have R1 := Lib.hid r1
      have y1 : w1.cell? ⟨mb, 1, none⟩ = some (.pointer (some ⟨db, 0, none⟩)) := cell_has hb1 (i := 1) rfl
      have y3 : w1.cell? ⟨mb, 3, none⟩ = some (.func (.func (missF Q.g)) #[] #[]) := cell_has hb1 (i := 3) rfl
      have y5 : w1.cell? ⟨mb, 5, none⟩ = some (.int .i64 Q.k) := cell_has hb1 (i := 5) rfl
      have e0 : w1.cell? ⟨db, 0, none⟩ = some (.pointer (some ⟨t, 0, none⟩)) := cell_has d1.b (i := 0) rfl
      clear s1 m1 k1 hb1 d1 r1 y0
      cases ho : (d.T.next Q.sk).over
      · -- an entry
        obtain ⟨x, hx, hh1, hh2⟩ := told_live hI.out.t OW.out ho
        clear hh1 hh2
        have hsay : (d.T.next Q.sk).says = (d.T.next Q.sk).told := by unfold Sk.says; rw [ho]; simp
        rw [hsay]
        obtain ⟨e, he⟩ : ∃ e, Hid (e = (d.T.next Q.sk).told) := ⟨_, Lib.hid rfl⟩
        rw [← he.out] at hx ⊢
        have hat : d.at_ (d.T.next Q.sk).told = x := by rw [← he.out]; exact Dic.at_of hx
        have HAT := Lib.hid hat
        have HO := Lib.hid ho
        have HX := Lib.hid hx
        clear hat ho hx hsay
        obtain ⟨ta, tc, tcb, tcr, a1, a2, _⟩ := D1.out.t
        have A12 := Lib.hid (And.intro a1 a2)
        clear a1 a2
        go_wp2_with fail
        refine (at_any t lo tc ta d.T.E (mV m) _ _ _ _ _ e w1 A12.out.1 A12.out.2 (by have := hI.out.t.ek; omega)).mono ?_
        rintro r w2 ⟨rfl, b2⟩
        have k2 := Below.keeps b2 []
        rw [show entE d.T.E e = some x from HX.out]
        simp only [atE, okE, Option.getD_some, Option.isSome_some, if_true, Ent.agg]
        have K2 := Lib.hid k2
        have B2 := Lib.hid (k2.has B1.out (by simp))
        have R2 := Lib.hid (k2.has R1.out (by simp))
        have D2 := Lib.hid (D1.out.keeps k2 (by simp) (by simp))
        replace y1 := k2.cell y1 (by simp)
        replace y5 := k2.cell y5 (by simp)
        clear b2 k2 y3 e0
        go_upto_region 15 with (fail)
        obtain ⟨W3, hW3⟩ : ∃ W3, w2.alloc (.cells #[.bool x.live, .int .i64 x.hash, .int .i64 x.key, .int .i64 x.val, .int .i64 x.birth] 36) = W3 := ⟨_, rfl⟩
        have k3 : Keeps [] w2 W3 := by rw [← hW3]; exact (Keeps.refl [] w2).alloc _
        have b3 : W3.heap[w2.heap.size]? = some (.cells #[.bool x.live, .int .i64 x.hash, .int .i64 x.key, .int .i64 x.val, .int .i64 x.birth] 36 (0, 0)) := by rw [← hW3]; exact has_new _ _
        have z2 : W3.cell? ⟨w2.heap.size, 2, none⟩ = some (.int .i64 x.key) := cell_has b3 (i := 2) rfl
        have x1 := k3.cell y1 (by simp)
        have x5 := k3.cell y5 (by simp)
        have K3 := Lib.hid (K2.out.trans k3)
        have B3 := Lib.hid (k3.has B2.out (by simp))
        have R3 := Lib.hid (k3.has R2.out (by simp))
        have D3 := Lib.hid (D2.out.keeps k3 (by simp) (by simp))
        have lw2 := lt_of_block B2.out
        have lr2 := lt_of_block R2.out
        have SZ := Lib.hid (show w1.heap.size ≤ w2.heap.size from K2.out.size)
        rw [hW3]
        clear hW3 k3 b3 y1 y5
        refine wp_regionG (fun w' => w'.cell? ⟨w2.heap.size, 2, none⟩ = some (.int .i64 x.key) ∧ w'.cell? ⟨mb, 5, none⟩ = some (.int .i64 Q.k)) 7 (by kernel_rfl) ⟨z2, x5⟩ (fun hF => ?_)
        refine wpAnyG_takeY (i := 0) (v := ?_) rfl (by kernel_rfl) (by decide +kernel) (by decide +kernel) (by decide +kernel) (fun _ _ _ h => h) (by kernel_rfl) ?_ (by assumption) ?_
        rotate_left
        · (intro wz; go_simp; with_reducible rfl)
        try simp only [Act.put, List.setIfInBounds_toArray, List.set_cons_zero, List.set_cons_succ]
        refine wpAnyG_take (i := 1) (v := ?_) rfl (by kernel_rfl) (by decide +kernel) (by decide +kernel) (by decide +kernel) (by decide +kernel) (by rfl) (fun _ _ _ h => h) (by kernel_rfl) ?_ (by assumption) ?_
        rotate_left
        · (intro wz hSw; (try dsimp only at hSw); go_simp; with_reducible rfl)
        try simp only [Act.put, List.setIfInBounds_toArray, List.set_cons_zero, List.set_cons_succ]
        refine wpAnyG_takeY (i := 2) (v := ?_) rfl (by kernel_rfl) (by decide +kernel) (by decide +kernel) (by decide +kernel) (fun _ _ _ h => h) (by kernel_rfl) ?_ (by assumption) ?_
        rotate_left
        · (intro wz; go_simp; with_reducible rfl)
        try simp only [Act.put, List.setIfInBounds_toArray, List.set_cons_zero, List.set_cons_succ]
        refine wpAnyG_takeY (i := 3) (v := ?_) rfl (by kernel_rfl) (by decide +kernel) (by decide +kernel) (by decide +kernel) (fun _ _ _ h => h) (by kernel_rfl) ?_ (by assumption) ?_
        rotate_left
        · (intro wz; go_simp; with_reducible rfl)
        try simp only [Act.put, List.setIfInBounds_toArray, List.set_cons_zero, List.set_cons_succ]
        refine wpAnyG_takeY (i := 4) (v := ?_) rfl (by kernel_rfl) (by decide +kernel) (by decide +kernel) (by decide +kernel) (fun _ _ _ h => h) (by kernel_rfl) ?_ (by assumption) ?_
        rotate_left
        · (intro wz; go_simp; with_reducible rfl)
        try simp only [Act.put, List.setIfInBounds_toArray, List.set_cons_zero, List.set_cons_succ]
        refine wpAnyG_take (i := 5) (v := ?_) rfl (by kernel_rfl) (by decide +kernel) (by decide +kernel) (by decide +kernel) (by decide +kernel) (by rfl) (fun _ _ _ h => h) (by kernel_rfl) ?_ (by assumption) ?_
        rotate_left
        · (intro wz hSw; (try dsimp only at hSw); go_simp; with_reducible rfl)
        try simp only [Act.put, List.setIfInBounds_toArray, List.set_cons_zero, List.set_cons_succ]
        refine wpAnyG_takeY (i := 6) (v := ?_) rfl (by kernel_rfl) (by decide +kernel) (by decide +kernel) (by decide +kernel) (fun _ _ _ h => h) (by kernel_rfl) ?_ (by assumption) ?_
        rotate_left
        · (intro wz; go_simp; with_reducible rfl)
        try simp only [Act.put, List.setIfInBounds_toArray, List.set_cons_zero, List.set_cons_succ]
        refine wpAnyG_done (by kernel_rfl) ?_ _
        go_simp
        by_cases hkk : x.key = Q.k
        · have dk : (x.key == Q.k) = true := by simpa using hkk
          have HKK := Lib.hid hkk
          clear hkk
          have x1d : W3.drew.cell? ⟨mb, 1, none⟩ = some (.pointer (some ⟨db, 0, none⟩)) := x1
          clear hF
          go_wp2_with fail
          refine (hitm_any mb db t lo S (mV m) (.pointer (some ⟨sb1, 0, none⟩)) d Q stv evv _ (D3.out.keeps (Keeps.refl [] W3).drew (by simp) (by simp)) B3.out hmS hmd (hI.out.t.mono (by omega)) (by have := hI.out.v; omega) e x HX.out).mono ?_
          rintro r w4 ⟨rfl, d4, b4, k4⟩
          have r4 := k4.has (w := W3.drew) R3.out (by simp; exact ⟨LR.out.1, LR.out.2.1, LR.out.2.2⟩)
          obtain ⟨t0, t1, t2, t3, t4⟩ := trn_cells r4
          obtain ⟨u0, u1, u2, u3, u4⟩ := trn_free r4
          have R4 := Lib.hid r4
          have D4 := Lib.hid d4
          have B4 := Lib.hid b4
          have K4 := Lib.hid k4
          obtain ⟨tt, htt⟩ : ∃ tt, Hid (tt = hitT x e) := ⟨_, Lib.hid rfl⟩
          rw [← htt.out]
          unfold Trn.agg
          clear r4 d4 b4 k4
          go_wp2_with fail
          obtain ⟨v1, v2⟩ := trn_store noTrn tt R4.out
          have rc := cell_of_has v1
          have eM : scanM d Q = { { Q with sk := d.T.next Q.sk } with st := 4, turn := hitT x e } := by
            unfold scanM; simp only
            rw [if_neg (by rw [HO.out]; simp), HAT.out, if_pos HKK.out, ← he.out]; rfl
          have eD : scanD d Q = d.hit Q e := by
            unfold scanD; simp only
            rw [if_neg (by rw [HO.out]; simp), HAT.out, if_pos HKK.out, ← he.out]
          have eC : scanC d Q c = c.visN (d.T.walks Q.sk) := by
            unfold scanC; rw [if_neg (by rw [HO.out]; simp)]
          refine bodyPost_ret (v := tt.agg) (by simp [results, Try.results14, go_sem, Trn.agg, rc]) rfl (FIN.out _ _ ⟨S, by rw [eM, htt.out], ?_, ?_, ?_, ?_, Grew.refl _ _⟩)
          · rw [eD]
            exact D4.out.keeps v2 (by simp; exact LR.out.2.1.symm) (fun z hz hq => by simp at hq; subst hq; exact LR.out.2.2 hz)
          · rw [eC]
            have h9 : MtrAt m (c.visN (d.T.walks Q.sk)) W3.drew := (M1.out.keeps K3.out (by simp)).keeps (Keeps.refl [] W3).drew (by simp)
            have h7 : ∀ b, m = some b → b ∉ mb :: db :: S := fun b hb hq => by
              have h8 : b ∈ mS m := by rw [hb]; simp [mS]
              simp only [List.mem_cons] at hq
              rcases hq with rfl | rfl | hq
              · exact hmm h8
              · exact DBM.out h8
              · have := LM.out b h8; have := (DW.out.t.foot b hq).1; omega
            exact (h9.keeps K4.out h7).keeps v2 (fun b hb hq => by simp at hq; have := hm b hb; omega)
          · rw [eM]
            exact ⟨evv, v2.has B4.out (by simp; exact LR.out.1.symm), fun h => by simp at h, fun _ => ((S1.out.keeps (K3.out.trans (Keeps.refl [] W3).drew) (by simp)).keeps K4.out (by simp; exact ⟨SB.out.2.1, SB.out.2.2.1, SB.out.1⟩)).keeps v2 (by simp; exact SB.out.2.2.2.2)⟩
          · refine ((((K1.out.mono (T := mb :: db :: lr :: (sb1 :: S ++ mS m)) (fun z hz => by simp at hz ⊢; rcases hz with h | h <;> simp [h])).trans (K3.out.mono (by simp))).drew).trans (K4.out.mono (fun z hz => by simp at hz ⊢; rcases hz with h | h | h <;> simp [h]))).trans (v2.mono (fun z hz => by simp at hz ⊢; simp [hz]))
        · have dk : (x.key == Q.k) = false := by simpa using hkk
          have HKK := Lib.hid hkk
          clear hkk
          obtain ⟨tt, htt⟩ : ∃ tt : Trn, Hid (tt = ⟨1, x.key, false, 0, 0⟩) := ⟨_, Lib.hid rfl⟩
          have b3d := B3.out
          obtain ⟨m7, m11, m12, m13, m14, m15⟩ := mac_cells b3d
          obtain ⟨f7, f11, f12, f13, f14, f15⟩ := mac_free b3d
          have m8 : W3.cell? ⟨mb, 8, none⟩ = some (.int .i64 evv) := cell_has b3d (i := 8) rfl
          have f8 := free_of_has b3d 8
          have n1 : ¬ mb = w2.heap.size := by omega
          have n2 : ¬ w2.heap.size = mb := by omega
          clear hF x1 x5 b3d
          go_upto_region 17 with (fail)
          go_region_held3 (fun w' => w'.cell? ⟨w2.heap.size, 2, none⟩ = some (.int .i64 x.key)) (go_keep) (fail)
          go_upto_region 18 with (fail)
          refine wp_gen (fun V => V.heap[mb]? = some (macO (.pointer (some ⟨sb1, 0, none⟩)) db Q.g Q.h Q.k Q.v 2 e Q.scans Q.ver tt) ∧ Keeps [mb] W3 V) ?_ ?_
          · rw [htt.out]
            exact ⟨has_drew (has_drew (mac_wait e ⟨1, x.key, false, 0, 0⟩ B3.out).1), (mac_wait e ⟨1, x.key, false, 0, 0⟩ B3.out).2.drew.drew⟩
          rintro W4 ⟨b4, k4⟩
          have r4 := k4.has R3.out (by simp; exact LR.out.1)
          clear m7 m8 m11 m12 m13 m14 m15 f7 f8 f11 f12 f13 f14 f15 z2
          obtain ⟨_, m11, m12, m13, m14, m15⟩ := mac_cells b4
          obtain ⟨t0, t1, t2, t3, t4⟩ := trn_cells r4
          obtain ⟨u0, u1, u2, u3, u4⟩ := trn_free r4
          have R4 := Lib.hid r4
          have B4 := Lib.hid b4
          have K4 := Lib.hid k4
          clear r4 b4 k4
          go_wp2_with fail
          obtain ⟨v1, v2⟩ := trn_store noTrn tt R4.out
          have rc := cell_of_has v1
          have eM : scanM d Q = { { Q with sk := d.T.next Q.sk } with st := 2, ent := e, turn := tt } := by
            unfold scanM; simp only
            rw [if_neg (by rw [HO.out]; simp), HAT.out, if_neg HKK.out, ← he.out, htt.out]
          have eD : scanD d Q = d := by
            unfold scanD; simp only
            rw [if_neg (by rw [HO.out]; simp), HAT.out, if_neg HKK.out]
          have eC : scanC d Q c = c.visN (d.T.walks Q.sk) := by
            unfold scanC; rw [if_neg (by rw [HO.out]; simp)]
          have lr3 : ∀ z, z ∈ S → z ≠ lr := fun z hz e => LR.out.2.2 (e ▸ hz)
          refine bodyPost_ret (v := tt.agg) (by simp [results, Try.results14, go_sem, Trn.agg, rc]) rfl (FIN.out _ _ ⟨S, by rw [eM], ?_, ?_, ?_, ?_, Grew.refl _ _⟩)
          · rw [eD]
            exact (D3.out.keeps K4.out (by simp; omega) (fun z hz hq => by simp at hq; subst hq; exact hmS hz)).keeps v2 (by simp; exact LR.out.2.1.symm) (fun z hz hq => by simp at hq; exact lr3 z hz hq)
          · rw [eC]
            exact ((M1.out.keeps K3.out (by simp)).keeps K4.out (fun b hb hq => by simp at hq; have h8 : b ∈ mS m := (by rw [hb]; simp [mS]); exact hmm (hq ▸ h8))).keeps v2 (fun b hb hq => by simp at hq; have := hm b hb; omega)
          · rw [eM]
            exact ⟨e, v2.has B4.out (by simp; exact LR.out.1.symm), fun _ => rfl, fun _ => ((S1.out.keeps K3.out (by simp)).keeps K4.out (by simp; exact SB.out.2.1)).keeps v2 (by simp; exact SB.out.2.2.2.2)⟩
          · refine (((K1.out.mono (T := mb :: db :: lr :: (sb1 :: S ++ mS m)) (fun z hz => by simp at hz ⊢; rcases hz with h | h <;> simp [h])).trans (K3.out.mono (by simp))).trans (K4.out.mono (fun z hz => by simp at hz ⊢; simp [hz]))).trans (v2.mono (fun z hz => by simp at hz ⊢; simp [hz]))
      · -- none
        have HO := Lib.hid ho
        have hrun := fun args W => missf_enters Q.g args W
        have hC := missf_any k (by omega) mb db t lo S m (c.visN (d.T.walks Q.sk)) d Q w1 D1.out M1.out hm hI.out.t (by have := hI.out.v; omega) y1 (cell_has B1.out (i := 4) rfl) y5 (cell_has B1.out (i := 6) rfl) hmS hmd hmm
        have HC := Lib.hid hC
        obtain ⟨mf, hmf⟩ : ∃ mf, Hid (mf = missF Q.g) := ⟨_, Lib.hid rfl⟩
        rw [← hmf.out] at y3 hrun
        clear ho hC e0
        go_wp2_with fail
        rw [hmf.out]
        refine HC.out.mono ?_
        rintro r w2 ⟨S2, rfl, d2, m2, k2, g2⟩
        have b2 := k2.has B1.out (by simp; exact ⟨hmd, hmS, hmm⟩)
        have r2 := k2.has R1.out (by simp; exact ⟨LR.out.2.1, LR.out.2.2, fun hx => by have := LM.out _ hx; omega⟩)
        have D2 := Lib.hid d2
        have M2 := Lib.hid m2
        have K2 := Lib.hid k2
        have G2 := Lib.hid g2
        have B2 := Lib.hid b2
        have R2 := Lib.hid r2
        obtain ⟨tt, htt⟩ : ∃ tt, Hid (tt = missT d Q) := ⟨_, Lib.hid rfl⟩
        rw [← htt.out]
        have lS2 : ∀ z, z ∈ S2 → z ≠ mb ∧ z ≠ lr ∧ z ≠ sb1 := fun z hz => by
          have h8 := lt_of_block B1.out
          have h7 := lt_of_block R1.out
          have h6 := SBL.out w1 K1.out
          rcases g2 z hz with h9 | h9
          · exact ⟨fun e => hmS (e ▸ h9), fun e => LR.out.2.2 (e ▸ h9), fun e => SB.out.1 (e ▸ h9)⟩
          · exact ⟨by omega, by omega, by omega⟩
        have LS2 := Lib.hid lS2
        clear d2 m2 k2 g2 b2 r2 y1 y3 y5 lS2
        go_wp2_with fail
        refine (end_any mb db Q.g (.pointer (some ⟨sb1, 0, none⟩)) Q.h Q.k Q.v stv evv Q.scans Q.ver Q.turn tt w2 B2.out).mono ?_
        rintro r w3 ⟨rfl, b3, k3⟩
        have r3 := k3.has R2.out (by simp; exact LR.out.1)
        obtain ⟨t0, t1, t2, t3, t4⟩ := trn_cells r3
        obtain ⟨u0, u1, u2, u3, u4⟩ := trn_free r3
        have R3 := Lib.hid r3
        have B3 := Lib.hid b3
        have K3 := Lib.hid k3
        unfold Trn.agg
        clear r3 b3 k3
        go_wp2_with fail
        obtain ⟨v1, v2⟩ := trn_store noTrn tt R3.out
        have rc := cell_of_has v1
        have eM : scanM d Q = { { Q with sk := d.T.next Q.sk } with st := 4, turn := missT d Q } := by
          unfold scanM; simp only
          rw [if_pos HO.out]; rfl
        have eD : scanD d Q = d.miss Q := by
          unfold scanD; simp only
          rw [if_pos HO.out]
        have eC : scanC d Q c = missC d Q (c.visN (d.T.walks Q.sk)) := by
          unfold scanC; rw [if_pos HO.out]
        refine bodyPost_ret (v := tt.agg) (by simp [results, Try.results14, go_sem, Trn.agg, rc]) rfl (FIN.out _ _ ⟨S2, by rw [eM, htt.out], ?_, ?_, ?_, ?_, ?_⟩)
        · rw [eD]
          exact (D2.out.keeps K3.out (by simp; omega) (fun z hz hq => by simp at hq; exact (LS2.out z hz).1 hq)).keeps v2 (by simp; exact LR.out.2.1.symm) (fun z hz hq => by simp at hq; exact (LS2.out z hz).2.1 hq)
        · rw [eC]
          exact (M2.out.keeps K3.out (fun b hb hq => by simp at hq; have h8 : b ∈ mS m := (by rw [hb]; simp [mS]); exact hmm (hq ▸ h8))).keeps v2 (fun b hb hq => by simp at hq; have := hm b hb; omega)
        · rw [eM]
          exact ⟨evv, by rw [← htt.out]; exact v2.has B3.out (by simp; exact LR.out.1.symm), fun h => by simp at h, fun _ => ((S1.out.keeps K2.out (by simp; exact ⟨SB.out.2.2.1, SB.out.1, SB.out.2.2.2.1⟩)).keeps K3.out (by simp; exact SB.out.2.1)).keeps v2 (by simp; exact SB.out.2.2.2.2)⟩
        · refine (((K1.out.mono (T := mb :: db :: lr :: (sb1 :: S ++ mS m)) (fun z hz => by simp at hz ⊢; rcases hz with h | h <;> simp [h])).trans (K2.out.mono (fun z hz => by simp at hz ⊢; rcases hz with h | h | h <;> simp [h]))).trans (K3.out.mono (fun z hz => by simp at hz ⊢; simp [hz]))).trans (v2.mono (fun z hz => by simp at hz ⊢; simp [hz]))
        · intro z hz
          rcases G2.out z hz with h9 | h9
          · exact .inl h9
          · exact .inr (by have := K1.out.size; omega)
/-- Any Step. -/
theorem step_any (k : Nat) (hk : k ≤ 990) (mb sb db t lo : Nat) (S : List Nat) (m : Option Nat) (c : C4) (d : Dic) (q : Mac) (w : World) (H : DicAt db t lo S (mV m) d w) (hM : MtrAt m c w) (hm : ∀ b, m = some b → b < lo) (HQ : MacAt mb sb db t q w) (hmS : mb ∉ S) (hmd : mb ≠ db) (hmm : mb ∉ mS m) (hsb : q.st ≠ 0 → sb ∉ S ∧ sb ≠ mb ∧ sb ≠ db ∧ sb ∉ mS m) (hI : DicOk k d) (hO : MacOk d q) (hsc : q.scans ≤ 1000000) :
    Calls Try.prog 14 #[.pointer (some ⟨mb, 0, none⟩)] w (StepP mb sb db t lo S m c d q w) := by
  by_cases h1 : q.st = 4 ∨ q.st = 2
  · exact step_done k hk mb sb db t lo S m c d q w H hM hm HQ hmS hmd hmm hsb hI hO hsc h1
  cases h2 : q.fresh d
  · by_cases h3 : q.st = 3
    · exact step_hits k hk mb sb db t lo S m c d q w H hM hm HQ hmS hmd hmm hsb hI hO hsc h3 h2
    · exact step_on k hk mb sb db t lo S m c d q w H hM hm HQ hmS hmd hmm hsb hI hO hsc h1 h3 h2
  · exact step_fresh k hk mb sb db t lo S m c d q w H hM hm HQ hmS hmd hmm hsb hI hO hsc h1 h2
end Go.Proofs.Ytcakdmapnmneoaa
