/- The calls of a script on a table and on the document's: At, Copy, Seek, Next (chapter 7). -/
import Derived.Test.YtajcbghhpjpmhaaB11
import Derived.Test.YtajcbghhpjpmhaaTableSeeks
import Derived.Deep.Cut
import Derived.Deep.CutRange
namespace Go.Proofs.Ytajcbghhpjpmhaa
open Go.RowKit
set_option linter.unusedVariables false
set_option linter.unusedSimpArgs false

theorem rat_tab (t lo : Nat) (S : List Nat) (m : Option Nat) (T : Tab) (w : World) (H : RTabAt t lo S m T w) (hl : T.E.length ≤ 1000000) (e : Int) :
    Calls Try.prog 61 #[.pointer (some ⟨t, 0, none⟩), .int .i64 e] w fun r w' => r = .returned (.tuple #[(atE (entE T.E e)).agg, .int .i64 (okE (entE T.E e))]) ∧ Below w.heap.size w w' := by
  obtain ⟨a, c, q, h1, h2, _⟩ := H
  exact rat_any t lo c T.L a T.E _ _ _ _ _ _ e w h1 h2 hl
def entO (x : Ent) : Obj := .cells #[.bool x.live, .int .i64 x.hash, .int .i64 x.key, .int .i64 x.val, .int .i64 x.birth] 32 (0, 0)
theorem ent_store {W : World} {b : Nat} (x : Ent) (h : W.heap[b]? = some (.cells #[.bool false, .int .i64 0, .int .i64 0, .int .i64 0, .int .i64 0] 32 (0, 0))) :
    (((((W.setCell ⟨b, 0, none⟩ (.bool x.live)).setCell ⟨b, 1, none⟩ (.int .i64 x.hash)).setCell ⟨b, 2, none⟩ (.int .i64 x.key)).setCell ⟨b, 3, none⟩ (.int .i64 x.val)).setCell ⟨b, 4, none⟩ (.int .i64 x.birth)).heap[b]? = some (entO x) := by
  have h0 := has_setCell h 0 (.bool x.live)
  simp only [List.setIfInBounds_toArray, List.set_cons_zero] at h0
  have h1 := has_setCell h0 1 (.int .i64 x.hash)
  simp only [List.setIfInBounds_toArray, List.set_cons_zero, List.set_cons_succ] at h1
  have h2 := has_setCell h1 2 (.int .i64 x.key)
  simp only [List.setIfInBounds_toArray, List.set_cons_zero, List.set_cons_succ] at h2
  have h3 := has_setCell h2 3 (.int .i64 x.val)
  simp only [List.setIfInBounds_toArray, List.set_cons_zero, List.set_cons_succ] at h3
  have h4 := has_setCell h3 4 (.int .i64 x.birth)
  simp only [List.setIfInBounds_toArray, List.set_cons_zero, List.set_cons_succ] at h4
  exact h4
set_option maxRecDepth 100000 in
set_option maxHeartbeats 4000000 in
theorem does_at (xb lo k : Nat) (F : List Nat) (m1 m2 : Option Nat) (c : C4) (T : Tab) (so : Option Sk) (w : World) (H : TwoAt xb lo F m1 m2 c T so w) (hk : k ≤ 900) (hI : TInv k T) (h ky v n : Int) :
    Calls Try.prog 28 #[.pointer (some ⟨xb, 0, none⟩), .agg #[.int .i64 4, .int .i64 h, .int .i64 ky, .int .i64 v, .int .i64 n]] w (DoesP xb lo F m1 m2 k w) := by
  have HH := Lib.hid H
  obtain ⟨t, tw, S, R, sp, kp, h1, h2, h3, h4, h5, h6, h7⟩ := H
  have H1 := Lib.hid h1
  have H2 := Lib.hid h2
  have H3 := Lib.hid h3
  have H4 := Lib.hid h4
  have H5 := Lib.hid h5
  have H6 := Lib.hid h6
  have H7 := Lib.hid h7
  have HI := Lib.hid hI
  have hek := hI.ek
  have hl3 := hI.l3
  have hl12 := hI.l12
  have zx := lt_of_block h1
  have x0 : w.cell? ⟨xb, 0, none⟩ = some (.pointer (some ⟨t, 0, none⟩)) := cell_has h1 (i := 0) rfl
  have x1 : w.cell? ⟨xb, 1, none⟩ = some (.pointer (some ⟨tw, 0, none⟩)) := cell_has h1 (i := 1) rfl
  have xs : xb ∉ S ++ mS m1 := fun hx => by
    rcases List.mem_append.1 hx with hx | hx
    · exact h7.sx hx
    · have := mS_lt h7.a1 hx; have := (h7.ft xb h7.fx).1; omega
  have xr : xb ∉ R ++ mS m2 := fun hx => by
    rcases List.mem_append.1 hx with hx | hx
    · exact h7.rx hx
    · have := mS_lt h7.a2 hx; have := (h7.ft xb h7.fx).1; omega
  have ws : w.heap.size ∉ S ++ mS m1 := fun hx => by
    rcases List.mem_append.1 hx with hx | hx
    · have := (h7.ft _ (h7.fs _ hx)).2; omega
    · have := mS_lt h7.a1 hx; have := (h7.ft xb h7.fx); omega
  have wr' : w.heap.size ∉ R ++ mS m2 := fun hx => by
    rcases List.mem_append.1 hx with hx | hx
    · have := (h7.ft _ (h7.fr _ hx)).2; omega
    · have := mS_lt h7.a2 hx; have := (h7.ft xb h7.fx); omega
  have XX := Lib.hid (And.intro xs (And.intro xr (And.intro ws wr')))
  obtain ⟨WB, hWB⟩ : ∃ WB, w.alloc (.cells #[.int .i64 4, .int .i64 h, .int .i64 ky, .int .i64 v, .int .i64 n] 61) = WB := ⟨_, rfl⟩
  have kb : Keeps [] w WB := by rw [← hWB]; exact (Keeps.refl [] w).alloc _
  have bb : WB.heap[w.heap.size]? = some (.cells #[.int .i64 4, .int .i64 h, .int .i64 ky, .int .i64 v, .int .i64 n] 61 (0, 0)) := by rw [← hWB]; exact has_new _ _
  have hWB2 := Lib.hid hWB
  have p0 : WB.cell? ⟨w.heap.size, 0, none⟩ = some (.int .i64 4) := cell_has bb (i := 0) rfl
  have p1 : WB.cell? ⟨w.heap.size, 1, none⟩ = some (.int .i64 h) := cell_has bb (i := 1) rfl
  have p2 : WB.cell? ⟨w.heap.size, 2, none⟩ = some (.int .i64 ky) := cell_has bb (i := 2) rfl
  have p3 : WB.cell? ⟨w.heap.size, 3, none⟩ = some (.int .i64 v) := cell_has bb (i := 3) rfl
  have p4 : WB.cell? ⟨w.heap.size, 4, none⟩ = some (.int .i64 n) := cell_has bb (i := 4) rfl
  have y0 := kb.cell x0 (by simp)
  have y1 := kb.cell x1 (by simp)
  have KB := Lib.hid kb
  have BB := Lib.hid bb
  clear h1 h2 h3 h4 h5 h6 h7 xs xr ws wr' hWB kb bb x0 x1 hI
  go_enter Try.func28, Try.ntmps28
  go_upto_region 1 with (fail)
  rw [hWB2.out]
  go_wp2_with fail
  obtain ⟨x, hx⟩ : ∃ x, Hid (x = atE (entE T.E n)) := ⟨_, Lib.hid rfl⟩
  obtain ⟨oe, hoe⟩ : ∃ o, Hid (o = okE (entE T.E n)) := ⟨_, Lib.hid rfl⟩
  go_cut [9, 10] from 98 to 107 (fun z9 z10 wx => ∃ D, z9 = .pointer (some ⟨D, 0, none⟩) ∧ z10 = .int .i64 oe ∧ wx.heap[D]? = some (entO x) ∧ Keeps [] WB wx ∧ WB.heap.size ≤ D)
  case first =>
    have hnx := World.new_ne WB ⟨xb, 0, none⟩ y0
    have hnp := World.new_ne WB ⟨w.heap.size, 4, none⟩ p4
    obtain ⟨WZ, hWZ⟩ : ∃ WZ, WB.alloc (.cells #[.bool false, .int .i64 0, .int .i64 0, .int .i64 0, .int .i64 0] 32) = WZ := ⟨_, rfl⟩
    have kZ : Keeps [] WB WZ := by rw [← hWZ]; exact (Keeps.refl [] WB).alloc _
    have bZ : WZ.heap[WB.heap.size]? = some (.cells #[.bool false, .int .i64 0, .int .i64 0, .int .i64 0, .int .i64 0] 32 (0, 0)) := by rw [← hWZ]; exact has_new _ _
    have DZ := Lib.hid (show WZ.drew = (WB.alloc (.cells #[.bool false, .int .i64 0, .int .i64 0, .int .i64 0, .int .i64 0] 32)).drew by rw [hWZ])
    have KZ := Lib.hid kZ
    have BZ := Lib.hid bZ
    clear hWZ kZ bZ
    go_region_held3 (fun w' => w'.cell? ⟨xb, 0, none⟩ = some (.pointer (some ⟨t, 0, none⟩)) ∧ w'.cell? ⟨w.heap.size, 4, none⟩ = some (.int .i64 n)) (go_keep)
      (first
        | (go_at_call 23; refine (at_z t lo S m1 T WB.drew ((fun k => H2.out.keeps (KB.out.trans k) (by simp)) ((Keeps.refl [] WB).drew)) (by omega) n).mono ?_; rintro r w1 ⟨rfl, b1⟩; rw [← hx.out, ← hoe.out]; have k1 := Below.keeps b1 []; have r0 := k1.cell (w := WB.drew) y0 (by simp); have r1 := k1.cell (w := WB.drew) p4 (by simp); have m0 := World.new_ne w1 ⟨xb, 0, none⟩ r0; have m1' := World.new_ne w1 ⟨w.heap.size, 4, none⟩ r1; have K1 := Lib.hid (((Keeps.refl [] WB).drew).trans k1); clear k1 b1; unfold Ent.agg)
        | (go_at_call 23; rw [← DZ.out]; refine (at_z t lo S m1 T WZ.drew ((fun k => H2.out.keeps (KB.out.trans k) (by simp)) (KZ.out.drew)) (by omega) n).mono ?_; rintro r w1 ⟨rfl, b1⟩; rw [← hx.out, ← hoe.out]; have k1 := Below.keeps b1 []; have r0 := k1.cell (w := WZ.drew) (KZ.out.cell y0 (by simp)) (by simp); have r1 := k1.cell (w := WZ.drew) (KZ.out.cell p4 (by simp)) (by simp); have pb := k1.has (has_drew BZ.out) (by simp); have v0 := cell_has pb (i := 0) rfl; have v1 := cell_has pb (i := 1) rfl; have v2 := cell_has pb (i := 2) rfl; have v3 := cell_has pb (i := 3) rfl; have v4 := cell_has pb (i := 4) rfl; have g0 := free_of_has pb 0; have g1 := free_of_has pb 1; have g2 := free_of_has pb 2; have g3 := free_of_has pb 3; have g4 := free_of_has pb 4; have PB := Lib.hid pb; have K1 := Lib.hid (KZ.out.drew.trans k1); clear k1 b1 pb; unfold Ent.agg))
    all_goals go_wp2_with fail
    all_goals go_meet
    · exact ⟨w1.heap.size, rfl, rfl, has_new w1 _, K1.out.alloc _, K1.out.size⟩
    all_goals exact ⟨WB.heap.size, rfl, rfl, ent_store x PB.out, (((((K1.out.setCell (.inl (Nat.le_refl _)) _).setCell (.inl (Nat.le_refl _)) _).setCell (.inl (Nat.le_refl _)) _).setCell (.inl (Nat.le_refl _)) _).setCell (.inl (Nat.le_refl _)) _), Nat.le_refl _⟩
  case rest =>
    obtain ⟨D, rfl, rfl, hD, k2, zD⟩ := hcut
    have HD := Lib.hid hD
    have K2 := Lib.hid (KB.out.trans k2)
    have q1 := k2.cell y1 (by simp)
    have u4 := k2.cell p4 (by simp)
    have u0 := k2.cell p0 (by simp)
    obtain ⟨w2, hw2⟩ : ∃ x, x = wc := ⟨_, rfl⟩
    subst hw2
    clear hD k2
    have R2 := Lib.hid (H3.out.keeps K2.out (by simp))
    go_wp2_with fail
    go_cut [11, 12] from 108 to 117 (fun z9 z10 wx => ∃ D, z9 = .pointer (some ⟨D, 0, none⟩) ∧ z10 = .int .i64 oe ∧ wx.heap[D]? = some (entO x) ∧ Keeps [] w2 wx ∧ w2.heap.size ≤ D)
    case first =>
      have hnx := World.new_ne w2 ⟨xb, 1, none⟩ q1
      have hnp := World.new_ne w2 ⟨w.heap.size, 4, none⟩ u4
      obtain ⟨WZ, hWZ⟩ : ∃ WZ, w2.alloc (.cells #[.bool false, .int .i64 0, .int .i64 0, .int .i64 0, .int .i64 0] 32) = WZ := ⟨_, rfl⟩
      have kZ : Keeps [] w2 WZ := by rw [← hWZ]; exact (Keeps.refl [] w2).alloc _
      have bZ : WZ.heap[w2.heap.size]? = some (.cells #[.bool false, .int .i64 0, .int .i64 0, .int .i64 0, .int .i64 0] 32 (0, 0)) := by rw [← hWZ]; exact has_new _ _
      have DZ := Lib.hid (show WZ.drew = (w2.alloc (.cells #[.bool false, .int .i64 0, .int .i64 0, .int .i64 0, .int .i64 0] 32)).drew by rw [hWZ])
      have KZ := Lib.hid kZ
      have BZ := Lib.hid bZ
      clear hWZ kZ bZ
      go_region_held3 (fun w' => w'.cell? ⟨xb, 1, none⟩ = some (.pointer (some ⟨tw, 0, none⟩)) ∧ w'.cell? ⟨w.heap.size, 4, none⟩ = some (.int .i64 n)) (go_keep)
        (first
          | (go_at_call 61; refine (rat_tab tw lo R m2 T w2.drew ((fun k => R2.out.keeps k (by simp)) ((Keeps.refl [] w2).drew)) (by omega) n).mono ?_; rintro r w1 ⟨rfl, b1⟩; rw [← hx.out, ← hoe.out]; have k1 := Below.keeps b1 []; have r0 := k1.cell (w := w2.drew) q1 (by simp); have r1 := k1.cell (w := w2.drew) u4 (by simp); have m0 := World.new_ne w1 ⟨xb, 1, none⟩ r0; have m1' := World.new_ne w1 ⟨w.heap.size, 4, none⟩ r1; have K1 := Lib.hid (((Keeps.refl [] w2).drew).trans k1); clear k1 b1; unfold Ent.agg)
          | (go_at_call 61; rw [← DZ.out]; refine (rat_tab tw lo R m2 T WZ.drew ((fun k => R2.out.keeps k (by simp)) (KZ.out.drew)) (by omega) n).mono ?_; rintro r w1 ⟨rfl, b1⟩; rw [← hx.out, ← hoe.out]; have k1 := Below.keeps b1 []; have r0 := k1.cell (w := WZ.drew) (KZ.out.cell q1 (by simp)) (by simp); have r1 := k1.cell (w := WZ.drew) (KZ.out.cell u4 (by simp)) (by simp); have pb := k1.has (has_drew BZ.out) (by simp); have v0 := cell_has pb (i := 0) rfl; have v1 := cell_has pb (i := 1) rfl; have v2 := cell_has pb (i := 2) rfl; have v3 := cell_has pb (i := 3) rfl; have v4 := cell_has pb (i := 4) rfl; have g0 := free_of_has pb 0; have g1 := free_of_has pb 1; have g2 := free_of_has pb 2; have g3 := free_of_has pb 3; have g4 := free_of_has pb 4; have PB := Lib.hid pb; have K1 := Lib.hid (KZ.out.drew.trans k1); clear k1 b1 pb; unfold Ent.agg))
      all_goals go_wp2_with fail
      all_goals go_meet
      · exact ⟨w1.heap.size, rfl, rfl, has_new w1 _, K1.out.alloc _, K1.out.size⟩
      all_goals exact ⟨w2.heap.size, rfl, rfl, ent_store x PB.out, (((((K1.out.setCell (.inl (Nat.le_refl _)) _).setCell (.inl (Nat.le_refl _)) _).setCell (.inl (Nat.le_refl _)) _).setCell (.inl (Nat.le_refl _)) _).setCell (.inl (Nat.le_refl _)) _), Nat.le_refl _⟩
    case rest =>
      obtain ⟨D2, rfl, rfl, hD2, k3, zD2⟩ := hcut
      have b1 := k3.has HD.out (by simp)
      have c0 : wc.cell? ⟨D, 0, none⟩ = some (.bool x.live) := cell_has b1 (i := 0) rfl
      have c1 : wc.cell? ⟨D, 1, none⟩ = some (.int .i64 x.hash) := cell_has b1 (i := 1) rfl
      have c2 : wc.cell? ⟨D, 2, none⟩ = some (.int .i64 x.key) := cell_has b1 (i := 2) rfl
      have c3 : wc.cell? ⟨D, 3, none⟩ = some (.int .i64 x.val) := cell_has b1 (i := 3) rfl
      have c4 : wc.cell? ⟨D, 4, none⟩ = some (.int .i64 x.birth) := cell_has b1 (i := 4) rfl
      have d0 : wc.cell? ⟨D2, 0, none⟩ = some (.bool x.live) := cell_has hD2 (i := 0) rfl
      have d1 : wc.cell? ⟨D2, 1, none⟩ = some (.int .i64 x.hash) := cell_has hD2 (i := 1) rfl
      have d2 : wc.cell? ⟨D2, 2, none⟩ = some (.int .i64 x.key) := cell_has hD2 (i := 2) rfl
      have d3 : wc.cell? ⟨D2, 3, none⟩ = some (.int .i64 x.val) := cell_has hD2 (i := 3) rfl
      have d4 : wc.cell? ⟨D2, 4, none⟩ = some (.int .i64 x.birth) := cell_has hD2 (i := 4) rfl
      have hq := fun w => eql_ent x x w
      simp only [Ent.agg, decide_true] at hq
      have K3 := Lib.hid (K2.out.trans k3)
      clear b1 hD2 k3
      go_wp2_with fail
      go_ret
      exact ⟨by simp, F, c, T, so, HH.out.keeps K3.out (by simp), HI.out.mono (by omega), K3.out.mono (by simp), Grew.refl _ _⟩
end Go.Proofs.Ytajcbghhpjpmhaa
