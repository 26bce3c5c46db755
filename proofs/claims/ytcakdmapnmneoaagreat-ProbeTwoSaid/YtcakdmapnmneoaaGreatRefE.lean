/- The document's machine hits (chapter 8). -/
import Derived.Test.YtcakdmapnmneoaaGreatRefD
namespace Go.Proofs.YtcakdmapnmneoaaGreat
open Go.RowKit
set_option linter.unusedVariables false
set_option linter.unusedSimpArgs false

def entR (x : Ent) : Obj := .cells #[.bool x.live, .int .i64 x.hash, .int .i64 x.key, .int .i64 x.val, .int .i64 x.birth] 78 (0, 0)
theorem entR_laid (W : World) (x : Ent) :
    ((((((W.alloc (.cells #[.bool false, .int .i64 0, .int .i64 0, .int .i64 0, .int .i64 0] 78)).setCell ⟨W.heap.size, 0, none⟩ (.bool x.live)).setCell ⟨W.heap.size, 1, none⟩ (.int .i64 x.hash)).setCell ⟨W.heap.size, 2, none⟩ (.int .i64 x.key)).setCell ⟨W.heap.size, 3, none⟩ (.int .i64 x.val)).setCell ⟨W.heap.size, 4, none⟩ (.int .i64 x.birth)).heap[W.heap.size]? = some (entR x) ∧
    Keeps [] W ((((((W.alloc (.cells #[.bool false, .int .i64 0, .int .i64 0, .int .i64 0, .int .i64 0] 78)).setCell ⟨W.heap.size, 0, none⟩ (.bool x.live)).setCell ⟨W.heap.size, 1, none⟩ (.int .i64 x.hash)).setCell ⟨W.heap.size, 2, none⟩ (.int .i64 x.key)).setCell ⟨W.heap.size, 3, none⟩ (.int .i64 x.val)).setCell ⟨W.heap.size, 4, none⟩ (.int .i64 x.birth)) := by
  have h := has_new W (.cells #[.bool false, .int .i64 0, .int .i64 0, .int .i64 0, .int .i64 0] 78)
  have h0 := has_setCell h 0 (.bool x.live)
  simp only [List.setIfInBounds_toArray, List.set_cons_zero] at h0
  have h1 := has_setCell h0 1 (.int .i64 x.hash)
  simp only [List.setIfInBounds_toArray, List.set_cons_zero, List.set_cons_succ] at h1
  have h2 := has_setCell h1 2 (.int .i64 x.key)
  simp only [List.setIfInBounds_toArray, List.set_cons_zero, List.set_cons_succ] at h2
  have h3 := has_setCell h2 3 (.int .i64 x.val)
  simp only [List.setIfInBounds_toArray, List.set_cons_zero, List.set_cons_succ] at h3
  have h4 := has_setCell h3 4 (.int .i64 x.birth)
  simp only [List.setIfInBounds_toArray, List.set_cons_zero, List.set_cons_succ] at h4
  exact ⟨h4, ((((((Keeps.refl [] W).alloc _).setCell (p := ⟨W.heap.size, 0, none⟩) (.inl (Nat.le_refl _)) _).setCell (p := ⟨W.heap.size, 1, none⟩) (.inl (Nat.le_refl _)) _).setCell (p := ⟨W.heap.size, 2, none⟩) (.inl (Nat.le_refl _)) _).setCell (p := ⟨W.heap.size, 3, none⟩) (.inl (Nat.le_refl _)) _).setCell (p := ⟨W.heap.size, 4, none⟩) (.inl (Nat.le_refl _)) _⟩
def RHitP (rb db t lo : Nat) (S : List Nat) (m : Option Nat) (d : Dic) (q : Mac) (skp : Value) (kept : Nat) (e : Int) (waits same : Bool) (scans : Nat) (y : Ent) (w : World) (r : Ending) (w' : World) : Prop :=
  r = .returned (hitT y e).agg ∧ RDicAt db t lo S m (d.hit q e) w' ∧ w'.heap[rb]? = some (rmO db q.g q.h q.k q.v skp kept e waits same true (hitT y e) scans) ∧ Keeps (rb :: db :: S) w w'
set_option maxRecDepth 100000 in
set_option maxHeartbeats 4000000 in
theorem rhit_any (k0 : Nat) (hk : k0 ≤ 1000) (rb db t lo : Nat) (S : List Nat) (m : Option Nat) (d : Dic) (q : Mac) (skp : Value) (kept : Nat) (e : Int) (waits same over : Bool) (x : Trn) (scans : Nat) (y : Ent) (w : World) (HD : RDicAt db t lo S m d w) (HM : w.heap[rb]? = some (rmO db q.g q.h q.k q.v skp kept e waits same over x scans)) (hrb : rb ∉ S) (hn : rb ≠ db) (hI : TInv k0 d.T) (hv : d.ver ≤ 1000000) (he : d.T.ent e = some y) :
    Calls Tryz.prog 108 #[.pointer (some ⟨rb, 0, none⟩)] w (RHitP rb db t lo S m d q skp kept e waits same scans y w) := by
  have HI := Lib.hid hI
  have HE := Lib.hid he
  have HRB := Lib.hid hrb
  have HN := Lib.hid hn
  have LMD := Lib.hid (And.intro (lt_of_block HM) (lt_of_block HD.b))
  have LS := Lib.hid (show ∀ z, z ∈ S → z < w.heap.size from fun z hz => (HD.foot z (by simp [hz])).2)
  obtain ⟨h0, h1, h2⟩ := ent_some he
  obtain ⟨n, rfl⟩ : ∃ n : Nat, e = (n : Int) := ⟨e.toNat, by omega⟩
  simp only [Int.toNat_natCast] at h1
  obtain ⟨lr, hlr⟩ : ∃ lr, lr = w.heap.size := ⟨_, rfl⟩
  have HLR := Lib.hid hlr
  obtain ⟨WA, hWA⟩ : ∃ WA, w.alloc (.cells #[.int .i64 0, .int .i64 0, .bool false, .int .i64 0, .int .i64 0] 75) = WA := ⟨_, rfl⟩
  have kb : Keeps [] w WA := by rw [← hWA]; exact (Keeps.refl [] w).alloc _
  have KB := Lib.hid kb
  have BT := Lib.hid (show WA.heap[lr]? = some (trnO noTrn) by rw [← hWA, hlr]; exact has_new _ _)
  have HWA := Lib.hid hWA
  have DA := Lib.hid (HD.keeps kb (by simp) (by simp))
  have MA := Lib.hid (kb.has HM (by simp))
  obtain ⟨ta, tc, tq, b1, b2, _, _, _, b6, _⟩ := DA.out.t
  have hlen := (List.getElem?_eq_some_iff.1 h1).1
  obtain ⟨g, rfl⟩ := b2.shape (by omega)
  obtain ⟨e0, e1, e2, e3, e4⟩ := at_cells b2 h1
  obtain ⟨len, hln⟩ := ex_hid d.T.E.length
  rw [← hln.out] at b1 hlen
  have x0 : WA.cell? ⟨t, 0, none⟩ = some (.slice (some ⟨g, 0, none⟩) len tc) := cell_has b1 (i := 0) rfl
  have y2 : WA.cell? ⟨db, 2, none⟩ = some (.pointer (some ⟨t, 0, none⟩)) := cell_has DA.out.b (i := 2) rfl
  obtain ⟨c0, _, _, _, _, _, _, c7, _⟩ := rm_cells MA.out
  have hl1 : (n : Int) < (len : Int) := by omega
  have HV := Lib.hid hv
  clear HD HM hlr hWA kb hI he hrb hn h0 h1 h2 b1 b2 b6 hlen hv
  go_enter Tryz.func108, Tryz.ntmps108
  go_upto_region 1 with (fail)
  rw [HWA.out, ← HLR.out]
  refine wp_regionG (fun w' => w'.cell? ⟨rb, 0, none⟩ = some (.pointer (some ⟨db, 0, none⟩)) ∧ w'.cell? ⟨db, 2, none⟩ = some (.pointer (some ⟨t, 0, none⟩)) ∧ w'.cell? ⟨t, 0, none⟩ = some (.slice (some ⟨g, 0, none⟩) len tc) ∧ w'.cell? ⟨rb, 7, none⟩ = some (.int .i64 n) ∧ w'.cell? ⟨g, n * 5, none⟩ = some (.bool y.live) ∧ w'.cell? ⟨g, n * 5 + 1, none⟩ = some (.int .i64 y.hash) ∧ w'.cell? ⟨g, n * 5 + 2, none⟩ = some (.int .i64 y.key) ∧ w'.cell? ⟨g, n * 5 + 3, none⟩ = some (.int .i64 y.val) ∧ w'.cell? ⟨g, n * 5 + 4, none⟩ = some (.int .i64 y.birth)) 17 (by kernel_rfl) ⟨c0, y2, x0, c7, e0, e1, e2, e3, e4⟩ (fun hF => ?_)
  refine wpAnyG_takeY (i := 0) (v := ?_) rfl (by kernel_rfl) (by decide +kernel) (by decide +kernel) (by decide +kernel) (fun _ _ _ h => h) (by kernel_rfl) ?_ (by assumption) ?_
  rotate_left
  · (intro wz; go_simp; with_reducible rfl)
  try simp only [Act.put, List.setIfInBounds_toArray, List.set_cons_zero, List.set_cons_succ]
  refine wpAnyG_takeY (i := 1) (v := ?_) rfl (by kernel_rfl) (by decide +kernel) (by decide +kernel) (by decide +kernel) (fun _ _ _ h => h) (by kernel_rfl) ?_ (by assumption) ?_
  rotate_left
  · (intro wz; go_simp; with_reducible rfl)
  try simp only [Act.put, List.setIfInBounds_toArray, List.set_cons_zero, List.set_cons_succ]
  refine wpAnyG_takeY (i := 2) (v := ?_) rfl (by kernel_rfl) (by decide +kernel) (by decide +kernel) (by decide +kernel) (fun _ _ _ h => h) (by kernel_rfl) ?_ (by assumption) ?_
  rotate_left
  · (intro wz; go_simp; with_reducible rfl)
  try simp only [Act.put, List.setIfInBounds_toArray, List.set_cons_zero, List.set_cons_succ]
  refine wpAnyG_take (i := 3) (v := ?_) rfl (by kernel_rfl) (by decide +kernel) (by decide +kernel) (by decide +kernel) (by decide +kernel) (by rfl) (fun _ _ _ h => h) (by kernel_rfl) ?_ (by assumption) ?_
  rotate_left
  · (intro wz hSw; (try dsimp only at hSw); go_simp; with_reducible rfl)
  try simp only [Act.put, List.setIfInBounds_toArray, List.set_cons_zero, List.set_cons_succ]
  refine wpAnyG_takeY (i := 4) (v := ?_) rfl (by kernel_rfl) (by decide +kernel) (by decide +kernel) (by decide +kernel) (fun _ _ _ h => h) (by kernel_rfl) ?_ (by assumption) ?_
  rotate_left
  · (intro wz; go_simp; with_reducible rfl)
  try simp only [Act.put, List.setIfInBounds_toArray, List.set_cons_zero, List.set_cons_succ]
  refine wpAnyG_takeY (i := 5) (v := ?_) rfl (by kernel_rfl) (by decide +kernel) (by decide +kernel) (by decide +kernel) (fun _ _ _ h => h) (by kernel_rfl) ?_ (by assumption) ?_
  rotate_left
  · (intro wz; go_simp; with_reducible rfl)
  try simp only [Act.put, List.setIfInBounds_toArray, List.set_cons_zero, List.set_cons_succ]
  refine wpAnyG_take (i := 6) (v := ?_) rfl (by kernel_rfl) (by decide +kernel) (by decide +kernel) (by decide +kernel) (by decide +kernel) (by rfl) (fun _ _ _ h => h) (by kernel_rfl) ?_ (by assumption) ?_
  rotate_left
  · (intro wz hSw; (try dsimp only at hSw); go_simp; with_reducible rfl)
  try simp only [Act.put, List.setIfInBounds_toArray, List.set_cons_zero, List.set_cons_succ]
  refine wpAnyG_takeY (i := 7) (v := ?_) rfl (by kernel_rfl) (by decide +kernel) (by decide +kernel) (by decide +kernel) (fun _ _ _ h => h) (by kernel_rfl) ?_ (by assumption) ?_
  rotate_left
  · (intro wz; go_simp; with_reducible rfl)
  try simp only [Act.put, List.setIfInBounds_toArray, List.set_cons_zero, List.set_cons_succ]
  refine wpAnyG_takeY (i := 8) (v := ?_) rfl (by kernel_rfl) (by decide +kernel) (by decide +kernel) (by decide +kernel) (fun _ _ _ h => h) (by kernel_rfl) ?_ (by assumption) ?_
  rotate_left
  · (intro wz; go_simp; with_reducible rfl)
  try simp only [Act.put, List.setIfInBounds_toArray, List.set_cons_zero, List.set_cons_succ]
  refine wpAnyG_take (i := 9) (v := ?_) rfl (by kernel_rfl) (by decide +kernel) (by decide +kernel) (by decide +kernel) (by decide +kernel) (by rfl) (fun _ _ _ h => h) (by kernel_rfl) ?_ (by assumption) ?_
  rotate_left
  · (intro wz hSw; (try dsimp only at hSw); go_simp; with_reducible rfl)
  try simp only [Act.put, List.setIfInBounds_toArray, List.set_cons_zero, List.set_cons_succ]
  refine wpAnyG_takeY (i := 10) (v := ?_) rfl (by kernel_rfl) (by decide +kernel) (by decide +kernel) (by decide +kernel) (fun _ _ _ h => h) (by kernel_rfl) ?_ (by assumption) ?_
  rotate_left
  · (intro wz; go_simp; with_reducible rfl)
  try simp only [Act.put, List.setIfInBounds_toArray, List.set_cons_zero, List.set_cons_succ]
  refine wpAnyG_takeY (i := 11) (v := ?_) rfl (by kernel_rfl) (by decide +kernel) (by decide +kernel) (by decide +kernel) (fun _ _ _ h => h) (by kernel_rfl) ?_ (by assumption) ?_
  rotate_left
  · (intro wz; go_simp; with_reducible rfl)
  try simp only [Act.put, List.setIfInBounds_toArray, List.set_cons_zero, List.set_cons_succ]
  refine wpAnyG_takeY (i := 12) (v := ?_) rfl (by kernel_rfl) (by decide +kernel) (by decide +kernel) (by decide +kernel) (fun _ _ _ h => h) (by kernel_rfl) ?_ (by assumption) ?_
  rotate_left
  · (intro wz; go_simp; with_reducible rfl)
  try simp only [Act.put, List.setIfInBounds_toArray, List.set_cons_zero, List.set_cons_succ]
  refine wpAnyG_take (i := 13) (v := ?_) rfl (by kernel_rfl) (by decide +kernel) (by decide +kernel) (by decide +kernel) (by decide +kernel) (by rfl) (fun _ _ _ h => h) (by kernel_rfl) ?_ (by assumption) ?_
  rotate_left
  · (intro wz hSw; (try dsimp only at hSw); go_simp; with_reducible rfl)
  try simp only [Act.put, List.setIfInBounds_toArray, List.set_cons_zero, List.set_cons_succ]
  refine wpAnyG_takeY (i := 14) (v := ?_) rfl (by kernel_rfl) (by decide +kernel) (by decide +kernel) (by decide +kernel) (fun _ _ _ h => h) (by kernel_rfl) ?_ (by assumption) ?_
  rotate_left
  · (intro wz; go_simp; with_reducible rfl)
  try simp only [Act.put, List.setIfInBounds_toArray, List.set_cons_zero, List.set_cons_succ]
  refine wpAnyG_take (i := 15) (v := ?_) rfl (by kernel_rfl) (by decide +kernel) (by decide +kernel) (by decide +kernel) (by decide +kernel) (by rfl) (fun _ _ _ h => h) (by kernel_rfl) ?_ (by assumption) ?_
  rotate_left
  · (intro wz hSw; (try dsimp only at hSw); go_simp; with_reducible rfl)
  try simp only [Act.put, List.setIfInBounds_toArray, List.set_cons_zero, List.set_cons_succ]
  refine wpAnyG_one (i := 16) rfl (by kernel_rfl) (by kernel_rfl) (fun K hK => ?_)
  have HK := Lib.hid hK
  clear hK
  go_simp
  refine HK.out _ _ ⟨cell_alloc hF.1 _, cell_alloc hF.2.1 _, cell_alloc hF.2.2.1 _, cell_alloc hF.2.2.2.1 _, cell_alloc hF.2.2.2.2.1 _, cell_alloc hF.2.2.2.2.2.1 _, cell_alloc hF.2.2.2.2.2.2.1 _, cell_alloc hF.2.2.2.2.2.2.2.1 _, cell_alloc hF.2.2.2.2.2.2.2.2 _⟩ ?_
  clear HK K hF
  try simp only [Act.put, List.setIfInBounds_toArray, List.set_cons_zero, List.set_cons_succ]
  refine wpAnyG_last rfl (by kernel_rfl) (by rfl) (by rfl) (fun K hK => ?_)
  have HK := Lib.hid hK
  clear hK
  go_simp
  refine HK.out _ _ ?_
  clear HK K
  refine wpAnyG_done (by kernel_rfl) ?_ _
  go_simp
  go_upto_region 2 with (fail)
  obtain ⟨lx, hlx⟩ := ex_hid WA.heap.size
  rw [← hlx.out]
  refine wp_gen (fun V => V.heap[lx]? = some (entR y) ∧ Keeps [] WA V) ⟨by rw [hlx.out]; exact has_drew (has_new _ _), ((Keeps.refl [] WA).alloc _).drew⟩ ?_
  rintro W1 ⟨bx, k1⟩
  have BX := Lib.hid bx
  have K1 := Lib.hid k1
  have D1 := Lib.hid (DA.out.keeps k1 (by simp) (by simp))
  have M1 := Lib.hid (k1.has MA.out (by simp))
  have NW := Lib.hid (show w.heap.size < lx ∧ lr = w.heap.size by rw [hlx.out, ← HWA.out, HLR.out]; simp)
  have DK := Lib.hid (show rb ∉ db :: S from fun h => by
    simp only [List.mem_cons] at h
    rcases h with h | h
    · exact HN.out h
    · exact HRB.out h)
  have EKL := Lib.hid (show d.T.E.length ≤ 1000000 by have := HI.out.ek; omega)
  obtain ⟨gg, hgg⟩ := ex_hid q.g
  clear bx k1 c0 y2 x0 c7 e0 e1 e2 e3 e4
  obtain ⟨c0, c1, _, _, c4, _, _, c7, _⟩ := rm_cells M1.out
  have y2 : W1.cell? ⟨db, 2, none⟩ = some (.pointer (some ⟨t, 0, none⟩)) := cell_has D1.out.b (i := 2) rfl
  rw [← hgg.out] at c1
  go_upto_if 24 with (fail)
  go_cut [] from 24 to 50 (fun wx => RDicAt db t lo S m (if q.g = 2 then { d with T := d.T.put n q.v, ver := d.ver + 1 } else d) wx ∧ Keeps (db :: S) W1 wx)
  case first =>
    by_cases hg : gg = 2
    · have e : ((gg : Int) == 2) = true := by simp; omega
      have HG := Lib.hid (show q.g = 2 by rw [← hgg.out]; exact hg)
      clear hg
      go_upto_region 3 with (fail)
      go_region_held3 (fun w' => w'.cell? ⟨rb, 0, none⟩ = some (.pointer (some ⟨db, 0, none⟩)) ∧ w'.cell? ⟨db, 2, none⟩ = some (.pointer (some ⟨t, 0, none⟩)) ∧ w'.cell? ⟨rb, 7, none⟩ = some (.int .i64 n) ∧ w'.cell? ⟨rb, 4, none⟩ = some (.int .i64 q.v)) (go_keep)
        (first
          | (go_at_call 130; refine (rput_any t lo S m d.T W1.drew (D1.out.t.keeps (Keeps.refl [] W1).drew (by simp)) EKL.out n q.v).mono ?_; rintro r w2 ⟨rfl, p2, k2⟩; have j0 := k2.cell (w := W1.drew) c0 HRB.out; have j2 := k2.cell (w := W1.drew) y2 D1.out.n; have j7 := k2.cell (w := W1.drew) c7 HRB.out; have j4 := k2.cell (w := W1.drew) c4 HRB.out))
      have b2 := k2.has (w := W1.drew) D1.out.b D1.out.n
      have z1 : w2.cell? ⟨db, 1, none⟩ = some (.int .i64 d.ver) := cell_has b2 (i := 1) rfl
      have zf := free_of_has b2 1
      have B2 := Lib.hid b2
      have K2 := Lib.hid (show Keeps S W1 w2 from (Keeps.refl S W1).drew.trans k2)
      have P2 := Lib.hid p2
      have hv0 : (d.ver : Int) ≤ 1000000 := by have := HV.out; omega
      have hv1 : (0 : Int) ≤ (d.ver : Int) := by omega
      obtain ⟨vr, hvr⟩ := ex_hid d.ver
      rw [← hvr.out] at z1 hv0 hv1
      clear p2 k2 b2 j7 j4
      go_wp2_with fail
      go_meet
      have R := rd_ver B2.out
      rw [if_pos HG.out]
      rw [show ((d.ver + 1 : Nat) : Int) = (vr : Int) + 1 by rw [hvr.out]; omega] at R
      exact ⟨⟨by show _ = some (rdicO t d.most (d.ver + 1)); exact R.1, P2.out.keeps R.2 (fun z hz h => by simp at h; subst h; exact D1.out.n hz), D1.out.n, D1.out.l⟩, (K2.out.mono (by simp; exact fun z hz => .inr hz) : Keeps (db :: S) W1 w2).trans (R.2.mono (by simp))⟩
    · have e : ((gg : Int) == 2) = false := by simp; omega
      have HG := Lib.hid (show ¬ q.g = 2 by rw [← hgg.out]; exact hg)
      clear hg
      go_wp2_with fail
      go_meet
      exact ⟨by rw [if_neg HG.out]; exact D1.out, Keeps.refl _ _⟩
  case rest =>
    obtain ⟨d2, k2⟩ := hcut
    obtain ⟨W2, hW2⟩ : ∃ x, x = wc := ⟨_, rfl⟩
    subst hW2
    have M2 := Lib.hid (k2.has M1.out DK.out)
    have X2 := Lib.hid (k2.has BX.out (fun h => by
      simp only [List.mem_cons] at h
      have := NW.out; have := LMD.out
      rcases h with h | h
      · omega
      · have := LS.out _ h; omega))
    have D2 := Lib.hid d2
    have K2 := Lib.hid k2
    clear d2 k2 c0 c1 c4 c7 y2
    obtain ⟨c0, c1, _, _, _, _, _, c7, _⟩ := rm_cells M2.out
    have y2 : W2.cell? ⟨db, 2, none⟩ = some (.pointer (some ⟨t, 0, none⟩)) := by
      have h := D2.out.b
      exact cell_has (c := #[.int .i64 _, .int .i64 _, .pointer (some ⟨t, 0, none⟩)]) h (i := 2) rfl
    rw [← hgg.out] at c1
    go_upto_if 55 with (fail)
    go_cut [] from 55 to 77 (fun wx => RDicAt db t lo S m (d.hit q n) wx ∧ Keeps (db :: S) W1 wx)
    case first =>
      by_cases hg : gg = 3
      · have e : ((gg : Int) == 3) = true := by simp; omega
        have HG := Lib.hid (show q.g = 3 by rw [← hgg.out]; exact hg)
        have D2' := Lib.hid (show RDicAt db t lo S m d W2 by have h := D2.out; rw [if_neg (by rw [HG.out]; omega)] at h; exact h)
        clear hg
        go_upto_region 6 with (fail)
        go_region_held3 (fun w' => w'.cell? ⟨rb, 0, none⟩ = some (.pointer (some ⟨db, 0, none⟩)) ∧ w'.cell? ⟨db, 2, none⟩ = some (.pointer (some ⟨t, 0, none⟩)) ∧ w'.cell? ⟨rb, 7, none⟩ = some (.int .i64 n)) (go_keep)
          (first
            | (go_at_call 113; refine (rkill_any k0 hk t lo S m d.T W2.drew (D2'.out.t.keeps (Keeps.refl [] W2).drew (by simp)) HI.out n).mono ?_; rintro r w2 ⟨rfl, p2, k2⟩; have j0 := k2.cell (w := W2.drew) c0 HRB.out; have j2 := k2.cell (w := W2.drew) y2 D1.out.n; have j7 := k2.cell (w := W2.drew) c7 HRB.out))
        have b2 := k2.has (w := W2.drew) D2'.out.b D1.out.n
        have z1 : w2.cell? ⟨db, 1, none⟩ = some (.int .i64 d.ver) := cell_has b2 (i := 1) rfl
        have zf := free_of_has b2 1
        have B2 := Lib.hid b2
        have K3 := Lib.hid (show Keeps S W2 w2 from (Keeps.refl S W2).drew.trans k2)
        have P2 := Lib.hid p2
        have hv0 : (d.ver : Int) ≤ 1000000 := by have := HV.out; omega
        have hv1 : (0 : Int) ≤ (d.ver : Int) := by omega
        obtain ⟨vr, hvr⟩ := ex_hid d.ver
        rw [← hvr.out] at z1 hv0 hv1
        clear p2 k2 b2 j7
        go_wp2_with fail
        go_meet
        have R := rd_ver B2.out
        rw [show ((d.ver + 1 : Nat) : Int) = (vr : Int) + 1 by rw [hvr.out]; omega] at R
        have eh : d.hit q n = { d with T := d.T.kill n, ver := d.ver + 1 } := by unfold Dic.hit; rw [if_neg (by rw [HG.out]; omega), if_pos HG.out]
        rw [eh]
        exact ⟨⟨R.1, P2.out.keeps R.2 (fun z hz h => by simp at h; subst h; exact D1.out.n hz), D1.out.n, D1.out.l⟩, (K2.out.trans (K3.out.mono (fun z hz => by simp [hz]))).trans (R.2.mono (by simp))⟩
      · have e : ((gg : Int) == 3) = false := by simp; omega
        have HG := Lib.hid (show ¬ q.g = 3 by rw [← hgg.out]; exact hg)
        clear hg
        go_wp2_with fail
        go_meet
        refine ⟨?_, K2.out⟩
        have h := D2.out
        unfold Dic.hit
        by_cases h2 : q.g = 2
        · rw [if_pos h2] at h ⊢; exact h
        · rw [if_neg h2] at h ⊢; rw [if_neg HG.out]; exact h
    case rest =>
      obtain ⟨d3, k3⟩ := hcut
      obtain ⟨W3, hW3⟩ : ∃ x, x = wc := ⟨_, rfl⟩
      subst hW3
      have M3 := Lib.hid (k3.has M1.out DK.out)
      have far : ∀ z, w.heap.size ≤ z → z ∉ db :: S := fun z hz h => by
        simp only [List.mem_cons] at h
        have := LMD.out
        rcases h with h | h
        · omega
        · have := LS.out _ h; omega
      have X3 := Lib.hid (k3.has BX.out (far lx (by have := NW.out; omega)))
      have R3 := Lib.hid (k3.has (K1.out.has BT.out (by simp)) (far lr (by have := NW.out; omega)))
      have D3 := Lib.hid d3
      have K3 := Lib.hid k3
      have v3 : W3.cell? ⟨lx, 3, none⟩ = some (.int .i64 y.val) := cell_has X3.out (i := 3) rfl
      have a7 : W3.cell? ⟨rb, 7, none⟩ = some (.int .i64 n) := cell_has M3.out (i := 7) rfl
      have NR := Lib.hid (show lx ≠ rb ∧ lr ≠ rb from by have := NW.out; have := LMD.out; omega)
      clear d3 k3 far c0 c1 c7 y2
      go_upto_region 8 with (fail)
      refine wp_regionG (fun w' => w'.cell? ⟨lx, 3, none⟩ = some (.int .i64 y.val) ∧ w'.cell? ⟨rb, 7, none⟩ = some (.int .i64 n)) 9 (by kernel_rfl) ⟨v3, a7⟩ (fun hF => ?_)
      refine wpAnyG_takeY (i := 0) (v := ?_) rfl (by kernel_rfl) (by decide +kernel) (by decide +kernel) (by decide +kernel) (fun _ _ _ h => h) (by kernel_rfl) ?_ (by assumption) ?_
      rotate_left
      · (intro wz; go_simp; with_reducible rfl)
      try simp only [Act.put, List.setIfInBounds_toArray, List.set_cons_zero, List.set_cons_succ]
      refine wpAnyG_takeY (i := 1) (v := ?_) rfl (by kernel_rfl) (by decide +kernel) (by decide +kernel) (by decide +kernel) (fun _ _ _ h => h) (by kernel_rfl) ?_ (by assumption) ?_
      rotate_left
      · (intro wz; go_simp; with_reducible rfl)
      try simp only [Act.put, List.setIfInBounds_toArray, List.set_cons_zero, List.set_cons_succ]
      refine wpAnyG_take (i := 2) (v := ?_) rfl (by kernel_rfl) (by decide +kernel) (by decide +kernel) (by decide +kernel) (by decide +kernel) (by rfl) (fun _ _ _ h => h) (by kernel_rfl) ?_ (by assumption) ?_
      rotate_left
      · (intro wz hSw; (try dsimp only at hSw); go_simp; with_reducible rfl)
      try simp only [Act.put, List.setIfInBounds_toArray, List.set_cons_zero, List.set_cons_succ]
      refine wpAnyG_takeY (i := 3) (v := ?_) rfl (by kernel_rfl) (by decide +kernel) (by decide +kernel) (by decide +kernel) (fun _ _ _ h => h) (by kernel_rfl) ?_ (by assumption) ?_
      rotate_left
      · (intro wz; go_simp; with_reducible rfl)
      try simp only [Act.put, List.setIfInBounds_toArray, List.set_cons_zero, List.set_cons_succ]
      refine wpAnyG_takeY (i := 4) (v := ?_) rfl (by kernel_rfl) (by decide +kernel) (by decide +kernel) (by decide +kernel) (fun _ _ _ h => h) (by kernel_rfl) ?_ (by assumption) ?_
      rotate_left
      · (intro wz; go_simp; with_reducible rfl)
      try simp only [Act.put, List.setIfInBounds_toArray, List.set_cons_zero, List.set_cons_succ]
      refine wpAnyG_takeY (i := 5) (v := ?_) rfl (by kernel_rfl) (by decide +kernel) (by decide +kernel) (by decide +kernel) (fun _ _ _ h => h) (by kernel_rfl) ?_ (by assumption) ?_
      rotate_left
      · (intro wz; go_simp; with_reducible rfl)
      try simp only [Act.put, List.setIfInBounds_toArray, List.set_cons_zero, List.set_cons_succ]
      refine wpAnyG_take (i := 6) (v := ?_) rfl (by kernel_rfl) (by decide +kernel) (by decide +kernel) (by decide +kernel) (by decide +kernel) (by rfl) (fun _ _ _ h => h) (by kernel_rfl) ?_ (by assumption) ?_
      rotate_left
      · (intro wz hSw; (try dsimp only at hSw); go_simp; with_reducible rfl)
      try simp only [Act.put, List.setIfInBounds_toArray, List.set_cons_zero, List.set_cons_succ]
      refine wpAnyG_takeY (i := 7) (v := ?_) rfl (by kernel_rfl) (by decide +kernel) (by decide +kernel) (by decide +kernel) (fun _ _ _ h => h) (by kernel_rfl) ?_ (by assumption) ?_
      rotate_left
      · (intro wz; go_simp; with_reducible rfl)
      try simp only [Act.put, List.setIfInBounds_toArray, List.set_cons_zero, List.set_cons_succ]
      refine wpAnyG_one (i := 8) rfl (by kernel_rfl) (by kernel_rfl) (fun K hK => ?_)
      have HK := Lib.hid hK
      clear hK
      go_simp
      have RE := rends_any (db := db) (g := q.g) (h := q.h) (k := q.k) (v := q.v) (skp := skp) (kept := kept) (at_ := n) (waits := waits) (same := same) (over := over) (x := x) (scans := scans) (hitT y n) W3.drew M3.out
      unfold Trn.agg hitT at RE
      refine RE.mono ?_
      rintro r w4 ⟨rfl, m4, k4⟩
      have n3 := k4.cell (w := W3.drew) v3 (by simp; exact NR.out.1)
      have n7 : w4.cell? ⟨rb, 7, none⟩ = some (.int .i64 n) := cell_has m4 (i := 7) rfl
      have r4 := k4.has (w := W3.drew) R3.out (by simp; exact NR.out.2)
      obtain ⟨s0, s1, s2, s3, s4⟩ := trn_cells r4
      obtain ⟨u0, u1, u2, u3, u4⟩ := trn_free r4
      have R4 := Lib.hid r4
      have M4 := Lib.hid m4
      have K4 := Lib.hid (show Keeps [rb] W3 w4 from (Keeps.refl [rb] W3).drew.trans k4)
      refine HK.out _ _ ⟨n3, n7⟩ ?_
      clear HK K hF RE m4 k4 r4 n3 n7
      try simp only [Act.put, List.setIfInBounds_toArray, List.set_cons_zero, List.set_cons_succ]
      refine wpAnyG_last rfl (by kernel_rfl) (by rfl) (by rfl) (fun K hK => ?_)
      have HK := Lib.hid hK
      clear hK
      go_simp
      refine HK.out _ _ ?_
      clear HK K
      refine wpAnyG_done (by kernel_rfl) ?_ _
      go_simp
      go_wp2_with fail
      obtain ⟨v1, v2⟩ := trn_store noTrn (hitT y n) R4.out
      unfold hitT at v1 v2
      have rc := cell_of_has v1
      simp only at rc v1 v2
      have k9 : Keeps (rb :: db :: S) w _ := (((((KB.out.trans K1.out).mono (by simp) : Keeps (rb :: db :: S) w W1).trans (K3.out.mono (fun z hz => by simp at hz ⊢; exact .inr hz))).trans (K4.out.mono (by simp))).then v2 (fun z hz => by simp at hz; have := NW.out; left; omega))
      refine bodyPost_ret (v := (hitT y n).agg) (by simp [results, Tryz.results108, go_sem, Trn.agg, hitT, rc]) rfl ⟨rfl, (D3.out.keeps K4.out (by simp; exact HN.out.symm) (fun z hz h => by simp at h; subst h; exact HRB.out hz)).keeps v2 ?_ ?_, v2.has M4.out (by simp; exact NR.out.2.symm), k9⟩
      · have := NW.out; have := LMD.out; simp; omega
      · intro z hz h; simp at h; have := LS.out z hz; have := NW.out; omega
end Go.Proofs.YtcakdmapnmneoaaGreat
