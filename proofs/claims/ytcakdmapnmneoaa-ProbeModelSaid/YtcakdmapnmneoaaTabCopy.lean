/- Copy (chapter 7). -/
import Derived.Test.YtcakdmapnmneoaaB6
import Derived.Test.YtcakdmapnmneoaaB1
import Derived.Test.YtcakdmapnmneoaaB4
namespace Go.Proofs.Ytcakdmapnmneoaa
open Go.RowKit Go.Shelf
set_option linter.unusedVariables false
set_option linter.unusedSimpArgs false
attribute [local go_sem] Oper.semAt_some

theorem renum_get {E : List Ent} {k : Nat} {x : Ent} (h : E[k]? = some x) : (renum E)[k]? = some { x with birth := (k : Int) } := by
  have hk := (List.getElem?_eq_some_iff.1 h).1
  have hx := (List.getElem?_eq_some_iff.1 h).2
  simp [renum, hk, List.getD, ← hx]
theorem renum_take {E : List Ent} {k : Nat} {x : Ent} (h : E[k]? = some x) : (renum E).take (k + 1) = (renum E).take k ++ [{ x with birth := (k : Int) }] := by
  rw [List.take_add_one, renum_get h]; rfl
theorem renum_liveN (E : List Ent) : liveN (renum (liveL E)) = liveN E := by
  have h : liveN (renum (liveL E)) = (renum (liveL E)).length := by
    unfold liveN
    rw [List.countP_eq_length]
    exact fun x hx => renum_live (liveL_live _) x hx
  rw [h, renum_len, liveL_len]
/-- In the midst of the copying. -/
def CopI (cT D : Nat) (m : Option Nat) (E : List Ent) (w1 : World) (i : Nat) (a : Option Addr) (c : Nat) (W : World) : Prop :=
  W.heap[cT]? = some (tabO (mV m) (.slice a i c) (.pointer none) (.int .i64 0) (.int .i64 i) (.int .i64 0) (.int .i64 0)) ∧ EntRow (D + 2) a c ((renum (liveL E)).take i) W ∧ Keeps [cT] w1 W
theorem CopI.keeps {cT D : Nat} {m : Option Nat} {E : List Ent} {w1 : World} {i : Nat} {a : Option Addr} {c : Nat} {A B : World} (h : CopI cT D m E w1 i a c A) (hc : cT < D) (hD : w1.heap.size = D) (k : Keeps [D, D + 1] A B) : CopI cT D m E w1 i a c B :=
  ⟨k.has h.1 (by simp; omega), h.2.1.keeps k (fun x hx => by have := (h.2.1.blk_lt x hx).1; simp; omega), h.2.2.then k (by intro y hy; simp at hy; left; omega)⟩
theorem enters_copyf : EntersF Try.prog 89 := entersF_of Try.func89 (by kernel_rfl) (by kernel_rfl)
theorem copyL_def (n : Nat) : copyL n = leastL fun l => decide (n ≤ 2 * 2 ^ l / 3) := by unfold copyL; rfl
def CopyP (m : Option Nat) (c : C4) (T : Tab) (w : World) (r : Ending) (w' : World) : Prop :=
  ∃ t2 S2, r = .returned (.pointer (some ⟨t2, 0, none⟩)) ∧ TabAt t2 w.heap.size S2 (mV m) T.copy w' ∧ MtrAt m c.tab w' ∧ Keeps (mS m) w w'
set_option maxRecDepth 100000 in
set_option maxHeartbeats 4000000 in
theorem copy_gen (t lo : Nat) (a0 : Option Addr) (c0 : Nat) (m : Option Nat) (c4 : C4) (T : Tab) (w : World) (e0 : w.cell? ⟨t, 0, none⟩ = some (mV m)) (e1 : w.cell? ⟨t, 1, none⟩ = some (.slice a0 T.E.length c0)) (e3 : w.cell? ⟨t, 3, none⟩ = some (.int .i64 (liveN T.E : Nat))) (h2 : EntRow lo a0 c0 T.E w) (hM : MtrAt m c4 w) (hek : T.E.length ≤ 1000) :
    Calls Try.prog 63 #[.pointer (some ⟨t, 0, none⟩)] w (CopyP m c4 T w) := by
  have HM := Lib.hid hM
  have hsub : ∀ b, m = some b → b < w.heap.size := fun b hb => lt_of_block (hM b hb)
  have HSB := Lib.hid hsub
  have EK := Lib.hid hek
  have HH := Lib.hid (And.intro e1 (And.intro e3 h2))
  obtain ⟨p, hp⟩ : ∃ p : Option Addr, Hid (mV m = .pointer p) := ⟨_, Lib.hid rfl⟩
  rw [hp.out] at e0
  clear hM e1 e3 h2 hek hsub
  refine calls_of_wp_ranges Try.func63 rfl ?_
  simp only [Try.ntmps63, List.size_toArray, List.length_cons, List.length_nil, Nat.reduceAdd, Nat.reduceSub, Array.replicate_succ, Array.replicate_zero, List.push_toArray, List.append_toArray, List.nil_append, List.cons_append]
  go_wp2_with fail
  refine (all_gen t lo a0 c0 T.E _ (cell_alloc (cell_alloc HH.out.1 _) _) (cell_alloc (cell_alloc HH.out.2.1 _) _) (HH.out.2.2.keeps (((Keeps.refl [] w).alloc _).alloc _) (by simp)) (by have := EK.out; omega)).mono ?_
  rintro r w1 ⟨b, ra, rc, rfl, rb, rr, rz, rk⟩
  have KA := ((Keeps.refl [] w).alloc (.cells #[.pointer p, .slice none 0 0, .pointer none, .int .i64 0, .int .i64 0, .int .i64 0, .int .i64 0] 119)).alloc (.cells #[.pointer (some ⟨w.heap.size, 0, none⟩)] 77)
  have K1 := Lib.hid (KA.trans rk)
  have cT := rk.has (has_alloc (has_new w (.cells #[.pointer p, .slice none 0 0, .pointer none, .int .i64 0, .int .i64 0, .int .i64 0, .int .i64 0] 119)) (.cells #[.pointer (some ⟨w.heap.size, 0, none⟩)] 77)) (by simp)
  have bT := rk.has (has_new' (w.alloc (.cells #[.pointer p, .slice none 0 0, .pointer none, .int .i64 0, .int .i64 0, .int .i64 0, .int .i64 0] 119)) (.cells #[.pointer (some ⟨w.heap.size, 0, none⟩)] 77) (b := w.heap.size + 1) (by simp)) (by simp)
  have CT := Lib.hid cT
  have BT := Lib.hid bT
  have RB := Lib.hid rb
  have RR := Lib.hid rr
  simp only [World.size_alloc] at rz
  have zs := Lib.hid (show w.heap.size + 2 ≤ b ∧ b < w1.heap.size from ⟨by omega, lt_of_block rb⟩)
  clear rb rr rz rk KA cT bT e0
  go_wp2_with fail
  obtain ⟨n, hn⟩ := ex_hid (liveN T.E)
  have hlen : (numL T.E 0).length = n := by rw [numL_len, hn.out]
  have HLN := Lib.hid hlen
  have hn1 : n ≤ 1000 := by have := liveN_le T.E; have := EK.out; rw [hn.out]; omega
  have PV : Hid (NuPriv b (w.heap.size + 2) ra rc (numL T.E 0) w1) := Lib.hid ⟨by have h := RB.out; rw [← hn.out, ← hlen] at h; exact h, by have h := RR.out; simp only [World.size_alloc] at h; exact h⟩
  rw [show Obj.cells #[.pointer p, .slice none 0 0, .pointer none, .int .i64 0, .int .i64 0, .int .i64 0, .int .i64 0] 119 = tabO (mV m) (.slice none 0 0) (.pointer none) (.int .i64 0) (.int .i64 0) (.int .i64 0) (.int .i64 0) by rw [hp.out]; rfl] at CT
  have nb : ∀ x, x ∈ blk ra → w.heap.size + 2 ≤ x ∧ x < w1.heap.size := PV.out.2.blk_lt
  have NB := Lib.hid nb
  have ZB := zs.out
  have HR : ∀ W : World, Keeps [w.heap.size] w1 W → NuPriv b (w.heap.size + 2) ra rc (numL T.E 0) W := fun W k => PV.out.keeps k (by simp; omega) (fun x hx => by have := nb x hx; simp; omega)
  have HRH := Lib.hid HR
  clear hlen RB RR nb HR
  refine wp_rangeN (gf := 82) (lb := #[.pointer (some ⟨b, 0, none⟩)]) rfl enters_tall (nuIter b (w.heap.size + 2) ra rc (numL T.E 0) (by rw [HLN.out]; omega)) (fun _ => rfl)
    (fun i W => ∃ a c, CopI w.heap.size w1.heap.size m T.E w1 i a c W) (fun _ _ _ => False)
    (fun i A B h k => by
      obtain ⟨a, c, q⟩ := h
      exact ⟨a, c, q.keeps (by omega) rfl k⟩)
    (fun _ _ _ _ h _ => h) ?priv ⟨none, 0, CT.out, EntRow.nil _ _, Keeps.refl _ _⟩ ?round ?done ?stop
  case priv =>
    intro i A h
    obtain ⟨a, c, q1, q2, q3⟩ := h
    exact HRH.out A q3
  case stop => intro c i W _ h; exact h.elim
  case round =>
    intro l i W K hi hW hsz hK
    have hi2 : i < n := by rw [← HLN.out]; exact hi
    obtain ⟨⟨y0, y⟩, hy⟩ : ∃ q, Hid ((numL T.E 0).getD i (0, noE) = q) := ⟨_, Lib.hid rfl⟩
    have hyg : (liveL T.E)[i]? = some y := by have := numL_get (nuget hi); rw [hy.out] at this; exact this
    have HY := Lib.hid hyg
    simp only [encN, hy.out, Ent.agg]
    clear hy hyg
    gi_wp2
    obtain ⟨a1, c1, hq⟩ := hW
    refine hK _ _ (fun W' => W'.heap[W.heap.size]? = some (.cells #[.bool y.live, .int .i64 y.hash, .int .i64 y.key, .int .i64 y.val, .int .i64 y.birth] 36 (0, 0)) ∧ CopI w.heap.size w1.heap.size m T.E w1 i a1 c1 W' ∧ W.heap.size ∉ blk a1) (fun A B h k => ⟨k.has h.1 (by simp; omega), h.2.1.keeps (by omega) rfl k, h.2.2⟩) ⟨has_new _ _, ⟨has_alloc hq.1 _, hq.2.1.keeps ((Keeps.refl [] W).alloc _) (by simp), hq.2.2.alloc _⟩, fun hx => by have := (hq.2.1.blk_lt _ hx).2; omega⟩ ((Keeps.refl [] W).alloc _) ?_
    clear hK hq
    obtain ⟨B, hB⟩ := ex_hid W.heap.size
    have zB : w1.heap.size + 1 < B := by rw [hB.out]; exact hsz
    rw [← hB.out]
    clear hB hsz
    intro W _ hbx hsz
    obtain ⟨hbx, ⟨q1, q2, q3⟩, zb⟩ := hbx
    have x0 : W.cell? ⟨w.heap.size + 1, 0, none⟩ = some (.pointer (some ⟨w.heap.size, 0, none⟩)) := q3.cell (cell_has BT.out (i := 0) rfl) (by simp)
    have e4 : W.cell? ⟨w.heap.size, 4, none⟩ = some (.int .i64 i) := cell_has q1 (i := 4) rfl
    have f4 : W.frozen? ⟨w.heap.size, 4, none⟩ = false := free_of_has q1 4
    have u4 : W.cell? ⟨B, 4, none⟩ = some (.int .i64 y.birth) := cell_has hbx (i := 4) rfl
    have v4 : W.frozen? ⟨B, 4, none⟩ = false := free_of_has hbx 4
    have Q1 := Lib.hid q1
    have Q2 := Lib.hid q2
    have Q3 := Lib.hid q3
    have BX := Lib.hid hbx
    have nB1 : ¬ B = w.heap.size := by omega
    have nB2 : ¬ w.heap.size = B := by omega
    have nB3 : ¬ B = w.heap.size + 1 := by omega
    have nB4 : ¬ w.heap.size + 1 = B := by omega
    clear q1 q2 q3 hbx
    gi_wp2
    refine wpIn_gen (fun W3 => W3.heap[w.heap.size]? = some (tabO (mV m) (.slice a1 i c1) (.pointer none) (.int .i64 0) (.int .i64 ((i : Int) + 1)) (.int .i64 0) (.int .i64 0)) ∧ W3.heap[B]? = some (.cells #[.bool y.live, .int .i64 y.hash, .int .i64 y.key, .int .i64 y.val, .int .i64 i] 36 (0, 0)) ∧ Keeps [w.heap.size, B] W W3) ⟨?_, ?_, ?_⟩ ?_
    · have h := has_setCell (has_setCell_other Q1.out (p := ⟨B, 4, none⟩) (by simp; omega) (.int .i64 i)) 4 (.int .i64 ((i : Int) + 1))
      exact h
    · have h := has_setCell_other (has_setCell BX.out 4 (.int .i64 i)) (p := ⟨w.heap.size, 4, none⟩) (by simp; omega) (.int .i64 ((i : Int) + 1))
      exact h
    · exact ((Keeps.refl _ _).setCell (.inr (by simp)) _).setCell (.inr (by simp)) _
    clear x0 e4 f4 u4 v4
    rintro W3 ⟨t3, b3, k3⟩
    have x0 : W3.cell? ⟨w.heap.size + 1, 0, none⟩ = some (.pointer (some ⟨w.heap.size, 0, none⟩)) := k3.cell (Q3.out.cell (cell_has BT.out (i := 0) rfl) (by simp)) (by simp; omega)
    have x1 : W3.cell? ⟨w.heap.size, 1, none⟩ = some (.slice a1 i c1) := cell_has t3 (i := 1) rfl
    have b0 : W3.cell? ⟨B, 0, none⟩ = some (.bool y.live) := cell_has b3 (i := 0) rfl
    have b1 : W3.cell? ⟨B, 1, none⟩ = some (.int .i64 y.hash) := cell_has b3 (i := 1) rfl
    have b2 : W3.cell? ⟨B, 2, none⟩ = some (.int .i64 y.key) := cell_has b3 (i := 2) rfl
    have b3' : W3.cell? ⟨B, 3, none⟩ = some (.int .i64 y.val) := cell_has b3 (i := 3) rfl
    have b4 : W3.cell? ⟨B, 4, none⟩ = some (.int .i64 i) := cell_has b3 (i := 4) rfl
    refine wpIn_region_roundG (fun w' => w'.cell? ⟨w.heap.size + 1, 0, none⟩ = some (.pointer (some ⟨w.heap.size, 0, none⟩)) ∧ w'.cell? ⟨w.heap.size, 1, none⟩ = some (.slice a1 i c1) ∧ w'.cell? ⟨B, 0, none⟩ = some (.bool y.live) ∧ w'.cell? ⟨B, 1, none⟩ = some (.int .i64 y.hash) ∧ w'.cell? ⟨B, 2, none⟩ = some (.int .i64 y.key) ∧ w'.cell? ⟨B, 3, none⟩ = some (.int .i64 y.val) ∧ w'.cell? ⟨B, 4, none⟩ = some (.int .i64 i)) 10 (by kernel_rfl) (by kernel_rfl) (by rintro ⟨a, w, h⟩; exact h) ⟨x0, x1, b0, b1, b2, b3', b4⟩ (fun hF => ?_)
    refine wpAnyG_take (i := 0) (v := ?_) rfl (by kernel_rfl) (by decide +kernel) (by decide +kernel) (by decide +kernel) (by decide +kernel) (by rfl) (fun _ _ _ h => h) (by rfl) ?_ (by assumption) ?_
    rotate_left
    · (intro wz hSw; (try dsimp only at hSw); go_simp; with_reducible rfl)
    try simp only [Act.put, List.setIfInBounds_toArray, List.set_cons_zero, List.set_cons_succ]
    refine wpAnyG_take (i := 1) (v := ?_) rfl (by kernel_rfl) (by decide +kernel) (by decide +kernel) (by decide +kernel) (by decide +kernel) (by rfl) (fun _ _ _ h => h) (by rfl) ?_ (by assumption) ?_
    rotate_left
    · (intro wz hSw; (try dsimp only at hSw); go_simp; with_reducible rfl)
    try simp only [Act.put, List.setIfInBounds_toArray, List.set_cons_zero, List.set_cons_succ]
    refine wpAnyG_takeY (i := 2) (v := ?_) rfl (by kernel_rfl) (by decide +kernel) (by decide +kernel) (by decide +kernel) (fun _ _ _ h => h) (by rfl) ?_ (by assumption) ?_
    rotate_left
    · (intro wz; go_simp; with_reducible rfl)
    try simp only [Act.put, List.setIfInBounds_toArray, List.set_cons_zero, List.set_cons_succ]
    refine wpAnyG_takeY (i := 3) (v := ?_) rfl (by kernel_rfl) (by decide +kernel) (by decide +kernel) (by decide +kernel) (fun _ _ _ h => h) (by rfl) ?_ (by assumption) ?_
    rotate_left
    · (intro wz; go_simp; with_reducible rfl)
    try simp only [Act.put, List.setIfInBounds_toArray, List.set_cons_zero, List.set_cons_succ]
    refine wpAnyG_take (i := 4) (v := ?_) rfl (by kernel_rfl) (by decide +kernel) (by decide +kernel) (by decide +kernel) (by decide +kernel) (by rfl) (fun _ _ _ h => h) (by rfl) ?_ (by assumption) ?_
    rotate_left
    · (intro wz hSw; (try dsimp only at hSw); go_simp; with_reducible rfl)
    try simp only [Act.put, List.setIfInBounds_toArray, List.set_cons_zero, List.set_cons_succ]
    refine wpAnyG_take (i := 5) (v := ?_) rfl (by kernel_rfl) (by decide +kernel) (by decide +kernel) (by decide +kernel) (by decide +kernel) (by rfl) (fun _ _ _ h => h) (by rfl) ?_ (by assumption) ?_
    rotate_left
    · (intro wz hSw; (try dsimp only at hSw); go_simp; with_reducible rfl)
    try simp only [Act.put, List.setIfInBounds_toArray, List.set_cons_zero, List.set_cons_succ]
    have hEW := EntRow.drew (Q2.out.keeps k3 (fun x hx => by have := (Q2.out.blk_lt x hx).1; simp; exact ⟨by omega, fun e => zb (e ▸ hx)⟩))
    obtain ⟨g, cap, W5, hrun, r1, r2, r3, r4⟩ := ent_append (w1.heap.size + 2) a1 c1 ((renum (liveL T.E)).take i) { y with birth := (i : Int) } (W3.drew.alloc (.cells #[.bool y.live, .int .i64 y.hash, .int .i64 y.key, .int .i64 y.val, .int .i64 i] 36)) W3.heap.size (hEW.keeps ((Keeps.refl [] _).alloc _) (by simp)) (has_new' _ _ rfl) (by simp; omega) (by have := k3.size; simp; omega)
    have hti : ((renum (liveL T.E)).take i).length = i := by rw [List.length_take, renum_len, liveL_len, ← hn.out]; omega
    rw [hti] at hrun
    have HRun := Lib.hid hrun
    have k5 : Keeps (blk a1) W3 W5 := (((Keeps.refl (blk a1) W3).drew).alloc _).trans r2
    have na : ∀ x, x < w1.heap.size + 2 → x ∉ blk a1 := fun x hx hy => by have := (Q2.out.blk_lt x hy).1; omega
    have z0 := k5.cell x0 (na _ (by show w.heap.size + 1 < _; have := K1.out.size; omega))
    have z1 := k5.cell x1 (na _ (by show w.heap.size < _; omega))
    have s0 := k5.cell b0 zb
    have s1 := k5.cell b1 zb
    have s2 := k5.cell b2 zb
    have s3 := k5.cell b3' zb
    have s4 := k5.cell b4 zb
    have fz : W5.frozen? ⟨w.heap.size, 1, none⟩ = false := free_of_has (k5.has t3 (na _ (by omega))) 1
    clear hrun
    refine wpAnyG_one (i := 6) rfl (by kernel_rfl) (by rfl) (fun K hK => ?_)
    have HK := Lib.hid hK
    clear hK
    go_simp
    refine HK.out _ _ ⟨cell_alloc x0 _, cell_alloc x1 _, cell_alloc b0 _, cell_alloc b1 _, cell_alloc b2 _, cell_alloc b3' _, cell_alloc b4 _⟩ ?_
    clear HK K
    refine wpAnyG_one (i := 7) rfl (by kernel_rfl) (by rfl) (fun K hK => ?_)
    have HK := Lib.hid hK
    clear hK
    refine wp_append_run (.tmp 34) (.tmp 36) 33 rfl _ _ rfl rfl _ _ HRun.out ?_
    have hF7 := And.intro z0 (And.intro z1 (And.intro s0 (And.intro s1 (And.intro s2 (And.intro s3 s4)))))
    refine HK.out _ _ hF7 ?_
    clear HK K
    try simp only [Act.put, List.setIfInBounds_toArray, List.set_cons_zero, List.set_cons_succ]
    refine wpAnyG_takeY (i := 8) (v := ?_) rfl (by kernel_rfl) (by decide +kernel) (by decide +kernel) (by decide +kernel) (fun _ _ _ h => h) (by rfl) ?_ (by assumption) ?_
    rotate_left
    · (intro wz; go_simp; with_reducible rfl)
    try simp only [Act.put, List.setIfInBounds_toArray, List.set_cons_zero, List.set_cons_succ]
    refine wpAnyG_takeY (i := 9) (v := ?_) rfl (by kernel_rfl) (by decide +kernel) (by decide +kernel) (by decide +kernel) (fun _ _ _ h => h) (by rfl) ?_ (by assumption) ?_
    rotate_left
    · (intro wz; go_simp; with_reducible rfl)
    try simp only [Act.put, List.setIfInBounds_toArray, List.set_cons_zero, List.set_cons_succ]
    refine wpAnyG_last rfl (by kernel_rfl) (by rfl) (by rfl) (fun K hK => ?_)
    have HK := Lib.hid hK
    clear hK
    go_simp
    refine HK.out _ _ ?_
    clear HK K
    refine wpAnyG_done (by kernel_rfl) ?_ _
    gi_wp2
    have kS : Keeps [w.heap.size] W5 (W5.setCell ⟨w.heap.size, 1, none⟩ (.slice (some ⟨g, 0, none⟩) (i + 1) cap)) := (Keeps.refl _ _).setCell (.inr (by simp)) _
    have ng : w.heap.size ∉ blk (some (⟨g, 0, none⟩ : Addr)) := fun hx => by have := (r1.blk_lt _ hx).1; omega
    have z5 := k5.size
    have z3 := k3.size
    refine ⟨⟨some ⟨g, 0, none⟩, cap, ?_, ?_, ?_⟩, ?_, ?_⟩
    · have h := has_setCell (k5.has t3 (na _ (by omega))) 1 (.slice (some ⟨g, 0, none⟩) (i + 1) cap)
      exact h
    · rw [renum_take HY.out]
      exact r1.keeps kS (by intro x hx hx2; simp at hx2; subst hx2; exact ng hx)
    · exact ((Q3.out.then k3 (by intro y hy; simp at hy; rcases hy with rfl | rfl; · right; simp
                                 · left; omega)).then k5 (fun y hy => by have := (Q2.out.blk_lt y hy).1; left; omega)).trans kS
    · exact (kS.block _ (by omega) (by simp; omega)).trans ((k5.block _ (by omega) (na _ (by omega))).trans (k3.block _ (by omega) (by simp; omega)))
    · exact (kS.block _ (by omega) (by simp; omega)).trans ((k5.block _ (by omega) (na _ (by omega))).trans (k3.block _ (by omega) (by simp; omega)))
  case done =>
    intro W hW hD
    obtain ⟨a1, c1, q1, q2, q3⟩ := hW
    rw [HLN.out] at q1 q2
    have htk : (renum (liveL T.E)).take n = renum (liveL T.E) := by rw [List.take_of_length_le (by rw [renum_len, liveL_len, hn.out]; exact Nat.le_refl _)]
    rw [htk] at q2
    have x0 : W.cell? ⟨w.heap.size + 1, 0, none⟩ = some (.pointer (some ⟨w.heap.size, 0, none⟩)) := q3.cell (cell_has BT.out (i := 0) rfl) (by simp)
    have x1 : W.cell? ⟨w.heap.size, 1, none⟩ = some (.slice a1 n c1) := cell_has q1 (i := 1) rfl
    have x3 : W.cell? ⟨w.heap.size, 3, none⟩ = some (.int .i64 0) := cell_has q1 (i := 3) rfl
    have f3 : W.frozen? ⟨w.heap.size, 3, none⟩ = false := free_of_has q1 3
    have Q1 := Lib.hid q1
    have Q2 := Lib.hid q2
    have Q3 := Lib.hid q3
    have HD := Lib.hid hD
    clear q1 q2 q3 hD htk
    go_wp2_with fail
    refine wp_region_noPanic (wp_regionG (fun w' => w'.cell? ⟨w.heap.size + 1, 0, none⟩ = some (.pointer (some ⟨w.heap.size, 0, none⟩)) ∧ w'.cell? ⟨w.heap.size, 1, none⟩ = some (.slice a1 n c1)) 8 (by kernel_rfl) ⟨x0, x1⟩ (fun hF => ?_))
    refine wpAnyG_take (i := 0) (v := ?_) rfl (by kernel_rfl) (by decide +kernel) (by decide +kernel) (by decide +kernel) (by decide +kernel) (by rfl) (fun _ _ _ h => h) (by rfl) ?_ (by assumption) ?_
    rotate_left
    · (intro wz hSw; (try dsimp only at hSw); go_simp; with_reducible rfl)
    try simp only [Act.put, List.setIfInBounds_toArray, List.set_cons_zero, List.set_cons_succ]
    refine wpAnyG_take (i := 1) (v := ?_) rfl (by kernel_rfl) (by decide +kernel) (by decide +kernel) (by decide +kernel) (by decide +kernel) (by rfl) (fun _ _ _ h => h) (by rfl) ?_ (by assumption) ?_
    rotate_left
    · (intro wz hSw; (try dsimp only at hSw); go_simp; with_reducible rfl)
    try simp only [Act.put, List.setIfInBounds_toArray, List.set_cons_zero, List.set_cons_succ]
    refine wpAnyG_takeY (i := 2) (v := ?_) rfl (by kernel_rfl) (by decide +kernel) (by decide +kernel) (by decide +kernel) (fun _ _ _ h => h) (by rfl) ?_ (by assumption) ?_
    rotate_left
    · (intro wz; go_simp; with_reducible rfl)
    try simp only [Act.put, List.setIfInBounds_toArray, List.set_cons_zero, List.set_cons_succ]
    refine wpAnyG_takeY (i := 3) (v := ?_) rfl (by kernel_rfl) (by decide +kernel) (by decide +kernel) (by decide +kernel) (fun _ _ _ h => h) (by rfl) ?_ (by assumption) ?_
    rotate_left
    · (intro wz; go_simp; with_reducible rfl)
    try simp only [Act.put, List.setIfInBounds_toArray, List.set_cons_zero, List.set_cons_succ]
    refine wpAnyG_take (i := 4) (v := ?_) rfl (by kernel_rfl) (by decide +kernel) (by decide +kernel) (by decide +kernel) (by decide +kernel) (by rfl) (fun _ _ _ h => h) (by rfl) ?_ (by assumption) ?_
    rotate_left
    · (intro wz hSw; (try dsimp only at hSw); go_simp; with_reducible rfl)
    try simp only [Act.put, List.setIfInBounds_toArray, List.set_cons_zero, List.set_cons_succ]
    refine wpAnyG_take (i := 5) (v := ?_) rfl (by kernel_rfl) (by decide +kernel) (by decide +kernel) (by decide +kernel) (by decide +kernel) (by rfl) (fun _ _ _ h => h) (by rfl) ?_ (by assumption) ?_
    rotate_left
    · (intro wz hSw; (try dsimp only at hSw); go_simp; with_reducible rfl)
    try simp only [Act.put, List.setIfInBounds_toArray, List.set_cons_zero, List.set_cons_succ]
    refine wpAnyG_takeY (i := 6) (v := ?_) rfl (by kernel_rfl) (by decide +kernel) (by decide +kernel) (by decide +kernel) (fun _ _ _ h => h) (by rfl) ?_ (by assumption) ?_
    rotate_left
    · (intro wz; go_simp; with_reducible rfl)
    try simp only [Act.put, List.setIfInBounds_toArray, List.set_cons_zero, List.set_cons_succ]
    refine wpAnyG_takeY (i := 7) (v := ?_) rfl (by kernel_rfl) (by decide +kernel) (by decide +kernel) (by decide +kernel) (fun _ _ _ h => h) (by rfl) ?_ (by assumption) ?_
    rotate_left
    · (intro wz; go_simp; with_reducible rfl)
    try simp only [Act.put, List.setIfInBounds_toArray, List.set_cons_zero, List.set_cons_succ]
    refine wpAnyG_last rfl (by kernel_rfl) (by rfl) (by rfl) (fun K hK => ?_)
    have HK := Lib.hid hK
    clear hK
    go_simp
    refine HK.out _ _ ?_
    clear HK K
    refine wpAnyG_done (by kernel_rfl) ?_ _
    apply NoPanic.normal
    go_wp2_with fail
    obtain ⟨W2, hW2⟩ : ∃ W2, (W.setCell ⟨w.heap.size, 3, none⟩ (.int .i64 n)).drew = W2 := ⟨_, rfl⟩
    have k2 : Keeps [w.heap.size] W W2 := by rw [← hW2]; exact ((Keeps.refl _ _).setCell (.inr (by simp)) _).drew
    have t2 : W2.heap[w.heap.size]? = some (tabO (mV m) (.slice a1 n c1) (.pointer none) (.int .i64 n) (.int .i64 n) (.int .i64 0) (.int .i64 0)) := by rw [← hW2]; exact has_setCell Q1.out 3 (.int .i64 n)
    have y0 := k2.cell x0 (by simp)
    have T2 := Lib.hid t2
    have K2 := Lib.hid (Q3.out.trans k2)
    have E2 := Lib.hid (Q2.out.keeps k2 (fun x hx => by have := (Q2.out.blk_lt x hx).1; simp; omega))
    have HD2 := Lib.hid (k2.has HD.out (by simp; omega))
    rw [hW2]
    clear hW2 k2 t2 x0 x1 x3 f3 hF Q1 Q2 Q3 HD
    have hcd := copyL_def n
    have hcl : copyL n ≤ 20 := by have := copyL_le hn1; omega
    have hc3 := copyL_ge n
    have hcF : ∀ (W' : World) (l : Int) (L : Nat), Keeps [] W2.drew W' → l = (L : Int) → L ≤ 20 → Calls Try.prog 89 (#[.int .i64 l] ++ #[.pointer (some ⟨w.heap.size + 1, 0, none⟩)]) W' fun r w' => r = .returned (.bool (decide (n ≤ 2 * 2 ^ L / 3))) ∧ Keeps [] W' w' := fun W' l L kw hl2 hL2 =>
      copyf_any (w.heap.size + 1) w.heap.size l L n hl2 hL2 (by omega) (mV m) (.slice a1 n c1) (.pointer none) (.int .i64 n) (.int .i64 0) (.int .i64 0) W' (kw.cell (w := W2.drew) y0 (by simp)) (kw.has (w := W2.drew) T2.out (by simp))
    have HCF := Lib.hid hcF
    have HCL : Hid (leastL (fun l => decide (n ≤ 2 * 2 ^ l / 3)) ≤ 20) := Lib.hid (by rw [← hcd]; exact hcl)
    clear hcF
    have HCD := Lib.hid hcd
    clear hcd
    have HMM := Lib.hid ((HM.out.keeps K1.out (by simp)).keeps K2.out (fun b hb hx => by simp at hx; have := HSB.out b hb; omega))
    have z2 := K2.out.size
    have z1 := K1.out.size
    refine wp_region_noPanic (wp_regionG (fun w' => w'.cell? ⟨w.heap.size + 1, 0, none⟩ = some (.pointer (some ⟨w.heap.size, 0, none⟩))) 3 (by kernel_rfl) y0 (fun hF => ?_))
    refine wpAnyG_take (i := 0) (v := ?_) rfl (by kernel_rfl) (by decide +kernel) (by decide +kernel) (by decide +kernel) (by decide +kernel) (by rfl) (fun _ _ _ h => h) (by rfl) ?_ (by assumption) ?_
    rotate_left
    · (intro wz hSw; (try dsimp only at hSw); go_simp; with_reducible rfl)
    try simp only [Act.put, List.setIfInBounds_toArray, List.set_cons_zero, List.set_cons_succ]
    refine wpAnyG_takeY (i := 1) (v := ?_) rfl (by kernel_rfl) (by decide +kernel) (by decide +kernel) (by decide +kernel) (fun _ _ _ h => h) (by rfl) ?_ (by assumption) ?_
    rotate_left
    · (intro wz; go_simp; with_reducible rfl)
    try simp only [Act.put, List.setIfInBounds_toArray, List.set_cons_zero, List.set_cons_succ]
    refine wpAnyG_one (i := 2) rfl (by kernel_rfl) (by rfl) (fun K hK => ?_)
    have HK := Lib.hid hK
    clear hK
    go_simp
    refine (least_any _ #[.pointer (some ⟨w.heap.size + 1, 0, none⟩)] enters_copyf (fun l => decide (n ≤ 2 * 2 ^ l / 3)) HCL.out W2.drew HCF.out).mono ?_
    rintro r W3 ⟨rfl, k3⟩
    rw [← HCD.out]
    have K3 := Lib.hid k3
    have y3 := k3.cell (w := W2.drew) y0 (by simp)
    clear k3
    refine HK.out _ _ y3 ?_
    clear HK K
    refine wpAnyG_last rfl (by kernel_rfl) (by rfl) (by rfl) (fun K hK => ?_)
    have HK := Lib.hid hK
    clear hK
    go_simp
    refine (index_any w.heap.size (copyL n) (copyL n) rfl m c4 (.slice a1 n c1) (.pointer none) (.int .i64 n) (.int .i64 n) (.int .i64 0) 0 W3 (K3.out.has (w := W2.drew) T2.out (by simp)) (HMM.out.keeps ((Keeps.refl [] W2).drew.trans K3.out) (by simp)) (fun b hb => by have := HSB.out b hb; omega) hc3 hcl (by omega) (by omega)).mono ?_
    rintro r W4 ⟨rfl, cb2, cr2, g1, g2, g3, g4, g5, g6⟩
    have nmS : ∀ x, x ∈ mS m → x < w.heap.size := by intro x hx; cases m with | none => simp [mS] at hx | some b9 => simp [mS] at hx; subst hx; exact HSB.out _ rfl
    have y4 := g6.cell y3 (by simp; exact fun hx => by have := nmS _ hx; omega)
    have zD := K1.out.size
    have z3 : W2.heap.size ≤ W3.heap.size := K3.out.size
    have TT : Hid (TabC w.heap.size w.heap.size (w.heap.size :: cb2 :: cr2 :: blk a1) (mV m) (renum (liveL T.E)) (begun (2 ^ copyL n)) (copyL n) n n 1 0 W4) := Lib.hid (by
      have hE3 := E2.out.keeps ((Keeps.refl [] W2).drew.trans K3.out) (by simp)
      have hE4 := hE3.keeps g6 (fun x hx hx2 => by
        have := (hE3.blk_lt x hx).1
        simp at hx2
        rcases hx2 with rfl | hx2
        · omega
        · have := nmS _ hx2; omega)
      refine ⟨a1, c1, cb2, cr2, ?_, hE4.lift (fun x hx => by have := (hE4.blk_lt x hx).1; omega), g2, by simp, by simp, by simp, fun x hx => by simp [hx], fun x hx => ?_⟩
      · rw [g1, renum_len, liveL_len, ← hn.out]; rfl
      · have l1 := lt_of_block g2.ho
        have l2 := lt_of_block g2.hr
        have l3 := lt_of_block g1
        simp at hx
        rcases hx with rfl | rfl | rfl | hx
        · omega
        · omega
        · omega
        · have := hE4.blk_lt x hx; omega)
    have HM4 := Lib.hid g5
    have K4 := Lib.hid ((((K2.out.mono (T := w.heap.size :: mS m) (by simp)).drew.trans (K3.out.mono (by simp))).trans g6))
    have HD4 := Lib.hid (g6.has (K3.out.has (w := W2.drew) HD2.out (by simp)) (by simp; exact ⟨by omega, fun hx => by have := nmS _ hx; omega⟩))
    have G34 := Lib.hid (show w.heap.size + 2 ≤ cb2 ∧ w1.heap.size < cb2 ∧ w1.heap.size < cr2 from by have := lt_of_block HD2.out; omega)
    clear g1 g2 g3 g4 g5
    refine HK.out _ _ ?_
    clear HK K
    refine wpAnyG_done (by kernel_rfl) ?_ _
    apply NoPanic.normal
    clear hF
    go_wp2_with fail
    have ler : (renum (liveL T.E)).length = n := by rw [renum_len, liveL_len, ← hn.out]
    refine (layAll_any w.heap.size w.heap.size (w.heap.size :: cb2 :: cr2 :: blk a1) (mV m) (renum (liveL T.E)) (copyL n) n n 1 0 W4 TT.out hc3 hcl (by rw [ler]; exact copyL_is hn1) (by rw [ler]; omega)).mono ?_
    rintro r W5 ⟨rfl, t5, k5⟩
    have T5 := Lib.hid t5
    have K5 := Lib.hid k5
    have nbx : w.heap.size + 1 ∉ w.heap.size :: cb2 :: cr2 :: blk a1 := by
      have l1 := G34.out.2.1
      have l2 := G34.out.2.2
      have hE := E2.out.blk_lt (w.heap.size + 1)
      simp
      exact ⟨by omega, by omega, fun hx => by have := (hE hx).1; omega⟩
    have y5 := k5.cell y4 nbx
    clear t5 k5
    go_wp2_with fail
    have HD5 := Lib.hid (K5.out.has HD4.out (by
      have l1 := G34.out.2.1
      have l2 := G34.out.2.2
      have hE := E2.out.blk_lt w1.heap.size
      simp
      exact ⟨by omega, by omega, by omega, fun hx => by have := (hE hx).1; omega⟩))
    have ft := T5.out.foot
    refine bodyPostR_ret1 (D := w1.heap.size) (v := .pointer (some ⟨w.heap.size, 0, none⟩)) (fun w => by simp [results, Try.results63, go_sem]) rfl HD5.out fun w' kD => ?_
    have nD : ∀ x, x ∈ w.heap.size :: cb2 :: cr2 :: blk a1 → x ∉ [w1.heap.size] := by
      have l1 := G34.out.2.1
      have l2 := G34.out.2.2
      intro x hx hx2
      simp at hx hx2
      subst hx2
      have hE := E2.out.blk_lt w1.heap.size
      rcases hx with h | h | h | h
      · omega
      · omega
      · omega
      · have := (hE h).1; omega
    have K04 := K1.out.size
    refine ⟨w.heap.size, w.heap.size :: cb2 :: cr2 :: blk a1, rfl, ?_, ?_, ?_⟩
    · have h := TabC.keeps T5.out kD nD
      unfold TabAt Tab.copy
      simp only
      rw [renum_liveN, ← hn.out]
      rw [ler] at h
      exact h
    · refine (HM4.out.keeps K5.out (fun b hb hx => ?_)).keeps kD (fun b hb hx => ?_)
      · have h1 := HSB.out b hb
        have l1 := G34.out.2.1
        have l2 := G34.out.2.2
        have hE := E2.out.blk_lt b
        simp at hx
        rcases hx with h | h | h | h
        · omega
        · omega
        · omega
        · have := (hE h).1; omega
      · have h1 := HSB.out b hb
        simp at hx; omega
    · have k9 := ((((K1.out.mono (T := mS m) (by simp)).then K4.out (fun x hx => by
          simp at hx
          rcases hx with rfl | hx
          · exact .inl (Nat.le_refl _)
          · exact .inr hx)).then K5.out (fun x hx => by
          have l1 := G34.out.2.1
          have l2 := G34.out.2.2
          have hE := E2.out.blk_lt x
          simp at hx
          rcases hx with h | h | h | h
          · left; omega
          · left; omega
          · left; omega
          · left; have := (hE h).1; omega)).then kD (fun x hx => by simp at hx; left; omega))
      exact k9
theorem copy_any (t lo : Nat) (S : List Nat) (m : Option Nat) (c4 : C4) (T : Tab) (w : World) (H : TabAt t lo S (mV m) T w) (hM : MtrAt m c4 w) (hI : TInv 1000 T) :
    Calls Try.prog 63 #[.pointer (some ⟨t, 0, none⟩)] w (CopyP m c4 T w) := by
  obtain ⟨a, c, cb, cr, h1, h2, _⟩ := H
  exact copy_gen t lo a c m c4 T w (cell_has h1 (i := 0) rfl) (cell_has h1 (i := 1) rfl) (cell_has h1 (i := 3) rfl) h2 hM hI.ek
end Go.Proofs.Ytcakdmapnmneoaa
