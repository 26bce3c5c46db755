/- The shared names (chapter 10). -/
import Derived.Test.YtajmfenfajbakaaGreatShN
namespace Go.Proofs.YtajmfenfajbakaaGreat
open Go.RowKit
set_option linter.unusedVariables false
set_option linter.unusedSimpArgs false
attribute [local go_sem] Oper.semAt_some

def Names10 (ks : List ByteArray) (w : World) (r : Ending) (w' : World) : Prop := ∃ lo a c, w.heap.size ≤ lo ∧ r = .returned (.slice a ks.length c) ∧ ValRow 9 lo a ks.length c (strV ks) w' ∧ Keeps [] w w'
def outN10 (a : Option Addr) (i c : Nat) : Obj := .cells #[.slice a i c] 51 (0, 0)
def NmI (B D : Nat) (ks : List ByteArray) (w2 : World) (i : Nat) (a : Option Addr) (c : Nat) (W : World) : Prop :=
  W.heap[B]? = some (outN10 a i c) ∧ ValRow 9 (D + 2) a i c (strV ks) W ∧ Keeps [B] w2 W
theorem NmI.keeps {B D : Nat} {ks : List ByteArray} {w2 : World} {i : Nat} {a : Option Addr} {c : Nat} {A A' : World} (h : NmI B D ks w2 i a c A) (hB : B < D) (hD : w2.heap.size = D) (k : Keeps [D, D + 1] A A') : NmI B D ks w2 i a c A' :=
  ⟨k.has h.1 (by simp; omega), h.2.1.keeps k (fun x hx => by have := (h.2.1.blk_lt x hx).1; simp; omega), h.2.2.then k (by intro y hy; simp at hy; left; omega)⟩
theorem names_nil (w : World) : Calls Tryz.prog 14 #[.pointer none] w fun r w' => r = .returned (.slice none 0 0) ∧ Keeps [] w w' := by
  go_enter Tryz.func14, Tryz.ntmps14
  go_wp2_with fail
  go_ret
  exact ⟨rfl, (Keeps.refl [] w).alloc _⟩
set_option maxRecDepth 100000 in
set_option maxHeartbeats 4000000 in
theorem names_any (k : Nat) (hk0 : k ≤ 1000) (fb t mb lo : Nat) (a : Option Addr) (ST : List Nat) (m : Option Nat) (f : Fam) (ks : List ByteArray) (w : World) (H : FamAt fb t mb lo a ST m f w) (hI : FamOk k f ks) :
    Calls Tryz.prog 14 #[.pointer (some ⟨fb, 0, none⟩)] w (Names10 ks w) := by
  have HF := Lib.hid H
  have HI := Lib.hid hI
  obtain ⟨cN, h1, q1⟩ := H.b
  have HB := Lib.hid h1
  have QN := Lib.hid q1
  have c3 : w.cell? ⟨fb, 3, none⟩ = some (.pointer (some ⟨t, 0, none⟩)) := cell_has h1 (i := 3) rfl
  have lfb := lt_of_block h1
  have LIV := Lib.hid (liveL_all hI.lv)
  have EK := Lib.hid (show f.K.E.length ≤ 1000 from by have := hI.t.ek; omega)
  obtain ⟨n, hn⟩ := ex_hid ks.length
  have HNM : Hid (∀ r w', Names10 ks w r w' = (∃ lo a c, w.heap.size ≤ lo ∧ r = .returned (.slice a n c) ∧ ValRow 9 lo a n c (strV ks) w' ∧ Keeps [] w w')) := Lib.hid (fun r w' => by unfold Names10; rw [← hn.out])
  have EN := Lib.hid (show f.K.E.length = n from by rw [hn.out, hI.kl])
  have c3a : ((w.alloc (.cells #[.pointer (some ⟨fb, 0, none⟩)] 52)).alloc (outN10 none 0 0)).cell? ⟨fb, 3, none⟩ = some (.pointer (some ⟨t, 0, none⟩)) := cell_alloc (cell_alloc c3 _) _
  unfold outN10 at c3a
  clear H h1 q1 hI
  refine calls_of_wp_ranges Tryz.func14 rfl ?_
  simp only [Tryz.ntmps14, List.size_toArray, List.length_cons, List.length_nil, Nat.reduceAdd, Nat.reduceSub, Array.replicate_succ, Array.replicate_zero, List.push_toArray, List.append_toArray, List.nil_append, List.cons_append]
  go_wp2_with fail
  have kA : Keeps [] w ((w.alloc (.cells #[.pointer (some ⟨fb, 0, none⟩)] 52)).alloc (outN10 none 0 0)) := ((Keeps.refl [] w).alloc _).alloc _
  have bA : ((w.alloc (.cells #[.pointer (some ⟨fb, 0, none⟩)] 52)).alloc (outN10 none 0 0)).heap[w.heap.size + 1]? = some (outN10 none 0 0) := by have := has_new (w.alloc (.cells #[.pointer (some ⟨fb, 0, none⟩)] 52)) (outN10 none 0 0); simpa using this
  have xA : ((w.alloc (.cells #[.pointer (some ⟨fb, 0, none⟩)] 52)).alloc (outN10 none 0 0)).heap[w.heap.size]? = some (.cells #[.pointer (some ⟨fb, 0, none⟩)] 52 (0, 0)) := has_alloc (has_new w _) _
  have zA : ((w.alloc (.cells #[.pointer (some ⟨fb, 0, none⟩)] 52)).alloc (outN10 none 0 0)).heap.size = w.heap.size + 2 := by simp
  obtain ⟨ta, tc, tcb, tcr, a1, a2, _⟩ := HF.out.k
  have A12 := Lib.hid (And.intro a1 a2)
  clear a1 a2
  refine (all_gen t lo ta tc f.K.E _ (kA.cell (cell_has A12.out.1 (i := 1) rfl) (by simp)) (kA.cell (cell_has A12.out.1 (i := 3) rfl) (by simp)) (A12.out.2.keeps kA (by simp)) (by have := EK.out; omega)).mono ?_
  rintro r w2 ⟨b, ra, rc, rfl, rb, rr, rz, rk⟩
  have B2 := Lib.hid (rk.has bA (by simp))
  have X2 := Lib.hid (rk.has xA (by simp))
  have K2 := Lib.hid (kA.trans rk)
  have PV : Hid (NuPriv b (w.heap.size + 2) ra rc (numL f.K.E 0) w2) := Lib.hid ⟨by rw [numL_len]; exact rb, by have h := rr; rw [zA] at h; exact h⟩
  have lb := lt_of_block rb
  rw [zA] at rz
  have hlen : (numL f.K.E 0).length = n := by rw [numL_len, LIV.out.2, EN.out]
  have HLN := Lib.hid hlen
  have NB := Lib.hid PV.out.2.blk_lt
  have lB := lt_of_block B2.out
  have hn1 : n ≤ 1000 := by have := EK.out; have := EN.out; omega
  clear kA bA xA zA rb rr rk c3a c3 hlen
  go_wp2_with fail
  refine wp_rangeN (gf := 62) (lb := #[.pointer (some ⟨b, 0, none⟩)]) rfl enters_tall (nuIter b (w.heap.size + 2) ra rc (numL f.K.E 0) (by rw [HLN.out]; omega)) (fun _ => rfl)
    (fun i W => ∃ a c, NmI (w.heap.size + 1) w2.heap.size ks w2 i a c W) (fun _ _ _ => False)
    (fun i A B h k => by
      obtain ⟨a, c, q⟩ := h
      exact ⟨a, c, q.keeps (by omega) rfl k⟩)
    (fun _ _ _ _ h _ => h) ?priv ⟨none, 0, B2.out, ValRow.nil _ _ _ _, Keeps.refl _ _⟩ ?round ?done ?stop
  case priv =>
    intro i A h
    obtain ⟨a, c, q1, q2, q3⟩ := h
    exact PV.out.keeps q3 (by simp; omega) (fun x hx => by have := (NB.out x hx).1; simp; omega)
  case stop => intro c i W _ h; exact h.elim
  case round =>
    intro l i W K hi hW hsz hK
    have hi2 : i < n := by rw [← HLN.out]; exact hi
    obtain ⟨⟨y0, y⟩, hy⟩ : ∃ q, Hid ((numL f.K.E 0).getD i (0, noE) = q) := ⟨_, Lib.hid rfl⟩
    have hyg : f.K.E[i]? = some y := by have := numL_get (nuget hi); rw [hy.out, LIV.out.1] at this; exact this
    have HKY := Lib.hid (HI.out.ky i y hyg)
    simp only [encN, hy.out, Ent.agg]
    clear hy hyg
    gi_wp2
    obtain ⟨a1, c1, hq⟩ := hW
    refine hK _ _ (fun W' => W'.heap[W.heap.size]? = some (.cells #[.bool y.live, .int .i64 y.hash, .int .i64 y.key, .int .i64 y.val, .int .i64 y.birth] 99 (0, 0)) ∧ NmI (w.heap.size + 1) w2.heap.size ks w2 i a1 c1 W' ∧ W.heap.size ∉ blk a1) (fun A B h k => ⟨k.has h.1 (by simp; omega), h.2.1.keeps (by omega) rfl k, h.2.2⟩) ⟨has_new _ _, ⟨has_alloc hq.1 _, hq.2.1.keeps ((Keeps.refl [] W).alloc _) (by simp), hq.2.2.alloc _⟩, fun hx => by have := (hq.2.1.blk_lt _ hx).2; omega⟩ ((Keeps.refl [] W).alloc _) ?_
    clear hK hq
    obtain ⟨X, hX⟩ := ex_hid W.heap.size
    have zX : w2.heap.size + 1 < X := by rw [hX.out]; exact hsz
    rw [← hX.out]
    clear hX hsz
    intro W _ hbx hsz
    obtain ⟨key, hkey1, hkey2, _, hkey4⟩ := HKY.out
    obtain ⟨hbx, ⟨q1, q2, q3⟩, zb⟩ := hbx
    have x0 : W.cell? ⟨w.heap.size + 1, 0, none⟩ = some (.slice a1 i c1) := cell_has q1 (i := 0) rfl
    have u2 : W.cell? ⟨X, 2, none⟩ = some (.int .i64 (key : Int)) := by
      have := cell_has hbx (i := 2) rfl
      rw [hkey2] at this; exact this
    have x1 : W.cell? ⟨w.heap.size, 0, none⟩ = some (.pointer (some ⟨fb, 0, none⟩)) := cell_has (q3.has X2.out (by simp)) (i := 0) rfl
    obtain ⟨nn, hnn⟩ := ex_hid f.N.length
    rw [← hnn.out] at hkey1
    obtain ⟨ga, hga⟩ := QN.out.shape (by rw [← hnn.out]; omega)
    have z4 : W.cell? ⟨fb, 4, none⟩ = some (.slice (some ⟨ga, 0, none⟩) nn cN) := by
      have h0 := cell_has (q3.has (K2.out.has HB.out (by simp)) (by simp; omega)) (i := 4) rfl
      rw [hga, ← hnn.out] at h0; exact h0
    have lga : ga < w.heap.size := (QN.out.blk_lt ga (by rw [hga]; simp [blk])).2
    have s4 : W.cell? ⟨ga, key, none⟩ = some (.string (f.N.getD key .empty)) := by
      have h0 := (QN.out.keeps K2.out (by simp)).keeps q3 (fun x hx => by have := (QN.out.blk_lt x hx).2; simp; omega)
      rw [hga] at h0
      exact h0.cell (by rw [← hnn.out]; exact hkey1)
    have j0 : (0 : Int) ≤ (key : Int) := by omega
    have j1 : (key : Int) < (nn : Int) := by omega
    obtain ⟨nm, hnm⟩ := ex_hid (f.N.getD key .empty)
    rw [← hnm.out] at s4 hkey4
    obtain ⟨g, cap, W5, run5, v5, k5, g5, l5⟩ := str_app (w2.heap.size + 2) a1 c1 i (strV ks) nm (W.drew.alloc (.cells #[.string nm] 9)) W.heap.size (q2.drew.keeps ((Keeps.refl [] W.drew).alloc _) (by simp)) (has_new _ _) (by omega) (by simp; omega)
    have RUN := Lib.hid run5
    have k15 : Keeps (blk a1) W W5 := ((Keeps.refl (blk a1) W).drew.alloc _).trans k5
    have nlo : ∀ x, x < w2.heap.size + 2 → x ∉ blk a1 := fun x hx hy => by have := (q2.blk_lt x hy).1; omega
    have b5 := k15.has q1 (nlo _ (by omega))
    have hF5 : W5.cell? ⟨w.heap.size + 1, 0, none⟩ = some (.slice a1 i c1) ∧ W5.cell? ⟨w.heap.size, 0, none⟩ = some (.pointer (some ⟨fb, 0, none⟩)) ∧ W5.cell? ⟨fb, 4, none⟩ = some (.slice (some ⟨ga, 0, none⟩) nn cN) ∧ W5.cell? ⟨X, 2, none⟩ = some (.int .i64 (key : Int)) ∧ W5.cell? ⟨ga, key, none⟩ = some (.string nm) :=
      ⟨cell_has b5 (i := 0) rfl, k15.cell x1 (nlo w.heap.size (by omega)), k15.cell z4 (nlo fb (by omega)), k15.cell u2 zb, k15.cell s4 (nlo ga (by omega))⟩
    have HF5 := Lib.hid hF5
    have f5 : W5.frozen? ⟨w.heap.size + 1, 0, none⟩ = false := free_of_has b5 0
    have FIN := Lib.hid (And.intro v5 (And.intro g5 (And.intro l5 (And.intro k15 (And.intro b5 (And.intro q2 q3))))))
    have KY := Lib.hid hkey4
    clear hbx q1 q2 q3 run5 v5 k5 g5 l5 k15 b5 hF5 hkey4 hkey2
    gi_wp2
    refine wpIn_region_roundG (fun w' => w'.cell? ⟨w.heap.size + 1, 0, none⟩ = some (.slice a1 i c1) ∧ w'.cell? ⟨w.heap.size, 0, none⟩ = some (.pointer (some ⟨fb, 0, none⟩)) ∧ w'.cell? ⟨fb, 4, none⟩ = some (.slice (some ⟨ga, 0, none⟩) nn cN) ∧ w'.cell? ⟨X, 2, none⟩ = some (.int .i64 (key : Int)) ∧ w'.cell? ⟨ga, key, none⟩ = some (.string nm)) 11 (by kernel_rfl) (by kernel_rfl) (by rintro ⟨a, w, h⟩; exact h) ⟨x0, x1, z4, u2, s4⟩ (fun hF => ?_)
    refine wpAnyG_take (i := 0) (v := ?_) rfl (by kernel_rfl) (by decide +kernel) (by decide +kernel) (by decide +kernel) (by decide +kernel) (by rfl) (fun _ _ _ h => h) (by kernel_rfl) ?_ (by assumption) ?_
    rotate_left
    · (intro wz hSw; (try dsimp only at hSw); go_simp; with_reducible rfl)
    try simp only [Act.put, List.setIfInBounds_toArray, List.set_cons_zero, List.set_cons_succ]
    refine wpAnyG_take (i := 1) (v := ?_) rfl (by kernel_rfl) (by decide +kernel) (by decide +kernel) (by decide +kernel) (by decide +kernel) (by rfl) (fun _ _ _ h => h) (by kernel_rfl) ?_ (by assumption) ?_
    rotate_left
    · (intro wz hSw; (try dsimp only at hSw); go_simp; with_reducible rfl)
    try simp only [Act.put, List.setIfInBounds_toArray, List.set_cons_zero, List.set_cons_succ]
    refine wpAnyG_takeY (i := 2) (v := ?_) rfl (by kernel_rfl) (by decide +kernel) (by decide +kernel) (by decide +kernel) (fun _ _ _ h => h) (by kernel_rfl) ?_ (by assumption) ?_
    rotate_left
    · (intro wz; go_simp; with_reducible rfl)
    try simp only [Act.put, List.setIfInBounds_toArray, List.set_cons_zero, List.set_cons_succ]
    refine wpAnyG_takeY (i := 3) (v := ?_) rfl (by kernel_rfl) (by decide +kernel) (by decide +kernel) (by decide +kernel) (fun _ _ _ h => h) (by kernel_rfl) ?_ (by assumption) ?_
    rotate_left
    · (intro wz; go_simp; with_reducible rfl)
    try simp only [Act.put, List.setIfInBounds_toArray, List.set_cons_zero, List.set_cons_succ]
    refine wpAnyG_take (i := 4) (v := ?_) rfl (by kernel_rfl) (by decide +kernel) (by decide +kernel) (by decide +kernel) (by decide +kernel) (by rfl) (fun _ _ _ h => h) (by kernel_rfl) ?_ (by assumption) ?_
    rotate_left
    · (intro wz hSw; (try dsimp only at hSw); go_simp; with_reducible rfl)
    try simp only [Act.put, List.setIfInBounds_toArray, List.set_cons_zero, List.set_cons_succ]
    refine wpAnyG_takeY (i := 5) (v := ?_) rfl (by kernel_rfl) (by decide +kernel) (by decide +kernel) (by decide +kernel) (fun _ _ _ h => h) (by kernel_rfl) ?_ (by assumption) ?_
    rotate_left
    · (intro wz; go_simp; with_reducible rfl)
    try simp only [Act.put, List.setIfInBounds_toArray, List.set_cons_zero, List.set_cons_succ]
    refine wpAnyG_take (i := 6) (v := ?_) rfl (by kernel_rfl) (by decide +kernel) (by decide +kernel) (by decide +kernel) (by decide +kernel) (by rfl) (fun _ _ _ h => h) (by kernel_rfl) ?_ (by assumption) ?_
    rotate_left
    · (intro wz hSw; (try dsimp only at hSw); go_simp; with_reducible rfl)
    try simp only [Act.put, List.setIfInBounds_toArray, List.set_cons_zero, List.set_cons_succ]
    refine wpAnyG_takeY (i := 7) (v := ?_) rfl (by kernel_rfl) (by decide +kernel) (by decide +kernel) (by decide +kernel) (fun _ _ _ h => h) (by kernel_rfl) ?_ (by assumption) ?_
    rotate_left
    · (intro wz; go_simp; with_reducible rfl)
    try simp only [Act.put, List.setIfInBounds_toArray, List.set_cons_zero, List.set_cons_succ]
    refine wpAnyG_take (i := 8) (v := ?_) rfl (by kernel_rfl) (by decide +kernel) (by decide +kernel) (by decide +kernel) (by decide +kernel) (by rfl) (fun _ _ _ h => h) (by kernel_rfl) ?_ (by assumption) ?_
    rotate_left
    · (intro wz hSw; (try dsimp only at hSw); go_simp; with_reducible rfl)
    try simp only [Act.put, List.setIfInBounds_toArray, List.set_cons_zero, List.set_cons_succ]
    refine wpAnyG_one (i := 9) rfl (by kernel_rfl) (by kernel_rfl) (fun K hK => ?_)
    have HK := Lib.hid hK
    clear hK
    go_simp
    refine HK.out _ _ ⟨cell_alloc hF.1 _, cell_alloc hF.2.1 _, cell_alloc hF.2.2.1 _, cell_alloc hF.2.2.2.1 _, cell_alloc hF.2.2.2.2 _⟩ ?_
    clear HK K hF
    refine wpAnyG_one (i := 10) rfl (by kernel_rfl) (by kernel_rfl) (fun K hK => ?_)
    have HK := Lib.hid hK
    clear hK
    refine wp_append_run (.tmp 15) (.tmp 24) 51 rfl _ _ rfl rfl _ _ RUN.out ?_
    have hF := HF5.out
    refine HK.out _ _ hF ?_
    clear HK K
    try simp only [Act.put, List.setIfInBounds_toArray, List.set_cons_zero, List.set_cons_succ]
    refine wpAnyG_last rfl (by kernel_rfl) (by rfl) (by rfl) (fun K hK => ?_)
    have HK := Lib.hid hK
    clear hK
    go_simp
    refine HK.out _ _ ?_
    clear HK K
    try simp only [Act.put, List.setIfInBounds_toArray, List.set_cons_zero, List.set_cons_succ]
    refine wpAnyG_done (by kernel_rfl) ?_ _
    try gi_wp2
    obtain ⟨v5, g5, l5, k15, b5, q2, q3⟩ := FIN.out
    have kS : Keeps [w.heap.size + 1] W5 (W5.setCell ⟨w.heap.size + 1, 0, none⟩ (.slice (some ⟨g, 0, none⟩) (i + 1) cap)) := (Keeps.refl _ _).setCell (.inr (by simp)) _
    have hg : w2.heap.size + 2 ≤ g := by
      rcases g5 with h9 | h9
      · exact (q2.blk_lt g h9).1
      · rw [h9]; simp; omega
    have z5 := k15.size
    refine ⟨⟨some ⟨g, 0, none⟩, cap, ?_, ?_, ?_⟩, ?_, ?_⟩
    · have h := has_setCell b5 0 (.slice (some ⟨g, 0, none⟩) (i + 1) cap)
      unfold outN10 at h ⊢; simpa using h
    · refine (v5.keeps kS (fun x hx hy => by simp [blk] at hx hy; omega)).congr (fun j hj => ?_)
      unfold putV
      split
      · rename_i e; subst e; unfold strV; simp only [List.getD, KY.out, hnm.out, Option.getD_some]
      · rfl
    · exact (q3.then k15 (fun x hx => .inl (by have := (q2.blk_lt x hx).1; omega))).trans kS
    · exact (kS.block _ (by omega) (by simp; omega)).trans (k15.block _ (by omega) (nlo _ (by omega)))
    · exact (kS.block _ (by omega) (by simp; omega)).trans (k15.block _ (by omega) (nlo _ (by omega)))
  case done =>
    intro W hW hDD
    obtain ⟨a1, c1, q1, q2, q3⟩ := hW
    rw [HLN.out] at q1 q2
    have x0 : W.cell? ⟨w.heap.size + 1, 0, none⟩ = some (.slice a1 n c1) := cell_has q1 (i := 0) rfl
    have Q2 := Lib.hid q2
    have Q3 := Lib.hid q3
    have HDD := Lib.hid hDD
    clear q1 q2 q3 hDD
    go_wp2_with fail
    refine bodyPostR_ret1 (D := w2.heap.size) (v := .slice a1 n c1) (fun w => by simp [results, Tryz.results14, go_sem]) rfl HDD.out fun w' kD => ?_
    rw [HNM.out]
    refine ⟨w2.heap.size + 2, a1, c1, by have := K2.out.size; omega, rfl, Q2.out.keeps kD (fun x hx => by have := (Q2.out.blk_lt x hx).1; simp; omega), ?_⟩
    exact (K2.out.then Q3.out (fun x hx => by simp at hx; subst hx; left; omega)).then kD (fun x hx => by simp at hx; left; have := K2.out.size; omega)
end Go.Proofs.YtajmfenfajbakaaGreat
