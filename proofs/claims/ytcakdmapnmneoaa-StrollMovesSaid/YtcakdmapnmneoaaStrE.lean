/- A stroll goes on (chapter 9). -/
import Derived.Test.YtcakdmapnmneoaaStrD
import Derived.Deep.Cut
namespace Go.Proofs.Ytcakdmapnmneoaa
open Go.RowKit
set_option linter.unusedVariables false
set_option linter.unusedSimpArgs false

def ent9 (x : Ent) : Obj := .cells #[.bool x.live, .int .i64 x.hash, .int .i64 x.key, .int .i64 x.val, .int .i64 x.birth] 36 (0, 0)
theorem ent9_store {W : World} {b : Nat} (y x : Ent) (h : W.heap[b]? = some (ent9 y)) :
    (((((W.setCell ⟨b, 0, none⟩ (.bool x.live)).setCell ⟨b, 1, none⟩ (.int .i64 x.hash)).setCell ⟨b, 2, none⟩ (.int .i64 x.key)).setCell ⟨b, 3, none⟩ (.int .i64 x.val)).setCell ⟨b, 4, none⟩ (.int .i64 x.birth)).heap[b]? = some (ent9 x) ∧ Keeps [b] W (((((W.setCell ⟨b, 0, none⟩ (.bool x.live)).setCell ⟨b, 1, none⟩ (.int .i64 x.hash)).setCell ⟨b, 2, none⟩ (.int .i64 x.key)).setCell ⟨b, 3, none⟩ (.int .i64 x.val)).setCell ⟨b, 4, none⟩ (.int .i64 x.birth)) := by
  unfold ent9 at h
  have h0 := has_setCell h 0 (.bool x.live)
  simp only [List.setIfInBounds_toArray, List.set_cons_zero] at h0
  have h1 := has_setCell h0 1 (.int .i64 x.hash)
  simp only [List.setIfInBounds_toArray, List.set_cons_zero, List.set_cons_succ] at h1
  have h2 := has_setCell h1 2 (.int .i64 x.key)
  simp only [List.setIfInBounds_toArray, List.set_cons_zero, List.set_cons_succ] at h2
  have h3 := has_setCell h2 3 (.int .i64 x.val)
  simp only [List.setIfInBounds_toArray, List.set_cons_zero, List.set_cons_succ] at h3
  have h4 := has_setCell h3 4 (.int .i64 x.birth)
  simp only [List.setIfInBounds_toArray, List.set_cons_zero, List.set_cons_succ] at h4
  exact ⟨h4, ((((((Keeps.refl [b] W).setCell (p := ⟨b, 0, none⟩) (.inr (by simp)) _).setCell (p := ⟨b, 1, none⟩) (.inr (by simp)) _).setCell (p := ⟨b, 2, none⟩) (.inr (by simp)) _).setCell (p := ⟨b, 3, none⟩) (.inr (by simp)) _).setCell (p := ⟨b, 4, none⟩) (.inr (by simp)) _)⟩
theorem ent9_cells {W : World} {b : Nat} {y : Ent} (h : W.heap[b]? = some (ent9 y)) :
    W.cell? ⟨b, 0, none⟩ = some (.bool y.live) ∧ W.cell? ⟨b, 1, none⟩ = some (.int .i64 y.hash) ∧ W.cell? ⟨b, 2, none⟩ = some (.int .i64 y.key) ∧ W.cell? ⟨b, 3, none⟩ = some (.int .i64 y.val) ∧ W.cell? ⟨b, 4, none⟩ = some (.int .i64 y.birth) :=
  ⟨cell_has h (i := 0) rfl, cell_has h (i := 1) rfl, cell_has h (i := 2) rfl, cell_has h (i := 3) rfl, cell_has h (i := 4) rfl⟩
theorem ent9_free {W : World} {b : Nat} {y : Ent} (h : W.heap[b]? = some (ent9 y)) :
    W.frozen? ⟨b, 0, none⟩ = false ∧ W.frozen? ⟨b, 1, none⟩ = false ∧ W.frozen? ⟨b, 2, none⟩ = false ∧ W.frozen? ⟨b, 3, none⟩ = false ∧ W.frozen? ⟨b, 4, none⟩ = false :=
  ⟨free_of_has h 0, free_of_has h 1, free_of_has h 2, free_of_has h 3, free_of_has h 4⟩
theorem str_cells {W : World} {b : Nat} {dp : Value} {size ver : Int} {prs : Value} {bk : Bool} {nx ps : Value} (h : W.heap[b]? = some (strO dp size ver prs bk nx ps)) :
    W.cell? ⟨b, 0, none⟩ = some dp ∧ W.cell? ⟨b, 1, none⟩ = some (.int .i64 size) ∧ W.cell? ⟨b, 2, none⟩ = some (.int .i64 ver) ∧ W.cell? ⟨b, 3, none⟩ = some prs ∧ W.cell? ⟨b, 4, none⟩ = some (.bool bk) ∧ W.cell? ⟨b, 5, none⟩ = some nx ∧ W.cell? ⟨b, 6, none⟩ = some ps :=
  ⟨cell_has h (i := 0) rfl, cell_has h (i := 1) rfl, cell_has h (i := 2) rfl, cell_has h (i := 3) rfl, cell_has h (i := 4) rfl, cell_has h (i := 5) rfl, cell_has h (i := 6) rfl⟩
theorem str_set4 {W : World} {b : Nat} {dp : Value} {size ver : Int} {prs : Value} {bk : Bool} {nx ps : Value} (h : W.heap[b]? = some (strO dp size ver prs bk nx ps)) (bk' : Bool) : (W.setCell ⟨b, 4, none⟩ (.bool bk')).heap[b]? = some (strO dp size ver prs bk' nx ps) ∧ Keeps [b] W (W.setCell ⟨b, 4, none⟩ (.bool bk')) := by
  unfold strO at h
  have h0 := has_setCell h 4 (.bool bk')
  simp only [List.setIfInBounds_toArray, List.set_cons_zero, List.set_cons_succ] at h0
  exact ⟨h0, (Keeps.refl [b] W).setCell (p := ⟨b, 4, none⟩) (.inr (by simp)) _⟩
theorem str_set0 {W : World} {b : Nat} {dp : Value} {size ver : Int} {prs : Value} {bk : Bool} {nx ps : Value} (h : W.heap[b]? = some (strO dp size ver prs bk nx ps)) (dp' : Value) : (W.setCell ⟨b, 0, none⟩ dp').heap[b]? = some (strO dp' size ver prs bk nx ps) ∧ Keeps [b] W (W.setCell ⟨b, 0, none⟩ dp') := by
  unfold strO at h
  have h0 := has_setCell h 0 dp'
  simp only [List.setIfInBounds_toArray, List.set_cons_zero, List.set_cons_succ] at h0
  exact ⟨h0, (Keeps.refl [b] W).setCell (p := ⟨b, 0, none⟩) (.inr (by simp)) _⟩
theorem str_set23 {W : World} {b : Nat} {dp : Value} {size ver : Int} {prs : Value} {bk : Bool} {nx ps : Value} (h : W.heap[b]? = some (strO dp size ver prs bk nx ps)) (ver' : Int) (prs' : Value) : ((W.setCell ⟨b, 2, none⟩ (.int .i64 ver')).setCell ⟨b, 3, none⟩ prs').heap[b]? = some (strO dp size ver' prs' bk nx ps) ∧ Keeps [b] W ((W.setCell ⟨b, 2, none⟩ (.int .i64 ver')).setCell ⟨b, 3, none⟩ prs') := by
  unfold strO at h
  have h0 := has_setCell h 2 (.int .i64 ver')
  simp only [List.setIfInBounds_toArray, List.set_cons_zero, List.set_cons_succ] at h0
  have h1 := has_setCell h0 3 prs'
  simp only [List.setIfInBounds_toArray, List.set_cons_zero, List.set_cons_succ] at h1
  exact ⟨h1, ((Keeps.refl [b] W).setCell (p := ⟨b, 2, none⟩) (.inr (by simp)) _).setCell (p := ⟨b, 3, none⟩) (.inr (by simp)) _⟩
/-- Behind a Next. -/
def StrNP (lo b : Nat) (F : List Nat) (d : Dic) (s : Str) (w : World) (r : Ending) (w' : World) : Prop :=
  ∃ F', r = .returned (.tuple #[(strX d s).agg, .int .i64 (strE d s)]) ∧ StrAt lo b F' (strN d s) w' ∧ Grew F w F' ∧ Keeps [b, b + 2, b + 3] w w'
/-- The stroll has broken, or breaks: b4 its flag. -/
theorem str_brk {lo b : Nat} {F : List Nat} {s : Str} {W W' : World} (h : StrAt lo b F s W) (bk : Bool) (hb : ∀ a c, W.heap[b]? = some (strO (dpV s.dp) s.size s.ver (.slice a s.prs.length c) s.broken (nextF s.back (b + 2) (b + 4) (b + 3)) (passF (b + 2) (b + 3))) → W'.heap[b]? = some (strO (dpV s.dp) s.size s.ver (.slice a s.prs.length c) bk (nextF s.back (b + 2) (b + 4) (b + 3)) (passF (b + 2) (b + 3)))) (k : Keeps [b] W W') : StrAt lo b F { s with broken := bk } W' := by
  obtain ⟨⟨a, c, h1, h2, h3⟩, h4, h5, h6, h7, h8, h9⟩ := h
  refine ⟨⟨a, c, hb a c h1, h2.keeps k (fun x hx hq => ?_), h3⟩, k.has h4 (by simp), k.has h5 (by simp), k.has h6 (by simp), k.has h7 (by simp), h8, fun x hx => by have := h9 x hx; have := k.size; omega⟩
  simp at hq; subst hq
  exact h2.notin h1 (by decide) hx
set_option maxRecDepth 100000 in
set_option maxHeartbeats 2000000 in
theorem snext_stop (db t lo2 lo b : Nat) (S F : List Nat) (mv : Value) (d : Dic) (s : Str) (w : World) (HD : DicAt db t lo2 S mv d w) (HS : StrAt lo b F s w) (hd : s.dp = some db) (hb : s.broken = true ∨ liveN d.T.E ≠ s.size) :
    Calls Try.prog 24 #[.pointer (some ⟨b, 0, none⟩)] w (StrNP lo b F d s w) := by
  have HD0 := Lib.hid HD
  have HS0 := Lib.hid HS
  have HB := Lib.hid hb
  obtain ⟨lr, hlr⟩ : ∃ lr, lr = w.heap.size := ⟨_, rfl⟩
  have HLR := Lib.hid hlr
  obtain ⟨WA, hWA⟩ : ∃ WA, w.alloc (.cells #[.bool false, .int .i64 0, .int .i64 0, .int .i64 0, .int .i64 0] 36) = WA := ⟨_, rfl⟩
  have kb : Keeps [] w WA := by rw [← hWA]; exact (Keeps.refl [] w).alloc _
  have KB := Lib.hid kb
  have BR := Lib.hid (show WA.heap[lr]? = some (ent9 noE) by rw [← hWA, hlr]; exact has_new _ _)
  have HWA := Lib.hid hWA
  have SA := Lib.hid (HS.keeps kb (by simp))
  have DA := Lib.hid (HD.keeps kb (by simp) (by simp))
  have lb : b < w.heap.size := (HS.lo _ (HS.five 0 (by omega))).2
  have LB := Lib.hid lb
  obtain ⟨a, c, h1, _⟩ := SA.out.row
  rw [hd] at h1
  obtain ⟨c0, c1, c2, c3, c4, _, _⟩ := str_cells h1
  have f4 := free_of_has h1 4
  have c0' : WA.cell? ⟨b, 0, none⟩ = some (.pointer (some ⟨db, 0, none⟩)) := c0
  have HDP := Lib.hid hd
  have H1 := Lib.hid h1
  clear HD HS hb hlr hWA kb lb h1 c0 c2 c3 hd
  go_enter Try.func24, Try.ntmps24
  go_upto_region 1 with (fail)
  rw [HWA.out, ← HLR.out]
  go_upto_region 3 with (fail)
  have fin : ∀ W9 W10 : World, W9.heap[b]? = some (strO (dpV s.dp) s.size s.ver (.slice a s.prs.length c) true (nextF s.back (b + 2) (b + 4) (b + 3)) (passF (b + 2) (b + 3))) → Keeps [b] WA W9 → Keeps [lr] W9 W10 → StrNP lo b F d s w (.returned (.tuple #[noE.agg, .int .i64 9])) W10 := fun W9 W10 h9 k9 k10 => by
    have hlr := HLR.out
    have lF := HS0.out.lo
    refine ⟨F, ?_, ?_, Grew.refl _ _, ?_⟩
    · unfold strX strE; rw [if_pos HB.out, if_pos HB.out]
    · unfold strN; rw [if_pos HB.out]
      refine (str_brk SA.out true (fun a' c' h' => ?_) k9).keeps k10 (fun x hx hq => ?_)
      · have h2 := H1.out
        have e0 : dpV s.dp = .pointer (some ⟨db, 0, none⟩) := by rw [HDP.out]; rfl
        rw [e0] at h' h9 ⊢
        rw [H1.out] at h'
        unfold strO at h'
        simp at h'
        rw [← h'.2.1, ← h'.2.2]; exact h9
      · simp at hq; have := lF x hx; omega
    · exact ((((KB.out.mono (by simp) : Keeps [b] w WA).trans k9).then k10 (fun x hx => by simp at hx; left; omega)).mono (by simp) : Keeps [b, b + 2, b + 3] w W10)
  have FIN := Lib.hid fin
  clear fin
  have HW3 : ∀ V : World, V = WA.drew.setCell ⟨b, 4, none⟩ (.bool true) → V.heap[b]? = some (strO (dpV s.dp) s.size s.ver (.slice a s.prs.length c) true (nextF s.back (b + 2) (b + 4) (b + 3)) (passF (b + 2) (b + 3))) ∧ Keeps [b] WA V := fun V hV => by
    have e0 : dpV s.dp = .pointer (some ⟨db, 0, none⟩) := by rw [HDP.out]; rfl
    rw [e0, hV]
    exact ⟨(str_set4 (W := WA.drew) H1.out true).1, ((Keeps.refl [b] WA).drew).trans (str_set4 (W := WA.drew) H1.out true).2⟩
  have HW3' := Lib.hid HW3
  clear HW3
  cases hbk : s.broken
  · have hne : liveN d.T.E ≠ s.size := by rcases HB.out with h | h; rw [hbk] at h; cases h; exact h
    rw [hbk] at c4
    obtain ⟨ln, hln⟩ := ex_hid (liveN d.T.E)
    obtain ⟨sz, hsz⟩ := ex_hid s.size
    rw [← hsz.out] at c1
    have hne2 : ((ln : Int) != (sz : Int)) = true := by rw [hln.out, hsz.out]; simp; omega
    clear hbk hne
    refine wp_regionG (fun w' => w'.cell? ⟨b, 4, none⟩ = some (.bool false) ∧ w'.cell? ⟨b, 0, none⟩ = some (.pointer (some ⟨db, 0, none⟩)) ∧ w'.cell? ⟨b, 1, none⟩ = some (.int .i64 sz)) 19 (by kernel_rfl) ⟨c4, c0', c1⟩ (fun hF => ?_)
    refine wpAnyG_takeY (i := 0) (v := ?_) rfl (by kernel_rfl) (by decide +kernel) (by decide +kernel) (by decide +kernel) (fun _ _ _ h => h) (by kernel_rfl) ?_ (by assumption) ?_
    rotate_left
    · (intro wz; go_simp; with_reducible rfl)
    try simp only [Act.put, List.setIfInBounds_toArray, List.set_cons_zero, List.set_cons_succ]
    refine wpAnyG_takeY (i := 1) (v := ?_) rfl (by kernel_rfl) (by decide +kernel) (by decide +kernel) (by decide +kernel) (fun _ _ _ h => h) (by kernel_rfl) ?_ (by assumption) ?_
    rotate_left
    · (intro wz; go_simp; with_reducible rfl)
    try simp only [Act.put, List.setIfInBounds_toArray, List.set_cons_zero, List.set_cons_succ]
    refine wpAnyG_takeY (i := 2) (v := ?_) rfl (by kernel_rfl) (by decide +kernel) (by decide +kernel) (by decide +kernel) (fun _ _ _ h => h) (by kernel_rfl) ?_ (by assumption) ?_
    rotate_left
    · (intro wz; go_simp; with_reducible rfl)
    try simp only [Act.put, List.setIfInBounds_toArray, List.set_cons_zero, List.set_cons_succ]
    refine wpAnyG_takeY (i := 3) (v := ?_) rfl (by kernel_rfl) (by decide +kernel) (by decide +kernel) (by decide +kernel) (fun _ _ _ h => h) (by kernel_rfl) ?_ (by assumption) ?_
    rotate_left
    · (intro wz; go_simp; with_reducible rfl)
    try simp only [Act.put, List.setIfInBounds_toArray, List.set_cons_zero, List.set_cons_succ]
    refine wpAnyG_take (i := 4) (v := ?_) rfl (by kernel_rfl) (by decide +kernel) (by decide +kernel) (by decide +kernel) (by decide +kernel) (by rfl) (fun _ _ _ h => h) (by kernel_rfl) ?_ (by assumption) ?_
    rotate_left
    · (intro wz hSw; (try dsimp only at hSw); go_simp; with_reducible rfl)
    try simp only [Act.put, List.setIfInBounds_toArray, List.set_cons_zero, List.set_cons_succ]
    refine wpAnyG_takeY (i := 5) (v := ?_) rfl (by kernel_rfl) (by decide +kernel) (by decide +kernel) (by decide +kernel) (fun _ _ _ h => h) (by kernel_rfl) ?_ (by assumption) ?_
    rotate_left
    · (intro wz; go_simp; with_reducible rfl)
    try simp only [Act.put, List.setIfInBounds_toArray, List.set_cons_zero, List.set_cons_succ]
    refine wpAnyG_takeY (i := 6) (v := ?_) rfl (by kernel_rfl) (by decide +kernel) (by decide +kernel) (by decide +kernel) (fun _ _ _ h => h) (by kernel_rfl) ?_ (by assumption) ?_
    rotate_left
    · (intro wz; go_simp; with_reducible rfl)
    try simp only [Act.put, List.setIfInBounds_toArray, List.set_cons_zero, List.set_cons_succ]
    refine wpAnyG_takeY (i := 7) (v := ?_) rfl (by kernel_rfl) (by decide +kernel) (by decide +kernel) (by decide +kernel) (fun _ _ _ h => h) (by kernel_rfl) ?_ (by assumption) ?_
    rotate_left
    · (intro wz; go_simp; with_reducible rfl)
    try simp only [Act.put, List.setIfInBounds_toArray, List.set_cons_zero, List.set_cons_succ]
    refine wpAnyG_takeY (i := 8) (v := ?_) rfl (by kernel_rfl) (by decide +kernel) (by decide +kernel) (by decide +kernel) (fun _ _ _ h => h) (by kernel_rfl) ?_ (by assumption) ?_
    rotate_left
    · (intro wz; go_simp; with_reducible rfl)
    try simp only [Act.put, List.setIfInBounds_toArray, List.set_cons_zero, List.set_cons_succ]
    refine wpAnyG_take (i := 9) (v := ?_) rfl (by kernel_rfl) (by decide +kernel) (by decide +kernel) (by decide +kernel) (by decide +kernel) (by rfl) (fun _ _ _ h => h) (by kernel_rfl) ?_ (by assumption) ?_
    rotate_left
    · (intro wz hSw; (try dsimp only at hSw); go_simp; with_reducible rfl)
    try simp only [Act.put, List.setIfInBounds_toArray, List.set_cons_zero, List.set_cons_succ]
    refine wpAnyG_takeY (i := 11) (v := ?_) rfl (by kernel_rfl) (by decide +kernel) (by decide +kernel) (by decide +kernel) (fun _ _ _ h => h) (by kernel_rfl) ?_ (by assumption) ?_
    rotate_left
    · (intro wz; go_simp; with_reducible rfl)
    try simp only [Act.put, List.setIfInBounds_toArray, List.set_cons_zero, List.set_cons_succ]
    refine wpAnyG_takeY (i := 12) (v := ?_) rfl (by kernel_rfl) (by decide +kernel) (by decide +kernel) (by decide +kernel) (fun _ _ _ h => h) (by kernel_rfl) ?_ (by assumption) ?_
    rotate_left
    · (intro wz; go_simp; with_reducible rfl)
    try simp only [Act.put, List.setIfInBounds_toArray, List.set_cons_zero, List.set_cons_succ]
    refine wpAnyG_takeY (i := 13) (v := ?_) rfl (by kernel_rfl) (by decide +kernel) (by decide +kernel) (by decide +kernel) (fun _ _ _ h => h) (by kernel_rfl) ?_ (by assumption) ?_
    rotate_left
    · (intro wz; go_simp; with_reducible rfl)
    try simp only [Act.put, List.setIfInBounds_toArray, List.set_cons_zero, List.set_cons_succ]
    refine wpAnyG_take (i := 14) (v := ?_) rfl (by kernel_rfl) (by decide +kernel) (by decide +kernel) (by decide +kernel) (by decide +kernel) (by rfl) (fun _ _ _ h => h) (by kernel_rfl) ?_ (by assumption) ?_
    rotate_left
    · (intro wz hSw; (try dsimp only at hSw); go_simp; with_reducible rfl)
    try simp only [Act.put, List.setIfInBounds_toArray, List.set_cons_zero, List.set_cons_succ]
    refine wpAnyG_one (i := 10) rfl (by kernel_rfl) (by kernel_rfl) (fun K hK => ?_)
    have HK := Lib.hid hK
    clear hK
    go_simp
    refine (dlen_any db t lo2 S mv d WA.drew (DA.out.keeps (Keeps.refl [] WA).drew (by simp) (by simp))).mono ?_
    rintro r w2 ⟨rfl, rfl⟩
    rw [← hln.out]
    refine HK.out _ _ hF ?_
    clear HK K
    try simp only [Act.put, List.setIfInBounds_toArray, List.set_cons_zero, List.set_cons_succ]
    refine wpAnyG_takeY (i := 15) (v := ?_) rfl (by kernel_rfl) (by decide +kernel) (by decide +kernel) (by decide +kernel) (fun _ _ _ h => h) (by kernel_rfl) ?_ (by assumption) ?_
    rotate_left
    · (intro wz; go_simp; with_reducible rfl)
    try simp only [Act.put, List.setIfInBounds_toArray, List.set_cons_zero, List.set_cons_succ]
    refine wpAnyG_takeY (i := 16) (v := ?_) rfl (by kernel_rfl) (by decide +kernel) (by decide +kernel) (by decide +kernel) (fun _ _ _ h => h) (by kernel_rfl) ?_ (by assumption) ?_
    rotate_left
    · (intro wz; go_simp; with_reducible rfl)
    try simp only [Act.put, List.setIfInBounds_toArray, List.set_cons_zero, List.set_cons_succ]
    refine wpAnyG_takeY (i := 17) (v := ?_) rfl (by kernel_rfl) (by decide +kernel) (by decide +kernel) (by decide +kernel) (fun _ _ _ h => h) (by kernel_rfl) ?_ (by assumption) ?_
    rotate_left
    · (intro wz; go_simp; with_reducible rfl)
    try simp only [Act.put, List.setIfInBounds_toArray, List.set_cons_zero, List.set_cons_succ]
    refine wpAnyG_takeY (i := 18) (v := ?_) rfl (by kernel_rfl) (by decide +kernel) (by decide +kernel) (by decide +kernel) (fun _ _ _ h => h) (by kernel_rfl) ?_ (by assumption) ?_
    rotate_left
    · (intro wz; go_simp; with_reducible rfl)
    try simp only [Act.put, List.setIfInBounds_toArray, List.set_cons_zero, List.set_cons_succ]
    refine wpAnyG_last rfl (by kernel_rfl) (by rfl) (by rfl) (fun K hK => ?_)
    have HK := Lib.hid hK
    clear hK
    go_simp
    refine HK.out _ _ ?_
    clear HK K hF
    refine wpAnyG_done (by kernel_rfl) ?_ _
    go_simp
    go_upto_region 4 with (fail)
    refine wp_gen (fun V => V.heap[b]? = some (strO (dpV s.dp) s.size s.ver (.slice a s.prs.length c) true (nextF s.back (b + 2) (b + 4) (b + 3)) (passF (b + 2) (b + 3))) ∧ Keeps [b] WA V) (HW3'.out _ rfl) ?_
    rintro W3 ⟨b3, k3⟩
    have x4 : W3.cell? ⟨b, 4, none⟩ = some (.bool true) := cell_has b3 (i := 4) rfl
    have r3 := k3.has BR.out (by simp; have := LB.out; have := HLR.out; omega)
    obtain ⟨t0, t1, t2, t3, t4⟩ := ent9_cells r3
    obtain ⟨u0, u1, u2, u3, u4⟩ := ent9_free r3
    have G1 := Lib.hid (fun W10 => FIN.out W3 W10 b3 k3)
    have R3 := Lib.hid r3
    clear b3 k3 r3 c4 c0' c1 hne2 f4
    go_wp2_with fail
    obtain ⟨v1, v2⟩ := ent9_store noE noE R3.out
    have rc := cell_of_has v1
    simp only [noE] at rc
    exact bodyPost_ret (v := .tuple #[noE.agg, .int .i64 9]) (by simp [results, Try.results24, go_sem, Ent.agg, noE, rc]) rfl (G1.out _ v2)
  · rw [hbk] at c4
    clear hbk
    refine wp_regionG (fun w' => w'.cell? ⟨b, 4, none⟩ = some (.bool true)) 19 (by kernel_rfl) c4 (fun hF => ?_)
    refine wpAnyG_takeY (i := 0) (v := ?_) rfl (by kernel_rfl) (by decide +kernel) (by decide +kernel) (by decide +kernel) (fun _ _ _ h => h) (by kernel_rfl) ?_ (by assumption) ?_
    rotate_left
    · (intro wz; go_simp; with_reducible rfl)
    try simp only [Act.put, List.setIfInBounds_toArray, List.set_cons_zero, List.set_cons_succ]
    refine wpAnyG_takeY (i := 1) (v := ?_) rfl (by kernel_rfl) (by decide +kernel) (by decide +kernel) (by decide +kernel) (fun _ _ _ h => h) (by kernel_rfl) ?_ (by assumption) ?_
    rotate_left
    · (intro wz; go_simp; with_reducible rfl)
    try simp only [Act.put, List.setIfInBounds_toArray, List.set_cons_zero, List.set_cons_succ]
    refine wpAnyG_takeY (i := 2) (v := ?_) rfl (by kernel_rfl) (by decide +kernel) (by decide +kernel) (by decide +kernel) (fun _ _ _ h => h) (by kernel_rfl) ?_ (by assumption) ?_
    rotate_left
    · (intro wz; go_simp; with_reducible rfl)
    try simp only [Act.put, List.setIfInBounds_toArray, List.set_cons_zero, List.set_cons_succ]
    refine wpAnyG_takeY (i := 3) (v := ?_) rfl (by kernel_rfl) (by decide +kernel) (by decide +kernel) (by decide +kernel) (fun _ _ _ h => h) (by kernel_rfl) ?_ (by assumption) ?_
    rotate_left
    · (intro wz; go_simp; with_reducible rfl)
    try simp only [Act.put, List.setIfInBounds_toArray, List.set_cons_zero, List.set_cons_succ]
    refine wpAnyG_take (i := 4) (v := ?_) rfl (by kernel_rfl) (by decide +kernel) (by decide +kernel) (by decide +kernel) (by decide +kernel) (by rfl) (fun _ _ _ h => h) (by kernel_rfl) ?_ (by assumption) ?_
    rotate_left
    · (intro wz hSw; (try dsimp only at hSw); go_simp; with_reducible rfl)
    try simp only [Act.put, List.setIfInBounds_toArray, List.set_cons_zero, List.set_cons_succ]
    refine wpAnyG_takeY (i := 5) (v := ?_) rfl (by kernel_rfl) (by decide +kernel) (by decide +kernel) (by decide +kernel) (fun _ _ _ h => h) (by kernel_rfl) ?_ (by assumption) ?_
    rotate_left
    · (intro wz; go_simp; with_reducible rfl)
    try simp only [Act.put, List.setIfInBounds_toArray, List.set_cons_zero, List.set_cons_succ]
    refine wpAnyG_takeU (i := 6) rfl (by kernel_rfl) (by decide +kernel) (by decide +kernel) (by decide +kernel) (fun _ _ _ h => h) (by kernel_rfl) (by assumption) ?_
    try simp only [Act.put, List.setIfInBounds_toArray, List.set_cons_zero, List.set_cons_succ]
    refine wpAnyG_takeU (i := 7) rfl (by kernel_rfl) (by decide +kernel) (by decide +kernel) (by decide +kernel) (fun _ _ _ h => h) (by kernel_rfl) (by assumption) ?_
    try simp only [Act.put, List.setIfInBounds_toArray, List.set_cons_zero, List.set_cons_succ]
    refine wpAnyG_takeU (i := 8) rfl (by kernel_rfl) (by decide +kernel) (by decide +kernel) (by decide +kernel) (fun _ _ _ h => h) (by kernel_rfl) (by assumption) ?_
    try simp only [Act.put, List.setIfInBounds_toArray, List.set_cons_zero, List.set_cons_succ]
    refine wpAnyG_takeU (i := 9) rfl (by kernel_rfl) (by decide +kernel) (by decide +kernel) (by decide +kernel) (fun _ _ _ h => h) (by kernel_rfl) (by assumption) ?_
    try simp only [Act.put, List.setIfInBounds_toArray, List.set_cons_zero, List.set_cons_succ]
    refine wpAnyG_takeU (i := 10) rfl (by kernel_rfl) (by decide +kernel) (by decide +kernel) (by decide +kernel) (fun _ _ _ h => h) (by kernel_rfl) (by assumption) ?_
    try simp only [Act.put, List.setIfInBounds_toArray, List.set_cons_zero, List.set_cons_succ]
    refine wpAnyG_takeU (i := 11) rfl (by kernel_rfl) (by decide +kernel) (by decide +kernel) (by decide +kernel) (fun _ _ _ h => h) (by kernel_rfl) (by assumption) ?_
    try simp only [Act.put, List.setIfInBounds_toArray, List.set_cons_zero, List.set_cons_succ]
    refine wpAnyG_takeU (i := 12) rfl (by kernel_rfl) (by decide +kernel) (by decide +kernel) (by decide +kernel) (fun _ _ _ h => h) (by kernel_rfl) (by assumption) ?_
    try simp only [Act.put, List.setIfInBounds_toArray, List.set_cons_zero, List.set_cons_succ]
    refine wpAnyG_takeU (i := 13) rfl (by kernel_rfl) (by decide +kernel) (by decide +kernel) (by decide +kernel) (fun _ _ _ h => h) (by kernel_rfl) (by assumption) ?_
    try simp only [Act.put, List.setIfInBounds_toArray, List.set_cons_zero, List.set_cons_succ]
    refine wpAnyG_takeU (i := 14) rfl (by kernel_rfl) (by decide +kernel) (by decide +kernel) (by decide +kernel) (fun _ _ _ h => h) (by kernel_rfl) (by assumption) ?_
    try simp only [Act.put, List.setIfInBounds_toArray, List.set_cons_zero, List.set_cons_succ]
    refine wpAnyG_takeU (i := 15) rfl (by kernel_rfl) (by decide +kernel) (by decide +kernel) (by decide +kernel) (fun _ _ _ h => h) (by kernel_rfl) (by assumption) ?_
    try simp only [Act.put, List.setIfInBounds_toArray, List.set_cons_zero, List.set_cons_succ]
    refine wpAnyG_takeY (i := 16) (v := ?_) rfl (by kernel_rfl) (by decide +kernel) (by decide +kernel) (by decide +kernel) (fun _ _ _ h => h) (by kernel_rfl) ?_ (by assumption) ?_
    rotate_left
    · (intro wz; go_simp; with_reducible rfl)
    try simp only [Act.put, List.setIfInBounds_toArray, List.set_cons_zero, List.set_cons_succ]
    refine wpAnyG_takeY (i := 17) (v := ?_) rfl (by kernel_rfl) (by decide +kernel) (by decide +kernel) (by decide +kernel) (fun _ _ _ h => h) (by kernel_rfl) ?_ (by assumption) ?_
    rotate_left
    · (intro wz; go_simp; with_reducible rfl)
    try simp only [Act.put, List.setIfInBounds_toArray, List.set_cons_zero, List.set_cons_succ]
    refine wpAnyG_takeY (i := 18) (v := ?_) rfl (by kernel_rfl) (by decide +kernel) (by decide +kernel) (by decide +kernel) (fun _ _ _ h => h) (by kernel_rfl) ?_ (by assumption) ?_
    rotate_left
    · (intro wz; go_simp; with_reducible rfl)
    try simp only [Act.put, List.setIfInBounds_toArray, List.set_cons_zero, List.set_cons_succ]
    refine wpAnyG_last rfl (by kernel_rfl) (by rfl) (by rfl) (fun K hK => ?_)
    have HK := Lib.hid hK
    clear hK
    go_simp
    refine HK.out _ _ ?_
    clear HK K hF
    refine wpAnyG_done (by kernel_rfl) ?_ _
    go_simp
    go_upto_region 4 with (fail)
    refine wp_gen (fun V => V.heap[b]? = some (strO (dpV s.dp) s.size s.ver (.slice a s.prs.length c) true (nextF s.back (b + 2) (b + 4) (b + 3)) (passF (b + 2) (b + 3))) ∧ Keeps [b] WA V) (HW3'.out _ rfl) ?_
    rintro W3 ⟨b3, k3⟩
    have x4 : W3.cell? ⟨b, 4, none⟩ = some (.bool true) := cell_has b3 (i := 4) rfl
    have r3 := k3.has BR.out (by simp; have := LB.out; have := HLR.out; omega)
    obtain ⟨t0, t1, t2, t3, t4⟩ := ent9_cells r3
    obtain ⟨u0, u1, u2, u3, u4⟩ := ent9_free r3
    have G1 := Lib.hid (fun W10 => FIN.out W3 W10 b3 k3)
    have R3 := Lib.hid r3
    clear b3 k3 r3 c4 c0' c1 f4
    go_wp2_with fail
    obtain ⟨v1, v2⟩ := ent9_store noE noE R3.out
    have rc := cell_of_has v1
    simp only [noE] at rc
    exact bodyPost_ret (v := .tuple #[noE.agg, .int .i64 9]) (by simp [results, Try.results24, go_sem, Ent.agg, noE, rc]) rfl (G1.out _ v2)
end Go.Proofs.Ytcakdmapnmneoaa
