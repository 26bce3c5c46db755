/- All that a table is (chapter 7). -/
import Derived.Test.YtajcbghhpjpmhaaTabGrow
import Derived.Test.YtajcbghhpjpmhaaTabRow
import Derived.Test.YtajcbghhpjpmhaaCellIter
import Derived.Test.YtajcbghhpjpmhaaTabAddH
import Derived.Deep.RegionHeld3
import Derived.Deep.AppendLies
import Derived.Deep.Cut
import Derived.Deep.CutRange
import Derived.Deep.DeepMust
namespace Go.Proofs.Ytajcbghhpjpmhaa
open Go.RowKit Go.Shelf
set_option linter.unusedVariables false
attribute [local go_sem] Oper.semAt_some

def sightAgg (T : Tab) (c e : Value) : Value := .agg #[.int .i64 T.L, .int .i64 (wdOf T.L), c, e, .int .i64 (liveN T.E : Nat), .int .i64 T.births, .int .i64 T.made]
def sightO (T : Tab) (c e : Value) : Obj := .cells #[.int .i64 T.L, .int .i64 (wdOf T.L), c, e, .int .i64 (liveN T.E : Nat), .int .i64 T.births, .int .i64 T.made] 29 (0, 0)
theorem sight_store {W : World} {b : Nat} (T : Tab) (c e : Value) (h : W.heap[b]? = some (.cells #[.int .i64 0, .int .i64 0, .slice none 0 0, .slice none 0 0, .int .i64 0, .int .i64 0, .int .i64 0] 29 (0, 0))) :
    (((((((W.setCell ⟨b, 0, none⟩ (.int .i64 T.L)).setCell ⟨b, 1, none⟩ (.int .i64 (wdOf T.L))).setCell ⟨b, 2, none⟩ c).setCell ⟨b, 3, none⟩ e).setCell ⟨b, 4, none⟩ (.int .i64 (liveN T.E : Nat))).setCell ⟨b, 5, none⟩ (.int .i64 T.births)).setCell ⟨b, 6, none⟩ (.int .i64 T.made)).heap[b]? = some (sightO T c e) := by
  have h0 := has_setCell h 0 (.int .i64 T.L)
  simp only [List.setIfInBounds_toArray, List.set_cons_zero] at h0
  have h1 := has_setCell h0 1 (.int .i64 (wdOf T.L))
  simp only [List.setIfInBounds_toArray, List.set_cons_zero, List.set_cons_succ] at h1
  have h2 := has_setCell h1 2 c
  simp only [List.setIfInBounds_toArray, List.set_cons_zero, List.set_cons_succ] at h2
  have h3 := has_setCell h2 3 e
  simp only [List.setIfInBounds_toArray, List.set_cons_zero, List.set_cons_succ] at h3
  have h4 := has_setCell h3 4 (.int .i64 (liveN T.E : Nat))
  simp only [List.setIfInBounds_toArray, List.set_cons_zero, List.set_cons_succ] at h4
  have h5 := has_setCell h4 5 (.int .i64 T.births)
  simp only [List.setIfInBounds_toArray, List.set_cons_zero, List.set_cons_succ] at h5
  have h6 := has_setCell h5 6 (.int .i64 T.made)
  simp only [List.setIfInBounds_toArray, List.set_cons_zero, List.set_cons_succ] at h6
  exact h6
theorem ent_copy (lo lo2 cc : Nat) (a : Option Addr) (E : List Ent) (W : World) (h : EntRow lo a cc E W) (hl : E.length ≤ 1000000) (hlo : lo2 ≤ W.heap.size) :
    ∃ ae ce W3, (Builtin.append_ #[25, 25] 25 #[.slice none 0 0, .slice a E.length cc]).run Try.prog W = .ok (.slice ae E.length ce) W3 ∧ EntRow lo2 ae ce E W3 ∧ Keeps [] W W3 := by
  obtain ⟨j0, hi, hz0, hz1, hz2⟩ := info_parts infoEnt5
  cases E with
  | nil =>
    refine ⟨none, 0, W, ?_, EntRow.nil _ _, Keeps.refl _ _⟩
    cases a with
    | none => simp [Builtin.append_, run_underlying Try.underlying25, sizeOf, typeInfo, hi, Builtin.lenOf, Builtin.firstCells]
    | some p =>
      have hl0 := run_loadCells_list (P := Try.prog) W p [] (fun j v hv => by simp at hv)
      simp only [List.length_nil] at hl0
      simp [Builtin.append_, run_underlying Try.underlying25, sizeOf, typeInfo, hi, Builtin.lenOf, Builtin.firstCells, hl0]
  | cons x E =>
    obtain ⟨g, rfl⟩ := h.shape (by simp)
    obtain ⟨g', cap, w', r1, r2, r3, r4, r5⟩ := run_append_lies (P := Try.prog) W 25 25 lo2 32 j0 noE.agg 5 40 Try.underlying25 hi hz0 hz1 hz2 rfl (by decide) (.slice none 0 0) 0 [] (World.ownsRow_nil _ _ _ _) ⟨g, 0, none⟩ (x :: E).length cc (flatE (x :: E)) (flatE_len _)
      (fun j u hj => by
        have hlt := (List.getElem?_eq_some_iff.1 hj).1
        rw [flatE_len] at hlt
        rw [show (⟨g, 0, none⟩ : Addr).add j = ⟨g, j, none⟩ by unfold Addr.add; split <;> simp_all, World.ownsRow.cellAt h j hlt]
        exact hj) (by intro v hv; simp only [flatE, List.mem_flatMap] at hv; obtain ⟨y, _, hy⟩ := hv; exact y.one v hy) (by simp) (by unfold maxLen; omega) (by omega) hlo _ rfl
    simp only [Nat.zero_add, List.nil_append] at r1 r2
    exact ⟨some ⟨g', 0, none⟩, cap, w', r1, r2, ⟨r3.os, r3.tape, r3.output, r3.size, fun k hk _ => r3.block k hk (by simp [Value.ownBlock])⟩⟩
/-- A sight's rows. -/
def SightP (T : Tab) (w : World) (r : Ending) (w' : World) : Prop :=
  ∃ a c ae ce, r = .returned (sightAgg T (.slice a (2 ^ T.L) c) (.slice ae T.E.length ce)) ∧ ValRow 3 w.heap.size a (2 ^ T.L) c (fun k => .int .i64 (T.V k)) w' ∧ EntRow w.heap.size ae ce T.E w' ∧ Below w.heap.size w w'

set_option maxRecDepth 100000 in
set_option maxHeartbeats 4000000 in
theorem sight_any (t lo : Nat) (S : List Nat) (m : Value) (T : Tab) (w : World) (H : TabAt t lo S m T w) (hL : T.L ≤ 20) (hF : Fits (2 ^ T.L) T.V) (hl : T.E.length ≤ 1000000) :
    Calls Try.prog 15 #[.pointer (some ⟨t, 0, none⟩)] w (SightP T w) := by
  have HH := Lib.hid H
  have HF := Lib.hid hF
  obtain ⟨a, cc, cb, cr, h1, h2, h3, h4, h5, h6, h7, h8⟩ := H
  have H1 := Lib.hid h1
  have H2 := Lib.hid h2
  have H3 := Lib.hid h3
  have H48 := Lib.hid (And.intro h4 (And.intro h5 (And.intro h6 (And.intro h7 h8))))
  clear hF h1 h2 h3 h4 h5 h6 h7 h8
  refine calls_of_wp_ranges Try.func15 rfl ?_
  simp only [Try.ntmps15, List.size_toArray, List.length_cons, List.length_nil, Nat.reduceAdd, Nat.reduceSub, Array.replicate_succ, Array.replicate_zero, List.push_toArray, List.append_toArray, List.nil_append, List.cons_append]
  go_wp2_with fail
  refine (begin_any t lo S m T.E T.V T.L (liveN T.E) T.births T.made T.turns _ (HH.out.keeps ((Keeps.refl [] w).alloc _) (by simp))).mono ?_
  rintro r w0 ⟨rfl, rfl⟩
  obtain ⟨WA, hWA⟩ : ∃ WA, w.alloc (.cells #[.int .i64 0, .int .i64 0, .slice none 0 0, .slice none 0 0, .int .i64 0, .int .i64 0, .int .i64 0] 29) = WA := ⟨_, rfl⟩
  have kA : Keeps [] w WA := by rw [← hWA]; exact (Keeps.refl [] w).alloc _
  have bA : WA.heap[w.heap.size]? = some (.cells #[.int .i64 0, .int .i64 0, .slice none 0 0, .slice none 0 0, .int .i64 0, .int .i64 0, .int .i64 0] 29 (0, 0)) := by rw [← hWA]; exact has_new _ _
  have zA : WA.heap.size = w.heap.size + 1 := by rw [← hWA]; simp
  rw [hWA]
  have hT := kA.has H1.out (by simp)
  have e2 : WA.cell? ⟨t, 2, none⟩ = some (.pointer (some ⟨cb, 0, none⟩)) := cell_has hT (i := 2) rfl
  have e3 : WA.cell? ⟨t, 3, none⟩ = some (.int .i64 (liveN T.E : Nat)) := cell_has hT (i := 3) rfl
  have e4 : WA.cell? ⟨t, 4, none⟩ = some (.int .i64 T.births) := cell_has hT (i := 4) rfl
  have e5 : WA.cell? ⟨t, 5, none⟩ = some (.int .i64 T.made) := cell_has hT (i := 5) rfl
  have KA := Lib.hid kA
  have BA := Lib.hid bA
  have HC := Lib.hid (H3.out.keeps kA (by simp) (by simp))
  have nt0 := lt_of_block H1.out
  have nt1 : ¬ w.heap.size + 1 = t := by omega
  have nt2 : ¬ t = w.heap.size + 1 := by omega
  have n2 := World.new_ne WA ⟨t, 2, none⟩ e2
  have n3 := World.new_ne WA ⟨t, 3, none⟩ e3
  have n4 := World.new_ne WA ⟨t, 4, none⟩ e4
  have n5 := World.new_ne WA ⟨t, 5, none⟩ e5
  obtain ⟨WB, hWB⟩ : ∃ WB, WA.alloc (.cells #[.int .i64 0, .int .i64 0, .slice none 0 0, .slice none 0 0, .int .i64 0, .int .i64 0, .int .i64 0] 29) = WB := ⟨_, rfl⟩
  have kB : Keeps [] WA WB := by rw [← hWB]; exact (Keeps.refl [] WA).alloc _
  have bB : WB.heap[w.heap.size + 1]? = some (.cells #[.int .i64 0, .int .i64 0, .slice none 0 0, .slice none 0 0, .int .i64 0, .int .i64 0, .int .i64 0] 29 (0, 0)) := by rw [← hWB]; exact has_new' _ _ zA.symm
  have KB := Lib.hid kB
  have HWB := Lib.hid hWB
  have BB := Lib.hid bB
  have HCB := Lib.hid (HC.out.keeps kB (by simp) (by simp))
  have DB : WB.drew = (WA.alloc (.cells #[.int .i64 0, .int .i64 0, .slice none 0 0, .slice none 0 0, .int .i64 0, .int .i64 0, .int .i64 0] 29)).drew := by rw [hWB]
  have DBH := Lib.hid DB
  clear hWA kA bA hT kB bB hWB DB
  go_wp2_with fail
  go_cut [3] from 11 to 33 (fun z3 wx => ∃ D, z3 = .pointer (some ⟨D, 0, none⟩) ∧ wx.heap[D]? = some (sightO T (.slice none 0 0) (.slice none 0 0)) ∧ Keeps [] WA wx ∧ WA.heap.size ≤ D)
  case first =>
    go_region_held3 (fun w' => w'.cell? ⟨t, 2, none⟩ = some (.pointer (some ⟨cb, 0, none⟩)) ∧ w'.cell? ⟨t, 3, none⟩ = some (.int .i64 (liveN T.E : Nat)) ∧ w'.cell? ⟨t, 4, none⟩ = some (.int .i64 T.births) ∧ w'.cell? ⟨t, 5, none⟩ = some (.int .i64 T.made)) (go_keep)
      (first
        | (go_at_call 42; refine (log_any cb cr T.L (2 ^ T.L) T.V _ (HC.out.keeps ((Keeps.refl [] WA).drew) (by simp) (by simp))).mono ?_; rintro r w1 ⟨rfl, rfl⟩)
        | (go_at_call 42; refine (log_any cb cr T.L (2 ^ T.L) T.V _ (HC.out.keeps (((Keeps.refl [] WA).alloc _).drew) (by simp) (by simp))).mono ?_; rintro r w1 ⟨rfl, rfl⟩)
        | (go_at_call 43; refine (width_any cb cr T.L (2 ^ T.L) T.V WA.drew (HC.out.keeps ((Keeps.refl [] WA).drew) (by simp) (by simp))).mono ?_; rintro r w1 ⟨rfl, b1⟩; have k1 := Below.keeps b1 []; have p2 := k1.cell (w := WA.drew) e2 (by simp); have p3 := k1.cell (w := WA.drew) e3 (by simp); have p4 := k1.cell (w := WA.drew) e4 (by simp); have p5 := k1.cell (w := WA.drew) e5 (by simp); have K1 := Lib.hid (((Keeps.refl [] WA).drew).trans k1); have n2 := World.new_ne w1 ⟨t, 2, none⟩ p2; have n3 := World.new_ne w1 ⟨t, 3, none⟩ p3; have n4 := World.new_ne w1 ⟨t, 4, none⟩ p4; have n5 := World.new_ne w1 ⟨t, 5, none⟩ p5; clear b1 k1)
        | (go_at_call 43; rw [← DBH.out]; refine (width_any cb cr T.L (2 ^ T.L) T.V _ (HCB.out.keeps (Keeps.refl [] WB).drew (by simp) (by simp))).mono ?_; rintro r w1 ⟨rfl, b1⟩; have k1 := Below.keeps b1 []; have p2 := k1.cell (w := WB.drew) (KB.out.cell e2 (by simp)) (by simp); have p3 := k1.cell (w := WB.drew) (KB.out.cell e3 (by simp)) (by simp); have p4 := k1.cell (w := WB.drew) (KB.out.cell e4 (by simp)) (by simp); have p5 := k1.cell (w := WB.drew) (KB.out.cell e5 (by simp)) (by simp); have pb := k1.has (has_drew BB.out) (by simp); have K1 := Lib.hid (KB.out.drew.trans k1); have u0 := cell_has pb (i := 0) rfl; have u1 := cell_has pb (i := 1) rfl; have u2 := cell_has pb (i := 2) rfl; have u3 := cell_has pb (i := 3) rfl; have u4 := cell_has pb (i := 4) rfl; have u5 := cell_has pb (i := 5) rfl; have u6 := cell_has pb (i := 6) rfl; have v0 := free_of_has pb 0; have v1 := free_of_has pb 1; have v2 := free_of_has pb 2; have v3 := free_of_has pb 3; have v4 := free_of_has pb 4; have v5 := free_of_has pb 5; have v6 := free_of_has pb 6; have PB := Lib.hid pb; clear b1 k1 pb))
    all_goals go_wp2_with fail
    all_goals go_meet
    · refine ⟨w1.heap.size, rfl, ?_, K1.out.alloc _, K1.out.size⟩
      exact has_new w1 _
    all_goals
      refine ⟨w.heap.size + 1, rfl, sight_store T _ _ PB.out, ?_, by omega⟩
      exact ((((((K1.out.setCell (.inl (by simp [zA])) _).setCell (.inl (by simp [zA])) _).setCell (.inl (by simp [zA])) _).setCell (.inl (by simp [zA])) _).setCell (.inl (by simp [zA])) _).setCell (.inl (by simp [zA])) _).setCell (.inl (by simp [zA])) _
  case rest =>
    obtain ⟨D, rfl, hD, kC, zD⟩ := hcut
    have KC := Lib.hid (KA.out.trans kC)
    have HD := Lib.hid hD
    have x2 := kC.cell e2 (by simp)
    have BA2 := Lib.hid (kC.has BA.out (by simp))
    clear hD kC e2 e3 e4 e5 n2 n3 n4 n5 nt0 nt1 nt2
    go_wp2_with fail
    refine (allc_any cb cr T.L (2 ^ T.L) T.V _ (H3.out.keeps KC.out (by simp) (by simp)) HF.out (pow_le hL)).mono ?_
    rintro r w2 ⟨bl, gl, rfl, hbl, hgl, zb, zg, b2⟩
    have k2 := Below.keeps b2 []
    have hD2 := k2.has HD.out (by simp)
    have HD2 := Lib.hid hD2
    have K2 := Lib.hid (KC.out.trans k2)
    have BA3 := Lib.hid (k2.has BA2.out (by simp))
    have PL := Lib.hid (And.intro hbl hgl)
    have ZZ := Lib.hid (show w.heap.size + 1 ≤ D ∧ D < wc.heap.size ∧ wc.heap.size ≤ w2.heap.size ∧ bl < w2.heap.size ∧ gl < w2.heap.size from ⟨by omega, lt_of_block HD.out, k2.size, lt_of_block hbl, lt_of_block hgl⟩)
    clear hbl hgl k2 b2 hD2 x2
    go_wp2_with fail
    refine wp_rangeN (gf := 82) (lb := #[.pointer (some ⟨bl, 0, none⟩)]) rfl enters_cells (ceIter bl gl (2 ^ T.L) T.V (pow_le hL)) (fun _ => rfl)
      (fun i W => ∃ a c, W.heap[D]? = some (sightO T (.slice a i c) (.slice none 0 0)) ∧ ValRow 3 (w2.heap.size + 2) a i c (fun k => .int .i64 (T.V k)) W ∧ Keeps [D] w2 W) (fun _ _ _ => False)
      (fun i A B h k => by
        obtain ⟨a, c, q1, q2, q3⟩ := h
        have z := ZZ.out
        exact ⟨a, c, k.has q1 (by simp <;> omega), q2.keeps k (fun x hx => by have := (q2.blk_lt x hx).1; simp; omega), q3.then k (by intro y hy; simp at hy; left; omega)⟩)
      (fun _ _ _ _ h _ => h) ?priv ⟨none, 0, HD2.out, ValRow.nil _ _ _ _, Keeps.refl _ _⟩ ?round ?done ?stop
    case priv =>
      intro i A h
      obtain ⟨a, c, q1, q2, q3⟩ := h
      have z := ZZ.out
      exact ⟨q3.cell (cell_has PL.out.1 (i := 0) rfl) (by simp; omega), q3.has PL.out.2 (by simp; omega)⟩
    case stop => intro c i W _ h; exact h.elim
    case round =>
      intro l i W K hi hW hsz hK
      gi_wp2
      refine hK _ _ (fun _ => True) (fun _ _ h _ => h) trivial (Keeps.refl _ _) ?_
      clear hK hW hsz
      intro W hW _ hsz
      obtain ⟨a1, c1, q1, q2, q3⟩ := hW
      have hc1 := q2.cap_le
      have hi1 : i ≤ 1048576 := by have := pow_le hL; omega
      have y2 : W.cell? ⟨D, 2, none⟩ = some (.slice a1 i c1) := cell_has q1 (i := 2) rfl
      have f2 := free_of_has q1 2
      have Q1 := Lib.hid q1
      have Q2 := Lib.hid q2
      have Q3 := Lib.hid q3
      have zD2 := ZZ.out
      have g1 : i + 1 ≤ maxLen := by unfold maxLen; omega
      have g2 : (i + 1) * 8 ≤ 140737488355328 := by omega
      have GG := Lib.hid (And.intro g1 g2)
      have hDb : D ∉ blk a1 := fun hx => by have := (q2.blk_lt D hx).1; omega
      have HDb := Lib.hid hDb
      obtain ⟨j0, hj, hz0, hz1, hz2⟩ := info_parts info64
      have HJ := Lib.hid (And.intro hj (And.intro hz0 (And.intro hz1 hz2)))
      clear q1 q2 q3 g1 g2 hj hz0 hz1 hz2 hDb
      gi_wp2_with (gi_at_builtin; go_must (refine wpListIn_append_lies _ rfl _ _ 22 rfl (w2.heap.size + 2) 3 j0 (.int .i64 0) 1 8 Try.underlying22 HJ.out.1 HJ.out.2.1 HJ.out.2.2.1 HJ.out.2.2.2 rfl (by decide) _ i (valR i (fun k => .int .i64 (T.V k))) rfl (Q2.out.alloc _) ⟨W.heap.size, 0, none⟩ 1 1 [_] rfl rfl (cell_one_new _ _ _) (by intro u hu; simp at hu; subst hu; rfl) (by decide) GG.out.1 GG.out.2 (by simp <;> omega) (W.heap.size + 1) (by simp) ?_); go_must (intro g cap1 w3 hown hgrow hat hlt1; have K3 : Keeps (blk a1) W w3 := (((Keeps.refl (blk a1) W).alloc _)).trans ⟨hgrow.os, hgrow.tape, hgrow.output, hgrow.size, fun k hk hn => hgrow.block k hk (fun e => hn (blk_own a1 _ _ k e.symm))⟩; have B3 := K3.has Q1.out HDb.out; have f3 := free_of_has B3 2; have y3 : w3.cell? ⟨D, 2, none⟩ = some (.slice a1 i c1) := cell_has B3 (i := 2) rfl; have z3 := lt_of_block B3; have P1 := Lib.hid K3; have P2 := Lib.hid hown; have PB := Lib.hid B3; clear hgrow hown hat K3 B3))
      have kz : Keeps [D] w3 (w3.setCell ⟨D, 2, none⟩ (.slice (some ⟨g, 0, none⟩) (i + 1) cap1)) := (Keeps.refl _ _).setCell (.inr (by simp)) _
      have row : ValRow 3 (w2.heap.size + 2) (some ⟨g, 0, none⟩) (i + 1) cap1 (fun k => .int .i64 (T.V k)) w3 := (ValRow.of_append P2.out).congr (fun k _ => by unfold putV; split <;> simp_all)
      have hgD : D ∉ blk (some (⟨g, 0, none⟩ : Addr)) := fun hx => by have := (row.blk_lt D hx).1; omega
      have hno : ∀ x, x < w2.heap.size + 2 → x ∉ blk a1 := fun x hx hy => by have := (Q2.out.blk_lt x hy).1; omega
      have hs3 := P1.out.size
      refine ⟨⟨some ⟨g, 0, none⟩, cap1, ?_, row.keeps kz (by intro x hx hx2; simp at hx2; subst hx2; exact hgD hx), ?_⟩, (kz.block _ (by omega) (by simp <;> omega)).trans (P1.out.block _ (by omega) (hno _ (by omega))), (kz.block _ (by omega) (by simp <;> omega)).trans (P1.out.block _ (by omega) (hno _ (by omega)))⟩
      · have h9 := has_setCell PB.out 2 (.slice (some ⟨g, 0, none⟩) (i + 1) cap1)
        simp only [List.setIfInBounds_toArray, List.set_cons_zero, List.set_cons_succ] at h9
        exact h9
      · exact (Q3.out.then P1.out (fun x hx => .inl (by have := (Q2.out.blk_lt x hx).1; omega))).trans kz
    case done =>
      intro W hW hDD
      obtain ⟨a1, c1, q1, q2, q3⟩ := hW
      have hT := (K2.out.then q3 (by intro x hx; simp at hx; have := ZZ.out; left; omega) : Keeps [] w W)
      have y1 : W.cell? ⟨t, 1, none⟩ = some (.slice a T.E.length cc) := cell_has (hT.has H1.out (by simp)) (i := 1) rfl
      have y3 : W.cell? ⟨D, 3, none⟩ = some (.slice none 0 0) := cell_has q1 (i := 3) rfl
      have hE := H2.out.keeps hT (by simp)
      obtain ⟨ae, ce, W3, hrun, r1, r2⟩ := ent_copy lo w.heap.size cc a T.E W.drew (EntRow.drew hE) hl (by have := hT.size; exact this)
      have k3 : Keeps [] W W3 := ((Keeps.refl [] W).drew).trans r2
      have y33 := k3.cell y3 (by simp)
      have f33 : W3.frozen? ⟨D, 3, none⟩ = false := free_of_has (k3.has q1 (by simp)) 3
      obtain ⟨ml, hml⟩ := ex_hid T.E.length
      rw [← hml.out] at y1 hrun
      go_wp2_with fail
      apply wp_region_noPanic
      go_region_law (refine step_append_run (o := ⟨some 53, _, _, _, _, _⟩) rfl (.tmp 48) (.tmp 52) 25 rfl _ _ rfl rfl _ _ hrun ?_)
      all_goals refine NoPanic.normal ?_
      all_goals
        have S0 : W3.heap[D]? = some (sightO T (.slice a1 (2 ^ T.L) c1) (.slice none 0 0)) := k3.has q1 (by simp)
        have S1 := has_setCell S0 3 (.slice ae ml ce)
        simp only [List.setIfInBounds_toArray, List.set_cons_zero, List.set_cons_succ] at S1
        have kD : Keeps [D] W3 (W3.setCell ⟨D, 3, none⟩ (.slice ae ml ce)) := (Keeps.refl _ _).setCell (.inr (by simp)) _
        obtain ⟨W4, hW4⟩ : ∃ W4, W3.setCell ⟨D, 3, none⟩ (.slice ae ml ce) = W4 := ⟨_, rfl⟩
        rw [hW4] at S1 kD ⊢
        have zz := ZZ.out
        have hD4 := Lib.hid (kD.has (k3.has hDD (by simp)) (by simp; omega))
        have bx := kD.has (k3.has (q3.has BA3.out (by simp; omega)) (by simp)) (by simp; omega)
        have KF := Lib.hid ((hT.trans k3).then (S := []) (k := kD) (by intro x hx; simp at hx; left; omega))
        have RW := Lib.hid (And.intro ((q2.keeps k3 (by simp)).keeps kD (by intro x hx hx2; simp at hx2; subst hx2; have := (q2.blk_lt x hx).1; omega)) (r1.keeps kD (by intro x hx hx2; simp at hx2; subst hx2; have h9 := r1.notin S0 (by decide); exact h9 hx)))
        have d0 : W4.cell? ⟨D, 0, none⟩ = some (.int .i64 T.L) := cell_has S1 (i := 0) rfl
        have d1 : W4.cell? ⟨D, 1, none⟩ = some (.int .i64 (wdOf T.L)) := cell_has S1 (i := 1) rfl
        have d2 : W4.cell? ⟨D, 2, none⟩ = some (.slice a1 (2 ^ T.L) c1) := cell_has S1 (i := 2) rfl
        have d3 : W4.cell? ⟨D, 3, none⟩ = some (.slice ae ml ce) := cell_has S1 (i := 3) rfl
        have d4 : W4.cell? ⟨D, 4, none⟩ = some (.int .i64 (liveN T.E : Nat)) := cell_has S1 (i := 4) rfl
        have d5 : W4.cell? ⟨D, 5, none⟩ = some (.int .i64 T.births) := cell_has S1 (i := 5) rfl
        have d6 : W4.cell? ⟨D, 6, none⟩ = some (.int .i64 T.made) := cell_has S1 (i := 6) rfl
        have b0 := cell_has bx (i := 0) rfl
        have b1 := cell_has bx (i := 1) rfl
        have b2 := cell_has bx (i := 2) rfl
        have b3 := cell_has bx (i := 3) rfl
        have b4 := cell_has bx (i := 4) rfl
        have b5 := cell_has bx (i := 5) rfl
        have b6 := cell_has bx (i := 6) rfl
        have w0 := free_of_has bx 0
        have w1 := free_of_has bx 1
        have w2' := free_of_has bx 2
        have w3 := free_of_has bx 3
        have w4 := free_of_has bx 4
        have w5 := free_of_has bx 5
        have w6 := free_of_has bx 6
        have BX := Lib.hid bx
        clear S0 S1 kD hW4 bx q1 q2 q3 r1 r2 k3 hT hE hDD hrun y1 y3 y33 f33
        go_wp2_with fail
        have bF := sight_store T (.slice a1 (2 ^ T.L) c1) (.slice ae ml ce) BX.out
        have kF : Keeps [w.heap.size] W4 (((((((W4.setCell ⟨w.heap.size, 0, none⟩ (.int .i64 T.L)).setCell ⟨w.heap.size, 1, none⟩ (.int .i64 (wdOf T.L))).setCell ⟨w.heap.size, 2, none⟩ (.slice a1 (2 ^ T.L) c1)).setCell ⟨w.heap.size, 3, none⟩ (.slice ae ml ce)).setCell ⟨w.heap.size, 4, none⟩ (.int .i64 (liveN T.E : Nat))).setCell ⟨w.heap.size, 5, none⟩ (.int .i64 T.births)).setCell ⟨w.heap.size, 6, none⟩ (.int .i64 T.made)) := (((((((Keeps.refl _ _).setCell (.inr (by simp)) _).setCell (.inr (by simp)) _).setCell (.inr (by simp)) _).setCell (.inr (by simp)) _).setCell (.inr (by simp)) _).setCell (.inr (by simp)) _).setCell (.inr (by simp)) _
        obtain ⟨WF, hWF⟩ : ∃ WF, ((((((W4.setCell ⟨w.heap.size, 0, none⟩ (.int .i64 T.L)).setCell ⟨w.heap.size, 1, none⟩ (.int .i64 (wdOf T.L))).setCell ⟨w.heap.size, 2, none⟩ (.slice a1 (2 ^ T.L) c1)).setCell ⟨w.heap.size, 3, none⟩ (.slice ae ml ce)).setCell ⟨w.heap.size, 4, none⟩ (.int .i64 (liveN T.E : Nat))).setCell ⟨w.heap.size, 5, none⟩ (.int .i64 T.births)).setCell ⟨w.heap.size, 6, none⟩ (.int .i64 T.made) = WF := ⟨_, rfl⟩
        rw [hWF] at bF kF ⊢
        have hm0 : WF.heap[w2.heap.size]? = some (.deferred (some [])) := kF.has hD4.out (by simp; omega)
        have bP : (WF.putObj w2.heap.size (.deferred none)).heap[w.heap.size]? = _ := (World.putObj_heap_other (by omega)).trans bF
        have rc := cell_of_has bP
        refine (bodyPostR_end [w2.heap.size] rfl (by simpa using hm0) (by simp) (v := sightAgg T (.slice a1 (2 ^ T.L) c1) (.slice ae ml ce)) ?_ ?_).1
        · show (results _ _).run _ (WF.putObj w2.heap.size (.deferred none)) = _
          simp [results, Try.results15, go_sem, rc, sightAgg, unmark]
        · show SightP T w _ (WF.putObj w2.heap.size (.deferred none))
          have kP : Keeps [w2.heap.size] WF (WF.putObj w2.heap.size (.deferred none)) := Keeps.putObj _ _ _
          have hnd : ∀ x, x ∈ blk ae → x ≠ w2.heap.size := by
            intro x hx e9
            rcases RW.out.2.2 with ⟨q, _⟩ | ⟨g1, cap, cur, u1, u2, u3, _⟩
            · simp at q; rw [q.1] at hx; simp [blk] at hx
            · simp at u1; rw [u1.1] at hx; simp [blk] at hx; rw [← hx, e9, hD4.out] at u3; simp at u3
          refine ⟨a1, c1, ae, ce, by rw [hml.out], ?_, ?_, ?_⟩
          · exact ((RW.out.1.keeps kF (fun x hx => by have := (RW.out.1.blk_lt x hx).1; simp; omega)).keeps kP (fun x hx => by have := (RW.out.1.blk_lt x hx).1; simp; omega)).mono (by omega)
          · exact (RW.out.2.keeps kF (fun x hx hx2 => by simp at hx2; subst hx2; exact RW.out.2.notin BX.out (by decide) hx)).keeps kP (fun x hx => by simpa using hnd x hx)
          · exact ((KF.out.mono (T := [w.heap.size, w2.heap.size]) (by simp)).trans (kF.mono (by simp))).trans (kP.mono (by simp)) |>.below (Nat.le_refl _) (by intro x hx; simp at hx; rcases hx with rfl | rfl <;> omega)
end Go.Proofs.Ytajcbghhpjpmhaa
