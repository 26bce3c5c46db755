/- Entries compared, counted, appended (chapter 7's laws). number, live, sight (chapter 7's laws). Two equal sights (chapter 7's laws). The entries of a hash, in the order in which a search tells them (chapter 7's laws). No program in sight. -/
import Derived.Test.YtcakdmapnmneoaaB6
import Derived.Test.YtcakdmapnmneoaaB1
import Derived.Test.YtcakdmapnmneoaaB3
import Derived.Test.YtcakdmapnmneoaaB4
section
namespace Go.Proofs.Ytcakdmapnmneoaa
open Go.RowKit
set_option linter.unusedVariables false
set_option linter.unusedSimpArgs false

theorem eql_ent (x y : Ent) (w : World) : (binOp .eql 36 x.agg y.agg).run Try.prog w = .ok (.bool (decide (x = y))) w := by
  obtain ⟨a, b, c, d, e⟩ := x
  obtain ⟨a', b', c', d', e'⟩ := y
  simp [go_sem, Ent.agg]
  repeat (split <;> try simp_all)
theorem neq_ent (x y : Ent) (w : World) : (binOp .neq 36 x.agg y.agg).run Try.prog w = .ok (.bool (!decide (x = y))) w := by
  obtain ⟨a, b, c, d, e⟩ := x
  obtain ⟨a', b', c', d', e'⟩ := y
  simp [go_sem, Ent.agg]
  repeat (split <;> try simp_all)
theorem EntRow.five {lo g c : Nat} {E : List Ent} {W : World} (h : EntRow lo (some ⟨g, 0, none⟩) c E W) {k : Nat} {x : Ent} (hp : E[k]? = some x) :
    W.cell? ⟨g, k * 5, none⟩ = some (.bool x.live) ∧ W.cell? ⟨g, k * 5 + 1, none⟩ = some (.int .i64 x.hash) ∧ W.cell? ⟨g, k * 5 + 2, none⟩ = some (.int .i64 x.key) ∧ W.cell? ⟨g, k * 5 + 3, none⟩ = some (.int .i64 x.val) ∧ W.cell? ⟨g, k * 5 + 4, none⟩ = some (.int .i64 x.birth) :=
  ⟨h.cell hp 0 (by omega), h.cell hp 1 (by omega), h.cell hp 2 (by omega), h.cell hp 3 (by omega), h.cell hp 4 (by omega)⟩
set_option maxRecDepth 100000 in
set_option maxHeartbeats 2000000 in
theorem entries_same (lo1 lo2 c1 c2 : Nat) (a1 a2 : Option Addr) (E : List Ent) (w : World) (h1 : EntRow lo1 a1 c1 E w) (h2 : EntRow lo2 a2 c2 E w) (hl : E.length ≤ 1000000) :
    Calls Try.prog 16 #[.slice a1 E.length c1, .slice a2 E.length c2] w fun r w' => r = .returned (.bool true) ∧ Keeps [] w w' := by
  have H1 := Lib.hid h1
  have H2 := Lib.hid h2
  obtain ⟨n, hn⟩ := ex_hid E.length
  rw [← hn.out] at hl ⊢
  clear h1 h2
  go_enter Try.func16, Try.ntmps16
  go_wp2_with fail
  go_loopw [5] (fun i wr => ∃ k : Nat, k ≤ n ∧ i = .int .i64 k ∧ Keeps [] w wr) (fun i _ => n - (intOf i).toNat)
  case atStart => exact ⟨0, by omega, rfl, Keeps.refl _ _⟩
  case round =>
    obtain ⟨k, hk, rfl, hK⟩ := hrel
    have hk0 : (0 : Int) ≤ (k : Int) := by omega
    have HK := Lib.hid hK
    by_cases hlt : k < n
    · have hlt' : (k : Int) < (n : Int) := by omega
      obtain ⟨x, hx⟩ : ∃ x, E[k]? = some x := ⟨_, List.getElem?_eq_getElem (by rw [← hn.out]; exact hlt)⟩
      obtain ⟨g1, rfl⟩ := H1.out.shape (by rw [← hn.out]; omega)
      obtain ⟨g2, rfl⟩ := H2.out.shape (by rw [← hn.out]; omega)
      obtain ⟨p0, p1, p2, p3, p4⟩ := (H1.out.keeps hK (by simp)).five hx
      obtain ⟨q0, q1, q2, q3, q4⟩ := (H2.out.keeps hK (by simp)).five hx
      have hq := fun w => neq_ent x x w
      simp only [decide_true, Bool.not_true, Ent.agg] at hq
      clear hK hx
      go_wp2_with fail
      go_region_held3 (fun w' => w'.cell? ⟨g1, k * 5, none⟩ = some (.bool x.live) ∧ w'.cell? ⟨g1, k * 5 + 1, none⟩ = some (.int .i64 x.hash) ∧ w'.cell? ⟨g1, k * 5 + 2, none⟩ = some (.int .i64 x.key) ∧ w'.cell? ⟨g1, k * 5 + 3, none⟩ = some (.int .i64 x.val) ∧ w'.cell? ⟨g1, k * 5 + 4, none⟩ = some (.int .i64 x.birth) ∧ w'.cell? ⟨g2, k * 5, none⟩ = some (.bool x.live) ∧ w'.cell? ⟨g2, k * 5 + 1, none⟩ = some (.int .i64 x.hash) ∧ w'.cell? ⟨g2, k * 5 + 2, none⟩ = some (.int .i64 x.key) ∧ w'.cell? ⟨g2, k * 5 + 3, none⟩ = some (.int .i64 x.val) ∧ w'.cell? ⟨g2, k * 5 + 4, none⟩ = some (.int .i64 x.birth)) (go_keep) (fail)
      go_wp2_with fail
      go_roundw
      case rel => exact ⟨k + 1, by omega, by go_num, HK.out.drew⟩
      case measure => simp [intOf]; omega
    · obtain rfl : k = n := by omega
      have hge : ¬ (k : Int) < (k : Int) := by omega
      clear hK
      go_wp2_with fail
      go_ret
      exact ⟨rfl, HK.out⟩
/-- Entries of another row are appended; none, too. -/
theorem ent_append_src (lo c cc : Nat) (a : Option Addr) (E F : List Ent) (ad : Option Addr) (W : World) (h : EntRow lo a c E W) (hs : F = [] ∨ ∃ p, ad = some p ∧ ∀ (j : Nat) u, (flatE F)[j]? = some u → W.cell? (p.add j) = some u) (hl : E.length + F.length ≤ 1000000) (hlo : lo ≤ W.heap.size) :
    ∃ a' c' w', (Builtin.append_ #[33, 33] 33 #[.slice a E.length c, .slice ad F.length cc]).run Try.prog W = .ok (.slice a' (E.length + F.length) c') w' ∧ EntRow lo a' c' (E ++ F) w' ∧ Keeps (blk a) W w' ∧ (∀ x, x ∈ blk a' → x ∈ blk a ∨ x = W.heap.size) := by
  obtain ⟨j0, hi, hz0, hz1, hz2⟩ := info_parts infoEnt5
  by_cases hF : F = []
  · subst hF
    have hc := h.cap_le.1
    refine ⟨a, c, W, ?_, by simpa using h, Keeps.refl _ _, fun x hx => .inl hx⟩
    simp only [List.length_nil, Nat.add_zero]
    have hl0 : ∀ p : Addr, (loadCells p 0).run Try.prog W = .ok #[] W := fun p => by
      have := run_loadCells_list (P := Try.prog) W p [] (fun j v hv => by simp at hv)
      simpa using this
    cases ad with
    | none => cases a with
      | none => simp [Builtin.append_, run_underlying Try.underlying33, sizeOf, typeInfo, hi, Builtin.lenOf, Builtin.firstCells, hc, storeCells]
      | some q => simp [Builtin.append_, run_underlying Try.underlying33, sizeOf, typeInfo, hi, Builtin.lenOf, Builtin.firstCells, hc, storeCells]
    | some p => cases a with
      | none => simp [Builtin.append_, run_underlying Try.underlying33, sizeOf, typeInfo, hi, Builtin.lenOf, Builtin.firstCells, hc, hl0, storeCells]
      | some q => simp [Builtin.append_, run_underlying Try.underlying33, sizeOf, typeInfo, hi, Builtin.lenOf, Builtin.firstCells, hc, hl0, storeCells]
  · obtain ⟨p, rfl, hp⟩ := hs.resolve_left hF
    have hFl : 0 < F.length := by cases F with | nil => exact absurd rfl hF | cons x F => simp
    obtain ⟨g, cap, w', r1, r2, r3, r4, r5⟩ := run_append_lies (P := Try.prog) W 33 33 lo 36 j0 noE.agg 5 40 Try.underlying33 hi hz0 hz1 hz2 rfl (by decide) _ E.length (flatE E) h p F.length cc (flatE F) (flatE_len F) hp
      (by intro v hv; simp only [flatE, List.mem_flatMap] at hv; obtain ⟨y, _, hy⟩ := hv; exact y.one v hy) hFl (by unfold maxLen; omega) (by omega) hlo _ rfl
    refine ⟨some ⟨g, 0, none⟩, cap, w', r1, ?_, ?_, fun x hx => ?_⟩
    · unfold EntRow
      rw [flatE_app, List.length_append]
      exact r2
    · exact ⟨r3.os, r3.tape, r3.output, r3.size, fun k hk hn => r3.block k hk (fun e => hn (blk_own a _ _ k e.symm))⟩
    · simp [blk] at hx
      subst hx
      rcases r4 with r4 | r4
      · exact .inl (blk_own a _ _ _ r4)
      · exact .inr r4
/-- A part of a row, read. -/
theorem EntRow.part {lo g c : Nat} {E : List Ent} {W : World} (h : EntRow lo (some ⟨g, 0, none⟩) c E W) (o : Nat) : ∀ (j : Nat) u, (flatE (E.drop o))[j]? = some u → W.cell? ((⟨g, o * 5, none⟩ : Addr).add j) = some u := by
  intro j u hj
  rw [show (⟨g, o * 5, none⟩ : Addr).add j = ⟨g, o * 5 + j, none⟩ by unfold Addr.add; split <;> simp_all]
  rw [← flatE_drop, List.getElem?_drop] at hj
  have hlt := (List.getElem?_eq_some_iff.1 hj).1
  rw [flatE_len] at hlt
  rw [World.ownsRow.cellAt h (o * 5 + j) hlt]
  exact hj
theorem EntRow.front {lo g c : Nat} {E : List Ent} {W : World} (h : EntRow lo (some ⟨g, 0, none⟩) c E W) (n : Nat) : ∀ (j : Nat) u, (flatE (E.take n))[j]? = some u → W.cell? ((⟨g, 0, none⟩ : Addr).add j) = some u := by
  intro j u hj
  rw [show (⟨g, 0, none⟩ : Addr).add j = ⟨g, j, none⟩ by unfold Addr.add; split <;> simp_all]
  rw [← flatE_take] at hj
  have hj2 : (flatE E)[j]? = some u := by
    rw [List.getElem?_take] at hj
    split at hj
    · exact hj
    · cases hj
  have hlt := (List.getElem?_eq_some_iff.1 hj2).1
  rw [flatE_len] at hlt
  rw [World.ownsRow.cellAt h j hlt]
  exact hj2
end Go.Proofs.Ytcakdmapnmneoaa
end

section
namespace Go.Proofs.Ytcakdmapnmneoaa
open Go.RowKit
set_option linter.unusedVariables false
set_option linter.unusedSimpArgs false

theorem field_ents (x0 x1 x4 x5 x6 : Int) (a b : Option Addr) (l c l' c' : Nat) (w : World) : (Instr.field 43 (.agg #[.int .i64 x0, .int .i64 x1, .slice a l c, .slice b l' c', .int .i64 x4, .int .i64 x5, .int .i64 x6]) 3).run Try.prog w = .ok (.slice b l' c') w := by kernel_rfl
theorem field_cells (x0 x1 x4 x5 x6 : Int) (a b : Option Addr) (l c l' c' : Nat) (w : World) : (Instr.field 43 (.agg #[.int .i64 x0, .int .i64 x1, .slice a l c, .slice b l' c', .int .i64 x4, .int .i64 x5, .int .i64 x6]) 2).run Try.prog w = .ok (.slice a l c) w := by kernel_rfl
theorem field_log (x0 x1 x4 x5 x6 : Int) (a b : Option Addr) (l c l' c' : Nat) (w : World) : (Instr.field 43 (.agg #[.int .i64 x0, .int .i64 x1, .slice a l c, .slice b l' c', .int .i64 x4, .int .i64 x5, .int .i64 x6]) 0).run Try.prog w = .ok (.int .i64 x0) w := by kernel_rfl
end Go.Proofs.Ytcakdmapnmneoaa
end

section
namespace Go.Proofs.Ytcakdmapnmneoaa
open Go.RowKit
set_option linter.unusedVariables false
set_option linter.unusedSimpArgs false

set_option maxRecDepth 100000 in
set_option maxHeartbeats 4000000 in
theorem sight_same (T : Tab) (lo1 lo2 lo3 lo4 c1 c2 ce1 ce2 : Nat) (a1 a2 ae1 ae2 : Option Addr) (w : World) (r1 : ValRow 3 lo1 a1 (2 ^ T.L) c1 (fun k => .int .i64 (T.V k)) w) (r2 : ValRow 3 lo2 a2 (2 ^ T.L) c2 (fun k => .int .i64 (T.V k)) w)
    (h1 : EntRow lo3 ae1 ce1 T.E w) (h2 : EntRow lo4 ae2 ce2 T.E w) (hL : T.L ≤ 20) (hl : T.E.length ≤ 1000000) :
    Calls Try.prog 35 #[sightAgg T (.slice a1 (2 ^ T.L) c1) (.slice ae1 T.E.length ce1), sightAgg T (.slice a2 (2 ^ T.L) c2) (.slice ae2 T.E.length ce2)] w fun r w' => r = .returned (.bool true) ∧ Keeps [] w w' := by
  have R1 := Lib.hid r1
  have R2 := Lib.hid r2
  have H1 := Lib.hid h1
  have H2 := Lib.hid h2
  have hn1 := pow_le hL
  have hp := pow_pos T.L
  obtain ⟨n, hn⟩ := ex_hid (2 ^ T.L)
  obtain ⟨l, hl2⟩ := ex_hid T.E.length
  obtain ⟨g1, rfl⟩ := r1.shape hp
  obtain ⟨g2, rfl⟩ := r2.shape hp
  unfold sightAgg
  rw [← hl2.out] at hl ⊢
  rw [← hn.out] at hn1 hp ⊢
  clear r1 r2 h1 h2
  go_enter Try.func35, Try.ntmps35
  go_wp2_with fail
  obtain ⟨W, hW⟩ : ∃ W, ((w.alloc (.cells #[.int .i64 T.L, .int .i64 (wdOf T.L), .slice (some ⟨g1, 0, none⟩) n c1, .slice ae1 l ce1, .int .i64 (liveN T.E : Nat), .int .i64 T.births, .int .i64 T.made] 43)).alloc (.cells #[.int .i64 T.L, .int .i64 (wdOf T.L), .slice (some ⟨g2, 0, none⟩) n c2, .slice ae2 l ce2, .int .i64 (liveN T.E : Nat), .int .i64 T.births, .int .i64 T.made] 43)) = W := ⟨_, rfl⟩
  have kW : Keeps [] w W := by rw [← hW]; exact ((Keeps.refl [] w).alloc _).alloc _
  have b1 : W.heap[w.heap.size]? = some (.cells #[.int .i64 T.L, .int .i64 (wdOf T.L), .slice (some ⟨g1, 0, none⟩) n c1, .slice ae1 l ce1, .int .i64 (liveN T.E : Nat), .int .i64 T.births, .int .i64 T.made] 43 (0, 0)) := by rw [← hW]; exact has_alloc (has_new _ _) _
  have b2 : W.heap[w.heap.size + 1]? = some (.cells #[.int .i64 T.L, .int .i64 (wdOf T.L), .slice (some ⟨g2, 0, none⟩) n c2, .slice ae2 l ce2, .int .i64 (liveN T.E : Nat), .int .i64 T.births, .int .i64 T.made] 43 (0, 0)) := by rw [← hW]; exact has_new' _ _ (by simp)
  rw [hW]
  have KW := Lib.hid kW
  have B1 := Lib.hid b1
  have B2 := Lib.hid b2
  clear hW kW b1 b2
  go_loopw [5] (fun i wr => ∃ k : Nat, k ≤ n ∧ i = .int .i64 k ∧ Keeps [] W wr) (fun i _ => n - (intOf i).toNat)
  case atStart => exact ⟨0, by omega, rfl, Keeps.refl _ _⟩
  case round =>
    obtain ⟨k, hk, rfl, hK⟩ := hrel
    have hk0 : (0 : Int) ≤ (k : Int) := by omega
    have HK := Lib.hid hK
    have b1 := hK.has B1.out (by simp)
    have b2 := hK.has B2.out (by simp)
    have x2 : wr.cell? ⟨w.heap.size, 2, none⟩ = some (.slice (some ⟨g1, 0, none⟩) n c1) := cell_has b1 (i := 2) rfl
    have y2 : wr.cell? ⟨w.heap.size + 1, 2, none⟩ = some (.slice (some ⟨g2, 0, none⟩) n c2) := cell_has b2 (i := 2) rfl
    have x3 : wr.cell? ⟨w.heap.size, 3, none⟩ = some (.slice ae1 l ce1) := cell_has b1 (i := 3) rfl
    have y3 : wr.cell? ⟨w.heap.size + 1, 3, none⟩ = some (.slice ae2 l ce2) := cell_has b2 (i := 3) rfl
    clear b1 b2
    by_cases hlt : k < n
    · have hlt' : (k : Int) < (n : Int) := by omega
      have hkk : k < 2 ^ T.L := by rw [← hn.out]; exact hlt
      have p0 := (R1.out.keeps (KW.out.trans hK) (by simp)).cell hkk
      have q0 := (R2.out.keeps (KW.out.trans hK) (by simp)).cell hkk
      obtain ⟨v, hv⟩ := ex_hid (T.V k)
      rw [← hv.out] at p0 q0
      clear hK
      go_wp2_with fail
      go_region_held3 (fun w' => w'.cell? ⟨w.heap.size, 2, none⟩ = some (.slice (some ⟨g1, 0, none⟩) n c1) ∧ w'.cell? ⟨w.heap.size + 1, 2, none⟩ = some (.slice (some ⟨g2, 0, none⟩) n c2) ∧ w'.cell? ⟨g1, k, none⟩ = some (.int .i64 v) ∧ w'.cell? ⟨g2, k, none⟩ = some (.int .i64 v)) (go_keep) (fail)
      go_wp2_with fail
      go_roundw
      case rel => exact ⟨k + 1, by omega, by go_num, HK.out.drew⟩
      case measure => simp [intOf]; omega
    · obtain rfl : k = n := by omega
      have hge : ¬ (k : Int) < (k : Int) := by omega
      clear hK
      go_wp2_with fail
      rw [hl2.out]
      refine (entries_same lo3 lo4 ce1 ce2 ae1 ae2 T.E _ (H1.out.keeps (KW.out.trans HK.out) (by simp)) (H2.out.keeps (KW.out.trans HK.out) (by simp)) (by rw [← hl2.out]; exact hl)).mono ?_
      rintro r w2 ⟨rfl, k2⟩
      have K2 := Lib.hid k2
      clear k2
      go_wp2_with fail
      go_ret
      exact ⟨rfl, (KW.out.trans HK.out).trans K2.out⟩
end Go.Proofs.Ytcakdmapnmneoaa
end

section
namespace Go.Proofs.Ytcakdmapnmneoaa
open Go.RowKit
set_option linter.unusedVariables false

theorem numL_up (E : List Ent) : ∀ (i j k : Nat) (p q : Nat × Ent), j < k → (numL E i)[j]? = some p → (numL E i)[k]? = some q → p.1 < q.1 := by
  induction E with
  | nil => intro i j k p q _ h; simp [numL] at h
  | cons x E ih =>
    intro i j k p q hjk hp hq
    unfold numL at hp hq
    by_cases hx : x.live = true
    · rw [if_pos hx] at hp hq
      cases k with
      | zero => omega
      | succ k =>
        simp only [List.getElem?_cons_succ] at hq
        cases j with
        | zero =>
          simp at hp
          have := (numL_mem (List.mem_of_getElem? hq)).1
          rw [← hp]; simp only; omega
        | succ j =>
          simp only [List.getElem?_cons_succ] at hp
          exact ih (i + 1) j k p q (by omega) hp hq
    · rw [if_neg hx] at hp hq
      exact ih (i + 1) j k p q hjk hp hq
theorem numL_find (E : List Ent) : ∀ (i g : Nat) (x : Ent), E[g]? = some x → x.live = true → ∃ j : Nat, (numL E i)[j]? = some (i + g, x) := by
  induction E with
  | nil => intro i g x h; simp at h
  | cons y E ih =>
    intro i g x hx hl
    cases g with
    | zero =>
      simp at hx; subst hx
      exact ⟨0, by unfold numL; rw [if_pos hl]; simp⟩
    | succ g =>
      simp at hx
      obtain ⟨j, hj⟩ := ih (i + 1) g x hx hl
      rw [show i + 1 + g = i + (g + 1) by omega] at hj
      by_cases hy : y.live = true
      · exact ⟨j + 1, by unfold numL; rw [if_pos hy]; simpa using hj⟩
      · exact ⟨j, by unfold numL; rw [if_neg hy]; exact hj⟩
/-- Of the live ones the first i have been gone through. -/
structure Thru (E : List Ent) (h : Int) (i : Nat) (told : Int) : Prop where
  a : ∀ (j : Nat) (p : Nat × Ent), (numL E 0)[j]? = some p → i ≤ j → told < p.1
  b : ∀ (j : Nat) (p : Nat × Ent), (numL E 0)[j]? = some p → j < i → p.2.hash = h → (p.1 : Int) ≤ told
theorem Thru.start (E : List Ent) (h : Int) : Thru E h 0 (-1) := ⟨fun j p _ _ => by omega, fun j p _ hj => by omega⟩
theorem Thru.pass {E : List Ent} {h : Int} {i : Nat} {told : Int} (t : Thru E h i told) {p : Nat × Ent} (hp : (numL E 0)[i]? = some p) (hh : p.2.hash ≠ h) : Thru E h (i + 1) told :=
  ⟨fun j q hq hj => t.a j q hq (by omega), fun j q hq hj hqh => by
    by_cases e : j = i
    · subst e; rw [hp] at hq; simp at hq; subst hq; exact absurd hqh hh
    · exact t.b j q hq (by omega) hqh⟩
theorem Thru.hit {E : List Ent} {h : Int} {i : Nat} {told : Int} (t : Thru E h i told) {p : Nat × Ent} (hp : (numL E 0)[i]? = some p) : Thru E h (i + 1) p.1 :=
  ⟨fun j q hq hj => by have := numL_up E 0 i j p q (by omega) hp hq; omega, fun j q hq hj hqh => by
    by_cases e : j = i
    · subst e; rw [hp] at hq; simp at hq; subst hq; omega
    · have := numL_up E 0 j i q p (by omega) hq hp; omega⟩
theorem Thru.later {T : Tab} {h : Int} {i : Nat} {told : Int} (t : Thru T.E h i told) {p : Nat × Ent} (hp : (numL T.E 0)[i]? = some p) (hh : p.2.hash = h) : Later T h told p.1 ∧ ∀ g, Later T h told g → p.1 ≤ g := by
  obtain ⟨_, _, h3, h4⟩ := numL_mem (List.mem_of_getElem? hp)
  refine ⟨⟨t.a i p hp (Nat.le_refl _), p.2, by simpa using h3, h4, hh⟩, fun g hg => ?_⟩
  obtain ⟨h5, x, h6, h7, h8⟩ := hg
  obtain ⟨j, hj⟩ := numL_find T.E 0 g x h6 h7
  rw [Nat.zero_add] at hj
  rcases Nat.lt_or_ge j i with h9 | h9
  · have := t.b j _ hj h9 h8; simp only at this; omega
  · rcases Nat.lt_or_ge i j with h10 | h10
    · have := numL_up T.E 0 i j p _ h10 hp hj; simp only at this; omega
    · have e : j = i := by omega
      subst e
      rw [hp] at hj
      simp at hj
      rw [hj]; simp only; omega
theorem Thru.none {T : Tab} {h : Int} {i : Nat} {told : Int} (t : Thru T.E h i told) (hi : liveN T.E ≤ i) : ∀ g, ¬ Later T h told g := fun g ⟨h5, x, h6, h7, h8⟩ => by
  obtain ⟨j, hj⟩ := numL_find T.E 0 g x h6 h7
  have hl := (List.getElem?_eq_some_iff.1 hj).1
  rw [numL_len] at hl
  have := t.b j _ hj (by omega) h8
  simp only [Nat.zero_add] at this
  omega
theorem numL_at {E : List Ent} {i : Nat} {x : Ent} (h : (liveL E)[i]? = some x) : ∃ f, (numL E 0)[i]? = some (f, x) ∧ entE E (f : Int) = some x := by
  have hl : i < (numL E 0).length := by rw [numL_len, ← liveL_len]; exact (List.getElem?_eq_some_iff.1 h).1
  obtain ⟨p, hp⟩ : ∃ p, (numL E 0)[i]? = some p := ⟨_, List.getElem?_eq_getElem hl⟩
  have h1 := numL_get hp
  rw [h] at h1
  have h2 : p.2 = x := by simpa using h1.symm
  obtain ⟨_, _, h3, h4⟩ := numL_mem (List.mem_of_getElem? hp)
  refine ⟨p.1, by rw [hp, ← h2], ?_⟩
  unfold entE
  rw [if_pos (by omega)]
  rw [h2] at h3 h4
  simp at h3
  simp [h3, Option.filter, h4]
end Go.Proofs.Ytcakdmapnmneoaa
end
