/- A table that is none (chapter 7). A table that is none: copies, sights, iterators (chapter 7). Sights of none; the document's new table; going through nothing (chapter 7). Put, Clear, Len (chapter 7). Seek, on, Visited (chapter 7). Next: the next live entry of a hash (chapter 7). -/
import Derived.Test.YtcakdmapnmneoaaB4
import Derived.Test.YtcakdmapnmneoaaBeg
import Derived.WalkMore
import Derived.Test.YtcakdmapnmneoaaB2
import Derived.Test.YtcakdmapnmneoaaB3
import Derived.Test.YtcakdmapnmneoaaB1
import Derived.Deep.LoopGhost
section
namespace Go.Proofs.Ytcakdmapnmneoaa
open Go.RowKit
set_option linter.unusedVariables false

set_option maxRecDepth 100000 in
theorem add_nil (h k v : Int) (w : World) : Calls Try.prog 73 #[.pointer none, .int .i64 h, .int .i64 k, .int .i64 v] w fun r w' => r = .returned (.tuple #[.int .i64 0, .int .i64 1]) ∧ Below w.heap.size w w' := by
  go_enter Try.func73, Try.ntmps73
  go_wp2_with fail
  go_ret2
  exact ⟨rfl, (Below.refl _ _).alloc (Nat.le_refl _) _⟩
theorem at_nil (e : Int) (w : World) : Calls Try.prog 43 #[.pointer none, .int .i64 e] w fun r w' => r = .returned (.tuple #[noE.agg, .int .i64 1]) ∧ Below w.heap.size w w' := by
  go_enter Try.func43, Try.ntmps43
  go_wp2_with fail
  refine (wrong_none e _).mono ?_
  rintro r w1 ⟨rfl, rfl⟩
  go_wp2_with fail
  exact bodyPost_ret (v := .tuple #[noE.agg, .int .i64 1]) (by simp [results, Try.results43, go_sem, noE, Ent.agg]) rfl ⟨rfl, (Below.refl _ _).alloc (Nat.le_refl _) _⟩
theorem put_nil (e v : Int) (w : World) : Calls Try.prog 68 #[.pointer none, .int .i64 e, .int .i64 v] w fun r w' => r = .returned (.int .i64 1) ∧ w = w' := by
  go_enter Try.func68, Try.ntmps68
  go_wp2_with fail
  refine (wrong_none e _).mono ?_
  rintro r w1 ⟨rfl, rfl⟩
  go_wp2_with fail
  go_ret
  exact ⟨rfl, rfl⟩
set_option maxRecDepth 100000 in
theorem kill_nil (e : Int) (w : World) : Calls Try.prog 70 #[.pointer none, .int .i64 e] w fun r w' => r = .returned (.int .i64 1) ∧ Below w.heap.size w w' := by
  go_enter Try.func70, Try.ntmps70
  go_wp2_with fail
  apply wp_scope_straight
  go_wp2_with fail
  refine (wrong_none e _).mono ?_
  rintro r w1 ⟨rfl, rfl⟩
  go_wp2_with fail
  rw [Exit.noGoto_ret]
  go_ret
  exact ⟨rfl, ((Below.refl _ _).alloc (Nat.le_refl _) _).alloc (by simp) _⟩
theorem clear_nil (w : World) : Calls Try.prog 59 #[.pointer none] w fun r w' => r = .returned (.tuple #[]) ∧ w = w' := by
  go_enter Try.func59, Try.ntmps59
  go_wp2_with fail
  exact bodyPost_ret (results_none rfl _ _ _) rfl ⟨rfl, rfl⟩
theorem next_nil (w : World) : Calls Try.prog 41 #[.pointer none] w fun r w' => r = .returned (.tuple #[.int .i64 (-1), .bool false]) ∧ w = w' := by
  go_enter Try.func41, Try.ntmps41
  go_wp2_with fail
  go_ret2
  exact ⟨rfl, rfl⟩
theorem visited_nil (w : World) : Calls Try.prog 46 #[.pointer none] w fun r w' => r = .returned (.int .i64 0) ∧ w = w' := by
  go_enter Try.func46, Try.ntmps46
  go_wp2_with fail
  go_ret
  exact ⟨rfl, rfl⟩
theorem len_nil (w : World) : Calls Try.prog 45 #[.pointer none] w fun r w' => r = .returned (.int .i64 0) ∧ w = w' := by
  go_enter Try.func45, Try.ntmps45
  go_wp2_with fail
  go_ret
  exact ⟨rfl, rfl⟩
theorem seek_nil (h : Int) (w : World) : Calls Try.prog 39 #[.pointer none, .int .i64 h] w fun r w' => r = .returned (.pointer none) ∧ w = w' := by
  go_enter Try.func39, Try.ntmps39
  go_wp2_with fail
  go_ret
  exact ⟨rfl, rfl⟩
end Go.Proofs.Ytcakdmapnmneoaa
end

section
namespace Go.Proofs.Ytcakdmapnmneoaa
open Go.RowKit
set_option linter.unusedVariables false

theorem copy_nil (w : World) : Calls Try.prog 63 #[.pointer none] w fun r w' => r = .returned (.pointer none) ∧ w = w' := by
  go_enter Try.func63, Try.ntmps63
  go_wp2_with fail
  go_ret
  exact ⟨rfl, rfl⟩
theorem lived_nil (w : World) : Calls Try.prog 81 #[.pointer none] w fun r w' => r = .returned (.slice none 0 0) ∧ w = w' := by
  go_enter Try.func81, Try.ntmps81
  go_wp2_with fail
  go_ret
  exact ⟨rfl, rfl⟩
theorem all_nil (w : World) : Calls Try.prog 44 #[.pointer none] w fun r w' => r = .returned (.func (.func 82) #[] #[.pointer (some ⟨w.heap.size, 0, none⟩)]) ∧ w'.heap[w.heap.size]? = some (.cells #[.slice none 0 0] 128 (0, 0)) ∧ Below w.heap.size w w' := by
  go_enter Try.func44, Try.ntmps44
  go_wp2_with fail
  refine (lived_nil _).mono ?_
  rintro r w1 ⟨rfl, rfl⟩
  go_wp2_with fail
  go_ret
  exact ⟨rfl, has_new _ _, (Below.refl _ _).alloc (Nat.le_refl _) _⟩
theorem back_nil (w : World) : Calls Try.prog 62 #[.pointer none] w fun r w' => r = .returned (.func (.func 87) #[] #[.pointer (some ⟨w.heap.size, 0, none⟩)]) ∧ w'.heap[w.heap.size]? = some (.cells #[.slice none 0 0] 128 (0, 0)) ∧ Below w.heap.size w w' := by
  go_enter Try.func62, Try.ntmps62
  go_wp2_with fail
  refine (lived_nil _).mono ?_
  rintro r w1 ⟨rfl, rfl⟩
  go_wp2_with fail
  go_ret
  exact ⟨rfl, has_new _ _, (Below.refl _ _).alloc (Nat.le_refl _) _⟩
/-- The iterators over nothing. -/
theorem all1_empty (f : Value) (b : Nat) (w : World) (h : w.cell? ⟨b, 0, none⟩ = some (.slice none 0 0)) : Calls Try.prog 82 #[f, .pointer (some ⟨b, 0, none⟩)] w fun r w' => r = .returned (.tuple #[]) ∧ w = w' := by
  go_enter Try.func82, Try.ntmps82
  go_wp2_with fail
  go_loopw [7] (fun i wr => i = .int .i64 0 ∧ w = wr) (fun _ _ => 0)
  case atStart => exact ⟨rfl, rfl⟩
  case round =>
    obtain ⟨rfl, rfl⟩ := hrel
    go_wp2_with fail
    go_end0
    exact ⟨rfl, rfl⟩
theorem back1_empty (f : Value) (b : Nat) (w : World) (h : w.cell? ⟨b, 0, none⟩ = some (.slice none 0 0)) : Calls Try.prog 87 #[f, .pointer (some ⟨b, 0, none⟩)] w fun r w' => r = .returned (.tuple #[]) ∧ w = w' := by
  go_enter Try.func87, Try.ntmps87
  go_wp2_with fail
  go_loopw [3] (fun i wr => i = .int .i64 (-1) ∧ w = wr) (fun _ _ => 0)
  case atStart => exact ⟨rfl, rfl⟩
  case round =>
    obtain ⟨rfl, rfl⟩ := hrel
    go_wp2_with fail
    go_end0
    exact ⟨rfl, rfl⟩
/-- The sight of none. -/
def noSight : Value := .agg #[.int .i64 0, .int .i64 0, .slice none 0 0, .slice none 0 0, .int .i64 0, .int .i64 0, .int .i64 0]
theorem sight_nil (w : World) : Calls Try.prog 47 #[.pointer none] w fun r w' => r = .returned noSight ∧ Below w.heap.size w w' := by
  go_enter Try.func47, Try.ntmps47
  go_wp2_with fail
  exact bodyPost_ret (v := noSight) (by simp [results, Try.results47, go_sem, noSight]) rfl ⟨rfl, (Below.refl _ _).alloc (Nat.le_refl _) _⟩
/-- No entries are alike. -/
theorem entries_empty (a b : Option Addr) (c d : Nat) (w : World) : Calls Try.prog 16 #[.slice a 0 c, .slice b 0 d] w fun r w' => r = .returned (.bool true) ∧ w = w' := by
  go_enter Try.func16, Try.ntmps16
  go_wp2_with fail
  go_loopw [5] (fun i wr => i = .int .i64 0 ∧ w = wr) (fun _ _ => 0)
  case atStart => exact ⟨rfl, rfl⟩
  case round =>
    obtain ⟨rfl, rfl⟩ := hrel
    go_wp2_with fail
    go_ret
    exact ⟨rfl, rfl⟩
end Go.Proofs.Ytcakdmapnmneoaa
end

section
namespace Go.Proofs.Ytcakdmapnmneoaa
open Go.RowKit
set_option linter.unusedVariables false

set_option maxRecDepth 100000 in
theorem sight_empty (w : World) : Calls Try.prog 35 #[noSight, noSight] w fun r w' => r = .returned (.bool true) ∧ Below w.heap.size w w' := by
  unfold noSight
  go_enter Try.func35, Try.ntmps35
  go_wp2_with fail
  obtain ⟨W, hW⟩ : ∃ W, ((w.alloc (.cells #[.int .i64 0, .int .i64 0, .slice none 0 0, .slice none 0 0, .int .i64 0, .int .i64 0, .int .i64 0] 43)).alloc (.cells #[.int .i64 0, .int .i64 0, .slice none 0 0, .slice none 0 0, .int .i64 0, .int .i64 0, .int .i64 0] 43)) = W := ⟨_, rfl⟩
  have bW : Below w.heap.size w W := by rw [← hW]; exact ((Below.refl _ _).alloc (Nat.le_refl _) _).alloc (by simp) _
  have c1 : W.cell? ⟨w.heap.size, 2, none⟩ = some (.slice none 0 0) := by rw [← hW]; exact cell_has (has_alloc (has_new _ _) _) (i := 2) rfl
  have c2 : W.cell? ⟨w.heap.size, 3, none⟩ = some (.slice none 0 0) := by rw [← hW]; exact cell_has (has_alloc (has_new _ _) _) (i := 3) rfl
  have c3 : W.cell? ⟨w.heap.size + 1, 3, none⟩ = some (.slice none 0 0) := by rw [← hW]; exact cell_has (has_new' _ _ (by simp)) (i := 3) rfl
  rw [hW]
  clear hW
  go_loopw [5] (fun i wr => i = .int .i64 0 ∧ W = wr) (fun _ _ => 0)
  case atStart => exact ⟨rfl, rfl⟩
  case round =>
    obtain ⟨rfl, rfl⟩ := hrel
    go_wp2_with fail
    refine (entries_empty none none 0 0 _).mono ?_
    rintro r w1 ⟨rfl, rfl⟩
    go_wp2_with fail
    go_ret
    exact ⟨rfl, bW⟩

end Go.Proofs.Ytcakdmapnmneoaa
end

section
namespace Go.Proofs.Ytcakdmapnmneoaa
open Go.RowKit
set_option linter.unusedVariables false

theorem liveN_put {E : List Ent} {k : Nat} {x : Ent} (h : E[k]? = some x) (v : Int) : liveN (E.set k { x with val := v }) = liveN E := by
  have hk := (List.getElem?_eq_some_iff.1 h).1
  have hx := (List.getElem?_eq_some_iff.1 h).2
  unfold liveN
  rw [List.countP_set hk, hx]
  have := List.countP_pos_iff (p := fun y : Ent => y.live) (l := E)
  cases hl : x.live
  · simp
  · have : 0 < E.countP (fun y => y.live) := this.2 ⟨x, by rw [← hx]; exact List.getElem_mem _, hl⟩
    simp; omega
/-- Behind a Put. -/
def PutP (t lo : Nat) (S : List Nat) (m : Value) (T : Tab) (e v : Int) (w : World) (r : Ending) (w' : World) : Prop := r = .returned (.int .i64 (okE (T.ent e))) ∧ TabAt t lo S m (T.put e v) w' ∧ Keeps S w w'
theorem put_any (t lo : Nat) (S : List Nat) (m : Value) (T : Tab) (w : World) (H : TabAt t lo S m T w) (hl : T.E.length ≤ 1000000) (e v : Int) :
    Calls Try.prog 68 #[.pointer (some ⟨t, 0, none⟩), .int .i64 e, .int .i64 v] w (PutP t lo S m T e v w) := by
  have HH := Lib.hid H
  obtain ⟨a, c, cb, cr, h1, h2, h3, h4, h5, h6, h7, h8⟩ := H
  unfold PutP Tab.put
  rw [entE_T]
  cases hx : entE T.E e with
  | none =>
    have H1 := Lib.hid h1
    have H2 := Lib.hid h2
    have HX := Lib.hid hx
    clear h1 h2 h3 h4 h5 h6 h7 h8 hx
    go_enter Try.func68, Try.ntmps68
    go_wp2_with fail
    refine (wrong_no t lo c a T.E m _ _ _ _ _ e _ H1.out H2.out hl HX.out).mono ?_
    rintro r w1 ⟨rfl, rfl⟩
    go_wp2_with fail
    go_ret
    exact ⟨rfl, HH.out, Keeps.refl _ _⟩
  | some x =>
    obtain ⟨h0, hx2, h9, h10⟩ := entE_some hx
    obtain ⟨g, rfl⟩ := h2.shape (by omega)
    obtain ⟨k, rfl⟩ : ∃ k : Nat, e = (k : Int) := ⟨e.toNat, by omega⟩
    have hxk : T.E[k]? = some x := by simpa using hx2
    have e1 : w.cell? ⟨t, 1, none⟩ = some (.slice (some ⟨g, 0, none⟩) T.E.length c) := cell_has h1 (i := 1) rfl
    have q3 : w.cell? ⟨g, k * 5 + 3, none⟩ = some (.int .i64 x.val) := h2.cell hxk 3 (by omega)
    have f3 := h2.free (k * 5 + 3)
    obtain ⟨n, hn⟩ := ex_hid T.E.length
    rw [← hn.out] at e1 h10
    have H1 := Lib.hid h1
    have H2 := Lib.hid h2
    have HX := Lib.hid hx
    have H3 := Lib.hid h3
    have XK := Lib.hid hxk
    have HS := Lib.hid (And.intro h4 (And.intro h5 (And.intro h6 (And.intro h7 h8))))
    have k0 : (0 : Int) ≤ (k : Int) := by omega
    clear h1 h2 h3 h4 h5 h6 h7 h8 hx hx2 h9 h0 hxk
    go_enter Try.func68, Try.ntmps68
    go_wp2_with fail
    refine (wrong_ok t lo c _ T.E m _ _ _ _ _ k x _ H1.out H2.out hl HX.out).mono ?_
    rintro r w1 ⟨rfl, rfl⟩
    go_wp2_with fail
    go_ret
    have kg : Keeps [g] w (w.setCell ⟨g, k * 5 + 3, none⟩ (.int .i64 v)) := (Keeps.refl _ _).setCell (.inr (by simp)) _
    obtain ⟨s4, s5, s6, s7, s8⟩ := HS.out
    have gt : t ∉ [g] := by have := H2.out.notin H1.out (by decide); simpa [blk] using this
    have hne := H3.out.noent H2.out
    simp only [blk] at hne s7
    refine ⟨rfl, ?_, kg.mono (by intro y hy; exact s7 y hy)⟩
    simp only [Int.toNat_natCast]
    refine ⟨some ⟨g, 0, none⟩, c, cb, cr, ?_, H2.out.put XK.out v, H3.out.keeps kg hne.1 hne.2, s4, s5, s6, s7, fun y hy => ⟨(s8 y hy).1, Nat.lt_of_lt_of_le (s8 y hy).2 kg.size⟩⟩
    have h := kg.has H1.out gt
    simp only [List.length_set, liveN_put XK.out v]
    exact h

/-- Behind a Clear. -/
def ClearP (t lo : Nat) (S : List Nat) (m : Option Nat) (c : C4) (T : Tab) (w : World) (r : Ending) (w' : World) : Prop :=
  ∃ S', r = .returned (.tuple #[]) ∧ TabAt t lo S' (mV m) T.clear w' ∧ MtrAt m c.tab w' ∧ Keeps (S ++ mS m) w w' ∧ Grew S w S'
theorem clear_gen (t lo : Nat) (S Q : List Nat) (m : Option Nat) (c : C4) (T : Tab) (w : World) (hB : Calls Try.prog 74 #[.pointer (some ⟨t, 0, none⟩)] w (BegP t lo S Q (mV m) T w)) (hQ : ∀ x, x ∈ Q → x ∈ S) (hS : ∀ x, x ∈ S → lo ≤ x) (hM : MtrAt m c w) (hm : ∀ b, m = some b → b < lo) (hma : T.made ≤ 100000) (htu : T.turns ≤ 100000) :
    Calls Try.prog 59 #[.pointer (some ⟨t, 0, none⟩)] w (ClearP t lo S m c T w) := by
  have HM := Lib.hid hM
  have HB := Lib.hid hB
  clear hM hB
  go_enter Try.func59, Try.ntmps59
  go_wp2_with fail
  refine HB.out.mono ?_
  rintro r w1 ⟨rfl, S1, t1, k1, gr1⟩
  obtain ⟨a, cc, cb, cr, h1, h2, h3, h4, h5, h6, h7, h8⟩ := t1
  have f1 := free_of_has h1 1
  have f3 := free_of_has h1 3
  have c1 : w1.cell? ⟨t, 1, none⟩ = some (.slice a T.E.length cc) := cell_has h1 (i := 1) rfl
  have c3 : w1.cell? ⟨t, 3, none⟩ = some (.int .i64 (liveN T.E : Nat)) := cell_has h1 (i := 3) rfl
  have H1 := Lib.hid h1
  have HS := Lib.hid (And.intro h4 h8)
  have K1 := Lib.hid k1
  have GR := Lib.hid gr1
  clear h1 h2 h3 h4 h5 h6 h7 h8 k1 gr1
  go_wp2_with fail
  have k2 : Keeps [t] w1 ((w1.setCell ⟨t, 1, none⟩ (.slice none 0 0)).setCell ⟨t, 3, none⟩ (.int .i64 0)) := ((Keeps.refl _ _).setCell (.inr (by simp)) _).setCell (.inr (by simp)) _
  have hh := has_setCell (has_setCell H1.out 1 (.slice none 0 0)) 3 (.int .i64 0)
  have hb : ∀ b, m = some b → b ≠ t := fun b hb e => by have := hm b hb; have := (HS.out.2 t HS.out.1).1; omega
  have hM1 : MtrAt m c w1 := HM.out.keeps K1.out (fun b hb hx => by have := hm b hb; have := hS b (hQ b hx); omega)
  refine (index_any t 3 3 rfl m c (.slice none 0 0) (.pointer (some ⟨cb, 0, none⟩)) (.int .i64 0) (.int .i64 T.births) (.int .i64 T.turns) T.made _ hh (hM1.keeps k2 (fun b hb2 hx => by simp at hx; exact hb b hb2 hx)) hb (by omega) (by omega) (by omega) (by omega)).mono ?_
  rintro r w3 ⟨rfl, cb3, cr3, g1, g2, g3, g4, g5, g6⟩
  have K2 := Lib.hid k2
  have G1 := Lib.hid g1
  have G2 := Lib.hid g2
  have G5 := Lib.hid g5
  have G6 := Lib.hid g6
  have z := g6.size
  have c6 : w3.cell? ⟨t, 6, none⟩ = some (.int .i64 T.turns) := cell_has g1 (i := 6) rfl
  have f6 : w3.frozen? ⟨t, 6, none⟩ = false := free_of_has g1 6
  simp only [World.size_setCell] at z g3 g4
  clear k2 hh g1 g2 g5 g6 hM1
  go_wp2_with fail
  go_end0
  have kt : Keeps [t] w3 (w3.setCell ⟨t, 6, none⟩ (.int .i64 ((T.turns : Int) + 1))) := (Keeps.refl _ _).setCell (.inr (by simp)) _
  have hot := G2.out.other G1.out
  have z1 := K1.out.size
  have key : ∀ y, y ∈ S1 → w.heap.size ≤ y ∨ y ∈ S ++ mS m := fun y hy => (GR.out y hy).elim (fun q => .inr (by simp [q])) .inl
  refine ⟨[t, cb3, cr3], rfl, ⟨none, 0, cb3, cr3, ?_, EntRow.nil _ _, G2.out.keeps kt (by simp; exact hot.1) (by simp; exact hot.2), by simp, by simp, by simp, by simp [blk], ?_⟩, G5.out.keeps kt (fun b hb2 hx => by simp at hx; exact hb b hb2 hx), ?_, ?_⟩
  · have h := has_setCell G1.out 6 (.int .i64 ((T.turns : Int) + 1))
    exact h
  · have l1 := lt_of_block G2.out.ho
    have l2 := lt_of_block G2.out.hr
    have l3 := HS.out.2 t HS.out.1
    have := kt.size
    intro y hy
    simp at hy
    rcases hy with rfl | rfl | rfl <;> omega
  · refine (((K1.out.mono (T := S ++ mS m) (fun y hy => by simp [hQ y hy])).then K2.out ?_).then G6.out ?_).then kt ?_
    · intro y hy; simp at hy; subst hy; exact key _ HS.out.1
    · intro y hy; simp at hy; rcases hy with rfl | hy
      · exact key _ HS.out.1
      · exact .inr (by simp [hy])
    · intro y hy; simp at hy; subst hy; exact key _ HS.out.1
  · intro y hy
    simp at hy
    rcases hy with rfl | rfl | rfl
    · exact GR.out _ HS.out.1
    · exact .inr (by omega)
    · exact .inr (by omega)
theorem clear_any (t lo : Nat) (S : List Nat) (m : Option Nat) (c : C4) (T : Tab) (w : World) (H : TabAt t lo S (mV m) T w) (hM : MtrAt m c w) (hm : ∀ b, m = some b → b < lo) (hma : T.made ≤ 100000) (htu : T.turns ≤ 100000) :
    Calls Try.prog 59 #[.pointer (some ⟨t, 0, none⟩)] w (ClearP t lo S m c T w) :=
  clear_gen t lo S [] m c T w (begin_beg t lo S (mV m) T w H) (by simp) (fun x hx => (H.foot x hx).1) hM hm hma htu
theorem len_any (t lo : Nat) (S : List Nat) (m : Value) (T : Tab) (w : World) (H : TabAt t lo S m T w) :
    Calls Try.prog 45 #[.pointer (some ⟨t, 0, none⟩)] w fun r w' => r = .returned (.int .i64 (liveN T.E : Nat)) ∧ w = w' := by
  obtain ⟨a, cc, cb, cr, h1, _⟩ := H
  have c3 : w.cell? ⟨t, 3, none⟩ = some (.int .i64 (liveN T.E : Nat)) := cell_has h1 (i := 3) rfl
  clear h1
  go_enter Try.func45, Try.ntmps45
  go_wp2_with fail
  go_ret
  exact ⟨rfl, rfl⟩
end Go.Proofs.Ytcakdmapnmneoaa
end

section
namespace Go.Proofs.Ytcakdmapnmneoaa
open Go.RowKit
set_option linter.unusedVariables false
set_option linter.unusedSimpArgs false

/-- A Seeker's block. -/
def skO (t : Nat) (s : Sk) (c p : Nat) : Obj := .cells #[.pointer (some ⟨t, 0, none⟩), .int .i64 s.h, .int .i64 c, .int .u64 p, .int .i64 s.tu, .int .i64 s.vis, .int .i64 s.told, .bool s.over] 126 (0, 0)
def skC (s : Sk) : Nat := trC s.L (uh s.h) s.i
def skP (s : Sk) : Nat := uh s.h / 32 ^ s.i
def SkAt (sb t : Nat) (s : Sk) (W : World) : Prop := ∃ c p, W.heap[sb]? = some (skO t s c p) ∧ (s.over = false → c = skC s ∧ p = skP s)
theorem SkAt.keeps {sb t : Nat} {s : Sk} {W W' : World} {S : List Nat} (h : SkAt sb t s W) (k : Keeps S W W') (hs : sb ∉ S) : SkAt sb t s W' := by
  obtain ⟨c, p, h1, h2⟩ := h
  exact ⟨c, p, k.has h1 hs, h2⟩
theorem skP_lt (s : Sk) : skP s < 18446744073709551616 := Nat.lt_of_le_of_lt (Nat.div_le_self _ _) (uh_lt _)
def SeekP (t : Nat) (T : Tab) (h : Int) (w : World) (r : Ending) (w' : World) : Prop :=
  ∃ sb, r = .returned (.pointer (some ⟨sb, 0, none⟩)) ∧ SkAt sb t (T.seek h) w' ∧ w.heap.size ≤ sb ∧ Keeps [] w w'
def SeekG (t lo : Nat) (S Q : List Nat) (m : Value) (T : Tab) (h : Int) (w : World) (r : Ending) (w' : World) : Prop :=
  ∃ sb S', r = .returned (.pointer (some ⟨sb, 0, none⟩)) ∧ SkAt sb t (T.seek h) w' ∧ w.heap.size ≤ sb ∧ Keeps Q w w' ∧ TabAt t lo S' m T w' ∧ Grew S w S' ∧ ∀ x, x ∈ S' → x < sb
set_option maxRecDepth 100000 in
theorem seek_gen (t lo : Nat) (S Q : List Nat) (m : Value) (T : Tab) (w : World) (hB : Calls Try.prog 74 #[.pointer (some ⟨t, 0, none⟩)] w (BegP t lo S Q m T w)) (hL : T.L ≤ 20) (h : Int) :
    Calls Try.prog 39 #[.pointer (some ⟨t, 0, none⟩), .int .i64 h] w (SeekG t lo S Q m T h w) := by
  have HB := Lib.hid hB
  have huc := Lib.hid (uh_cast h)
  clear hB
  go_enter Try.func39, Try.ntmps39
  go_wp2_with fail
  refine HB.out.mono ?_
  rintro r w0 ⟨rfl, S1, t1, k1, gr1⟩
  have T1 := Lib.hid t1
  have K1 := Lib.hid k1
  have GR := Lib.hid gr1
  obtain ⟨a, c, cb, cr, h1, h2, h3, _⟩ := t1
  have HC := Lib.hid h3
  have e2 : w0.cell? ⟨t, 2, none⟩ = some (.pointer (some ⟨cb, 0, none⟩)) := cell_has h1 (i := 2) rfl
  have e6 : w0.cell? ⟨t, 6, none⟩ = some (.int .i64 T.turns) := cell_has h1 (i := 6) rfl
  clear h1 h2 h3 k1 gr1
  go_wp2_with fail
  go_region_held3 (fun w' => w'.cell? ⟨t, 2, none⟩ = some (.pointer (some ⟨cb, 0, none⟩)) ∧ w'.cell? ⟨t, 6, none⟩ = some (.int .i64 T.turns)) (go_keep)
    (first
      | (go_at_call 76; refine (log_any cb cr T.L (2 ^ T.L) T.V _ (HC.out.keeps (Keeps.refl [] w0).drew (by simp) (by simp))).mono ?_; rintro r1 w1 ⟨rfl, rfl⟩)
      | (go_at_call 75; refine (first_any h T.L _ T.L rfl hL).mono ?_; rintro r1 w1 ⟨rfl, rfl⟩))
  go_wp2_with fail
  go_ret
  refine ⟨w0.heap.size, S1, rfl, ⟨skC (T.seek h), skP (T.seek h), ?_, fun _ => ⟨rfl, rfl⟩⟩, K1.out.size, K1.out.drew.alloc _, T1.out.keeps ((Keeps.refl [] w0).drew.alloc _) (by simp), GR.out, fun x hx => (T1.out.foot x hx).2⟩
  refine (has_new' w0.drew _ rfl).trans ?_
  rw [huc.out]
  simp [skO, skC, skP, Tab.seek]
theorem seek_any (t lo : Nat) (S : List Nat) (m : Value) (T : Tab) (w : World) (H : TabAt t lo S m T w) (hL : T.L ≤ 20) (h : Int) :
    Calls Try.prog 39 #[.pointer (some ⟨t, 0, none⟩), .int .i64 h] w (SeekP t T h w) := by
  refine (seek_gen t lo S [] m T w (begin_beg t lo S m T w H) hL h).mono ?_
  rintro r w' ⟨sb, S', h1, h2, h3, h4, _⟩
  exact ⟨sb, h1, h2, h3, h4⟩
theorem visited_any (sb t : Nat) (s : Sk) (w : World) (H : SkAt sb t s w) :
    Calls Try.prog 46 #[.pointer (some ⟨sb, 0, none⟩)] w fun r w' => r = .returned (.int .i64 s.vis) ∧ w = w' := by
  obtain ⟨c, p, h1, _⟩ := H
  have e5 : w.cell? ⟨sb, 5, none⟩ = some (.int .i64 s.vis) := cell_has h1 (i := 5) rfl
  clear h1
  go_enter Try.func46, Try.ntmps46
  go_wp2_with fail
  go_ret
  exact ⟨rfl, rfl⟩
set_option maxRecDepth 100000 in
set_option maxHeartbeats 2000000 in
theorem on_any (sb t cb cr L : Nat) (V : Nat → Int) (c p : Nat) (o1 o4 o5 o6 o7 : Value) (w : World) (hs : w.heap[sb]? = some (.cells #[.pointer (some ⟨t, 0, none⟩), o1, .int .i64 c, .int .u64 p, o4, o5, o6, o7] 126 (0, 0)))
    (ht : w.cell? ⟨t, 2, none⟩ = some (.pointer (some ⟨cb, 0, none⟩))) (hC : CellsAt cb cr L (2 ^ L) V w) (htb : t ≠ sb) (hcb : cb ≠ sb) (hcr : cr ≠ sb) (hL : L ≤ 20) (hc : c < 2 ^ L) (hp : p < 18446744073709551616) :
    Calls Try.prog 79 #[.pointer (some ⟨sb, 0, none⟩)] w fun r w' => r = .returned (.tuple #[]) ∧ w'.heap[sb]? = some (.cells #[.pointer (some ⟨t, 0, none⟩), o1, .int .i64 (nxtC L c p : Nat), .int .u64 (p / 32 : Nat), o4, o5, o6, o7] 126 (0, 0)) ∧ Keeps [sb] w w' := by
  have HS := Lib.hid hs
  have HC := Lib.hid hC
  have e0 : w.cell? ⟨sb, 0, none⟩ = some (.pointer (some ⟨t, 0, none⟩)) := cell_has hs (i := 0) rfl
  have e2 : w.cell? ⟨sb, 2, none⟩ = some (.int .i64 c) := cell_has hs (i := 2) rfl
  have e3 : w.cell? ⟨sb, 3, none⟩ = some (.int .u64 p) := cell_has hs (i := 3) rfl
  have f3 := free_of_has hs 3
  obtain ⟨M, hM⟩ := ex_hid (2 ^ L)
  have m2 : (M : Int) ≤ 1048576 := by have := pow_le hL; rw [hM.out]; omega
  have e1 : IntKind.u64.wrap ((2 : Int) ^ L) = (M : Int) := by rw [hM.out]; exact u64_pow L hL
  rw [← hM.out] at hc
  clear hs hC
  go_enter Try.func79, Try.ntmps79
  go_wp2_with fail
  refine wp_gen (fun W => W.heap[sb]? = some (.cells #[.pointer (some ⟨t, 0, none⟩), o1, .int .i64 c, .int .u64 ((p : Int) / 32), o4, o5, o6, o7] 126 (0, 0)) ∧ Keeps [sb] w W) ⟨has_setCell HS.out 3 _, (Keeps.refl _ _).setCell (.inr (by simp)) _⟩ ?_
  rintro W ⟨hb, k1⟩
  have x0 : W.cell? ⟨sb, 0, none⟩ = some (.pointer (some ⟨t, 0, none⟩)) := cell_has hb (i := 0) rfl
  have x2 : W.cell? ⟨sb, 2, none⟩ = some (.int .i64 c) := cell_has hb (i := 2) rfl
  have x3 : W.cell? ⟨sb, 3, none⟩ = some (.int .u64 ((p : Int) / 32)) := cell_has hb (i := 3) rfl
  have y2 : W.cell? ⟨t, 2, none⟩ = some (.pointer (some ⟨cb, 0, none⟩)) := k1.cell ht (by simpa using htb)
  have f2 : W.frozen? ⟨sb, 2, none⟩ = false := free_of_has hb 2
  have HB := Lib.hid hb
  have K1 := Lib.hid k1
  have hci : (c : Int) < 1048576 := by omega
  have hc0 : (0 : Int) ≤ (c : Int) := by omega
  have hp0 : (0 : Int) ≤ (p : Int) := by omega
  have hp1 : (p : Int) < 18446744073709551616 := by omega
  have hL0 : (0 : Int) ≤ (L : Int) := by omega
  have hL1 : (L : Int) ≤ 20 := by omega
  have m1 : 0 < (M : Int) := by have := pow_pos L; rw [hM.out]; omega
  clear e0 e2 e3 f3 hb k1 ht
  refine wp_regionG (fun w' => w'.cell? ⟨sb, 0, none⟩ = some (.pointer (some ⟨t, 0, none⟩)) ∧ w'.cell? ⟨sb, 2, none⟩ = some (.int .i64 c) ∧ w'.cell? ⟨sb, 3, none⟩ = some (.int .u64 ((p : Int) / 32)) ∧ w'.cell? ⟨t, 2, none⟩ = some (.pointer (some ⟨cb, 0, none⟩))) 27 (by kernel_rfl) ⟨x0, x2, x3, y2⟩ (fun hF => ?_)
  refine wpAnyG_takeY (i := 0) (v := ?_) rfl (by kernel_rfl) (by decide +kernel) (by decide +kernel) (by decide +kernel) (fun _ _ _ h => h) (by kernel_rfl) ?_ (by assumption) ?_
  rotate_left
  · (intro wz; go_simp; with_reducible rfl)
  try simp only [Act.put, List.setIfInBounds_toArray, List.set_cons_zero, List.set_cons_succ]
  refine wpAnyG_takeY (i := 1) (v := ?_) rfl (by kernel_rfl) (by decide +kernel) (by decide +kernel) (by decide +kernel) (fun _ _ _ h => h) (by kernel_rfl) ?_ (by assumption) ?_
  rotate_left
  · (intro wz; go_simp; with_reducible rfl)
  try simp only [Act.put, List.setIfInBounds_toArray, List.set_cons_zero, List.set_cons_succ]
  refine wpAnyG_takeY (i := 2) (v := ?_) rfl (by kernel_rfl) (by decide +kernel) (by decide +kernel) (by decide +kernel) (fun _ _ _ h => h) (by kernel_rfl) ?_ (by assumption) ?_
  rotate_left
  · (intro wz; go_simp; with_reducible rfl)
  try simp only [Act.put, List.setIfInBounds_toArray, List.set_cons_zero, List.set_cons_succ]
  refine wpAnyG_takeY (i := 3) (v := ?_) rfl (by kernel_rfl) (by decide +kernel) (by decide +kernel) (by decide +kernel) (fun _ _ _ h => h) (by kernel_rfl) ?_ (by assumption) ?_
  rotate_left
  · (intro wz; go_simp; with_reducible rfl)
  try simp only [Act.put, List.setIfInBounds_toArray, List.set_cons_zero, List.set_cons_succ]
  refine wpAnyG_take (i := 4) (v := ?_) rfl (by kernel_rfl) (by decide +kernel) (by decide +kernel) (by decide +kernel) (by decide +kernel) (by rfl) (fun _ _ _ h => h) (by kernel_rfl) ?_ (by assumption) ?_
  rotate_left
  · (intro wz hSw; (try dsimp only at hSw); go_simp; with_reducible rfl)
  try simp only [Act.put, List.setIfInBounds_toArray, List.set_cons_zero, List.set_cons_succ]
  refine wpAnyG_takeY (i := 5) (v := ?_) rfl (by kernel_rfl) (by decide +kernel) (by decide +kernel) (by decide +kernel) (fun _ _ _ h => h) (by kernel_rfl) ?_ (by assumption) ?_
  rotate_left
  · (intro wz; go_simp; with_reducible rfl)
  try simp only [Act.put, List.setIfInBounds_toArray, List.set_cons_zero, List.set_cons_succ]
  refine wpAnyG_takeY (i := 6) (v := ?_) rfl (by kernel_rfl) (by decide +kernel) (by decide +kernel) (by decide +kernel) (fun _ _ _ h => h) (by kernel_rfl) ?_ (by assumption) ?_
  rotate_left
  · (intro wz; go_simp; with_reducible rfl)
  try simp only [Act.put, List.setIfInBounds_toArray, List.set_cons_zero, List.set_cons_succ]
  refine wpAnyG_takeY (i := 7) (v := ?_) rfl (by kernel_rfl) (by decide +kernel) (by decide +kernel) (by decide +kernel) (fun _ _ _ h => h) (by kernel_rfl) ?_ (by assumption) ?_
  rotate_left
  · (intro wz; go_simp; with_reducible rfl)
  try simp only [Act.put, List.setIfInBounds_toArray, List.set_cons_zero, List.set_cons_succ]
  refine wpAnyG_takeY (i := 8) (v := ?_) rfl (by kernel_rfl) (by decide +kernel) (by decide +kernel) (by decide +kernel) (fun _ _ _ h => h) (by kernel_rfl) ?_ (by assumption) ?_
  rotate_left
  · (intro wz; go_simp; with_reducible rfl)
  try simp only [Act.put, List.setIfInBounds_toArray, List.set_cons_zero, List.set_cons_succ]
  refine wpAnyG_takeY (i := 9) (v := ?_) rfl (by kernel_rfl) (by decide +kernel) (by decide +kernel) (by decide +kernel) (fun _ _ _ h => h) (by kernel_rfl) ?_ (by assumption) ?_
  rotate_left
  · (intro wz; go_simp; with_reducible rfl)
  try simp only [Act.put, List.setIfInBounds_toArray, List.set_cons_zero, List.set_cons_succ]
  refine wpAnyG_take (i := 10) (v := ?_) rfl (by kernel_rfl) (by decide +kernel) (by decide +kernel) (by decide +kernel) (by decide +kernel) (by rfl) (fun _ _ _ h => h) (by kernel_rfl) ?_ (by assumption) ?_
  rotate_left
  · (intro wz hSw; (try dsimp only at hSw); go_simp; with_reducible rfl)
  try simp only [Act.put, List.setIfInBounds_toArray, List.set_cons_zero, List.set_cons_succ]
  refine wpAnyG_takeY (i := 11) (v := ?_) rfl (by kernel_rfl) (by decide +kernel) (by decide +kernel) (by decide +kernel) (fun _ _ _ h => h) (by kernel_rfl) ?_ (by assumption) ?_
  rotate_left
  · (intro wz; go_simp; with_reducible rfl)
  try simp only [Act.put, List.setIfInBounds_toArray, List.set_cons_zero, List.set_cons_succ]
  refine wpAnyG_takeY (i := 12) (v := ?_) rfl (by kernel_rfl) (by decide +kernel) (by decide +kernel) (by decide +kernel) (fun _ _ _ h => h) (by kernel_rfl) ?_ (by assumption) ?_
  rotate_left
  · (intro wz; go_simp; with_reducible rfl)
  try simp only [Act.put, List.setIfInBounds_toArray, List.set_cons_zero, List.set_cons_succ]
  refine wpAnyG_takeY (i := 13) (v := ?_) rfl (by kernel_rfl) (by decide +kernel) (by decide +kernel) (by decide +kernel) (fun _ _ _ h => h) (by kernel_rfl) ?_ (by assumption) ?_
  rotate_left
  · (intro wz; go_simp; with_reducible rfl)
  try simp only [Act.put, List.setIfInBounds_toArray, List.set_cons_zero, List.set_cons_succ]
  refine wpAnyG_takeY (i := 14) (v := ?_) rfl (by kernel_rfl) (by decide +kernel) (by decide +kernel) (by decide +kernel) (fun _ _ _ h => h) (by kernel_rfl) ?_ (by assumption) ?_
  rotate_left
  · (intro wz; go_simp; with_reducible rfl)
  try simp only [Act.put, List.setIfInBounds_toArray, List.set_cons_zero, List.set_cons_succ]
  refine wpAnyG_takeY (i := 15) (v := ?_) rfl (by kernel_rfl) (by decide +kernel) (by decide +kernel) (by decide +kernel) (fun _ _ _ h => h) (by kernel_rfl) ?_ (by assumption) ?_
  rotate_left
  · (intro wz; go_simp; with_reducible rfl)
  try simp only [Act.put, List.setIfInBounds_toArray, List.set_cons_zero, List.set_cons_succ]
  refine wpAnyG_take (i := 16) (v := ?_) rfl (by kernel_rfl) (by decide +kernel) (by decide +kernel) (by decide +kernel) (by decide +kernel) (by rfl) (fun _ _ _ h => h) (by kernel_rfl) ?_ (by assumption) ?_
  rotate_left
  · (intro wz hSw; (try dsimp only at hSw); go_simp; with_reducible rfl)
  try simp only [Act.put, List.setIfInBounds_toArray, List.set_cons_zero, List.set_cons_succ]
  refine wpAnyG_takeY (i := 17) (v := ?_) rfl (by kernel_rfl) (by decide +kernel) (by decide +kernel) (by decide +kernel) (fun _ _ _ h => h) (by kernel_rfl) ?_ (by assumption) ?_
  rotate_left
  · (intro wz; go_simp; with_reducible rfl)
  try simp only [Act.put, List.setIfInBounds_toArray, List.set_cons_zero, List.set_cons_succ]
  refine wpAnyG_takeY (i := 18) (v := ?_) rfl (by kernel_rfl) (by decide +kernel) (by decide +kernel) (by decide +kernel) (fun _ _ _ h => h) (by kernel_rfl) ?_ (by assumption) ?_
  rotate_left
  · (intro wz; go_simp; with_reducible rfl)
  try simp only [Act.put, List.setIfInBounds_toArray, List.set_cons_zero, List.set_cons_succ]
  refine wpAnyG_take (i := 19) (v := ?_) rfl (by kernel_rfl) (by decide +kernel) (by decide +kernel) (by decide +kernel) (by decide +kernel) (by rfl) (fun _ _ _ h => h) (by kernel_rfl) ?_ (by assumption) ?_
  rotate_left
  · (intro wz hSw; (try dsimp only at hSw); go_simp; with_reducible rfl)
  try simp only [Act.put, List.setIfInBounds_toArray, List.set_cons_zero, List.set_cons_succ]
  refine wpAnyG_one (i := 20) rfl (by kernel_rfl) (by rfl) (fun K hK => ?_)
  have HK := Lib.hid hK
  clear hK
  go_simp
  refine (log_any cb cr L (2 ^ L) V _ (HC.out.keeps K1.out.drew (by simp; exact hcb) (by simp; exact hcr))).mono ?_
  rintro r w1 ⟨rfl, rfl⟩
  refine HK.out _ _ hF ?_
  clear HK K
  try simp only [Act.put, List.setIfInBounds_toArray, List.set_cons_zero, List.set_cons_succ]
  refine wpAnyG_takeY (i := 21) (v := ?_) rfl (by kernel_rfl) (by decide +kernel) (by decide +kernel) (by decide +kernel) (fun _ _ _ h => h) (by kernel_rfl) ?_ (by assumption) ?_
  rotate_left
  · (intro wz; go_simp; with_reducible rfl)
  try simp only [Act.put, List.setIfInBounds_toArray, List.set_cons_zero, List.set_cons_succ]
  refine wpAnyG_takeY (i := 22) (v := ?_) rfl (by kernel_rfl) (by decide +kernel) (by decide +kernel) (by decide +kernel) (fun _ _ _ h => h) (by kernel_rfl) ?_ (by assumption) ?_
  rotate_left
  · (intro wz; go_simp; with_reducible rfl)
  try simp only [Act.put, List.setIfInBounds_toArray, List.set_cons_zero, List.set_cons_succ]
  refine wpAnyG_takeY (i := 23) (v := ?_) rfl (by kernel_rfl) (by decide +kernel) (by decide +kernel) (by decide +kernel) (fun _ _ _ h => h) (by kernel_rfl) ?_ (by assumption) ?_
  rotate_left
  · (intro wz; go_simp; with_reducible rfl)
  try simp only [Act.put, List.setIfInBounds_toArray, List.set_cons_zero, List.set_cons_succ]
  refine wpAnyG_takeY (i := 24) (v := ?_) rfl (by kernel_rfl) (by decide +kernel) (by decide +kernel) (by decide +kernel) (fun _ _ _ h => h) (by kernel_rfl) ?_ (by assumption) ?_
  rotate_left
  · (intro wz; go_simp; with_reducible rfl)
  try simp only [Act.put, List.setIfInBounds_toArray, List.set_cons_zero, List.set_cons_succ]
  refine wpAnyG_takeY (i := 25) (v := ?_) rfl (by kernel_rfl) (by decide +kernel) (by decide +kernel) (by decide +kernel) (fun _ _ _ h => h) (by kernel_rfl) ?_ (by assumption) ?_
  rotate_left
  · (intro wz; go_simp; with_reducible rfl)
  try simp only [Act.put, List.setIfInBounds_toArray, List.set_cons_zero, List.set_cons_succ]
  refine wpAnyG_takeY (i := 26) (v := ?_) rfl (by kernel_rfl) (by decide +kernel) (by decide +kernel) (by decide +kernel) (fun _ _ _ h => h) (by kernel_rfl) ?_ (by assumption) ?_
  rotate_left
  · (intro wz; go_simp; with_reducible rfl)
  try simp only [Act.put, List.setIfInBounds_toArray, List.set_cons_zero, List.set_cons_succ]
  refine wpAnyG_last rfl (by kernel_rfl) (by rfl) (by rfl) (fun K hK => ?_)
  have HK := Lib.hid hK
  clear hK
  go_simp
  refine HK.out _ _ ?_
  clear HK K
  refine wpAnyG_done (by kernel_rfl) ?_ _
  have hv : IntKind.i64.wrap (bits BinOp.and IntKind.u64 (IntKind.u64.wrap (IntKind.u64.wrap (IntKind.u64.wrap (5 * IntKind.u64.wrap (c : Int)) + (p : Int) / 32) + 1)) (IntKind.u64.wrap ((M : Int) - 1))) = ((nxtC L c p : Nat) : Int) := by
    have q1 : IntKind.u64.wrap (c : Int) = (c : Int) := by rw [IntKind.wrap_u64]; omega
    have q2 : IntKind.u64.wrap (5 * (c : Int)) = 5 * (c : Int) := by rw [IntKind.wrap_u64]; omega
    have q3 : IntKind.u64.wrap (5 * (c : Int) + (p : Int) / 32) = 5 * (c : Int) + (p : Int) / 32 := by rw [IntKind.wrap_u64]; omega
    have q4 : IntKind.u64.wrap (5 * (c : Int) + (p : Int) / 32 + 1) = 5 * (c : Int) + (p : Int) / 32 + 1 := by rw [IntKind.wrap_u64]; omega
    have q5 : IntKind.u64.wrap ((M : Int) - 1) = (M : Int) - 1 := by rw [IntKind.wrap_u64]; omega
    rw [q1, q2, q3, q4, q5, and_mask L (5 * c + p / 32 + 1) hL (by omega) _ _ (by omega) (by rw [hM.out])]
    have h9 : (5 * c + p / 32 + 1) % 2 ^ L = nxtC L c p := rfl
    rw [h9]
    have := nxtC_lt L c p
    rw [← hM.out] at this
    rw [IntWalk.i64_left]
    exact IntWalk.wrap64_in _ (by omega)
  rw [hv]
  go_end0
  have hb := has_setCell HB.out 2 (.int .i64 ((nxtC L c p : Nat) : Int))
  refine ⟨rfl, ?_, ((K1.out.setCell (.inr (by simp)) _).drew)⟩
  refine (has_drew hb).trans ?_
  simp
end Go.Proofs.Ytcakdmapnmneoaa
end

section
namespace Go.Proofs.Ytcakdmapnmneoaa
open Go.RowKit
set_option linter.unusedVariables false
set_option linter.unusedSimpArgs false

def C4.visN (c : C4) : Nat → C4
  | 0 => c
  | n + 1 => (c.visN n).vis
def NextP (sb t : Nat) (m : Option Nat) (c : C4) (T : Tab) (s : Sk) (w : World) (r : Ending) (w' : World) : Prop :=
  r = .returned (.tuple #[.int .i64 (T.next s).says, .bool (!(T.next s).over)]) ∧ SkAt sb t (T.next s) w' ∧ MtrAt m (c.visN (T.walks s)) w' ∧ Keeps (sb :: mS m) w w'
set_option maxRecDepth 100000 in
set_option maxHeartbeats 4000000 in
theorem next_spent (sb t lo : Nat) (S : List Nat) (m : Option Nat) (c : C4) (T : Tab) (s : Sk) (w : World) (H : TabAt t lo S (mV m) T w) (hM : MtrAt m c w) (hs : SkAt sb t s w) (hne : t ≠ sb) (hm : ∀ b, m = some b → b ≠ sb) (hsp : T.spent s = true) :
    Calls Try.prog 41 #[.pointer (some ⟨sb, 0, none⟩)] w (NextP sb t m c T s w) := by
  have fin : ∀ w', w'.heap[sb]? = (w.setCell ⟨sb, 7, none⟩ (.bool true)).heap[sb]? → Keeps [sb] w w' → NextP sb t m c T s w (.returned (.tuple #[.int .i64 (-1), .bool false])) w' := by
    intro w' h1 h2
    have e1 : T.next s = { s with over := true } := by unfold Tab.next; rw [if_pos hsp]
    have e2 : T.walks s = 0 := by unfold Tab.walks; rw [if_pos hsp]
    unfold NextP
    rw [e1, e2]
    obtain ⟨c1, p1, h3, _⟩ := hs
    refine ⟨rfl, ⟨c1, p1, ?_, fun h => by cases h⟩, hM.keeps h2 (fun b hb hx => by simp at hx; exact hm b hb hx), h2.mono (by simp)⟩
    rw [h1]
    exact has_setCell h3 7 _
  have FIN := Lib.hid fin
  obtain ⟨c1, p1, hb, _⟩ := hs
  obtain ⟨a, cc, cb, cr, h1, _⟩ := H
  have e0 : w.cell? ⟨sb, 0, none⟩ = some (.pointer (some ⟨t, 0, none⟩)) := cell_has hb (i := 0) rfl
  have e4 : w.cell? ⟨sb, 4, none⟩ = some (.int .i64 s.tu) := cell_has hb (i := 4) rfl
  have e7 : w.cell? ⟨sb, 7, none⟩ = some (.bool s.over) := cell_has hb (i := 7) rfl
  have y6 : w.cell? ⟨t, 6, none⟩ = some (.int .i64 T.turns) := cell_has h1 (i := 6) rfl
  have f7 : w.frozen? ⟨sb, 7, none⟩ = false := free_of_has hb 7
  have HB := Lib.hid hb
  unfold Tab.spent at hsp
  clear fin hb h1 hM
  cases ho : s.over
  · rw [ho] at e7 hsp
    have ht : ((s.tu : Int) != (T.turns : Int)) = true := by simp at hsp ⊢; omega
    clear hsp
    go_enter Try.func41, Try.ntmps41
    go_wp2_with fail
    refine wp_regionG (fun w' => w'.cell? ⟨sb, 0, none⟩ = some (.pointer (some ⟨t, 0, none⟩)) ∧ w'.cell? ⟨sb, 4, none⟩ = some (.int .i64 s.tu) ∧ w'.cell? ⟨sb, 7, none⟩ = some (.bool false) ∧ w'.cell? ⟨t, 6, none⟩ = some (.int .i64 T.turns)) 21 (by kernel_rfl) ⟨e0, e4, e7, y6⟩ (fun hF => ?_)
    refine wpAnyG_takeY (i := 0) (v := ?_) rfl (by kernel_rfl) (by decide +kernel) (by decide +kernel) (by decide +kernel) (fun _ _ _ h => h) (by kernel_rfl) ?_ (by assumption) ?_
    rotate_left
    · (intro wz; go_simp; with_reducible rfl)
    try simp only [Act.put, List.setIfInBounds_toArray, List.set_cons_zero, List.set_cons_succ]
    refine wpAnyG_takeY (i := 1) (v := ?_) rfl (by kernel_rfl) (by decide +kernel) (by decide +kernel) (by decide +kernel) (fun _ _ _ h => h) (by kernel_rfl) ?_ (by assumption) ?_
    rotate_left
    · (intro wz; go_simp; with_reducible rfl)
    try simp only [Act.put, List.setIfInBounds_toArray, List.set_cons_zero, List.set_cons_succ]
    refine wpAnyG_takeY (i := 2) (v := ?_) rfl (by kernel_rfl) (by decide +kernel) (by decide +kernel) (by decide +kernel) (fun _ _ _ h => h) (by kernel_rfl) ?_ (by assumption) ?_
    rotate_left
    · (intro wz; go_simp; with_reducible rfl)
    try simp only [Act.put, List.setIfInBounds_toArray, List.set_cons_zero, List.set_cons_succ]
    refine wpAnyG_takeY (i := 3) (v := ?_) rfl (by kernel_rfl) (by decide +kernel) (by decide +kernel) (by decide +kernel) (fun _ _ _ h => h) (by kernel_rfl) ?_ (by assumption) ?_
    rotate_left
    · (intro wz; go_simp; with_reducible rfl)
    try simp only [Act.put, List.setIfInBounds_toArray, List.set_cons_zero, List.set_cons_succ]
    refine wpAnyG_take (i := 4) (v := ?_) rfl (by kernel_rfl) (by decide +kernel) (by decide +kernel) (by decide +kernel) (by decide +kernel) (by rfl) (fun _ _ _ h => h) (by kernel_rfl) ?_ (by assumption) ?_
    rotate_left
    · (intro wz hSw; (try dsimp only at hSw); go_simp; with_reducible rfl)
    try simp only [Act.put, List.setIfInBounds_toArray, List.set_cons_zero, List.set_cons_succ]
    refine wpAnyG_takeY (i := 5) (v := ?_) rfl (by kernel_rfl) (by decide +kernel) (by decide +kernel) (by decide +kernel) (fun _ _ _ h => h) (by kernel_rfl) ?_ (by assumption) ?_
    rotate_left
    · (intro wz; go_simp; with_reducible rfl)
    try simp only [Act.put, List.setIfInBounds_toArray, List.set_cons_zero, List.set_cons_succ]
    refine wpAnyG_takeY (i := 6) (v := ?_) rfl (by kernel_rfl) (by decide +kernel) (by decide +kernel) (by decide +kernel) (fun _ _ _ h => h) (by kernel_rfl) ?_ (by assumption) ?_
    rotate_left
    · (intro wz; go_simp; with_reducible rfl)
    try simp only [Act.put, List.setIfInBounds_toArray, List.set_cons_zero, List.set_cons_succ]
    refine wpAnyG_takeY (i := 7) (v := ?_) rfl (by kernel_rfl) (by decide +kernel) (by decide +kernel) (by decide +kernel) (fun _ _ _ h => h) (by kernel_rfl) ?_ (by assumption) ?_
    rotate_left
    · (intro wz; go_simp; with_reducible rfl)
    try simp only [Act.put, List.setIfInBounds_toArray, List.set_cons_zero, List.set_cons_succ]
    refine wpAnyG_takeY (i := 8) (v := ?_) rfl (by kernel_rfl) (by decide +kernel) (by decide +kernel) (by decide +kernel) (fun _ _ _ h => h) (by kernel_rfl) ?_ (by assumption) ?_
    rotate_left
    · (intro wz; go_simp; with_reducible rfl)
    try simp only [Act.put, List.setIfInBounds_toArray, List.set_cons_zero, List.set_cons_succ]
    refine wpAnyG_take (i := 9) (v := ?_) rfl (by kernel_rfl) (by decide +kernel) (by decide +kernel) (by decide +kernel) (by decide +kernel) (by rfl) (fun _ _ _ h => h) (by kernel_rfl) ?_ (by assumption) ?_
    rotate_left
    · (intro wz hSw; (try dsimp only at hSw); go_simp; with_reducible rfl)
    try simp only [Act.put, List.setIfInBounds_toArray, List.set_cons_zero, List.set_cons_succ]
    refine wpAnyG_takeY (i := 10) (v := ?_) rfl (by kernel_rfl) (by decide +kernel) (by decide +kernel) (by decide +kernel) (fun _ _ _ h => h) (by kernel_rfl) ?_ (by assumption) ?_
    rotate_left
    · (intro wz; go_simp; with_reducible rfl)
    try simp only [Act.put, List.setIfInBounds_toArray, List.set_cons_zero, List.set_cons_succ]
    refine wpAnyG_takeY (i := 11) (v := ?_) rfl (by kernel_rfl) (by decide +kernel) (by decide +kernel) (by decide +kernel) (fun _ _ _ h => h) (by kernel_rfl) ?_ (by assumption) ?_
    rotate_left
    · (intro wz; go_simp; with_reducible rfl)
    try simp only [Act.put, List.setIfInBounds_toArray, List.set_cons_zero, List.set_cons_succ]
    refine wpAnyG_takeY (i := 12) (v := ?_) rfl (by kernel_rfl) (by decide +kernel) (by decide +kernel) (by decide +kernel) (fun _ _ _ h => h) (by kernel_rfl) ?_ (by assumption) ?_
    rotate_left
    · (intro wz; go_simp; with_reducible rfl)
    try simp only [Act.put, List.setIfInBounds_toArray, List.set_cons_zero, List.set_cons_succ]
    refine wpAnyG_take (i := 13) (v := ?_) rfl (by kernel_rfl) (by decide +kernel) (by decide +kernel) (by decide +kernel) (by decide +kernel) (by rfl) (fun _ _ _ h => h) (by kernel_rfl) ?_ (by assumption) ?_
    rotate_left
    · (intro wz hSw; (try dsimp only at hSw); go_simp; with_reducible rfl)
    try simp only [Act.put, List.setIfInBounds_toArray, List.set_cons_zero, List.set_cons_succ]
    refine wpAnyG_takeY (i := 14) (v := ?_) rfl (by kernel_rfl) (by decide +kernel) (by decide +kernel) (by decide +kernel) (fun _ _ _ h => h) (by kernel_rfl) ?_ (by assumption) ?_
    rotate_left
    · (intro wz; go_simp; with_reducible rfl)
    try simp only [Act.put, List.setIfInBounds_toArray, List.set_cons_zero, List.set_cons_succ]
    refine wpAnyG_takeY (i := 15) (v := ?_) rfl (by kernel_rfl) (by decide +kernel) (by decide +kernel) (by decide +kernel) (fun _ _ _ h => h) (by kernel_rfl) ?_ (by assumption) ?_
    rotate_left
    · (intro wz; go_simp; with_reducible rfl)
    try simp only [Act.put, List.setIfInBounds_toArray, List.set_cons_zero, List.set_cons_succ]
    refine wpAnyG_take (i := 16) (v := ?_) rfl (by kernel_rfl) (by decide +kernel) (by decide +kernel) (by decide +kernel) (by decide +kernel) (by rfl) (fun _ _ _ h => h) (by kernel_rfl) ?_ (by assumption) ?_
    rotate_left
    · (intro wz hSw; (try dsimp only at hSw); go_simp; with_reducible rfl)
    try simp only [Act.put, List.setIfInBounds_toArray, List.set_cons_zero, List.set_cons_succ]
    refine wpAnyG_takeY (i := 17) (v := ?_) rfl (by kernel_rfl) (by decide +kernel) (by decide +kernel) (by decide +kernel) (fun _ _ _ h => h) (by kernel_rfl) ?_ (by assumption) ?_
    rotate_left
    · (intro wz; go_simp; with_reducible rfl)
    try simp only [Act.put, List.setIfInBounds_toArray, List.set_cons_zero, List.set_cons_succ]
    refine wpAnyG_takeY (i := 18) (v := ?_) rfl (by kernel_rfl) (by decide +kernel) (by decide +kernel) (by decide +kernel) (fun _ _ _ h => h) (by kernel_rfl) ?_ (by assumption) ?_
    rotate_left
    · (intro wz; go_simp; with_reducible rfl)
    try simp only [Act.put, List.setIfInBounds_toArray, List.set_cons_zero, List.set_cons_succ]
    refine wpAnyG_takeY (i := 19) (v := ?_) rfl (by kernel_rfl) (by decide +kernel) (by decide +kernel) (by decide +kernel) (fun _ _ _ h => h) (by kernel_rfl) ?_ (by assumption) ?_
    rotate_left
    · (intro wz; go_simp; with_reducible rfl)
    try simp only [Act.put, List.setIfInBounds_toArray, List.set_cons_zero, List.set_cons_succ]
    refine wpAnyG_takeY (i := 20) (v := ?_) rfl (by kernel_rfl) (by decide +kernel) (by decide +kernel) (by decide +kernel) (fun _ _ _ h => h) (by kernel_rfl) ?_ (by assumption) ?_
    rotate_left
    · (intro wz; go_simp; with_reducible rfl)
    try simp only [Act.put, List.setIfInBounds_toArray, List.set_cons_zero, List.set_cons_succ]
    refine wpAnyG_last rfl (by kernel_rfl) (by rfl) (by rfl) (fun K hK => ?_)
    have HK := Lib.hid hK
    clear hK
    go_simp
    refine HK.out _ _ ?_
    clear HK K
    refine wpAnyG_done (by kernel_rfl) ?_ _
    obtain ⟨W3, hW3⟩ : ∃ W3, (w.setCell ⟨sb, 7, none⟩ (.bool true)).drew = W3 := ⟨_, rfl⟩
    have z7 : W3.cell? ⟨sb, 7, none⟩ = some (.bool true) := by rw [← hW3]; exact cell_has (has_setCell HB.out 7 (.bool true)) (i := 7) (by simp)
    have FN := Lib.hid (show NextP sb t m c T s w (.returned (.tuple #[.int .i64 (-1), .bool false])) W3 by
      refine FIN.out W3 (by rw [← hW3]; rfl) ?_
      rw [← hW3]; exact ((Keeps.refl _ _).setCell (.inr (by simp)) _).drew)
    rw [hW3]
    clear hW3 e0 e4 e7 y6 f7 hF
    go_wp2_with fail
    go_loopw [36] (fun x wr => W3 = wr) (fun _ _ => 0)
    case atStart => exact rfl
    case round =>
      subst hrel
      go_wp2_with fail
      go_ret2
      exact FN.out
  · rw [ho] at e7
    clear hsp
    go_enter Try.func41, Try.ntmps41
    go_wp2_with fail
    refine wp_regionG (fun w' => w'.cell? ⟨sb, 7, none⟩ = some (.bool true)) 21 (by kernel_rfl) e7 (fun hF => ?_)
    refine wpAnyG_takeY (i := 0) (v := ?_) rfl (by kernel_rfl) (by decide +kernel) (by decide +kernel) (by decide +kernel) (fun _ _ _ h => h) (by kernel_rfl) ?_ (by assumption) ?_
    rotate_left
    · (intro wz; go_simp; with_reducible rfl)
    try simp only [Act.put, List.setIfInBounds_toArray, List.set_cons_zero, List.set_cons_succ]
    refine wpAnyG_takeY (i := 1) (v := ?_) rfl (by kernel_rfl) (by decide +kernel) (by decide +kernel) (by decide +kernel) (fun _ _ _ h => h) (by kernel_rfl) ?_ (by assumption) ?_
    rotate_left
    · (intro wz; go_simp; with_reducible rfl)
    try simp only [Act.put, List.setIfInBounds_toArray, List.set_cons_zero, List.set_cons_succ]
    refine wpAnyG_takeY (i := 2) (v := ?_) rfl (by kernel_rfl) (by decide +kernel) (by decide +kernel) (by decide +kernel) (fun _ _ _ h => h) (by kernel_rfl) ?_ (by assumption) ?_
    rotate_left
    · (intro wz; go_simp; with_reducible rfl)
    try simp only [Act.put, List.setIfInBounds_toArray, List.set_cons_zero, List.set_cons_succ]
    refine wpAnyG_takeY (i := 3) (v := ?_) rfl (by kernel_rfl) (by decide +kernel) (by decide +kernel) (by decide +kernel) (fun _ _ _ h => h) (by kernel_rfl) ?_ (by assumption) ?_
    rotate_left
    · (intro wz; go_simp; with_reducible rfl)
    try simp only [Act.put, List.setIfInBounds_toArray, List.set_cons_zero, List.set_cons_succ]
    refine wpAnyG_take (i := 4) (v := ?_) rfl (by kernel_rfl) (by decide +kernel) (by decide +kernel) (by decide +kernel) (by decide +kernel) (by rfl) (fun _ _ _ h => h) (by kernel_rfl) ?_ (by assumption) ?_
    rotate_left
    · (intro wz hSw; (try dsimp only at hSw); go_simp; with_reducible rfl)
    try simp only [Act.put, List.setIfInBounds_toArray, List.set_cons_zero, List.set_cons_succ]
    refine wpAnyG_takeY (i := 5) (v := ?_) rfl (by kernel_rfl) (by decide +kernel) (by decide +kernel) (by decide +kernel) (fun _ _ _ h => h) (by kernel_rfl) ?_ (by assumption) ?_
    rotate_left
    · (intro wz; go_simp; with_reducible rfl)
    try simp only [Act.put, List.setIfInBounds_toArray, List.set_cons_zero, List.set_cons_succ]
    refine wpAnyG_takeU (i := 6) rfl (by kernel_rfl) (by decide +kernel) (by decide +kernel) (by decide +kernel) (fun _ _ _ h => h) (by kernel_rfl) (by assumption) ?_
    try simp only [Act.put, List.setIfInBounds_toArray, List.set_cons_zero, List.set_cons_succ]
    refine wpAnyG_takeU (i := 7) rfl (by kernel_rfl) (by decide +kernel) (by decide +kernel) (by decide +kernel) (fun _ _ _ h => h) (by kernel_rfl) (by assumption) ?_
    try simp only [Act.put, List.setIfInBounds_toArray, List.set_cons_zero, List.set_cons_succ]
    refine wpAnyG_takeU (i := 8) rfl (by kernel_rfl) (by decide +kernel) (by decide +kernel) (by decide +kernel) (fun _ _ _ h => h) (by kernel_rfl) (by assumption) ?_
    try simp only [Act.put, List.setIfInBounds_toArray, List.set_cons_zero, List.set_cons_succ]
    refine wpAnyG_takeU (i := 9) rfl (by kernel_rfl) (by decide +kernel) (by decide +kernel) (by decide +kernel) (fun _ _ _ h => h) (by kernel_rfl) (by assumption) ?_
    try simp only [Act.put, List.setIfInBounds_toArray, List.set_cons_zero, List.set_cons_succ]
    refine wpAnyG_takeU (i := 10) rfl (by kernel_rfl) (by decide +kernel) (by decide +kernel) (by decide +kernel) (fun _ _ _ h => h) (by kernel_rfl) (by assumption) ?_
    try simp only [Act.put, List.setIfInBounds_toArray, List.set_cons_zero, List.set_cons_succ]
    refine wpAnyG_takeU (i := 11) rfl (by kernel_rfl) (by decide +kernel) (by decide +kernel) (by decide +kernel) (fun _ _ _ h => h) (by kernel_rfl) (by assumption) ?_
    try simp only [Act.put, List.setIfInBounds_toArray, List.set_cons_zero, List.set_cons_succ]
    refine wpAnyG_takeU (i := 12) rfl (by kernel_rfl) (by decide +kernel) (by decide +kernel) (by decide +kernel) (fun _ _ _ h => h) (by kernel_rfl) (by assumption) ?_
    try simp only [Act.put, List.setIfInBounds_toArray, List.set_cons_zero, List.set_cons_succ]
    refine wpAnyG_takeU (i := 13) rfl (by kernel_rfl) (by decide +kernel) (by decide +kernel) (by decide +kernel) (fun _ _ _ h => h) (by kernel_rfl) (by assumption) ?_
    try simp only [Act.put, List.setIfInBounds_toArray, List.set_cons_zero, List.set_cons_succ]
    refine wpAnyG_takeU (i := 14) rfl (by kernel_rfl) (by decide +kernel) (by decide +kernel) (by decide +kernel) (fun _ _ _ h => h) (by kernel_rfl) (by assumption) ?_
    try simp only [Act.put, List.setIfInBounds_toArray, List.set_cons_zero, List.set_cons_succ]
    refine wpAnyG_takeU (i := 15) rfl (by kernel_rfl) (by decide +kernel) (by decide +kernel) (by decide +kernel) (fun _ _ _ h => h) (by kernel_rfl) (by assumption) ?_
    try simp only [Act.put, List.setIfInBounds_toArray, List.set_cons_zero, List.set_cons_succ]
    refine wpAnyG_takeU (i := 16) rfl (by kernel_rfl) (by decide +kernel) (by decide +kernel) (by decide +kernel) (fun _ _ _ h => h) (by kernel_rfl) (by assumption) ?_
    try simp only [Act.put, List.setIfInBounds_toArray, List.set_cons_zero, List.set_cons_succ]
    refine wpAnyG_takeU (i := 17) rfl (by kernel_rfl) (by decide +kernel) (by decide +kernel) (by decide +kernel) (fun _ _ _ h => h) (by kernel_rfl) (by assumption) ?_
    try simp only [Act.put, List.setIfInBounds_toArray, List.set_cons_zero, List.set_cons_succ]
    refine wpAnyG_takeY (i := 18) (v := ?_) rfl (by kernel_rfl) (by decide +kernel) (by decide +kernel) (by decide +kernel) (fun _ _ _ h => h) (by kernel_rfl) ?_ (by assumption) ?_
    rotate_left
    · (intro wz; go_simp; with_reducible rfl)
    try simp only [Act.put, List.setIfInBounds_toArray, List.set_cons_zero, List.set_cons_succ]
    refine wpAnyG_takeY (i := 19) (v := ?_) rfl (by kernel_rfl) (by decide +kernel) (by decide +kernel) (by decide +kernel) (fun _ _ _ h => h) (by kernel_rfl) ?_ (by assumption) ?_
    rotate_left
    · (intro wz; go_simp; with_reducible rfl)
    try simp only [Act.put, List.setIfInBounds_toArray, List.set_cons_zero, List.set_cons_succ]
    refine wpAnyG_takeY (i := 20) (v := ?_) rfl (by kernel_rfl) (by decide +kernel) (by decide +kernel) (by decide +kernel) (fun _ _ _ h => h) (by kernel_rfl) ?_ (by assumption) ?_
    rotate_left
    · (intro wz; go_simp; with_reducible rfl)
    try simp only [Act.put, List.setIfInBounds_toArray, List.set_cons_zero, List.set_cons_succ]
    refine wpAnyG_last rfl (by kernel_rfl) (by rfl) (by rfl) (fun K hK => ?_)
    have HK := Lib.hid hK
    clear hK
    go_simp
    refine HK.out _ _ ?_
    clear HK K
    refine wpAnyG_done (by kernel_rfl) ?_ _
    obtain ⟨W3, hW3⟩ : ∃ W3, (w.setCell ⟨sb, 7, none⟩ (.bool true)).drew = W3 := ⟨_, rfl⟩
    have z7 : W3.cell? ⟨sb, 7, none⟩ = some (.bool true) := by rw [← hW3]; exact cell_has (has_setCell HB.out 7 (.bool true)) (i := 7) (by simp)
    have FN := Lib.hid (show NextP sb t m c T s w (.returned (.tuple #[.int .i64 (-1), .bool false])) W3 by
      refine FIN.out W3 (by rw [← hW3]; rfl) ?_
      rw [← hW3]; exact ((Keeps.refl _ _).setCell (.inr (by simp)) _).drew)
    rw [hW3]
    clear hW3 e0 e4 e7 y6 f7 hF
    go_wp2_with fail
    go_loopw [36] (fun x wr => W3 = wr) (fun _ _ => 0)
    case atStart => exact rfl
    case round =>
      subst hrel
      go_wp2_with fail
      go_ret2
      exact FN.out
end Go.Proofs.Ytcakdmapnmneoaa
end
