/- Put, Clear, Len (chapter 7). -/
import Derived.Test.YtajcbghhpjpmhaaTabWrong
import Derived.Test.YtajcbghhpjpmhaaTabGrow
namespace Go.Proofs.Ytajcbghhpjpmhaa
open Go.RowKit
set_option linter.unusedVariables false

theorem liveN_put {E : List Ent} {k : Nat} {x : Ent} (h : E[k]? = some x) (v : Int) : liveN (E.set k { x with val := v }) = liveN E := by
  have hk := (List.getElem?_eq_some_iff.1 h).1
  have hx := (List.getElem?_eq_some_iff.1 h).2
  unfold liveN
  rw [List.countP_set hk, hx]
  have := List.countP_pos_iff (p := fun y : Ent => y.live) (l := E)
  cases hl : x.live
  · simp
  · have : 0 < E.countP (fun y => y.live) := this.2 ⟨x, by rw [← hx]; exact List.getElem_mem _, hl⟩
    simp; omega
/-- Behind a Put. -/
def PutP (t lo : Nat) (S : List Nat) (m : Value) (T : Tab) (e v : Int) (w : World) (r : Ending) (w' : World) : Prop := r = .returned (.int .i64 (okE (T.ent e))) ∧ TabAt t lo S m (T.put e v) w' ∧ Keeps S w w'
theorem put_any (t lo : Nat) (S : List Nat) (m : Value) (T : Tab) (w : World) (H : TabAt t lo S m T w) (hl : T.E.length ≤ 1000000) (e v : Int) :
    Calls Try.prog 36 #[.pointer (some ⟨t, 0, none⟩), .int .i64 e, .int .i64 v] w (PutP t lo S m T e v w) := by
  have HH := Lib.hid H
  obtain ⟨a, c, cb, cr, h1, h2, h3, h4, h5, h6, h7, h8⟩ := H
  unfold PutP Tab.put
  rw [entE_T]
  cases hx : entE T.E e with
  | none =>
    have H1 := Lib.hid h1
    have H2 := Lib.hid h2
    have HX := Lib.hid hx
    clear h1 h2 h3 h4 h5 h6 h7 h8 hx
    go_enter Try.func36, Try.ntmps36
    go_wp2_with fail
    refine (wrong_no t lo c a T.E m _ _ _ _ _ e _ H1.out H2.out hl HX.out).mono ?_
    rintro r w1 ⟨rfl, rfl⟩
    go_wp2_with fail
    go_ret
    exact ⟨rfl, HH.out, Keeps.refl _ _⟩
  | some x =>
    obtain ⟨h0, hx2, h9, h10⟩ := entE_some hx
    obtain ⟨g, rfl⟩ := h2.shape (by omega)
    obtain ⟨k, rfl⟩ : ∃ k : Nat, e = (k : Int) := ⟨e.toNat, by omega⟩
    have hxk : T.E[k]? = some x := by simpa using hx2
    have e1 : w.cell? ⟨t, 1, none⟩ = some (.slice (some ⟨g, 0, none⟩) T.E.length c) := cell_has h1 (i := 1) rfl
    have q3 : w.cell? ⟨g, k * 5 + 3, none⟩ = some (.int .i64 x.val) := h2.cell hxk 3 (by omega)
    have f3 := h2.free (k * 5 + 3)
    obtain ⟨n, hn⟩ := ex_hid T.E.length
    rw [← hn.out] at e1 h10
    have H1 := Lib.hid h1
    have H2 := Lib.hid h2
    have HX := Lib.hid hx
    have H3 := Lib.hid h3
    have XK := Lib.hid hxk
    have HS := Lib.hid (And.intro h4 (And.intro h5 (And.intro h6 (And.intro h7 h8))))
    have k0 : (0 : Int) ≤ (k : Int) := by omega
    clear h1 h2 h3 h4 h5 h6 h7 h8 hx hx2 h9 h0 hxk
    go_enter Try.func36, Try.ntmps36
    go_wp2_with fail
    refine (wrong_ok t lo c _ T.E m _ _ _ _ _ k x _ H1.out H2.out hl HX.out).mono ?_
    rintro r w1 ⟨rfl, rfl⟩
    go_wp2_with fail
    go_ret
    have kg : Keeps [g] w (w.setCell ⟨g, k * 5 + 3, none⟩ (.int .i64 v)) := (Keeps.refl _ _).setCell (.inr (by simp)) _
    obtain ⟨s4, s5, s6, s7, s8⟩ := HS.out
    have gt : t ∉ [g] := by have := H2.out.notin H1.out (by decide); simpa [blk] using this
    have hne := H3.out.noent H2.out
    simp only [blk] at hne s7
    refine ⟨rfl, ?_, kg.mono (by intro y hy; exact s7 y hy)⟩
    simp only [Int.toNat_natCast]
    refine ⟨some ⟨g, 0, none⟩, c, cb, cr, ?_, H2.out.put XK.out v, H3.out.keeps kg hne.1 hne.2, s4, s5, s6, s7, fun y hy => ⟨(s8 y hy).1, Nat.lt_of_lt_of_le (s8 y hy).2 kg.size⟩⟩
    have h := kg.has H1.out gt
    simp only [List.length_set, liveN_put XK.out v]
    exact h

/-- Behind a Clear. -/
def ClearP (t lo : Nat) (S : List Nat) (m : Option Nat) (c : C4) (T : Tab) (w : World) (r : Ending) (w' : World) : Prop :=
  ∃ S', r = .returned (.tuple #[]) ∧ TabAt t lo S' (mV m) T.clear w' ∧ MtrAt m c.tab w' ∧ Keeps (S ++ mS m) w w' ∧ Grew S w S'
theorem clear_any (t lo : Nat) (S : List Nat) (m : Option Nat) (c : C4) (T : Tab) (w : World) (H : TabAt t lo S (mV m) T w) (hM : MtrAt m c w) (hm : ∀ b, m = some b → b < lo) (hma : T.made ≤ 100000) (htu : T.turns ≤ 100000) :
    Calls Try.prog 35 #[.pointer (some ⟨t, 0, none⟩)] w (ClearP t lo S m c T w) := by
  have HH := Lib.hid H
  have HM := Lib.hid hM
  obtain ⟨a, cc, cb, cr, h1, h2, h3, h4, h5, h6, h7, h8⟩ := H
  have f1 := free_of_has h1 1
  have f3 := free_of_has h1 3
  have c1 : w.cell? ⟨t, 1, none⟩ = some (.slice a T.E.length cc) := cell_has h1 (i := 1) rfl
  have c3 : w.cell? ⟨t, 3, none⟩ = some (.int .i64 (liveN T.E : Nat)) := cell_has h1 (i := 3) rfl
  have H1 := Lib.hid h1
  have HS := Lib.hid (And.intro h4 h8)
  clear hM h1 h2 h3 h4 h5 h6 h7 h8
  go_enter Try.func35, Try.ntmps35
  go_wp2_with fail
  refine (begin_any t lo S (mV m) T.E T.V T.L (liveN T.E) T.births T.made T.turns _ HH.out).mono ?_
  rintro r w1 ⟨rfl, rfl⟩
  go_wp2_with fail
  have k2 : Keeps [t] w ((w.setCell ⟨t, 1, none⟩ (.slice none 0 0)).setCell ⟨t, 3, none⟩ (.int .i64 0)) := ((Keeps.refl _ _).setCell (.inr (by simp)) _).setCell (.inr (by simp)) _
  have hh := has_setCell (has_setCell H1.out 1 (.slice none 0 0)) 3 (.int .i64 0)
  have hb : ∀ b, m = some b → b ≠ t := fun b hb e => by have := hm b hb; have := (HS.out.2 t HS.out.1).1; omega
  refine (index_any t 3 3 rfl m c (.slice none 0 0) (.pointer (some ⟨cb, 0, none⟩)) (.int .i64 0) (.int .i64 T.births) (.int .i64 T.turns) T.made _ hh (HM.out.keeps k2 (fun b hb2 hx => by simp at hx; exact hb b hb2 hx)) hb (by omega) (by omega) (by omega) (by omega)).mono ?_
  rintro r w3 ⟨rfl, cb3, cr3, g1, g2, g3, g4, g5, g6⟩
  have K2 := Lib.hid k2
  have G1 := Lib.hid g1
  have G2 := Lib.hid g2
  have G5 := Lib.hid g5
  have G6 := Lib.hid g6
  have z := g6.size
  have c6 : w3.cell? ⟨t, 6, none⟩ = some (.int .i64 T.turns) := cell_has g1 (i := 6) rfl
  have f6 : w3.frozen? ⟨t, 6, none⟩ = false := free_of_has g1 6
  simp only [World.size_setCell] at z g3 g4
  clear k2 hh g1 g2 g5 g6
  go_wp2_with fail
  go_end0
  have kt : Keeps [t] w3 (w3.setCell ⟨t, 6, none⟩ (.int .i64 ((T.turns : Int) + 1))) := (Keeps.refl _ _).setCell (.inr (by simp)) _
  have hot := G2.out.other G1.out
  refine ⟨[t, cb3, cr3], rfl, ⟨none, 0, cb3, cr3, ?_, EntRow.nil _ _, G2.out.keeps kt (by simp; exact hot.1) (by simp; exact hot.2), by simp, by simp, by simp, by simp [blk], ?_⟩, G5.out.keeps kt (fun b hb2 hx => by simp at hx; exact hb b hb2 hx), ?_, ?_⟩
  · have h := has_setCell G1.out 6 (.int .i64 ((T.turns : Int) + 1))
    exact h
  · have l1 := lt_of_block G2.out.ho
    have l2 := lt_of_block G2.out.hr
    have l3 := HS.out.2 t HS.out.1
    have := kt.size
    intro y hy
    simp at hy
    rcases hy with rfl | rfl | rfl <;> omega
  · refine ((K2.out.mono ?_).trans (G6.out.mono ?_)).trans (kt.mono ?_)
    · intro y hy; simp at hy; subst hy; simp [HS.out.1]
    · intro y hy; simp at hy; rcases hy with rfl | hy
      · simp [HS.out.1]
      · simp [hy]
    · intro y hy; simp at hy; subst hy; simp [HS.out.1]
  · intro y hy
    simp at hy
    rcases hy with rfl | rfl | rfl
    · exact .inl HS.out.1
    · exact .inr g3
    · exact .inr g4
theorem len_any (t lo : Nat) (S : List Nat) (m : Value) (T : Tab) (w : World) (H : TabAt t lo S m T w) :
    Calls Try.prog 17 #[.pointer (some ⟨t, 0, none⟩)] w fun r w' => r = .returned (.int .i64 (liveN T.E : Nat)) ∧ w = w' := by
  obtain ⟨a, cc, cb, cr, h1, _⟩ := H
  have c3 : w.cell? ⟨t, 3, none⟩ = some (.int .i64 (liveN T.E : Nat)) := cell_has h1 (i := 3) rfl
  clear h1
  go_enter Try.func17, Try.ntmps17
  go_wp2_with fail
  go_ret
  exact ⟨rfl, rfl⟩
end Go.Proofs.Ytajcbghhpjpmhaa
