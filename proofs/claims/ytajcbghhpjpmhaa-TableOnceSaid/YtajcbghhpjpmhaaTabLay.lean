/- An entry is laid into the cells (chapter 7). -/
import Derived.Test.YtajcbghhpjpmhaaTabNew
import Derived.Test.YtajcbghhpjpmhaaTrailIter
import Derived.Deep.RegionHeld3
import Derived.Deep.DeepMust
import Derived.WalkMore
namespace Go.Proofs.Ytajcbghhpjpmhaa
open Go.RowKit Go.Shelf
set_option linter.unusedVariables false
attribute [local go_sem] Oper.semAt_some

theorem fe_eq {L h : Nat} {V : Nat → Int} {i : Nat} (h1 : i ≤ fe L h V) (h2 : i < 2 ^ L + 13) (h3 : V (trC L h i) = -1) : i = fe L h V := by
  rcases Nat.lt_or_ge i (fe L h V) with h4 | h4
  · exact absurd h3 (fe_before h4)
  · omega
theorem fe_succ {L h : Nat} {V : Nat → Int} {i : Nat} (h1 : i ≤ fe L h V) (h2 : i < 2 ^ L + 13) (h3 : V (trC L h i) ≠ -1) : i + 1 ≤ fe L h V := by
  rcases Nat.lt_or_ge i (fe L h V) with h4 | h4
  · omega
  · have h5 : fe L h V = i := by omega
    unfold fe at h5
    have h6 := fi_is (p := isE L h V) (n := 2 ^ L + 13) (by omega)
    rw [h5] at h6
    unfold isE at h6
    simp only [beq_iff_eq] at h6
    exact absurd h6 h3
theorem layV_full {L h : Nat} {V : Nat → Int} {e : Int} (h1 : 2 ^ L + 13 ≤ fe L h V) : layV L h V e = V := by unfold layV; rw [if_neg (by omega)]
theorem layV_hit {L h : Nat} {V : Nat → Int} {e : Int} (h1 : fe L h V < 2 ^ L + 13) : layV L h V e = putN V (trC L h (fe L h V)) e := by unfold layV; rw [if_pos h1]

set_option maxRecDepth 100000 in
set_option maxHeartbeats 2000000 in
theorem lay_any (t lo : Nat) (S : List Nat) (m : Value) (E : List Ent) (V : Nat → Int) (L lv bi ma tu : Nat) (w : World) (H : TabC t lo S m E V L lv bi ma tu w) (h3 : 3 ≤ L) (hL : L ≤ 20) (hF : Fits (2 ^ L) V)
    (e : Nat) (x : Ent) (hx : E[e]? = some x) (he : mayB (2 ^ L) e = true) :
    Calls Try.prog 77 #[.pointer (some ⟨t, 0, none⟩), .int .i64 e] w fun r w' => r = .returned (.tuple #[]) ∧ TabC t lo S m E (layV L (uh x.hash) V e) L lv bi ma tu w' ∧ Keeps S w w' := by
  obtain ⟨a, c, cb, cr, h1, h2, h3', h4, h5, h6, h7, h8⟩ := H
  have hel := (List.getElem?_eq_some_iff.1 hx).1
  obtain ⟨g, rfl⟩ := h2.shape (by omega)
  have HC := Lib.hid h3'
  have HE := Lib.hid h2
  have HB := Lib.hid h1
  have HF := Lib.hid hF
  have HM := Lib.hid he
  have HS := Lib.hid (show t ∈ S ∧ cb ∈ S ∧ cr ∈ S ∧ (∀ y, y ∈ blk (some (⟨g, 0, none⟩ : Addr)) → y ∈ S) ∧ ∀ y, y ∈ S → lo ≤ y ∧ y < w.heap.size from ⟨h4, h5, h6, h7, h8⟩)
  have e1 : w.cell? ⟨t, 1, none⟩ = some (.slice (some ⟨g, 0, none⟩) E.length c) := cell_has h1 (i := 1) rfl
  have e2 : w.cell? ⟨t, 2, none⟩ = some (.pointer (some ⟨cb, 0, none⟩)) := cell_has h1 (i := 2) rfl
  have q1 : w.cell? ⟨g, e * 5 + 1, none⟩ = some (.int .i64 x.hash) := h2.cell hx 1 (by omega)
  obtain ⟨n, hn⟩ := ex_hid E.length
  rw [← hn.out] at e1 hel
  have hel' : (e : Int) < (n : Int) := by omega
  clear h1 h2 h3' h4 h5 h6 h7 h8 hx hF he
  refine calls_of_wp_ranges Try.func77 rfl ?_
  simp only [Try.ntmps77, List.size_toArray, List.length_cons, List.length_nil, Nat.reduceAdd, Nat.reduceSub, Array.replicate_succ, Array.replicate_zero, List.push_toArray, List.append_toArray, List.nil_append, List.cons_append]
  go_wp2_with fail
  apply wp_scope_straight
  go_wp2_with fail
  apply wp_label
  go_wp2_with fail
  refine wp_gen (fun W => W.heap[w.heap.size]? = some (.cells #[.pointer (some ⟨t, 0, none⟩)] 24 (0, 0)) ∧ W.heap[w.heap.size + 1]? = some (.cells #[.int .i64 e] 3 (0, 0)) ∧ Keeps [] w W ∧ W.heap.size = w.heap.size + 2) ⟨has_alloc (has_new _ _) _, has_new' _ _ (by simp), ((Keeps.refl [] w).alloc _).alloc _, by simp⟩ ?_
  rintro W ⟨b0, b1, k0, zW⟩
  have K0 := Lib.hid k0
  have B01 := Lib.hid (And.intro b0 b1)
  have x0 := cell_has b0 (i := 0) rfl
  have x1 := cell_has b1 (i := 0) rfl
  have y1 := k0.cell e1 (by simp)
  have y2 := k0.cell e2 (by simp)
  have y3 := k0.cell q1 (by simp)
  have D := Lib.hid (show W.drew.cell? ⟨w.heap.size, 0, none⟩ = _ ∧ W.drew.cell? ⟨w.heap.size + 1, 0, none⟩ = _ ∧ W.drew.cell? ⟨t, 1, none⟩ = _ ∧ W.drew.cell? ⟨t, 2, none⟩ = _ ∧ W.drew.cell? ⟨g, e * 5 + 1, none⟩ = _ from ⟨x0, x1, y1, y2, y3⟩)
  clear e1 e2 q1 b0 b1 k0
  go_region_held3 (fun w' => w'.cell? ⟨w.heap.size, 0, none⟩ = some (.pointer (some ⟨t, 0, none⟩)) ∧ w'.cell? ⟨w.heap.size + 1, 0, none⟩ = some (.int .i64 e) ∧ w'.cell? ⟨g, e * 5 + 1, none⟩ = some (.int .i64 x.hash) ∧ w'.cell? ⟨t, 1, none⟩ = some (.slice (some ⟨g, 0, none⟩) n c) ∧ w'.cell? ⟨t, 2, none⟩ = some (.pointer (some ⟨cb, 0, none⟩))) (go_keep)
    (first
      | (go_at_call 42; refine (log_any cb cr L (2 ^ L) V _ (HC.out.keeps K0.out.drew (by simp) (by simp))).mono ?_; rintro r1 w1 ⟨rfl, rfl⟩)
      | (go_at_call 78; refine (trail_all _ _ _).mono ?_; rintro r1 w1 ⟨rfl, hw1⟩; have kw := Lib.hid ((((Keeps.refl [] W.drew).alloc (.cells #[.int .i64 x.hash] 3)).alloc (.cells #[.int .i64 (L : Int)] 3))); rw [hw1] at kw; have HW := Lib.hid hw1; have p0 := kw.out.cell D.out.1 (by simp); have p1 := kw.out.cell D.out.2.1 (by simp); have p2 := kw.out.cell D.out.2.2.1 (by simp); have p3 := kw.out.cell D.out.2.2.2.1 (by simp); have p4 := kw.out.cell D.out.2.2.2.2 (by simp); clear hw1))
  have B1 := Lib.hid (And.intro (kw.out.has (has_drew B01.out.1) (by simp)) (kw.out.has (has_drew B01.out.2) (by simp)))
  have K1 := Lib.hid (K0.out.drew.trans kw.out)
  have P1 : Hid (TrPriv (w.heap.size + 2 + 1) (w.heap.size + 2) L x.hash w1) := Lib.hid (by
    have hw := HW.out
    have zd : W.drew.heap.size = w.heap.size + 2 := zW
    rw [← hw, ← zd]
    exact ⟨cell_has (has_new' _ _ (by simp)) (i := 0) rfl, cell_has (has_alloc (has_new _ _) _) (i := 0) rfl⟩)
  clear HW kw p0 p1 p2 p3 p4 D x0 x1 y1 y2 y3 K0 B01
  go_wp2_with fail
  refine wp_rangeN (gf := 92) (lb := #[.pointer (some ⟨w.heap.size + 2 + 1, 0, none⟩), .pointer (some ⟨w.heap.size + 2, 0, none⟩)]) rfl enters_trail (trIter (w.heap.size + 2 + 1) (w.heap.size + 2) L hL x.hash) (fun _ => rfl)
    (fun i W => Keeps [] w1 W ∧ i ≤ fe L (uh x.hash) V) (fun c i W => c = .exit 0 ∧ i = fe L (uh x.hash) V ∧ Keeps [cr] w1 W ∧ CellsAt cb cr L (2 ^ L) (putN V (trC L (uh x.hash) i) e) W)
    (fun i A B h k => ⟨h.1.then k (by intro y hy; simp at hy; left; omega), h.2⟩) (fun c i A B h k => ⟨h.1, h.2.1, h.2.2.1.then k (by intro y hy; simp at hy; left; omega), h.2.2.2.keeps k (by have := lt_of_block HC.out.ho; have := K1.out.size; simp; omega) (by have := lt_of_block HC.out.hr; have := K1.out.size; simp; omega)⟩) ?priv ⟨Keeps.refl _ _, Nat.zero_le _⟩ ?round ?done ?stop
  case priv => intro i A h; exact ⟨h.1.cell P1.out.1 (by simp), h.1.cell P1.out.2 (by simp)⟩
  case round =>
    intro l i W2 K hi hW hsz hK
    gi_wp2
    refine hK _ _ (fun _ => True) (fun _ _ h _ => h) trivial (Keeps.refl _ _) ?_
    clear hK hW hsz
    intro W2 hW _ hsz
    obtain ⟨hk2, hie⟩ := hW
    have hc2 := trC_lt L (uh x.hash) i
    have KW := Lib.hid (K1.out.trans hk2)
    have HC2 := Lib.hid (HC.out.keeps KW.out (by simp) (by simp))
    have x0 : W2.cell? ⟨w.heap.size, 0, none⟩ = some (.pointer (some ⟨t, 0, none⟩)) := hk2.cell (cell_has B1.out.1 (i := 0) rfl) (by simp)
    have y2 : W2.cell? ⟨t, 2, none⟩ = some (.pointer (some ⟨cb, 0, none⟩)) := KW.out.cell (cell_has HB.out (i := 2) rfl) (by simp)
    have HK2 := Lib.hid hk2
    have hn1 : 2 ^ L ≤ 1048576 := pow_le hL
    obtain ⟨n2, hn2⟩ := ex_hid (2 ^ L)
    obtain ⟨k, hk⟩ := ex_hid (trC L (uh x.hash) i)
    rw [← hk.out, ← hn2.out] at hc2
    rw [← hn2.out] at hn1
    rw [← hk.out]
    have HF2 := HF
    rw [← hn2.out] at HC2 HF2
    have hk0 : (0 : Int) ≤ (k : Int) := by omega
    have hk1 : (k : Int) < (n2 : Int) := by omega
    clear hk2
    gi_wp2
    refine ⟨trivial, (CallsIn.inRound l (callsIn_wide.2 (getc_in cb cr L n2 V k _ HC2.out HF2.out hn1 hk0 hk1))).mono ?_⟩
    rintro r w5 ⟨rfl, b5⟩
    have K5 := Below.keeps b5 []
    have HC5 := Lib.hid (HC2.out.keeps K5 (by simp) (by simp))
    have x5 := K5.cell x0 (by simp)
    have y5 := K5.cell y2 (by simp)
    have x6 : w5.cell? ⟨w.heap.size + 1, 0, none⟩ = some (.int .i64 e) := K5.cell (HK2.out.cell (cell_has B1.out.2 (i := 0) rfl) (by simp)) (by simp)
    have KK := Lib.hid K5
    clear b5 K5 x0 y2
    by_cases hv : V k = -1
    · rw [show V (k : Int).toNat = -1 by simpa using hv]
      have HM2 : Hid (mayB n2 e = true) := by rw [hn2.out]; exact HM
      gi_wp2
      gi_region_with (refine ⟨trivial, (CallsIn.inRound l (callsIn_wide.2 (setc_in cb cr L n2 V k e w5.drew ⟨HC5.out.ho, HC5.out.hr⟩ hL hn2.out hk0 hk1 HM2.out))).mono ?_⟩; rintro r w6 ⟨rfl, k6, h6⟩)
      all_goals gi_wp2
      all_goals
        have hq : i = fe L (uh x.hash) V := fe_eq hie hi (by rw [← hk.out]; exact hv)
        have z1 := lt_of_block HC.out.hr
        have z2 := K1.out.size
        have z3 := KK.out.size
        refine ⟨⟨rfl, hq, (((HK2.out.trans KK.out).drew).mono (by simp)).trans k6, ?_⟩, (k6.block _ (by show w1.heap.size < w5.heap.size; omega) (by simp; omega)).trans (KK.out.block _ (by omega) (by simp)), (k6.block _ (by show w1.heap.size + 1 < w5.heap.size; omega) (by simp; omega)).trans (KK.out.block _ (by omega) (by simp))⟩
        rw [← hk.out, ← hn2.out]
        exact h6
    · have hv' : (V (k : Int).toNat == -1) = false := by simpa using hv
      gi_wp2
      have z3 := KK.out.size
      exact ⟨⟨HK2.out.trans KK.out, fe_succ hie hi (by rw [← hk.out]; exact hv)⟩, KK.out.block _ (by omega) (by simp), KK.out.block _ (by omega) (by simp)⟩
  case done =>
    intro W2 hW hD
    obtain ⟨hk2, hie⟩ := hW
    have HD := Lib.hid hD
    have HK2 := Lib.hid (K1.out.trans hk2)
    have HL := Lib.hid hie
    clear hk2 hie hD
    go_wp2_with fail
    obtain ⟨s1, s2, s3, s4, s5⟩ := HS.out
    have zD := K1.out.size
    refine bodyPostR_end1 (D := w1.heap.size) (fun w => results_none rfl _ _ _) rfl HD.out fun w' kD => ?_
    have kk : Keeps [] w w' := HK2.out.then kD (by intro y hy; simp at hy; left; omega)
    refine ⟨rfl, ?_, kk.mono (by simp)⟩
    rw [layV_full HL.out]
    exact ⟨_, c, cb, cr, kk.has HB.out (by simp), HE.out.keeps kk (by simp), HC.out.keeps kk (by simp) (by simp), s1, s2, s3, s4, fun y hy => ⟨(s5 y hy).1, Nat.lt_of_lt_of_le (s5 y hy).2 kk.size⟩⟩
  case stop =>
    rintro c' i W2 hi ⟨rfl, rfl, hk2, hc2⟩ hD
    have HD := Lib.hid hD
    have HK2 := Lib.hid ((K1.out.mono (by simp)).trans hk2)
    have HC2 := Lib.hid hc2
    have HI := Lib.hid hi
    clear hk2 hc2 hD hi
    go_wp2_with fail
    obtain ⟨s1, s2, s3, s4, s5⟩ := HS.out
    have zD := K1.out.size
    refine bodyPostR_end1 (D := w1.heap.size) (fun w => results_none rfl _ _ _) rfl HD.out fun w' kD => ?_
    have kk : Keeps [cr] w w' := HK2.out.then kD (by intro y hy; simp at hy; left; omega)
    have hot := HC.out.other HB.out
    have hne := HC.out.noent HE.out
    have zc := lt_of_block HC.out.ho
    have zr := lt_of_block HC.out.hr
    refine ⟨rfl, ?_, kk.mono (by intro y hy; simp at hy; rw [hy]; exact s3)⟩
    rw [layV_hit HI.out]
    exact ⟨_, c, cb, cr, kk.has HB.out (by simp; exact fun h => hot.2 h.symm), HE.out.keeps kk (by intro y hy hy2; simp at hy2; subst hy2; exact hne.2 hy), HC2.out.keeps kD (by simp; omega) (by simp; omega), s1, s2, s3, s4, fun y hy => ⟨(s5 y hy).1, Nat.lt_of_lt_of_le (s5 y hy).2 kk.size⟩⟩
end Go.Proofs.Ytajcbghhpjpmhaa
