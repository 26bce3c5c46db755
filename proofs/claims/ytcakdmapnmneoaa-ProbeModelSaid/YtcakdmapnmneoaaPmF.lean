/- ProbeModel: the model's out (chapter 8's laws). -/
import Derived.Test.YtcakdmapnmneoaaPmD
namespace Go.Proofs.Ytcakdmapnmneoaa
open Go.RowKit
set_option linter.unusedVariables false
set_option linter.unusedSimpArgs false

set_option maxRecDepth 100000 in
set_option maxHeartbeats 4000000 in
theorem out_at8 (lo mo : Nat) (M : List Nat) (most same : Int) (acv : Value) (inner : Bool) (s : Ms8) (i : Nat) (w : World) (H : MdAt lo mo M most same acv inner s w) (hV : s.V ≤ 1000) (hl : s.L.length ≤ 1000) (hi : i < s.L.length) :
    Calls Try.prog 56 #[.pointer (some ⟨mo, 0, none⟩), .int .i64 i] w fun r w' => r = .returned (.tuple #[]) ∧ Md8 lo mo M most same acv inner ⟨s.L.take i ++ s.L.drop (i + 1), s.V + 1, s.A⟩ w w' := by
  obtain ⟨la, lc, aa, ac, m1, p1, q1, rfl, l1⟩ := H
  have hmo : mo < w.heap.size := lt_of_block m1
  obtain ⟨g, rfl⟩ := own_shape8 p1 (by omega)
  have CAP := own_cap8 p1
  obtain ⟨n, hn⟩ := ex_hid s.L.length
  rw [← hn.out] at m1 hl hi CAP
  have M1 := Lib.hid m1
  have P1 := Lib.hid p1
  have Q1 := Lib.hid q1
  have y2 : w.cell? ⟨mo, 2, none⟩ = some (.int .i64 s.V) := cell_has m1 (i := 2) rfl
  have f2 := free_of_has m1 2
  have hw := up8 (V := s.V) (by omega)
  have hwi := up8 (V := i) (by omega)
  have i0 : (0 : Int) ≤ (i : Int) := by omega
  have i1 : (i : Int) < (n : Int) := by omega
  have i2 : (i : Int) ≤ (n : Int) := by omega
  clear m1 p1 q1
  go_enter Try.func56, Try.ntmps56
  go_upto_region 2 with (fail)
  refine wp_gen (fun V => V.heap[mo]? = some (modO (.slice (some ⟨g, 0, none⟩) n lc) most (s.V + 1 : Nat) (.slice aa s.A.length ac) acv same inner) ∧ Keeps [mo] w V) ⟨has_V8 M1.out (s.V + 1) _ (by omega), (Keeps.refl _ _).setCell (.inr (by simp)) _⟩ ?_
  rintro W2 ⟨m2, k2⟩
  have nml : mo ∉ blk (some (⟨g, 0, none⟩ : Addr)) := own_notin8 P1.out M1.out (by decide)
  have nma : mo ∉ blk aa := own_notin8 Q1.out M1.out (by decide)
  have hgm : g ≠ mo := fun e => nml (by simp [blk, e])
  have P2 := Lib.hid (show P8Row lo (some ⟨g, 0, none⟩) lc s.L W2 from own_keeps8 P1.out k2 (fun x hx h => by simp at h; subst h; exact nml hx))
  have Q2 := Lib.hid (show A8Row lo aa ac s.A W2 from own_keeps8 Q1.out k2 (fun x hx h => by simp at h; subst h; exact nma hx))
  have z0 : W2.cell? ⟨mo, 0, none⟩ = some (.slice (some ⟨g, 0, none⟩) n lc) := cell_has m2 (i := 0) rfl
  have M2 := Lib.hid m2
  have K2 := Lib.hid k2
  have HPL := Lib.hid (show (s.L.take i).length = i from by rw [List.length_take, ← hn.out]; omega)
  obtain ⟨a5, c5, W5, run5, v5, k5, g5⟩ := p8_append_src W2.heap.size 0 lc none [] (s.L.take i) (some ⟨g, 0, none⟩) W2 (P8Row.nil _ _) (.inr ⟨_, rfl, P2.out.front i⟩) (by rw [HPL.out, List.length_nil]; omega) (Nat.le_refl _)
  rw [List.nil_append] at v5
  rw [HPL.out, List.length_nil, Nat.zero_add] at run5
  have RUN5 := Lib.hid run5
  have KK5 := Lib.hid (show Keeps [] W2 W5 from k5.mono (by simp [blk]))
  have V5 := Lib.hid v5
  have G5 := Lib.hid (show ∀ z, z ∈ blk a5 → W2.heap.size ≤ z from fun z hz => (g5 z hz).elim (fun h => by simp [blk] at h) (fun h => by omega))
  have P5 := Lib.hid (show P8Row lo (some ⟨g, 0, none⟩) lc s.L W5 from own_keeps8 P2.out KK5.out (by simp))
  have z5 : W5.cell? ⟨mo, 0, none⟩ = some (.slice (some ⟨g, 0, none⟩) n lc) := KK5.out.cell z0 (by simp)
  clear run5 k5 v5 g5 m2 k2 y2 f2
  go_upto_region 3 with (at_builtin; refine wpList_append_run rfl _ _ 67 rfl _ _ rfl rfl _ _ RUN5.out ?_)
  have HDL := Lib.hid (show (s.L.drop (i + 1)).length = n - (i + 1) from by rw [List.length_drop, ← hn.out])
  have i3 : ((i : Int) + 1) ≤ (n : Int) := by omega
  have i4 : (0 : Int) ≤ ((i : Int) + 1) := by omega
  have FIN0 : ∀ (a6 : Option Addr) (c6 : Nat) (W6 : World), (P8Row W2.heap.size a6 c6 (s.L.take i ++ s.L.drop (i + 1)) W6 ∧ Keeps (blk a5) W5 W6 ∧ ∀ x, x ∈ blk a6 → x ∈ blk a5 ∨ x = W5.heap.size) → Md8 lo mo (mo :: (blk (some (⟨g, 0, none⟩ : Addr)) ++ blk aa)) most same acv inner ⟨s.L.take i ++ s.L.drop (i + 1), s.V + 1, s.A⟩ w (W6.setCell ⟨mo, 0, none⟩ (.slice a6 (i + (n - (i + 1))) c6)) := by
    rintro a6 c6 W6 ⟨q1, q2, q3⟩
    have z25 := KK5.out.size
    have z2 := K2.out.size
    have k6 : Keeps [mo] W6 (W6.setCell ⟨mo, 0, none⟩ (.slice a6 (i + (n - (i + 1))) c6)) := (Keeps.refl _ _).setCell (.inr (by simp)) _
    have k26 : Keeps [] W2 W6 := KK5.out.then q2 (fun z hz => .inl (G5.out z hz))
    have n6 : ∀ x, x ∈ blk a6 → W2.heap.size ≤ x := fun x hx => (q3 x hx).elim (G5.out x) (fun h => by omega)
    refine ⟨mo :: (blk a6 ++ blk aa), ⟨a6, c6, aa, ac, ?_, ownsRow_base (own_keeps8 q1 k6 (fun x hx h => by simp at h; subst h; have := n6 _ hx; omega)) (by omega), own_keeps8 (own_keeps8 Q2.out k26 (by simp)) k6 (fun x hx h => by simp at h; subst h; exact nma hx), rfl, l1⟩, ?_, ?_⟩
    · have h6 := has_L8 (k26.has M2.out (by simp)) (.slice a6 (i + (n - (i + 1))) c6)
      rw [h6, List.length_append, HPL.out, HDL.out]
    · exact ((K2.out.mono (by simp)).trans (k26.mono (by simp))).trans (k6.mono (by simp))
    · intro x hx
      simp only [List.mem_cons, List.mem_append] at hx ⊢
      rcases hx with rfl | hx | hx
      · exact .inl (.inl rfl)
      · have := n6 _ hx; exact .inr (by omega)
      · exact .inl (.inr (.inr hx))
  have FIN0 := Lib.hid FIN0
  clear nml nma hgm z0 hi
  by_cases hci : lc = i + 1
  · obtain ⟨a6, c6, W6, run6, v6, k6, g6⟩ := p8_append_src W2.heap.size c5 0 a5 (s.L.take i) (s.L.drop (i + 1)) (some ⟨g, 0, none⟩) W5 V5.out (.inl (List.drop_eq_nil_of_le (by rw [← hn.out]; omega))) (by rw [HPL.out, HDL.out]; omega) KK5.out.size
    rw [HPL.out, HDL.out] at run6
    have RUN6 := Lib.hid run6
    have FIN := Lib.hid (FIN0.out a6 c6 W6 ⟨v6, k6, g6⟩)
    have f6 : W6.frozen? ⟨mo, 0, none⟩ = false := free_of_has ((KK5.out.then k6 (fun z hz => .inl (G5.out z hz)) : Keeps [] W2 W6).has M2.out (by simp)) 0
    have z6 : W6.cell? ⟨mo, 0, none⟩ = some (.slice (some ⟨g, 0, none⟩) n lc) := cell_has ((KK5.out.then k6 (fun z hz => .inl (G5.out z hz)) : Keeps [] W2 W6).has M2.out (by simp)) (i := 0) rfl
    clear run6 v6 k6 g6
    go_wp2_with (at_builtin; refine wpList_append_run rfl _ _ 67 rfl _ _ rfl rfl _ _ RUN6.out ?_)
    refine bodyPost_end (results_none rfl _ _ _) rfl ?_
    exact ⟨rfl, FIN.out⟩
  · obtain ⟨a6, c6, W6, run6, v6, k6, g6⟩ := p8_append_src W2.heap.size c5 (lc - (i + 1)) a5 (s.L.take i) (s.L.drop (i + 1)) (some ⟨g, (i + 1) * 3, none⟩) W5 V5.out (.inr ⟨_, rfl, P5.out.part (o := 0) (i + 1)⟩) (by rw [HPL.out, HDL.out]; omega) KK5.out.size
    rw [HPL.out, HDL.out] at run6
    have RUN6 := Lib.hid run6
    have FIN := Lib.hid (FIN0.out a6 c6 W6 ⟨v6, k6, g6⟩)
    have f6 : W6.frozen? ⟨mo, 0, none⟩ = false := free_of_has ((KK5.out.then k6 (fun z hz => .inl (G5.out z hz)) : Keeps [] W2 W6).has M2.out (by simp)) 0
    have z6 : W6.cell? ⟨mo, 0, none⟩ = some (.slice (some ⟨g, 0, none⟩) n lc) := cell_has ((KK5.out.then k6 (fun z hz => .inl (G5.out z hz)) : Keeps [] W2 W6).has M2.out (by simp)) (i := 0) rfl
    clear run6 v6 k6 g6
    go_wp2_with (at_builtin; refine wpList_append_run rfl _ _ 67 rfl _ _ rfl rfl _ _ RUN6.out ?_)
    refine bodyPost_end (results_none rfl _ _ _) rfl ?_
    exact ⟨rfl, FIN.out⟩
end Go.Proofs.Ytcakdmapnmneoaa
