/- An entry is added, no growing (chapter 7). -/
import Derived.Test.YtcakdmapnmneoaaBeg
namespace Go.Proofs.Ytcakdmapnmneoaa
open Go.RowKit
set_option linter.unusedVariables false

set_option maxRecDepth 100000 in
set_option maxHeartbeats 4000000 in
theorem add_stay_gen (k : Nat) (hk : k ≤ 1000) (t lo : Nat) (S Q : List Nat) (m : Option Nat) (c : C4) (R : Tab) (w : World) (hB : Calls Try.prog 74 #[.pointer (some ⟨t, 0, none⟩)] (w.alloc (.cells #[.pointer (some ⟨t, 0, none⟩)] 77)) (BegP t lo S Q (mV m) R (w.alloc (.cells #[.pointer (some ⟨t, 0, none⟩)] 77)))) (hQ : ∀ x, x ∈ Q → x ∈ S) (hS : ∀ x, x ∈ S → lo ≤ x ∧ x < w.heap.size) (hM : MtrAt m c w) (hm : ∀ b, m = some b → b < lo) (hI : TInv k R) (hne : R.E.length ≠ R.room) (h ky v : Int) :
    Calls Try.prog 73 #[.pointer (some ⟨t, 0, none⟩), .int .i64 h, .int .i64 ky, .int .i64 v] w (AddP t lo S m c R h ky v w) := by
  have RR : Hid (RdyF k R) := Lib.hid (by
    have h1 := hI.rm
    have h2 := hI.ek
    have h3 := hI.bk
    have h4 := hI.tk
    unfold Tab.room at hne
    exact ⟨hI.l3, hI.l12, by omega, hI.ci, hI.ft, by omega, by omega, by omega⟩)
  have h20 : 2 ^ R.L ≤ 1048576 := pow_le (by have := hI.l12; omega)
  have HB := Lib.hid hB
  have HM := Lib.hid hM
  have hne' : (((R.E.length : Nat) : Int) == ((2 * 2 ^ R.L / 3 : Nat) : Int)) = false := by
    unfold Tab.room at hne
    exact beq_false_of_ne (by omega)
  obtain ⟨rm, hrm⟩ := ex_hid (2 * 2 ^ R.L / 3)
  obtain ⟨n, hn⟩ := ex_hid R.E.length
  rw [← hrm.out, ← hn.out] at hne'
  clear hM hI hne hB
  go_enter Try.func73, Try.ntmps73
  go_wp2_with fail
  refine HB.out.mono ?_
  rintro r WA ⟨rfl, S1, t1, kA, gA⟩
  have nQ : w.heap.size ∉ Q := fun hx => by have := (hS _ (hQ _ hx)).2; omega
  have bA : WA.heap[w.heap.size]? = some (.cells #[.pointer (some ⟨t, 0, none⟩)] 77 (0, 0)) := kA.has (has_new _ _) nQ
  obtain ⟨a1, c1, cb1, cr1, h1, h2, h3, h4, h5, h6, h7, h8⟩ := t1
  have e1 : WA.cell? ⟨t, 1, none⟩ = some (.slice a1 R.E.length c1) := cell_has h1 (i := 1) rfl
  have e2 : WA.cell? ⟨t, 2, none⟩ = some (.pointer (some ⟨cb1, 0, none⟩)) := cell_has h1 (i := 2) rfl
  have HC := Lib.hid h3
  have H1 := Lib.hid h1
  have H2 := Lib.hid h2
  have H48 := Lib.hid (And.intro h4 (And.intro h5 (And.intro h6 (And.intro h7 h8))))
  rw [← hn.out] at e1
  have z0 := cell_has bA (i := 0) rfl
  have z1 := e1
  have z2 := e2
  have BA := Lib.hid bA
  have KA := Lib.hid (((Keeps.refl Q w).alloc _).trans kA)
  have zA := kA.size
  simp only [World.size_alloc] at zA
  have GW : Hid (Grew S w S1) := Lib.hid (fun x hx => by
    rcases gA x hx with q | q
    · exact .inl q
    · exact .inr (by simp at q; omega))
  have NB : Hid (w.heap.size ∉ S1) := Lib.hid (fun hx => by
    rcases gA _ hx with q | q
    · have := (hS _ q).2; omega
    · simp at q; omega)
  have HM0 : Hid (MtrAt m c WA) := Lib.hid ((HM.out.keeps ((Keeps.refl Q w).alloc _) (fun b hb hx => by have := hm b hb; have := (hS _ (hQ _ hx)).1; omega)).keeps kA (fun b hb hx => by have := hm b hb; have := (hS _ (hQ _ hx)).1; omega))
  have HQ := Lib.hid hQ
  clear bA kA gA h1 h2 h3 h4 h5 h6 h7 h8 e1 e2 nQ hQ hS
  go_wp2_with fail
  go_region_held3 (fun w' => w'.cell? ⟨w.heap.size, 0, none⟩ = some (.pointer (some ⟨t, 0, none⟩)) ∧ w'.cell? ⟨t, 1, none⟩ = some (.slice a1 n c1) ∧ w'.cell? ⟨t, 2, none⟩ = some (.pointer (some ⟨cb1, 0, none⟩))) (go_keep)
    (first | (refine (room_any cb1 cr1 R.L (2 ^ R.L) R.V _ (HC.out.keeps (Keeps.refl [] WA).drew (by simp) (by simp)) h20).mono ?_; rintro r W ⟨rfl, b3⟩; have k3 := (Below.keeps b3 []); have p0 := k3.cell (w := WA.drew) z0 (by simp); have p1 := k3.cell (w := WA.drew) z1 (by simp); have p2 := k3.cell (w := WA.drew) z2 (by simp); rw [← hrm.out]; have K3 := Lib.hid ((Keeps.refl [] WA).drew.trans k3); have B3 := Lib.hid (k3.has (has_drew BA.out) (by simp)); clear b3 k3))
  have B0 := B3
  have KW := Lib.hid ((KA.out.mono (T := S ++ mS m) (fun x hx => by simp [HQ.out x hx])).trans (K3.out.mono (T := S ++ mS m) (by simp)))
  have t1 := K3.out.has H1.out (by simp)
  have t2 := H2.out.keeps K3.out (by simp)
  have t3 := HC.out.keeps K3.out (by simp) (by simp)
  obtain ⟨t4, t5, t6, t7, t8'⟩ := H48.out
  have t8 : ∀ x, x ∈ S1 → lo ≤ x ∧ x < W.heap.size := fun x hx => ⟨(t8' x hx).1, Nat.lt_of_lt_of_le (t8' x hx).2 K3.out.size⟩
  clear t8'
  have HM1 := Lib.hid (HM0.out.keeps K3.out (by simp))
  clear z0 z1 z2 p0 p1 p2

  have y1 : W.cell? ⟨t, 1, none⟩ = some (.slice a1 n c1) := by rw [hn.out]; exact cell_has t1 (i := 1) rfl
  have y4 : W.cell? ⟨t, 4, none⟩ = some (.int .i64 R.births) := cell_has t1 (i := 4) rfl
  have x0 : W.cell? ⟨w.heap.size, 0, none⟩ = some (.pointer (some ⟨t, 0, none⟩)) := cell_has B0.out (i := 0) rfl
  have HB1 := Lib.hid t1
  have HE1 := Lib.hid t2
  have HC1 := Lib.hid t3
  have HS1 := Lib.hid (And.intro t4 (And.intro t5 (And.intro t6 (And.intro t7 t8))))
  obtain ⟨g, cap, W2, hrun, r1, r2, r3, r4⟩ := ent_append lo a1 c1 R.E ⟨true, h, ky, v, R.births⟩ (W.alloc (.cells #[.bool true, .int .i64 h, .int .i64 ky, .int .i64 v, .int .i64 R.births] 36)).drew W.heap.size (EntRow.keeps (w := W) t2 (((Keeps.refl [] W).alloc _).drew) (by simp)) (has_new' W _ rfl) (by have := RR.out.2.2.2.2.2.1; omega) (by have := (t8 t t4); simp; omega)
  rw [← hn.out] at hrun
  have kW2 : Keeps (blk a1) W W2 := (((Keeps.refl (blk a1) W).alloc _).drew).trans r2
  have HR1 := Lib.hid r1
  have HR3 := Lib.hid r3
  have HR4 := Lib.hid r4
  have tn1 : t ∉ blk a1 := t2.notin t1 (by decide)
  have h12 := kW2.has t1 tn1
  have y12 := kW2.cell y1 tn1
  have f12 := free_of_has h12 1
  have x02 : W2.cell? ⟨w.heap.size, 0, none⟩ = some (.pointer (some ⟨t, 0, none⟩)) := kW2.cell x0 (t2.notin B0.out (by decide))
  have y42 := kW2.cell y4 tn1
  have KW2 := Lib.hid kW2
  have H12 := Lib.hid h12
  have P0 : (W.alloc (.cells #[.bool true, .int .i64 h, .int .i64 ky, .int .i64 v, .int .i64 R.births] 36)).cell? ⟨w.heap.size, 0, none⟩ = some (.pointer (some ⟨t, 0, none⟩)) := cell_alloc x0 _
  have P1 : (W.alloc (.cells #[.bool true, .int .i64 h, .int .i64 ky, .int .i64 v, .int .i64 R.births] 36)).cell? ⟨t, 1, none⟩ = some (.slice a1 n c1) := cell_alloc y1 _
  have P4 : (W.alloc (.cells #[.bool true, .int .i64 h, .int .i64 ky, .int .i64 v, .int .i64 R.births] 36)).cell? ⟨t, 4, none⟩ = some (.int .i64 R.births) := cell_alloc y4 _
  have cap1 := Lib.hid t2.cap_le
  clear t1 t2 t3 t4 t5 t6 t7 t8 r1 r2 r3 r4 kW2 h12
  go_wp2_with fail
  go_cut [57] from 43 to 59 (fun z57 wx => z57 = .slice (some ⟨g, 0, none⟩) (n + 1) cap ∧ wx = W2.setCell ⟨t, 1, none⟩ (.slice (some ⟨g, 0, none⟩) (n + 1) cap))
  case first =>
    go_region_law (refine step_append_run (o := ⟨some 57, _, _, _, _, _⟩) rfl (.tmp 47) (.tmp 56) 33 rfl _ _ rfl rfl _ _ hrun ?_)
    all_goals (go_wp2_with fail; go_meet; exact ⟨rfl, rfl⟩)
  case rest =>
    obtain ⟨rfl, rfl⟩ := hcut
    obtain ⟨W3, hW3⟩ : ∃ W3, W2.setCell ⟨t, 1, none⟩ (.slice (some ⟨g, 0, none⟩) (n + 1) cap) = W3 := ⟨_, rfl⟩
    have HW3 := Lib.hid hW3
    rw [hW3]
    have k3 : Keeps [t] W2 W3 := by rw [← hW3]; exact (Keeps.refl _ _).setCell (.inr (by simp)) _
    have b3 := has_setCell H12.out 1 (.slice (some ⟨g, 0, none⟩) (n + 1) cap)
    rw [hW3] at b3
    obtain ⟨s4, s5, s6, s7, s8⟩ := HS1.out
    have sz2 := KW2.out.size
    have gl := HR1.out.blk_lt g (by simp [blk])
    have kk := (KW2.out.mono (T := t :: blk a1) (fun y hy => List.mem_cons_of_mem _ hy)).then (S := t :: blk a1) (k3) (by intro y hy; simp at hy; subst hy; right; simp)
    have gt2 : g ≠ t := fun e => by
      have h9 := HR1.out.notin H12.out (by decide)
      simp [blk, e] at h9
    have T3 : TabC t lo (g :: S1) (mV m) (R.E ++ [⟨true, h, ky, v, R.births⟩]) R.V R.L (liveN R.E) R.births R.made R.turns W3 := by
      have hot := HC1.out.other HB1.out
      have hne := HC1.out.noent HE1.out
      refine ⟨some ⟨g, 0, none⟩, cap, cb1, cr1, ?_, HR1.out.keeps k3 (by simp [blk]; exact gt2), (HC1.out.keeps KW2.out hne.1 hne.2).keeps k3 (by simp; exact hot.1) (by simp; exact hot.2), by simp [s4], by simp [s5], by simp [s6], by simp [blk], ?_⟩
      · rw [List.length_append, ← hn.out]; exact b3
      · intro y hy
        have := k3.size
        simp at hy
        rcases hy with rfl | hy
        · omega
        · have := s8 y hy; omega
    have x03 : W3.cell? ⟨w.heap.size, 0, none⟩ = some (.pointer (some ⟨t, 0, none⟩)) := k3.cell x02 (by intro hx; simp at hx; have := HB1.out; have h9 := B0.out; rw [hx, HB1.out] at h9; simp at h9)
    have hx : (R.E ++ [(⟨true, h, ky, v, R.births⟩ : Ent)])[n]? = some ⟨true, h, ky, v, R.births⟩ := by rw [hn.out]; simp
    have T3' := Lib.hid T3
    have HX := Lib.hid hx
    have KK := Lib.hid kk
    have B3 := Lib.hid (k3.has (KW2.out.has B0.out (HE1.out.notin B0.out (by decide))) (by intro hx; simp at hx; have h9 := B0.out; rw [hx, HB1.out] at h9; simp at h9))
    clear hrun y1 y4 x0 y12 f12 x02 y42 hW3 k3 b3 s4 s5 s6 s7 s8 kk T3 hx sz2 gl gt2 P0 P1 P4
    go_wp2_with fail
    refine (lay_any t lo (g :: S1) (mV m) _ R.V R.L (liveN R.E) R.births R.made R.turns W3 T3'.out RR.out.1 (by have := RR.out.2.1; omega) RR.out.2.2.2.2.1 n _ HX.out (may_of (by have := RR.out.2.2.1; have := hn.out; omega))).mono ?_
    rintro r W4 ⟨rfl, t4', k4⟩
    have T4 := Lib.hid t4'
    have K4 := Lib.hid k4
    have hgb : w.heap.size ≠ g := fun hx => by
      have h9 := HR1.out.notin (w := W2) (KW2.out.has B0.out (HE1.out.notin B0.out (by decide))) (by decide)
      simp [blk, hx] at h9
    have B4 := Lib.hid (k4.has B3.out (by intro hx; simp at hx; exact hx.elim hgb NB.out))
    obtain ⟨a5, c5, cb5, cr5, g1, g2, g3, g4, g5, g6, g7, g8⟩ := t4'
    have x04 : W4.cell? ⟨w.heap.size, 0, none⟩ = some (.pointer (some ⟨t, 0, none⟩)) := cell_has B4.out (i := 0) rfl
    have y44 : W4.cell? ⟨t, 4, none⟩ = some (.int .i64 R.births) := cell_has g1 (i := 4) rfl
    have y43 : W4.cell? ⟨t, 3, none⟩ = some (.int .i64 (liveN R.E : Nat)) := cell_has g1 (i := 3) rfl
    have y46 : W4.cell? ⟨t, 6, none⟩ = some (.int .i64 R.turns) := cell_has g1 (i := 6) rfl
    have f44 := free_of_has g1 4
    have f43 := free_of_has g1 3
    have f46 := free_of_has g1 6
    have nbt : w.heap.size ≠ t := by intro hx; have h9 := B4.out; rw [hx, g1] at h9; simp at h9
    have lvb : liveN R.E ≤ 1000 := by have := liveN_le R.E; have := RR.out.2.2.2.2.2.1; omega
    have bib := RR.out.2.2.2.2.2.2.1
    have tub := RR.out.2.2.2.2.2.2.2
    have G1 := Lib.hid g1
    have G2 := Lib.hid g2
    have G3 := Lib.hid g3
    have G48 := Lib.hid (And.intro g4 (And.intro g5 (And.intro g6 (And.intro g7 g8))))
    clear k4 g1 g2 g3 g4 g5 g6 g7 g8
    go_wp2_with fail
    go_ret2
    obtain ⟨g4, g5, g6, g7, g8⟩ := G48.out
    obtain ⟨s4, s5, s6, s7, s8⟩ := HS1.out
    have kt : Keeps [t] W4 (((W4.setCell ⟨t, 4, none⟩ (.int .i64 ((R.births : Int) + 1))).setCell ⟨t, 3, none⟩ (.int .i64 (((liveN R.E : Nat) : Int) + 1))).setCell ⟨t, 6, none⟩ (.int .i64 ((R.turns : Int) + 1))) := (((Keeps.refl _ _).setCell (.inr (by simp)) _).setCell (.inr (by simp)) _).setCell (.inr (by simp)) _
    have hot := G3.out.other G1.out
    have hen := G2.out.notin G1.out (by decide)
    have k14 : Keeps (g :: S1) W W4 := ((KK.out.mono (T := g :: S1) (fun y hy => by simp at hy; rcases hy with rfl | hy; · simp [s4]
                                                                                    · simp [s7 y hy])).trans K4.out)
    have gnew : g ∈ S1 ∨ W.heap.size ≤ g := HR3.out.elim (fun h => .inl (s7 g h)) (fun h => .inr (by rw [h]; simp))
    have mlt : ∀ b, m = some b → b ∉ g :: S1 := fun b hb hx => by
      have h9 := hm b hb
      simp at hx
      rcases hx with rfl | hx
      · have := (HR1.out.blk_lt b (by simp [blk])).1; omega
      · have := (s8 b hx).1; omega
    refine ⟨g :: S1, (by have h9 := hn.out; subst h9; rfl), ⟨a5, c5, cb5, cr5, ?_, G2.out.keeps kt (by intro y hy hx; simp at hx; subst hx; exact hen hy), ?_, g4, g5, g6, g7, fun y hy => ⟨(g8 y hy).1, Nat.lt_of_lt_of_le (g8 y hy).2 kt.size⟩⟩, (HM1.out.keeps k14 mlt).keeps kt (fun b hb hx => by simp at hx; subst hx; exact mlt _ hb (by simp [s4])), ?_, ?_⟩
    · have h9 := has_setCell (has_setCell (has_setCell G1.out 4 (.int .i64 ((R.births : Int) + 1))) 3 (.int .i64 (((liveN R.E : Nat) : Int) + 1))) 6 (.int .i64 ((R.turns : Int) + 1))
      have e9 : liveN (R.E ++ [(⟨true, h, ky, v, R.births⟩ : Ent)]) = liveN R.E + 1 := by simp [liveN]
      simp only [List.setIfInBounds_toArray, List.set_cons_zero, List.set_cons_succ] at h9
      rw [h9]
      simp only [Tab.add1, e9]
      rfl
    · have h9 := G3.out.keeps kt (by simp; exact hot.1) (by simp; exact hot.2)
      rw [hn.out] at h9
      exact h9
    · refine (KW.out.then k14 ?_).then kt ?_
      · intro y hy
        have hs := KW.out.size
        simp at hy
        have key : ∀ z, z ∈ S1 → w.heap.size ≤ z ∨ z ∈ S ++ mS m := fun z hz => (GW.out z hz).elim (fun h9 => .inr (List.mem_append_left _ h9)) .inl
        rcases hy with rfl | hy
        · rcases gnew with h9 | h9
          · exact key _ h9
          · exact .inl (by omega)
        · exact key _ hy
      · intro y hy
        simp at hy
        subst hy
        exact (GW.out _ s4).elim (fun h9 => .inr (List.mem_append_left _ h9)) .inl
    · intro y hy
      simp at hy
      rcases hy with rfl | hy
      · rcases gnew with h9 | h9
        · exact GW.out _ h9
        · exact .inr (by have := KW.out.size; omega)
      · exact GW.out _ hy
theorem add_stay (k : Nat) (hk : k ≤ 1000) (t lo : Nat) (S : List Nat) (m : Option Nat) (c : C4) (R : Tab) (w : World) (H : TabAt t lo S (mV m) R w) (hM : MtrAt m c w) (hm : ∀ b, m = some b → b < lo) (hI : TInv k R) (hne : R.E.length ≠ R.room) (h ky v : Int) :
    Calls Try.prog 73 #[.pointer (some ⟨t, 0, none⟩), .int .i64 h, .int .i64 ky, .int .i64 v] w (AddP t lo S m c R h ky v w) :=
  add_stay_gen k hk t lo S [] m c R w (begin_beg t lo S (mV m) R _ (H.keeps ((Keeps.refl [] w).alloc _) (by simp))) (by simp) H.foot hM hm hI hne h ky v
end Go.Proofs.Ytcakdmapnmneoaa
