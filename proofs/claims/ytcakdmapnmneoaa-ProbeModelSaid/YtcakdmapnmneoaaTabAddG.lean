/- An entry is added, the table grows (chapter 7). -/
import Derived.Test.YtcakdmapnmneoaaB4
namespace Go.Proofs.Ytcakdmapnmneoaa
open Go.RowKit
set_option linter.unusedVariables false

theorem growL_def (n : Nat) : growL n = leastL fun l => decide (3 * n ≤ 2 ^ l) := by unfold growL; rfl
theorem liveN_liveL (E : List Ent) : liveN (liveL E) = liveN E := by simp [liveN, liveL, List.countP_filter]
theorem enters_addf : EntersF Try.prog 96 := entersF_of Try.func96 (by kernel_rfl) (by kernel_rfl)

set_option maxRecDepth 100000 in
set_option maxHeartbeats 4000000 in
theorem add_grow (k : Nat) (hk : k ≤ 1000) (t lo : Nat) (S : List Nat) (m : Option Nat) (c0 : C4) (T : Tab) (w : World) (H : TabAt t lo S (mV m) T w) (hM : MtrAt m c0 w) (hm : ∀ b, m = some b → b < lo) (hI : TInv k T) (he : T.E.length = T.room) (h ky v : Int) :
    Calls Try.prog 73 #[.pointer (some ⟨t, 0, none⟩), .int .i64 h, .int .i64 ky, .int .i64 v] w (AddP t lo S m c0.tab T.ready h ky v w) := by
  obtain ⟨R, hR⟩ : ∃ R, Hid (R = T.ready) := ⟨_, Lib.hid rfl⟩
  rw [← hR.out]
  obtain ⟨c, hc⟩ : ∃ c, Hid (c = c0.tab) := ⟨_, Lib.hid rfl⟩
  rw [← hc.out]
  have RR : Hid (RdyF k R) := Lib.hid (by
    obtain ⟨r1, r2, r3, r4, r5, r6, r7, r8, r9⟩ := hI.ready hk
    rw [← hR.out] at r1 r2 r3 r4 r5 r6 r7 r9
    have h3 := hI.bk
    have h4 := hI.tk
    exact ⟨r1, r2, r3, r4, r5, by omega, by omega, by omega⟩)
  have hRg : Hid (R = T.grow) := Lib.hid (by rw [hR.out]; unfold Tab.ready; rw [if_pos he])
  have h20 : 2 ^ T.L ≤ 1048576 := pow_le (by have := hI.l12; omega)
  have HH := Lib.hid H
  have HM := Lib.hid hM
  have hpos : 0 < T.E.length := by
    have := two_ge hI.l3
    unfold Tab.room at he
    omega
  have hlen : T.E.length ≤ 1000 := by have := hI.ek; omega
  have hmade : T.made ≤ 1000000 := by have := hI.mdk; omega
  have hlv : liveN T.E ≤ 1000 := by have := liveN_le T.E; omega
  have he' : (((T.E.length : Nat) : Int) == ((2 * 2 ^ T.L / 3 : Nat) : Int)) = true := by
    unfold Tab.room at he
    rw [he]; simp
  obtain ⟨a0, c1', cb1, cr1', h1, h2, h3, h4, h5, h6, h7, h8⟩ := H
  have e1 : w.cell? ⟨t, 1, none⟩ = some (.slice a0 T.E.length c1') := cell_has h1 (i := 1) rfl
  have e2 : w.cell? ⟨t, 2, none⟩ = some (.pointer (some ⟨cb1, 0, none⟩)) := cell_has h1 (i := 2) rfl
  have HC := Lib.hid h3
  have H1 := Lib.hid h1
  have H48 := Lib.hid (And.intro h4 (And.intro h5 (And.intro h6 (And.intro h7 h8))))
  obtain ⟨rm, hrm⟩ := ex_hid (2 * 2 ^ T.L / 3)
  obtain ⟨n0, hn0⟩ := ex_hid T.E.length
  rw [← hrm.out, ← hn0.out] at he'
  rw [← hn0.out] at e1
  have HI := Lib.hid hI
  clear hM hI he h1 h2 h3 h4 h5 h6 h7 h8
  go_enter Try.func73, Try.ntmps73
  go_wp2_with fail
  refine (begin_any t lo S (mV m) T.E T.V T.L (liveN T.E) T.births T.made T.turns _ (HH.out.keeps ((Keeps.refl [] w).alloc _) (by simp))).mono ?_
  rintro r w1 ⟨rfl, rfl⟩
  have kA : Keeps [] w (w.alloc (.cells #[.pointer (some ⟨t, 0, none⟩)] 77)) := (Keeps.refl [] w).alloc _
  have bA : (w.alloc (.cells #[.pointer (some ⟨t, 0, none⟩)] 77)).heap[w.heap.size]? = some (.cells #[.pointer (some ⟨t, 0, none⟩)] 77 (0, 0)) := has_new _ _
  obtain ⟨WA, hWA⟩ : ∃ WA, w.alloc (.cells #[.pointer (some ⟨t, 0, none⟩)] 77) = WA := ⟨_, rfl⟩
  rw [hWA] at kA bA ⊢
  have z0 := cell_has bA (i := 0) rfl
  have z1 := kA.cell e1 (by simp)
  have z2 := kA.cell e2 (by simp)
  have BA := Lib.hid bA
  have KA := Lib.hid kA
  clear hWA kA bA e1 e2
  go_wp2_with fail
  go_region_held3 (fun w' => w'.cell? ⟨w.heap.size, 0, none⟩ = some (.pointer (some ⟨t, 0, none⟩)) ∧ w'.cell? ⟨t, 1, none⟩ = some (.slice a0 n0 c1') ∧ w'.cell? ⟨t, 2, none⟩ = some (.pointer (some ⟨cb1, 0, none⟩))) (go_keep)
    (first | (refine (room_any cb1 cr1' T.L (2 ^ T.L) T.V _ (HC.out.keeps KA.out.drew (by simp) (by simp)) h20).mono ?_; rintro r W5 ⟨rfl, b3⟩; have k3 := (Below.keeps b3 []); have p0 := k3.cell (w := WA.drew) z0 (by simp); have p1 := k3.cell (w := WA.drew) z1 (by simp); have p2 := k3.cell (w := WA.drew) z2 (by simp); rw [← hrm.out]; have K3 := Lib.hid (KA.out.drew.trans k3); have B3 := Lib.hid (k3.has (has_drew BA.out) (by simp)); clear b3 k3))
  clear z0 z1 z2 p1 p2
  go_wp2_with fail
  have hcF : ∀ (W' : World) (l : Int) (L : Nat), Keeps [] W5 W' → l = (L : Int) → L ≤ 20 → Calls Try.prog 96 (#[.int .i64 l] ++ #[.pointer (some ⟨w.heap.size, 0, none⟩)]) W' fun r w' => r = .returned (.bool (decide (3 * liveN T.E ≤ 2 ^ L))) ∧ Keeps [] W' w' := fun W' l L kw hl2 hL2 =>
    addf_any w.heap.size t l L (liveN T.E) hl2 hL2 (by omega) _ _ _ _ _ _ W' (cell_has (kw.has B3.out (by simp)) (i := 0) rfl) (kw.has (K3.out.has H1.out (by simp)) (by simp))
  have hgl := growL_le hlv
  have hgl3 := growL_ge (liveN T.E)
  have hgd := growL_def (liveN T.E)
  refine (least_any _ #[.pointer (some ⟨w.heap.size, 0, none⟩)] enters_addf (fun l => decide (3 * liveN T.E ≤ 2 ^ l)) (by rw [← hgd]; omega) W5 hcF).mono ?_
  rintro r W6 ⟨rfl, k6⟩
  rw [← hgd]
  have K6 := Lib.hid (K3.out.trans k6)
  have B6 := Lib.hid (k6.has B3.out (by simp))
  have T6 := Lib.hid (HH.out.keeps K6.out (by simp))
  have q0 := cell_has B6.out (i := 0) rfl
  have hg20 : ((growL (liveN T.E) : Nat) : Int) ≤ 20 := by omega
  clear hcF k6 p0 hgd
  go_wp2_with fail
  refine (drop_any t lo S (mV m) T.E T.V T.L (liveN T.E) T.births T.made T.turns W6 T6.out hpos (by omega)).mono ?_
  rintro r W7 ⟨rfl, t7, k7⟩
  have hbS : w.heap.size ∉ S := fun hx => by have := (H48.out.2.2.2.2 _ hx).2; omega
  have B7 := Lib.hid (k7.has B6.out hbS)
  have K7 := Lib.hid (K6.out.mono (T := S) (by simp) |>.trans k7)
  have q7 := cell_has B7.out (i := 0) rfl
  obtain ⟨a7, c7, cb7, cr7, d1, d2, d3, d4, d5, d6, d7, d8⟩ := t7
  have D1 := Lib.hid d1
  have D2 := Lib.hid d2
  have D48 := Lib.hid (And.intro d4 (And.intro d7 d8))
  have hbt : ∀ b, m = some b → b ≠ t := fun b hb e9 => by have h9 := hm b hb; have := (d8 t d4).1; omega
  have hbS2 : ∀ b, m = some b → b ∉ S := fun b hb hx => by have h9 := hm b hb; have := (d8 b hx).1; omega
  have M7 := Lib.hid (HM.out.keeps K7.out hbS2)
  clear q0 k7 d1 d2 d3 d4 d5 d6 d7 d8
  go_wp2_with fail
  refine (index_any t (growL (liveN T.E)) _ rfl m c0 (.slice a7 (liveL T.E).length c7) (.pointer (some ⟨cb7, 0, none⟩)) (.int .i64 (liveN T.E : Nat)) (.int .i64 T.births) (.int .i64 T.turns) T.made W7 D1.out M7.out hbt hgl3 (by omega) (by omega) (by omega)).mono ?_
  rintro r W8 ⟨rfl, cb8, cr8, g1, g2, g3, g4, g5, g6⟩
  have hmlt : ∀ x, x ∈ mS m → x < W7.heap.size := fun x hx => by cases m with | none => simp [mS] at hx | some b => simp [mS] at hx; subst hx; exact lt_of_block (M7.out _ rfl)
  have hmlo : ∀ x, x ∈ mS m → x < lo := fun x hx => by cases m with | none => simp [mS] at hx | some b => simp [mS] at hx; subst hx; exact hm _ rfl
  have t8 : TabC t lo (cb8 :: cr8 :: S) (mV m) (liveL T.E) (begun (2 ^ growL (liveN T.E))) (growL (liveN T.E)) (liveN T.E) T.births (T.made + 1) T.turns W8 := by
    refine ⟨a7, c7, cb8, cr8, g1, D2.out.keeps g6 (fun x hx hx2 => ?_), g2, by simp [D48.out.1], by simp, by simp, fun x hx => by simp [D48.out.2.1 x hx], fun x hx => ?_⟩
    · simp at hx2
      rcases hx2 with rfl | hx2
      · exact D2.out.notin D1.out (by decide) hx
      · have := (D2.out.blk_lt x hx).1; have := hmlo x hx2; omega
    · have z := g6.size
      have z1 := lt_of_block g2.ho
      have z2 := lt_of_block g2.hr
      have z3 := (D48.out.2.2 t D48.out.1)
      simp at hx
      rcases hx with rfl | rfl | hx
      · omega
      · omega
      · have := D48.out.2.2 x hx; omega
  have hbm : w.heap.size ∉ t :: mS m := fun hx => by
    simp at hx
    rcases hx with hx | hx
    · have := (H48.out.2.2.2.2 t H48.out.1).2; omega
    · have := hmlo _ hx; have := (H48.out.2.2.2.2 t H48.out.1); omega
  have B8 := Lib.hid (g6.has B7.out hbm)
  have K8 := Lib.hid ((K7.out.mono (T := S ++ mS m) (fun x hx => List.mem_append_left _ hx)).trans (g6.mono (T := S ++ mS m) (fun x hx => (List.mem_cons.1 hx).elim (fun e9 => List.mem_append_left _ (e9 ▸ H48.out.1)) (fun h9 => List.mem_append_right _ h9))))
  have Z8 := Lib.hid (show w.heap.size + 1 ≤ W7.heap.size from (by have := lt_of_block B7.out; omega))
  have T8 := Lib.hid t8
  have M8 := Lib.hid g5
  have q8 := cell_has B8.out (i := 0) rfl
  have hcbr := Lib.hid (And.intro g3 g4)
  clear q7 t8 g1 g2 g3 g4 g5 g6 hmlt
  go_wp2_with fail
  have hrm9 : (liveL T.E).length ≤ 2 * 2 ^ growL (liveN T.E) / 3 := by
    have h9 := RR.out.2.2.1
    rw [hRg.out] at h9
    have h10 : (liveL T.E).length + 1 ≤ 2 * 2 ^ growL (liveN T.E) / 3 := h9
    omega
  refine (layAll_any t lo (cb8 :: cr8 :: S) (mV m) (liveL T.E) (growL (liveN T.E)) (liveN T.E) T.births (T.made + 1) T.turns W8 T8.out hgl3 (by omega) hrm9 (by rw [liveL_len]; omega)).mono ?_
  rintro r W ⟨rfl, t9, k9⟩
  have tR : TabC t lo (cb8 :: cr8 :: S) (mV m) R.E R.V R.L (liveN R.E) R.births R.made R.turns W := by
    rw [hRg.out]
    show TabC t lo (cb8 :: cr8 :: S) (mV m) (liveL T.E) (layN (growL (liveN T.E)) (liveL T.E) (liveN T.E)) (growL (liveN T.E)) (liveN (liveL T.E)) T.births (T.made + 1) T.turns W
    rw [liveN_liveL]
    have e9 := liveL_len T.E
    rw [e9] at t9
    exact t9
  have hbS9 : w.heap.size ∉ cb8 :: cr8 :: S := fun hx => by
    have z8 := Z8.out
    have z9 := hcbr.out
    simp at hx
    rcases hx with hx | hx | hx
    · omega
    · omega
    · exact hbS hx
  have B0 := Lib.hid (k9.has B8.out hbS9)
  have KW : Hid (Keeps (S ++ mS m) w W) := Lib.hid (K8.out.then k9 (fun x hx => by
    have z8 := Z8.out
    have z9 := hcbr.out
    simp only [List.mem_cons] at hx
    rcases hx with rfl | rfl | hx
    · exact .inl (by omega)
    · exact .inl (by omega)
    · exact .inr (List.mem_append_left _ hx)))
  have HM1 : Hid (MtrAt m c W) := Lib.hid (by
    rw [hc.out]
    exact M8.out.keeps k9 (fun b hb hx => by have := hm b hb; have := (T8.out.foot b hx).1; omega))
  obtain ⟨S1, hS1⟩ : ∃ S1, S1 = cb8 :: cr8 :: S := ⟨_, rfl⟩
  have GW : Hid (Grew S w S1) := Lib.hid (by
    rw [hS1]
    intro x hx
    have z8 := Z8.out
    have z9 := hcbr.out
    simp only [List.mem_cons] at hx
    rcases hx with rfl | rfl | hx
    · exact .inr (by omega)
    · exact .inr (by omega)
    · exact .inl hx)
  have NB : Hid (w.heap.size ∉ S1) := Lib.hid (by rw [hS1]; exact hbS9)
  rw [← hS1] at tR
  obtain ⟨n, hn⟩ := ex_hid R.E.length
  obtain ⟨a1, c1, cb1, cr1, t1, t2, t3, t4, t5, t6, t7, t8⟩ := tR
  clear q8 t9 k9 hbS9 hS1 hrm9 hg20 hgl hgl3

  have y1 : W.cell? ⟨t, 1, none⟩ = some (.slice a1 n c1) := by rw [hn.out]; exact cell_has t1 (i := 1) rfl
  have y4 : W.cell? ⟨t, 4, none⟩ = some (.int .i64 R.births) := cell_has t1 (i := 4) rfl
  have x0 : W.cell? ⟨w.heap.size, 0, none⟩ = some (.pointer (some ⟨t, 0, none⟩)) := cell_has B0.out (i := 0) rfl
  have HB1 := Lib.hid t1
  have HE1 := Lib.hid t2
  have HC1 := Lib.hid t3
  have HS1 := Lib.hid (And.intro t4 (And.intro t5 (And.intro t6 (And.intro t7 t8))))
  obtain ⟨g, cap, W2, hrun, r1, r2, r3, r4⟩ := ent_append lo a1 c1 R.E ⟨true, h, ky, v, R.births⟩ (W.alloc (.cells #[.bool true, .int .i64 h, .int .i64 ky, .int .i64 v, .int .i64 R.births] 36)).drew W.heap.size (EntRow.keeps (w := W) t2 (((Keeps.refl [] W).alloc _).drew) (by simp)) (has_new' W _ rfl) (by have := RR.out.2.2.2.2.2.1; omega) (by have := (t8 t t4); simp; omega)
  rw [← hn.out] at hrun
  have kW2 : Keeps (blk a1) W W2 := (((Keeps.refl (blk a1) W).alloc _).drew).trans r2
  have HR1 := Lib.hid r1
  have HR3 := Lib.hid r3
  have HR4 := Lib.hid r4
  have tn1 : t ∉ blk a1 := t2.notin t1 (by decide)
  have h12 := kW2.has t1 tn1
  have y12 := kW2.cell y1 tn1
  have f12 := free_of_has h12 1
  have x02 : W2.cell? ⟨w.heap.size, 0, none⟩ = some (.pointer (some ⟨t, 0, none⟩)) := kW2.cell x0 (t2.notin B0.out (by decide))
  have y42 := kW2.cell y4 tn1
  have KW2 := Lib.hid kW2
  have H12 := Lib.hid h12
  have P0 : (W.alloc (.cells #[.bool true, .int .i64 h, .int .i64 ky, .int .i64 v, .int .i64 R.births] 36)).cell? ⟨w.heap.size, 0, none⟩ = some (.pointer (some ⟨t, 0, none⟩)) := cell_alloc x0 _
  have P1 : (W.alloc (.cells #[.bool true, .int .i64 h, .int .i64 ky, .int .i64 v, .int .i64 R.births] 36)).cell? ⟨t, 1, none⟩ = some (.slice a1 n c1) := cell_alloc y1 _
  have P4 : (W.alloc (.cells #[.bool true, .int .i64 h, .int .i64 ky, .int .i64 v, .int .i64 R.births] 36)).cell? ⟨t, 4, none⟩ = some (.int .i64 R.births) := cell_alloc y4 _
  have cap1 := Lib.hid t2.cap_le
  clear t1 t2 t3 t4 t5 t6 t7 t8 r1 r2 r3 r4 kW2 h12
  go_wp2_with fail
  go_cut [57] from 43 to 59 (fun z57 wx => z57 = .slice (some ⟨g, 0, none⟩) (n + 1) cap ∧ wx = W2.setCell ⟨t, 1, none⟩ (.slice (some ⟨g, 0, none⟩) (n + 1) cap))
  case first =>
    go_region_law (refine step_append_run (o := ⟨some 57, _, _, _, _, _⟩) rfl (.tmp 47) (.tmp 56) 33 rfl _ _ rfl rfl _ _ hrun ?_)
    all_goals (go_wp2_with fail; go_meet; exact ⟨rfl, rfl⟩)
  case rest =>
    obtain ⟨rfl, rfl⟩ := hcut
    obtain ⟨W3, hW3⟩ : ∃ W3, W2.setCell ⟨t, 1, none⟩ (.slice (some ⟨g, 0, none⟩) (n + 1) cap) = W3 := ⟨_, rfl⟩
    have HW3 := Lib.hid hW3
    rw [hW3]
    have k3 : Keeps [t] W2 W3 := by rw [← hW3]; exact (Keeps.refl _ _).setCell (.inr (by simp)) _
    have b3 := has_setCell H12.out 1 (.slice (some ⟨g, 0, none⟩) (n + 1) cap)
    rw [hW3] at b3
    obtain ⟨s4, s5, s6, s7, s8⟩ := HS1.out
    have sz2 := KW2.out.size
    have gl := HR1.out.blk_lt g (by simp [blk])
    have kk := (KW2.out.mono (T := t :: blk a1) (fun y hy => List.mem_cons_of_mem _ hy)).then (S := t :: blk a1) (k3) (by intro y hy; simp at hy; subst hy; right; simp)
    have gt2 : g ≠ t := fun e => by
      have h9 := HR1.out.notin H12.out (by decide)
      simp [blk, e] at h9
    have T3 : TabC t lo (g :: S1) (mV m) (R.E ++ [⟨true, h, ky, v, R.births⟩]) R.V R.L (liveN R.E) R.births R.made R.turns W3 := by
      have hot := HC1.out.other HB1.out
      have hne := HC1.out.noent HE1.out
      refine ⟨some ⟨g, 0, none⟩, cap, cb1, cr1, ?_, HR1.out.keeps k3 (by simp [blk]; exact gt2), (HC1.out.keeps KW2.out hne.1 hne.2).keeps k3 (by simp; exact hot.1) (by simp; exact hot.2), by simp [s4], by simp [s5], by simp [s6], by simp [blk], ?_⟩
      · rw [List.length_append, ← hn.out]; exact b3
      · intro y hy
        have := k3.size
        simp at hy
        rcases hy with rfl | hy
        · omega
        · have := s8 y hy; omega
    have x03 : W3.cell? ⟨w.heap.size, 0, none⟩ = some (.pointer (some ⟨t, 0, none⟩)) := k3.cell x02 (by intro hx; simp at hx; have := HB1.out; have h9 := B0.out; rw [hx, HB1.out] at h9; simp at h9)
    have hx : (R.E ++ [(⟨true, h, ky, v, R.births⟩ : Ent)])[n]? = some ⟨true, h, ky, v, R.births⟩ := by rw [hn.out]; simp
    have T3' := Lib.hid T3
    have HX := Lib.hid hx
    have KK := Lib.hid kk
    have B3 := Lib.hid (k3.has (KW2.out.has B0.out (HE1.out.notin B0.out (by decide))) (by intro hx; simp at hx; have h9 := B0.out; rw [hx, HB1.out] at h9; simp at h9))
    clear hrun y1 y4 x0 y12 f12 x02 y42 hW3 k3 b3 s4 s5 s6 s7 s8 kk T3 hx sz2 gl gt2 P0 P1 P4
    go_wp2_with fail
    refine (lay_any t lo (g :: S1) (mV m) _ R.V R.L (liveN R.E) R.births R.made R.turns W3 T3'.out RR.out.1 (by have := RR.out.2.1; omega) RR.out.2.2.2.2.1 n _ HX.out (may_of (by have := RR.out.2.2.1; have := hn.out; omega))).mono ?_
    rintro r W4 ⟨rfl, t4', k4⟩
    have T4 := Lib.hid t4'
    have K4 := Lib.hid k4
    have hgb : w.heap.size ≠ g := fun hx => by
      have h9 := HR1.out.notin (w := W2) (KW2.out.has B0.out (HE1.out.notin B0.out (by decide))) (by decide)
      simp [blk, hx] at h9
    have B4 := Lib.hid (k4.has B3.out (by intro hx; simp at hx; exact hx.elim hgb NB.out))
    obtain ⟨a5, c5, cb5, cr5, g1, g2, g3, g4, g5, g6, g7, g8⟩ := t4'
    have x04 : W4.cell? ⟨w.heap.size, 0, none⟩ = some (.pointer (some ⟨t, 0, none⟩)) := cell_has B4.out (i := 0) rfl
    have y44 : W4.cell? ⟨t, 4, none⟩ = some (.int .i64 R.births) := cell_has g1 (i := 4) rfl
    have y43 : W4.cell? ⟨t, 3, none⟩ = some (.int .i64 (liveN R.E : Nat)) := cell_has g1 (i := 3) rfl
    have y46 : W4.cell? ⟨t, 6, none⟩ = some (.int .i64 R.turns) := cell_has g1 (i := 6) rfl
    have f44 := free_of_has g1 4
    have f43 := free_of_has g1 3
    have f46 := free_of_has g1 6
    have nbt : w.heap.size ≠ t := by intro hx; have h9 := B4.out; rw [hx, g1] at h9; simp at h9
    have lvb : liveN R.E ≤ 1000 := by have := liveN_le R.E; have := RR.out.2.2.2.2.2.1; omega
    have bib := RR.out.2.2.2.2.2.2.1
    have tub := RR.out.2.2.2.2.2.2.2
    have G1 := Lib.hid g1
    have G2 := Lib.hid g2
    have G3 := Lib.hid g3
    have G48 := Lib.hid (And.intro g4 (And.intro g5 (And.intro g6 (And.intro g7 g8))))
    clear k4 g1 g2 g3 g4 g5 g6 g7 g8
    go_wp2_with fail
    go_ret2
    obtain ⟨g4, g5, g6, g7, g8⟩ := G48.out
    obtain ⟨s4, s5, s6, s7, s8⟩ := HS1.out
    have kt : Keeps [t] W4 (((W4.setCell ⟨t, 4, none⟩ (.int .i64 ((R.births : Int) + 1))).setCell ⟨t, 3, none⟩ (.int .i64 (((liveN R.E : Nat) : Int) + 1))).setCell ⟨t, 6, none⟩ (.int .i64 ((R.turns : Int) + 1))) := (((Keeps.refl _ _).setCell (.inr (by simp)) _).setCell (.inr (by simp)) _).setCell (.inr (by simp)) _
    have hot := G3.out.other G1.out
    have hen := G2.out.notin G1.out (by decide)
    have k14 : Keeps (g :: S1) W W4 := ((KK.out.mono (T := g :: S1) (fun y hy => by simp at hy; rcases hy with rfl | hy; · simp [s4]
                                                                                    · simp [s7 y hy])).trans K4.out)
    have gnew : g ∈ S1 ∨ W.heap.size ≤ g := HR3.out.elim (fun h => .inl (s7 g h)) (fun h => .inr (by rw [h]; simp))
    have mlt : ∀ b, m = some b → b ∉ g :: S1 := fun b hb hx => by
      have h9 := hm b hb
      simp at hx
      rcases hx with rfl | hx
      · have := (HR1.out.blk_lt b (by simp [blk])).1; omega
      · have := (s8 b hx).1; omega
    refine ⟨g :: S1, (by have h9 := hn.out; subst h9; rfl), ⟨a5, c5, cb5, cr5, ?_, G2.out.keeps kt (by intro y hy hx; simp at hx; subst hx; exact hen hy), ?_, g4, g5, g6, g7, fun y hy => ⟨(g8 y hy).1, Nat.lt_of_lt_of_le (g8 y hy).2 kt.size⟩⟩, (HM1.out.keeps k14 mlt).keeps kt (fun b hb hx => by simp at hx; subst hx; exact mlt _ hb (by simp [s4])), ?_, ?_⟩
    · have h9 := has_setCell (has_setCell (has_setCell G1.out 4 (.int .i64 ((R.births : Int) + 1))) 3 (.int .i64 (((liveN R.E : Nat) : Int) + 1))) 6 (.int .i64 ((R.turns : Int) + 1))
      have e9 : liveN (R.E ++ [(⟨true, h, ky, v, R.births⟩ : Ent)]) = liveN R.E + 1 := by simp [liveN]
      simp only [List.setIfInBounds_toArray, List.set_cons_zero, List.set_cons_succ] at h9
      rw [h9]
      simp only [Tab.add1, e9]
      rfl
    · have h9 := G3.out.keeps kt (by simp; exact hot.1) (by simp; exact hot.2)
      rw [hn.out] at h9
      exact h9
    · refine (KW.out.then k14 ?_).then kt ?_
      · intro y hy
        have hs := KW.out.size
        simp at hy
        have key : ∀ z, z ∈ S1 → w.heap.size ≤ z ∨ z ∈ S ++ mS m := fun z hz => (GW.out z hz).elim (fun h9 => .inr (List.mem_append_left _ h9)) .inl
        rcases hy with rfl | hy
        · rcases gnew with h9 | h9
          · exact key _ h9
          · exact .inl (by omega)
        · exact key _ hy
      · intro y hy
        simp at hy
        subst hy
        exact (GW.out _ s4).elim (fun h9 => .inr (List.mem_append_left _ h9)) .inl
    · intro y hy
      simp at hy
      rcases hy with rfl | hy
      · rcases gnew with h9 | h9
        · exact GW.out _ h9
        · exact .inr (by have := KW.out.size; omega)
      · exact GW.out _ hy
end Go.Proofs.Ytcakdmapnmneoaa
