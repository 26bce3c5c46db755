/- The document's Add (chapter 7). -/
import Derived.Test.YtajmfenfajbakaaGreatB9
import Derived.Test.YtajmfenfajbakaaGreatB4
import Derived.Deep.RegionLaw
namespace Go.Proofs.YtajmfenfajbakaaGreat
open Go.RowKit
set_option linter.unusedVariables false
set_option linter.unusedSimpArgs false

def RAddP (t lo : Nat) (S : List Nat) (m : Option Nat) (c : C4) (R : Tab) (h ky v : Int) (w : World) (e : Ending) (w' : World) : Prop :=
  ∃ S', e = .returned (.tuple #[.int .i64 R.E.length, .int .i64 0]) ∧ RTabAt t lo S' m (R.add1 h ky v) w' ∧ CtrAt m c w' ∧ Keeps (S ++ mS m) w w' ∧ Grew S w S'
/-- What follows the growing. -/
def RAddI (t lo : Nat) (S0 : List Nat) (m : Option Nat) (c : C4) (R : Tab) (w w' : World) : Prop := ∃ S', RTabAt t lo S' m R w' ∧ CtrAt m c w' ∧ Keeps (S0 ++ mS m) w w' ∧ Grew S0 w S'
set_option maxRecDepth 100000 in
set_option maxHeartbeats 4000000 in
theorem radd_any (k : Nat) (hk : k ≤ 1000) (t lo : Nat) (S : List Nat) (m : Option Nat) (c4 : C4) (T : Tab) (w : World) (H : RTabAt t lo S m T w) (hM : CtrAt m c4 w) (hm : ∀ b, m = some b → b < lo) (hI : TInv k T) (h ky v : Int) :
    Calls Tryz.prog 56 #[.pointer (some ⟨t, 0, none⟩), .int .i64 h, .int .i64 ky, .int .i64 v] w (RAddP t lo S m (if T.E.length = T.room then c4.tab else c4) T.ready h ky v w) := by
  obtain ⟨c5, hc5⟩ : ∃ x, Hid (x = if T.E.length = T.room then c4.tab else c4) := ⟨_, Lib.hid rfl⟩
  rw [← hc5.out]
  have HH := Lib.hid H
  have HM := Lib.hid hM
  have HI := Lib.hid hI
  have hr := Lib.hid (hI.ready hk)
  obtain ⟨a, c, q, b1, r1, q1, s1, s2, s3, s4⟩ := H
  have e0 : w.cell? ⟨t, 0, none⟩ = some (.slice a T.E.length c) := cell_has b1 (i := 0) rfl
  have e1 : w.cell? ⟨t, 1, none⟩ = some (.int .i64 T.L) := cell_has b1 (i := 1) rfl
  have e3 : w.cell? ⟨t, 3, none⟩ = some (.int .i64 (liveN T.E : Nat)) := cell_has b1 (i := 3) rfl
  obtain ⟨n, hn⟩ := ex_hid T.E.length
  obtain ⟨l, hl⟩ := ex_hid (liveN T.E)
  obtain ⟨rm, hrm⟩ := ex_hid T.room
  have hl1 : l ≤ 1000 := by have := liveN_le T.E; have := hI.ek; have := hl.out; omega
  have hnr := Lib.hid (show n ≤ rm by rw [hn.out, hrm.out]; exact hI.rm)
  have hrm1 : rm ≤ 1048576 := by have := pow_le (L := T.L) (by have := hI.l12; omega); have := hrm.out; unfold Tab.room at this; omega
  have hL3 := hI.l3
  have hL12 := hI.l12
  have HS := Lib.hid (And.intro s1 (And.intro s4 b1))
  rw [← hn.out] at e0
  rw [← hl.out] at e3
  clear hM hI b1 r1 q1 s1 s2 s3 s4
  go_enter Tryz.func56, Tryz.ntmps56
  go_upto_region 1 with (fail)
  go_region_held3 (fun w' => w'.cell? ⟨t, 0, none⟩ = some (.slice a n c) ∧ w'.cell? ⟨t, 1, none⟩ = some (.int .i64 T.L)) (go_keep)
    (first
      | (go_at_call 74; refine (rroom_any T.L (2 ^ T.L) _ rfl hL3 (by omega) rfl _).mono ?_; rintro r1 w1 ⟨rfl, rfl⟩; rw [show 2 * 2 ^ T.L / 3 = T.room from rfl, ← hrm.out]))
  go_upto_if 23 with (fail)
  go_cut [8, 9, 10] from 12 to 38 (fun z8 z9 z wx => z8 = .int .i64 0 ∧ z9 = .int .i64 0 ∧ RAddI t lo S m c5 T.ready w wx)
  case first =>
    by_cases hg : n = rm
    · have hge : (rm : Int) ≤ (n : Int) := by omega
      have hge2 : rm ≤ n := by omega
      have hgl3 := growL_ge (liveN T.E)
      have hgis := growL_is (n := liveN T.E) (by rw [← hl.out]; exact hl1)
      have hgle := growL_le (n := liveN T.E) (by rw [← hl.out]; exact hl1)
      obtain ⟨g, hg2⟩ : ∃ g, Hid (g = growL (liveN T.E)) := ⟨_, Lib.hid rfl⟩
      rw [← hg2.out] at hgl3 hgis hgle
      rw [← hl.out] at hgis
      have hmin : ∀ j, 3 ≤ j → j < g → 2 ^ j < 3 * l := fun j h3 hj => by
        rw [hg2.out] at hj
        have := leastL_min (p := fun l' => decide (3 * (liveN T.E) ≤ 2 ^ l')) h3 (by unfold growL at hj; exact hj)
        rw [← hl.out] at this
        simpa using this
      have HMIN := Lib.hid hmin
      have HGIS := Lib.hid hgis
      clear hmin hgis
      have hld : w.drew.cell? ⟨t, 3, none⟩ = some (.int .i64 l) := e3
      go_wp2_with fail
      go_loopg [10] (g - 3) (fun gk x wr => ∃ j : Nat, gk = g - j ∧ 3 ≤ j ∧ j ≤ g ∧ x = .int .i64 j ∧ Keeps [] w wr)
      case atStart => exact ⟨3, rfl, by omega, hgl3, rfl, (Keeps.refl [] w).drew⟩
      case round =>
        obtain ⟨j, rfl, hj3, hjg, rfl, hK⟩ := hrel
        have hj0 : (0 : Int) ≤ (j : Int) := by omega
        have hj12 : (j : Int) ≤ 20 := by omega
        have e3' := hK.cell e3 (by simp)
        have HK := Lib.hid hK
        obtain ⟨P, hP⟩ := ex_hid (2 ^ j)
        have hP1 : P ≤ 1048576 := by rw [hP.out]; exact pow_le (by omega)
        have e1' : IntKind.i64.wrap ((2 : Int) ^ j) = (P : Int) := by rw [hP.out]; exact i64_pow j (by omega)
        have e2' : wrap64 ((2 : Int) ^ j) = (P : Int) := by rw [← IntWalk.i64_left]; exact e1'
        obtain ⟨l3, hl3⟩ := ex_hid (3 * l)
        have hw3 : IntKind.i64.wrap (3 * (l : Int)) = (l3 : Int) := by have := hl3.out; rw [IntWalk.i64_left]; rw [IntWalk.wrap64_in _ (by omega)]; omega
        clear hK
        by_cases hjl : j < g
        · have hlt : P < l3 := by rw [hP.out, hl3.out]; exact HMIN.out j hj3 hjl
          have hlt' : (P : Int) < (l3 : Int) := by omega
          go_wp2_with fail
          go_region_held3 (fun w' => w'.cell? ⟨t, 3, none⟩ = some (.int .i64 l)) (go_keep) (fail)
          go_wp2_with fail
          go_roundg (g - (j + 1))
          case measure => omega
          case rel => exact ⟨j + 1, rfl, by omega, by omega, by go_num, HK.out.drew⟩
        · obtain rfl : j = g := by omega
          have hlt : ¬ P < l3 := by have := HGIS.out; have := hP.out; have := hl3.out; omega
          have hlt' : ¬ (P : Int) < (l3 : Int) := by omega
          go_wp2_with fail
          go_region_held3 (fun w' => w'.cell? ⟨t, 3, none⟩ = some (.int .i64 l)) (go_keep) (fail)
          go_wp2_with fail
          refine (ralls_any t lo S m T.E T.V T.L j (liveN T.E) T.births T.made T.turns c4 _ (HH.out.keeps HK.out.drew (by simp)) (HM.out.keeps HK.out.drew (by simp)) hm hj3 (by omega) ?_ (by have := HI.out.mdk; omega) (by have := HI.out.ek; omega)).mono ?_
          · have := HGIS.out; have := hl.out; have := pow_pos j; omega
          rintro r w5 ⟨rfl, S5, t5, m5, k5, g5⟩
          have HT := Lib.hid (And.intro t5 (And.intro m5 (And.intro k5 g5)))
          clear t5 m5 k5 g5
          go_wp2_with fail
          go_meet
          have hne : T.E.length = T.room := by rw [← hn.out, ← hrm.out]; exact hg
          refine ⟨rfl, rfl, S5, ?_, ?_, (HK.out.drew.mono (by simp)).trans HT.out.2.2.1, fun x hx => ?_⟩
          · unfold Tab.ready
            rw [if_pos hne]
            have h9 := HT.out.1
            rw [hg2.out] at h9
            have e9 : liveN (liveL T.E) = liveN T.E := by rw [← liveL_len, liveL_len, ← liveL_len (liveL T.E)]; simp [liveL, liveN, List.countP_eq_length_filter]
            unfold RTabAt Tab.grow
            simp only
            rw [e9]
            exact h9
          · rw [hc5.out, if_pos hne]
            exact HT.out.2.1
          · rcases HT.out.2.2.2 x hx with h9 | h9
            · exact .inl h9
            · exact .inr (by have := HK.out.size; simp at h9; omega)
    · have hge : ¬ (rm : Int) ≤ (n : Int) := by have := hnr.out; omega
      have hge2 : ¬ rm ≤ n := by have := hnr.out; omega
      go_wp2_with fail
      go_meet
      have hne : ¬ T.E.length = T.room := by rw [← hn.out, ← hrm.out]; exact hg
      refine ⟨rfl, rfl, S, ?_, ?_, (Keeps.refl _ w).drew, Grew.refl _ _⟩
      · unfold Tab.ready
        rw [if_neg hne]
        exact HH.out.keeps ((Keeps.refl [] w).drew) (by simp)
      · rw [hc5.out, if_neg hne]
        exact HM.out.keeps ((Keeps.refl [] w).drew) (by simp)
  case rest =>
    obtain ⟨rfl, rfl, S5, hT, hC, hK, hG⟩ := hcut
    have HC5 := Lib.hid hC
    have HK5 := Lib.hid hK
    have HG5 := Lib.hid hG
    have hrd := hr.out
    generalize T.ready = R at *
    obtain ⟨r1, r2, r3, r4, _, r6, r7, _, r9⟩ := hrd
    have HR4 := Lib.hid r4
    obtain ⟨ra, rc, rq, b5, v5, q5, s1, s2, s3, s4⟩ := hT
    have hb1 : R.births ≤ 1000 := by have := HI.out.bk; omega
    have ht1 : R.turns ≤ 1000 := by have := HI.out.tk; omega
    have hlv := liveN_le R.E
    obtain ⟨n5, hn5⟩ := ex_hid R.E.length
    obtain ⟨l5, hl5⟩ := ex_hid (liveN R.E)
    have hn51 : n5 ≤ 1000 := by rw [hn5.out]; omega
    have hl51 : l5 ≤ 1000 := by rw [hl5.out]; omega
    have htm : t ∉ mS m := hC.ne b5 (by decide)
    have HTM := Lib.hid htm
    have ka : Keeps [] wc (wc.alloc (.cells #[.bool true, .int .i64 h, .int .i64 ky, .int .i64 v, .int .i64 R.births] 99)).drew := ((Keeps.refl [] wc).alloc _).drew
    obtain ⟨g, cap, w6, hrun, g1, g2, g3, g4⟩ := ent_append lo ra rc R.E ⟨true, h, ky, v, R.births⟩ _ wc.heap.size (v5.keeps ka (by simp)) (has_drew (has_new wc _)) (by omega) (by have := (s4 t s1).1; have := (s4 t s1).2; simp; omega)
    rw [← hn5.out] at hrun
    have x0 : wc.cell? ⟨t, 0, none⟩ = some (.slice ra n5 rc) := by rw [hn5.out]; exact cell_has b5 (i := 0) rfl
    have x4 : wc.cell? ⟨t, 4, none⟩ = some (.int .i64 R.births) := cell_has b5 (i := 4) rfl
    have y0 := ka.cell x0 (by simp)
    have y4 := ka.cell x4 (by simp)
    have htb : t ∉ blk ra := v5.notin b5 (by decide)
    have hqb : rq ∉ blk ra := ref_noent q5 v5
    have hqt := ref_ne q5 b5 (by decide)
    have b6 := g2.has (ka.has b5 (by simp)) htb
    have z0 : w6.cell? ⟨t, 0, none⟩ = some (.slice ra n5 rc) := by rw [hn5.out]; exact cell_has b6 (i := 0) rfl
    have z4 : w6.cell? ⟨t, 4, none⟩ = some (.int .i64 R.births) := cell_has b6 (i := 4) rfl
    have f0 := free_of_has b6 0
    have k06 : Keeps (blk ra) wc w6 := (ka.mono (by simp)).trans g2
    obtain ⟨W7, hW7⟩ : ∃ W7, w6.setCell ⟨t, 0, none⟩ (.slice (some ⟨g, 0, none⟩) (n5 + 1) cap) = W7 := ⟨_, rfl⟩
    have b7 := rtabO_set0 (v := .slice (some ⟨g, 0, none⟩) (n5 + 1) cap) b6
    have k7 : Keeps [t] w6 W7 := by rw [← hW7]; exact (Keeps.refl _ _).setCell (.inr (by simp)) _
    rw [hW7] at b7
    have zt := lt_of_block b5
    have zq := lt_of_block q5
    have hgt : t ∉ blk (some (⟨g, 0, none⟩ : Addr)) := by
      have := g1.notin b6 (by decide)
      exact this
    have V7 := Lib.hid (g1.keeps k7 (fun x hx hx2 => by simp at hx2; subst hx2; exact hgt hx))
    have Q7 := Lib.hid (k7.has (k06.has q5 hqb) (by simp; exact hqt))
    have B7 := Lib.hid b7
    have K07 := Lib.hid (And.intro k06 k7)
    have SS := Lib.hid (And.intro s1 (And.intro s2 (And.intro s3 s4)))
    have G3 := Lib.hid g3
    have HW7 := Lib.hid hW7
    have HQT := Lib.hid (And.intro hqt hqb)
    have VB := Lib.hid v5
    clear hC hK hG b5 v5 q5 s1 s2 s3 s4 hlv htm ka g1 g2 g3 g4 htb hqb hqt b6 k06 hW7 b7 k7 hgt e0 e1 e3 r3 r4 r6 r7 r9
    go_upto_region 9 with (fail)
    go_cut [11] from 44 to 60 (fun z wx => z = .int .i64 n5 ∧ W7 = wx)
    case first =>
      go_region_law (refine step_append_run (o := ⟨some 58, _, _, _, _, _⟩) rfl (.tmp 48) (.tmp 57) 61 rfl _ _ rfl rfl _ _ hrun ?_)
      all_goals (go_wp2_with fail; go_meet; exact ⟨rfl, HW7.out.symm⟩)
    case rest =>
      obtain ⟨rfl, rfl⟩ := hcut
      have b7 := B7.out
      have u3 : W7.cell? ⟨t, 3, none⟩ = some (.int .i64 l5) := by rw [hl5.out]; exact cell_has b7 (i := 3) rfl
      have u4 : W7.cell? ⟨t, 4, none⟩ = some (.int .i64 R.births) := cell_has b7 (i := 4) rfl
      have u6 : W7.cell? ⟨t, 6, none⟩ = some (.int .i64 R.turns) := cell_has b7 (i := 6) rfl
      have f3 := free_of_has b7 3
      have f4 := free_of_has b7 4
      have f6 := free_of_has b7 6
      have h8 := has_setCell (has_setCell (has_setCell b7 4 (.int .i64 ((R.births : Int) + 1))) 3 (.int .i64 ((l5 : Int) + 1))) 6 (.int .i64 ((R.turns : Int) + 1))
      unfold rtabO at h8
      simp only [List.setIfInBounds_toArray, List.set_cons_zero, List.set_cons_succ] at h8
      have k8 : Keeps [t] W7 (((W7.setCell ⟨t, 4, none⟩ (.int .i64 ((R.births : Int) + 1))).setCell ⟨t, 3, none⟩ (.int .i64 ((l5 : Int) + 1))).setCell ⟨t, 6, none⟩ (.int .i64 ((R.turns : Int) + 1))) := (((Keeps.refl _ _).setCell (.inr (by simp)) _).setCell (.inr (by simp)) _).setCell (.inr (by simp)) _
      have H8 := Lib.hid h8
      have K8 := Lib.hid k8
      have Q8 := Lib.hid (k8.has Q7.out (by simp; exact HQT.out.1))
      have hfe := HR4.out.fe_lt (by have := hr.out.2.2.1; have := two_ge r1; omega) h
      have his := HR4.out.fe_is (by have := hr.out.2.2.1; have := two_ge r1; omega) h
      have FI := Lib.hid (And.intro hfe his)
      clear b7 h8 k8 x0 x4 y0 y4 z0 z4 f0 hrun hfe his
      go_wp2_with fail
      refine (rlay_any t rq R.L R.V h n5 _ _ _ _ _ _ _ H8.out Q8.out (by omega) FI.out.1 FI.out.2).mono ?_
      rintro r w9 ⟨rfl, q9, k9⟩
      have Q9 := Lib.hid q9
      have K9 := Lib.hid k9
      clear q9 k9
      go_wp2_with fail
      go_ret2
      obtain ⟨k06, k7⟩ := K07.out
      have z7 := k7.size
      have z8 := K8.out.size
      have z9 := K9.out.size
      have z06 := k06.size
      have hgq : rq ∉ blk (some (⟨g, 0, none⟩ : Addr)) := ref_noent Q7.out V7.out
      have hgt : t ∉ blk (some (⟨g, 0, none⟩ : Addr)) := V7.out.notin B7.out (by decide)
      simp only [blk, List.mem_singleton] at hgq hgt
      have tq : ¬ t = rq := fun e => HQT.out.1 e.symm
      have blka : ∀ x, x ∈ blk ra → x ∈ S5 := SS.out.2.2.1
      have s4 := SS.out.2.2.2
      refine ⟨g :: S5, by rw [hn5.out]; rfl, ⟨some ⟨g, 0, none⟩, cap, rq, ?_, ?_, ?_, ?_, ?_, ?_, ?_⟩, ?_, ?_, ?_⟩
      · have h9 := K9.out.has H8.out (by simpa using tq)
        have e9 : (R.add1 h ky v).E.length = n5 + 1 := by rw [hn5.out]; simp [Tab.add1]
        have e8 : ((liveN (R.add1 h ky v).E : Nat) : Int) = (l5 : Int) + 1 := by
          have : liveN (R.add1 h ky v).E = liveN R.E + 1 := by simp [Tab.add1, liveN]
          rw [this, hl5.out]; omega
        rw [e9, e8]
        exact h9
      · have h9 := (V7.out.keeps K8.out (fun x hx hx2 => by simp [blk] at hx hx2; subst hx2; exact hgt hx)).keeps K9.out (fun x hx hx2 => by simp [blk] at hx hx2; subst hx2; exact hgq hx)
        exact h9
      · rw [hn5.out] at Q9; exact Q9.out
      · simp [SS.out.1]
      · simp [SS.out.2.1]
      · intro x hx; simp [blk] at hx; simp [hx]
      · intro x hx
        simp at hx
        rcases hx with rfl | hx
        · have h9 := V7.out.blk_lt x (by simp [blk]); exact ⟨h9.1, by omega⟩
        · have := s4 x hx; exact ⟨this.1, by omega⟩
      · have hms : ∀ b, m = some b → b ≠ t ∧ b ≠ rq ∧ b ∉ blk ra := fun b hb => by
          have h1 := hm b hb
          have h2 := s4 t SS.out.1
          have h3 := s4 rq SS.out.2.1
          exact ⟨by omega, by omega, fun hx => by have := s4 b (blka b hx); omega⟩
        exact ((((HC5.out.keeps k06 (fun b hb => (hms b hb).2.2)).keeps k7 (fun b hb hx => (hms b hb).1 (by simpa using hx))).keeps K8.out (fun b hb hx => (hms b hb).1 (by simpa using hx))).keeps K9.out (fun b hb hx => (hms b hb).2.1 (by simpa using hx)))
      · have inS : ∀ x, x ∈ S5 → x ∈ S ++ mS m ∨ w.heap.size ≤ x := fun x hx => by
          rcases HG5.out x hx with h1 | h1
          · left; simp [h1]
          · exact .inr h1
        refine (((HK5.out.then k06 (fun x hx => ?_)).then k7 (fun x hx => ?_)).then K8.out (fun x hx => ?_)).then K9.out (fun x hx => ?_)
        · exact (inS x (blka x hx)).symm
        · simp at hx; subst hx; exact (inS _ SS.out.1).symm
        · simp at hx; subst hx; exact (inS _ SS.out.1).symm
        · simp at hx; subst hx; exact (inS _ SS.out.2.1).symm
      · intro x hx
        simp at hx
        rcases hx with rfl | hx
        · rcases G3.out with h1 | h1
          · exact HG5.out x (blka x h1)
          · right; have := HK5.out.size; simp at h1; omega
        · exact HG5.out x hx
end Go.Proofs.YtajmfenfajbakaaGreat
