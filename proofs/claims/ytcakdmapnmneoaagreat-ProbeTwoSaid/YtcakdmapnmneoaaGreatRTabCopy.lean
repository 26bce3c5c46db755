/- The document's Copy (chapter 7). -/
import Derived.Test.YtcakdmapnmneoaaGreatB9
import Derived.Test.YtcakdmapnmneoaaGreatTabCopy
import Derived.Deep.RegionLaw
import Derived.Deep.Cut
import Derived.Deep.CutRange
import Derived.Deep.LoopGhost
namespace Go.Proofs.YtcakdmapnmneoaaGreat
open Go.RowKit
set_option linter.unusedVariables false
set_option linter.unusedSimpArgs false

def RCopyP (m : Option Nat) (c : C4) (T : Tab) (w : World) (r : Ending) (w' : World) : Prop :=
  ∃ t2 S2, r = .returned (.pointer (some ⟨t2, 0, none⟩)) ∧ RTabAt t2 w.heap.size S2 m T.copy w' ∧ CtrAt m c.tab w' ∧ Keeps (mS m) w w'
/-- In the midst of the copying. -/
def RCopI (t2 q L : Nat) (m : Option Nat) (D : Nat) (w5 : World) (E2 : List Ent) (k : Nat) (wr : World) : Prop :=
  ∃ a c, wr.heap[t2]? = some (rtabO (.slice a k c) L (.slice (some ⟨q, 0, none⟩) (2 ^ L) (2 ^ L)) (.int .i64 0) (.int .i64 0) (.int .i64 1) (.int .i64 0) (mV m)) ∧ EntRow D a c (E2.take k) wr ∧ RefAt q (2 ^ L) (layN L E2 k) wr ∧ Keeps [t2, q] w5 wr
set_option maxRecDepth 100000 in
set_option maxHeartbeats 4000000 in
theorem rcopy_any (t lo : Nat) (S : List Nat) (m : Option Nat) (c4 : C4) (T : Tab) (w : World) (H : RTabAt t lo S m T w) (hM : CtrAt m c4 w) (hI : TInv 1000 T) :
    Calls Tryz.prog 34 #[.pointer (some ⟨t, 0, none⟩)] w (RCopyP m c4 T w) := by
  obtain ⟨a, c, q, b1, r1, q1, s1, s2, s3, s4⟩ := H
  have HR := Lib.hid r1
  have HB := Lib.hid b1
  have HM := Lib.hid hM
  have HI := Lib.hid hI
  have e3 : w.cell? ⟨t, 3, none⟩ = some (.int .i64 (liveN T.E : Nat)) := cell_has b1 (i := 3) rfl
  obtain ⟨l, hl⟩ := ex_hid (liveN T.E)
  have hl1 : l ≤ 1000 := by have := liveN_le T.E; have := hI.ek; have := hl.out; omega
  obtain ⟨g, hg⟩ : ∃ g, Hid (g = copyL (liveN T.E)) := ⟨_, Lib.hid rfl⟩
  have hg3 := copyL_ge (liveN T.E)
  have hg12 := copyL_le (n := liveN T.E) (by rw [← hl.out]; exact hl1)
  have hgis := copyL_is (n := liveN T.E) (by rw [← hl.out]; exact hl1)
  have hmin : ∀ j, 3 ≤ j → j < copyL (liveN T.E) → 2 * 2 ^ j / 3 < l := fun j h3 hj => by
    have := leastL_min (p := fun l' => decide (liveN T.E ≤ 2 * 2 ^ l' / 3)) h3 (by unfold copyL at hj; exact hj)
    rw [hl.out]
    simpa using this
  rw [← hg.out] at hg3 hg12 hgis hmin
  rw [← hl.out] at e3 hgis
  have HMIN := Lib.hid hmin
  have HGIS := Lib.hid hgis
  have hel := hI.ek
  have LE := Lib.hid (liveL_live T.E)
  clear b1 r1 q1 s1 s2 s3 s4 hM hI hmin hgis
  go_enter Tryz.func34, Tryz.ntmps34
  go_wp2_with fail
  go_loopg [3] (g - 3) (fun gk x wr => ∃ j : Nat, gk = g - j ∧ 3 ≤ j ∧ j ≤ g ∧ x = .int .i64 j ∧ Keeps [] w wr)
  case atStart => exact ⟨3, rfl, by omega, hg3, rfl, Keeps.refl [] w⟩
  case round =>
    obtain ⟨j, rfl, hj3, hjg, rfl, hK⟩ := hrel
    have hj0 : (0 : Int) ≤ (j : Int) := by omega
    have hj12 : (j : Int) ≤ 20 := by omega
    have e3' := hK.cell e3 (by simp)
    have HK := Lib.hid hK
    obtain ⟨rm, hrm⟩ := ex_hid (2 * 2 ^ j / 3)
    clear hK
    by_cases hjl : j < g
    · have hlt : rm < l := by rw [hrm.out]; exact HMIN.out j hj3 hjl
      have hlt' : (rm : Int) < (l : Int) := by omega
      go_wp2_with fail
      go_region_held3 (fun w' => w'.cell? ⟨t, 3, none⟩ = some (.int .i64 l)) (go_keep)
        (first
          | (go_at_call 79; refine (rroom_any j (2 ^ j) _ rfl hj3 (by omega) rfl _).mono ?_; rintro r1 w1 ⟨rfl, rfl⟩; rw [← hrm.out]))
      go_wp2_with fail
      go_roundg (g - (j + 1))
      case measure => omega
      case rel => exact ⟨j + 1, rfl, by omega, by omega, by go_num, HK.out.drew⟩
    · obtain rfl : j = g := by omega
      have hlt : ¬ rm < l := by have := HGIS.out; have := hrm.out; omega
      have hlt' : ¬ (rm : Int) < (l : Int) := by omega
      have e7 : wr.drew.cell? ⟨t, 7, none⟩ = some (mV m) := HK.out.drew.cell (cell_has HB.out (i := 7) rfl) (by simp)
      obtain ⟨p, hp⟩ : ∃ p : Option Addr, Hid (mV m = .pointer p) := ⟨_, Lib.hid rfl⟩
      rw [hp.out] at e7
      go_wp2_with fail
      go_region_held3 (fun w' => w'.cell? ⟨t, 3, none⟩ = some (.int .i64 l)) (go_keep)
        (first
          | (go_at_call 79; refine (rroom_any j (2 ^ j) _ rfl hj3 (by omega) rfl _).mono ?_; rintro r1 w1 ⟨rfl, rfl⟩; rw [← hrm.out]))
      have e7' : wr.cell? ⟨t, 7, none⟩ = some (.pointer p) := e7
      have K0 := Lib.hid (HK.out.drew)
      obtain ⟨t2, ht2⟩ : ∃ x, Hid (x = wr.heap.size) := ⟨_, Lib.hid rfl⟩
      have zt2 : w.heap.size ≤ t2 := by rw [ht2.out]; exact HK.out.size
      have KA := Lib.hid ((HK.out.alloc (.cells #[.slice none 0 0, .int .i64 0, .slice none 0 0, .int .i64 0, .int .i64 0, .int .i64 0, .int .i64 0, .pointer p] 144)).drew)
      have BA : Hid ((wr.alloc (.cells #[.slice none 0 0, .int .i64 0, .slice none 0 0, .int .i64 0, .int .i64 0, .int .i64 0, .int .i64 0, .pointer p] 144)).drew.heap[t2]? = some (rtabO (.slice none 0 0) 0 (.slice none 0 0) (.int .i64 0) (.int .i64 0) (.int .i64 0) (.int .i64 0) (mV m))) := Lib.hid (by rw [hp.out, ht2.out]; exact has_drew (has_new wr _))
      clear hlt hlt'
      go_wp2_with fail
      rw [← ht2.out]
      refine (rindex_any t2 j (2 ^ j) j rfl _ _ _ _ 0 _ 0 m c4 _ BA.out (HM.out.keeps KA.out (by simp)) hj3 (by omega) rfl (by omega) (by omega) ⟨_, _, _, rfl⟩).mono ?_
      rintro r w5 ⟨rfl, q2, b5, f5, m5, z5, k5⟩
      have htm : t2 ∉ mS m := HM.out.keeps KA.out (by simp) |>.ne BA.out (by decide)
      have B5 := Lib.hid b5
      have F5 := Lib.hid f5
      have M5 := Lib.hid m5
      have zlt := lt_of_block HB.out
      have hmw : ∀ x, x ∈ mS m → x < w.heap.size := fun x hx => by
        cases m with
        | none => simp [mS] at hx
        | some b => simp [mS] at hx; subst hx; exact lt_of_block (HM.out _ rfl)
      have HMW := Lib.hid hmw
      have K5 := Lib.hid (show Keeps (mS m) w w5 from (KA.out.mono (by simp)).then k5 (fun x hx => by
        simp only [List.mem_cons] at hx
        rcases hx with rfl | hx
        · exact .inl zt2
        · exact .inr hx))
      have ztm : t ∉ mS m := HM.out.ne HB.out (by decide)
      have bt5 := K5.out.has HB.out ztm
      have nbm : ∀ x, x ∈ blk a → x ∉ mS m := fun x hx hx2 => by
        cases m with
        | none => simp [mS] at hx2
        | some b =>
          simp [mS] at hx2; subst hx2
          exact HR.out.notin (HM.out _ rfl) (by decide) hx
      have R5 := Lib.hid (HR.out.keeps K5.out nbm)
      have zq2 : w.heap.size < q2 := by simp at z5; have := ht2.out; omega
      have BT5 := Lib.hid bt5
      clear b5 f5 m5 k5 z5 htm hmw bt5 nbm
      go_wp2_with fail
      refine (rall_any t lo T.L c a T.E _ _ _ _ _ _ _ BT5.out R5.out (by omega)).mono ?_
      rintro r w6 ⟨la, lc, rfl, l6, k6⟩
      have L6 := Lib.hid l6
      have B6 := Lib.hid (k6.has B5.out (by simp))
      have F6 := Lib.hid (k6.has F5.out (by simp))
      have M6 := Lib.hid (M5.out.keeps k6 (by simp))
      have K6 := Lib.hid (K5.out.trans (k6.mono (by simp)))
      have zt26 := lt_of_block B5.out
      have zq26 := lt_of_block F5.out
      have hz56 := k6.size
      obtain ⟨E2, hE2⟩ : ∃ E2, Hid (E2 = renum (liveL T.E)) := ⟨_, Lib.hid rfl⟩
      have hE2l : E2.length = l := by rw [hE2.out, renum_len, liveL_len, hl.out]
      have HE2L := Lib.hid hE2l
      have HE2V : Hid (∀ x, x ∈ E2 → x.live = true) := Lib.hid (by rw [hE2.out]; exact renum_live LE.out)
      have LLN := Lib.hid (liveL_len T.E)
      rw [← hl.out]
      clear l6 k6 hE2l
      go_wp2_with fail
      go_loopw [6] (fun i wr => ∃ k : Nat, k ≤ l ∧ i = .int .i64 k ∧ RCopI t2 q2 j m w6.heap.size w6 E2 k wr) (fun i _ => l - (intOf i).toNat)
      case atStart => exact ⟨0, by omega, rfl, none, 0, by simpa using B6.out, by simpa using EntRow.nil _ _, by rw [layN_zero]; exact F6.out, Keeps.refl _ _⟩
      case round =>
        obtain ⟨k, hk, rfl, ra, rc, hb, hr, hq, hK⟩ := hrel
        have hk0 : (0 : Int) ≤ (k : Int) := by omega
        have RB := Lib.hid hb
        have RR := Lib.hid hr
        have RQ := Lib.hid hq
        have RK := Lib.hid hK
        by_cases hlt : k < l
        · have hlt' : (k : Int) < (l : Int) := by omega
          obtain ⟨x, hx⟩ : ∃ x, (liveL T.E)[k]? = some x := ⟨_, List.getElem?_eq_getElem (by rw [LLN.out, ← hl.out]; exact hlt)⟩
          have hx2 : E2[k]? = some { x with birth := (k : Int) } := by rw [hE2.out]; exact renum_get hx
          obtain ⟨gl, rfl⟩ := L6.out.shape (by rw [LLN.out, ← hl.out]; omega)
          obtain ⟨q0, q1, q2', q3, q4⟩ := (L6.out.keeps hK (fun y hy hy2 => by
            have h9 := (L6.out.blk_lt y hy).1
            simp at hy2
            rcases hy2 with rfl | rfl <;> omega)).five hx
          have hw0 : wr.heap.size = wr.heap.size := rfl
          -- the worlds of the appending
          have ka : Keeps [] wr ((wr.alloc (.cells #[.bool x.live, .int .i64 x.hash, .int .i64 x.key, .int .i64 x.val, .int .i64 k] 78)).alloc (.cells #[.bool x.live, .int .i64 x.hash, .int .i64 x.key, .int .i64 x.val, .int .i64 k] 78)).drew := (((Keeps.refl [] wr).alloc _).alloc _).drew
          have bx : ((wr.alloc (.cells #[.bool x.live, .int .i64 x.hash, .int .i64 x.key, .int .i64 x.val, .int .i64 k] 78)).alloc (.cells #[.bool x.live, .int .i64 x.hash, .int .i64 x.key, .int .i64 x.val, .int .i64 k] 78)).drew.heap[wr.heap.size]? = some (.cells #[.bool x.live, .int .i64 x.hash, .int .i64 x.key, .int .i64 x.val, .int .i64 k] 78 (0, 0)) := has_drew (has_alloc (has_new _ _) _)
          have htk : (E2.take k).length = k := by rw [List.length_take, HE2L.out]; omega
          obtain ⟨gn, cap, w8, hrun, g1, g2, g3, g4⟩ := ent_append w6.heap.size ra rc (E2.take k) { x with birth := (k : Int) } _ (wr.heap.size + 1) (hr.keeps ka (by simp)) (has_drew (has_new' _ _ (by simp))) (by rw [htk]; omega) (by have h2 := RK.out.size; simp; omega)
          rw [htk] at hrun
          have k1 : Keeps [] wr (wr.alloc (.cells #[.bool x.live, .int .i64 x.hash, .int .i64 x.key, .int .i64 x.val, .int .i64 k] 78)) := (Keeps.refl [] wr).alloc _
          have b1 : (wr.alloc (.cells #[.bool x.live, .int .i64 x.hash, .int .i64 x.key, .int .i64 x.val, .int .i64 k] 78)).heap[wr.heap.size]? = some (.cells #[.bool x.live, .int .i64 x.hash, .int .i64 x.key, .int .i64 x.val, .int .i64 k] 78 (0, 0)) := has_new _ _
          have x0 : wr.cell? ⟨t2, 0, none⟩ = some (.slice ra k rc) := cell_has hb (i := 0) rfl
          have y0 := k1.cell x0 (by simp)
          have y0' := ka.cell x0 (by simp)
          have c0 : (wr.alloc (.cells #[.bool x.live, .int .i64 x.hash, .int .i64 x.key, .int .i64 x.val, .int .i64 k] 78)).cell? ⟨wr.heap.size, 0, none⟩ = some (.bool x.live) := cell_has b1 (i := 0) rfl
          have c1 : (wr.alloc (.cells #[.bool x.live, .int .i64 x.hash, .int .i64 x.key, .int .i64 x.val, .int .i64 k] 78)).cell? ⟨wr.heap.size, 1, none⟩ = some (.int .i64 x.hash) := cell_has b1 (i := 1) rfl
          have c2 : (wr.alloc (.cells #[.bool x.live, .int .i64 x.hash, .int .i64 x.key, .int .i64 x.val, .int .i64 k] 78)).cell? ⟨wr.heap.size, 2, none⟩ = some (.int .i64 x.key) := cell_has b1 (i := 2) rfl
          have c3 : (wr.alloc (.cells #[.bool x.live, .int .i64 x.hash, .int .i64 x.key, .int .i64 x.val, .int .i64 k] 78)).cell? ⟨wr.heap.size, 3, none⟩ = some (.int .i64 x.val) := cell_has b1 (i := 3) rfl
          have c4 : (wr.alloc (.cells #[.bool x.live, .int .i64 x.hash, .int .i64 x.key, .int .i64 x.val, .int .i64 k] 78)).cell? ⟨wr.heap.size, 4, none⟩ = some (.int .i64 k) := cell_has b1 (i := 4) rfl
          have htb : t2 ∉ blk ra := hr.notin hb (by decide)
          have hqb : q2 ∉ blk ra := ref_noent hq hr
          have hqt := ref_ne hq hb (by decide)
          have hxb : wr.heap.size ∉ blk ra := fun h9 => by have := (hr.blk_lt _ h9).2; omega
          have b8 := g2.has (ka.has hb (by simp)) htb
          have z0 : w8.cell? ⟨t2, 0, none⟩ = some (.slice ra k rc) := cell_has b8 (i := 0) rfl
          have f0 := free_of_has b8 0
          have bx8 := g2.has bx hxb
          have k08 : Keeps (blk ra) wr w8 := (ka.mono (by simp)).trans g2
          obtain ⟨W9, hW9⟩ : ∃ W9, w8.setCell ⟨t2, 0, none⟩ (.slice (some ⟨gn, 0, none⟩) (k + 1) cap) = W9 := ⟨_, rfl⟩
          have b9 := rtabO_set0 (v := .slice (some ⟨gn, 0, none⟩) (k + 1) cap) b8
          have k9 : Keeps [t2] w8 W9 := by rw [← hW9]; exact (Keeps.refl _ _).setCell (.inr (by simp)) _
          rw [hW9] at b9
          have zt := lt_of_block hb
          have zq := lt_of_block hq
          have hgt : t2 ∉ blk (some (⟨gn, 0, none⟩ : Addr)) := g1.notin b8 (by decide)
          have V9 := Lib.hid (g1.keeps k9 (fun y hy hy2 => by simp at hy2; subst hy2; exact hgt hy))
          have Q9 := Lib.hid (k9.has (k08.has hq hqb) (by simp; exact hqt))
          have B9 := Lib.hid b9
          have bx9 := k9.has bx8 (by simp; omega)
          have h1c : W9.cell? ⟨wr.heap.size, 1, none⟩ = some (.int .i64 x.hash) := cell_has bx9 (i := 1) rfl
          have K09 := Lib.hid (And.intro k08 k9)
          have HW9 := Lib.hid hW9
          have HQT := Lib.hid (And.intro hqt hqb)
          have hI2 := layN_inv j E2 HE2V.out (by rw [HE2L.out]; have := HGIS.out; omega) k (by rw [HE2L.out]; omega)
          have hp8 := pow_pos j
          have hlt2 : (E2.take k).length < 2 ^ j := by rw [htk]; have := HGIS.out; omega
          have FI := Lib.hid (And.intro (hI2.fe_lt hlt2 x.hash) (hI2.fe_is hlt2 x.hash))
          have HX2 := Lib.hid hx2
          have HX := Lib.hid hx
          have HG3 := Lib.hid g3
          clear hb hr hq hK ka bx g1 g2 g3 g4 htb hqb hqt hxb b8 bx8 k08 hW9 b9 k9 hgt bx9 hI2 hlt2 hx2 hx k1 b1 hw0 htk
          go_upto_region 12 with (fail)
          go_cut [4, 6, 7] from 40 to 49 (fun z4 z6 z7 wx => z4 = .pointer (some ⟨t2, 0, none⟩) ∧ z6 = .int .i64 k ∧ z7 = .pointer (some ⟨wr.heap.size, 0, none⟩) ∧ W9 = wx)
          case first =>
            go_region_law (refine step_append_run (o := ⟨some 47, _, _, _, _, _⟩) rfl (.tmp 44) (.tmp 46) 105 rfl _ _ rfl rfl _ _ hrun ?_)
            all_goals (go_wp2_with fail; go_meet; exact ⟨rfl, rfl, rfl, HW9.out.symm⟩)
          case rest =>
            obtain ⟨rfl, rfl, rfl, rfl⟩ := hcut
            clear hrun x0 y0 y0' c0 c1 c2 c3 c4 z0 f0
            go_wp2_with fail
            refine (rlay_any t2 q2 j (layN j E2 k) x.hash k _ _ _ _ _ _ _ B9.out Q9.out (by omega) FI.out.1 FI.out.2).mono ?_
            rintro r w10 ⟨rfl, q10, k10⟩
            have Q10 := Lib.hid q10
            have K10 := Lib.hid k10
            clear q10 k10
            go_wp2_with fail
            go_roundw
            case rel =>
              have tq : ¬ t2 = q2 := fun e => HQT.out.1 e.symm
              have hgq : q2 ∉ blk (some (⟨gn, 0, none⟩ : Addr)) := ref_noent Q9.out V9.out
              refine ⟨k + 1, by omega, by go_num, some ⟨gn, 0, none⟩, cap, K10.out.has B9.out (by simpa using tq), ?_, ?_, ?_⟩
              · have h9 := V9.out.keeps K10.out (fun y hy hy2 => by simp at hy2; subst hy2; exact hgq hy)
                rw [List.take_add_one, HX2.out]
                exact h9
              · rw [layN_succ, show E2.getD k noE = { x with birth := (k : Int) } by simp [List.getD, HX2.out]]
                exact Q10.out
              · refine ((RK.out.then K09.out.1 (fun y hy => ?_)).then K09.out.2 (fun y hy => ?_)).then K10.out (fun y hy => ?_)
                · left; exact (RR.out.blk_lt y hy).1
                · simp at hy; subst hy; right; simp
                · simp at hy; subst hy; right; simp
            case measure => simp [intOf]; omega
        · obtain rfl : k = l := by omega
          have hge : ¬ (k : Int) < (k : Int) := by omega
          have f3 := free_of_has hb 3
          have f4 := free_of_has hb 4
          have x3 : wr.cell? ⟨t2, 3, none⟩ = some (.int .i64 0) := cell_has hb (i := 3) rfl
          have x4 : wr.cell? ⟨t2, 4, none⟩ = some (.int .i64 0) := cell_has hb (i := 4) rfl
          clear hb hr hq hK
          go_wp2_with fail
          go_ret
          have h8 := has_setCell (has_setCell RB.out 4 (.int .i64 k)) 3 (.int .i64 k)
          unfold rtabO at h8
          simp only [List.setIfInBounds_toArray, List.set_cons_zero, List.set_cons_succ] at h8
          have k8 : Keeps [t2] wr ((wr.setCell ⟨t2, 4, none⟩ (.int .i64 k)).setCell ⟨t2, 3, none⟩ (.int .i64 k)) := ((Keeps.refl _ _).setCell (.inr (by simp)) _).setCell (.inr (by simp)) _
          have htk : E2.take k = E2 := by rw [List.take_of_length_le (by rw [HE2L.out]; exact Nat.le_refl _)]
          have hqt := ref_ne RQ.out RB.out (by decide)
          have hrt : t2 ∉ blk ra := RR.out.notin RB.out (by decide)
          have z6 := K6.out.size
          have z7 := RK.out.size
          have z8 := k8.size
          have zt := lt_of_block RB.out
          have zq := lt_of_block RQ.out
          have v8 := (RR.out.keeps k8 (fun y hy hy2 => by simp at hy2; subst hy2; exact hrt hy)).lift (lo' := w.heap.size) (fun y hy => by have := (RR.out.blk_lt y hy).1; omega)
          rw [htk] at v8
          have q8 := k8.has RQ.out (by simp; exact hqt)
          refine ⟨t2, t2 :: q2 :: blk ra, rfl, ?_, ?_, ?_⟩
          · unfold RTabAt Tab.copy
            simp only
            rw [renum_liveN, ← hE2.out, ← hg.out, ← hl.out]
            refine ⟨ra, rc, q2, ?_, v8, q8, by simp, by simp, fun y hy => by simp [hy], ?_⟩
            · rw [HE2L.out]; exact h8
            · intro y hy
              simp at hy
              rcases hy with rfl | rfl | hy
              · exact ⟨zt2, by omega⟩
              · exact ⟨by omega, by omega⟩
              · have := RR.out.blk_lt y hy; exact ⟨by omega, by omega⟩
          · have hms : ∀ b, m = some b → b < w.heap.size := fun b hb => HMW.out b (by rw [hb]; simp [mS])
            exact (M6.out.keeps RK.out (fun b hb hx => by have := hms b hb; simp at hx; omega)).keeps k8 (fun b hb hx => by have := hms b hb; simp at hx; omega)
          · exact (K6.out.then RK.out (fun y hy => by simp at hy; left; omega)).then k8 (fun y hy => by simp at hy; left; omega)
end Go.Proofs.YtcakdmapnmneoaaGreat
