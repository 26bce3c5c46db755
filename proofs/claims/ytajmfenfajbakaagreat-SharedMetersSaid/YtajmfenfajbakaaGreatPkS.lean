/- The document's Sight, Seek, Numbers (chapter 7). What the document fixes of namespaces (chapter 10). A slice of strings, and a slice of structs whose fields are ints and strings, as they came in. Who owns which block: a family and its namespaces, of the program or of the document (chapter 10). The program's namespaces: each call, beside all the others (chapter 10). The looks of chapter 10's laws: two sights, two lists of pairs, a script's size. A namespace that is none (nil or zero): every call; a family that is nil (chapter 10). A zero family begins; a script's size (chapter 10). The document's family begun; a namespace more; its names; a namespace's pairs and sight (chapter 10). The pairs of the document's namespace (chapter 10). The document's Del; its Set in one form (chapter 10). The document's namespaces, beside one another and beside the program's (chapter 10). The program's family and the document's, side by side in the law's Two (chapter 10). The law's calls on both sides: at; a Set, a Get, a Del (chapter 10). The law's Two has a namespace more; its does of any kind (chapter 10). The law's alike: a namespace tells just what the document says (chapter 10). A family begun on both sides (chapter 10). A script on both families: chapter 10's plays. -/
import Derived.Test.YtajmfenfajbakaaGreatB10
import Derived.Test.YtajmfenfajbakaaGreatB6
import Derived.Test.YtajmfenfajbakaaGreatB5
import Derived.Test.YtajmfenfajbakaaGreatB7
import Derived.Test.YtajmfenfajbakaaGreatShP
import Derived.Test.YtajmfenfajbakaaGreatB1
import Derived.SliceStrings
import Derived.Test.YtajmfenfajbakaaGreatShOf
import Derived.Test.YtajmfenfajbakaaGreatShOe
import Derived.Test.YtajmfenfajbakaaGreatShO
import Derived.Test.YtajmfenfajbakaaGreatRsE
import Derived.Deep.RegionLaw
import Derived.Test.YtajmfenfajbakaaGreatPast
import Derived.Test.YtajmfenfajbakaaGreatRsF
section
namespace Go.Proofs.YtajmfenfajbakaaGreat
open Go.RowKit
set_option linter.unusedVariables false
set_option linter.unusedSimpArgs false

theorem ref_copy (lo2 q n : Nat) (V : Nat → Int) (W : World) (h : RefAt q n V W) (hn0 : 0 < n) (hn : n ≤ 1048576) (hlo : lo2 ≤ W.heap.size) :
    ∃ g c W3, (Builtin.append_ #[60, 60] 60 #[.slice none 0 0, .slice (some ⟨q, 0, none⟩) n n]).run Tryz.prog W = .ok (.slice (some ⟨g, 0, none⟩) n c) W3 ∧ ValRow 3 lo2 (some ⟨g, 0, none⟩) n c (fun k => .int .i64 (V k)) W3 ∧ Keeps [] W W3 := by
  obtain ⟨j0, hi, hz0, hz1, hz2⟩ := info_parts info64
  obtain ⟨g, cap, w', r1, r2, r3, r4, r5⟩ := run_append_lies (P := Tryz.prog) W 60 60 lo2 3 j0 (.int .i64 0) 1 8 Tryz.underlying60 hi hz0 hz1 hz2 rfl (by decide) (.slice none 0 0) 0 [] (World.ownsRow_nil _ _ _ _) ⟨q, 0, none⟩ n n (valR n (fun k => .int .i64 (V k))) (by rw [valR_len]; omega)
    (by
      intro j u hj
      rw [show (⟨q, 0, none⟩ : Addr).add j = ⟨q, j, none⟩ by unfold Addr.add; split <;> simp_all]
      have hlt := (List.getElem?_eq_some_iff.1 hj).1
      rw [valR_len] at hlt
      rw [valR_get hlt] at hj
      exact (cell_has h (numA_get hlt)).trans hj)
    (by intro v hv; simp only [valR, List.mem_map] at hv; obtain ⟨k, _, rfl⟩ := hv; rfl) hn0 (by unfold maxLen; omega) (by omega) hlo _ rfl
  simp only [Nat.zero_add, List.nil_append] at r1 r2
  exact ⟨g, cap, w', r1, r2, ⟨r3.os, r3.tape, r3.output, r3.size, fun k hk _ => r3.block k hk (by simp [Value.ownBlock])⟩⟩
set_option maxRecDepth 100000 in
set_option maxHeartbeats 4000000 in
theorem rsight_any (t lo : Nat) (S : List Nat) (m : Option Nat) (T : Tab) (w : World) (H : RTabAt t lo S m T w) (h3 : 3 ≤ T.L) (hL : T.L ≤ 20) (hl : T.E.length ≤ 1000000) :
    Calls Tryz.prog 18 #[.pointer (some ⟨t, 0, none⟩)] w (SightP T w) := by
  obtain ⟨a, c, q, b1, r1, q1, s1, s2, s3, s4⟩ := H
  have HB := Lib.hid b1
  have HR := Lib.hid r1
  have HQ := Lib.hid q1
  have hM1 := pow_le hL
  have hM0 := pow_pos T.L
  obtain ⟨M, hM⟩ := ex_hid (2 ^ T.L)
  rw [← hM.out] at hM1 hM0
  obtain ⟨WA, hWA⟩ : ∃ WA, w.alloc (.cells #[.int .i64 0, .int .i64 0, .slice none 0 0, .slice none 0 0, .int .i64 0, .int .i64 0, .int .i64 0] 63) = WA := ⟨_, rfl⟩
  have kA : Keeps [] w WA := by rw [← hWA]; exact (Keeps.refl [] w).alloc _
  have bA : WA.heap[w.heap.size]? = some (.cells #[.int .i64 0, .int .i64 0, .slice none 0 0, .slice none 0 0, .int .i64 0, .int .i64 0, .int .i64 0] 63 (0, 0)) := by rw [← hWA]; exact has_new _ _
  have zA : WA.heap.size = w.heap.size + 1 := by rw [← hWA]; simp
  have hT := kA.has b1 (by simp)
  have e1 : WA.cell? ⟨t, 1, none⟩ = some (.int .i64 T.L) := cell_has hT (i := 1) rfl
  have e3 : WA.cell? ⟨t, 3, none⟩ = some (.int .i64 (liveN T.E : Nat)) := cell_has hT (i := 3) rfl
  have e4 : WA.cell? ⟨t, 4, none⟩ = some (.int .i64 T.births) := cell_has hT (i := 4) rfl
  have e5 : WA.cell? ⟨t, 5, none⟩ = some (.int .i64 T.made) := cell_has hT (i := 5) rfl
  have KA := Lib.hid kA
  have BA := Lib.hid bA
  have n1 := World.new_ne WA ⟨t, 1, none⟩ e1
  have n3 := World.new_ne WA ⟨t, 3, none⟩ e3
  have n4 := World.new_ne WA ⟨t, 4, none⟩ e4
  have n5 := World.new_ne WA ⟨t, 5, none⟩ e5
  have HWA := Lib.hid hWA
  clear b1 r1 q1 s1 s2 s3 s4 hWA kA bA hT
  go_enter Tryz.func18, Tryz.ntmps18
  go_upto_region 1 with (fail)
  rw [HWA.out]
  go_cut [3] from 4 to 28 (fun z3 wx => ∃ D, z3 = .pointer (some ⟨D, 0, none⟩) ∧ wx.heap[D]? = some (sightO T (.slice none 0 0) (.slice none 0 0)) ∧ Keeps [] WA wx ∧ WA.heap.size ≤ D)
  case first =>
    go_region_held3 (fun w' => w'.cell? ⟨t, 1, none⟩ = some (.int .i64 T.L) ∧ w'.cell? ⟨t, 3, none⟩ = some (.int .i64 (liveN T.E : Nat)) ∧ w'.cell? ⟨t, 4, none⟩ = some (.int .i64 T.births) ∧ w'.cell? ⟨t, 5, none⟩ = some (.int .i64 T.made)) (go_keep)
      (first
        | (go_at_call 45; refine (rwidth_any T.L _ rfl h3 hL _).mono ?_; rintro r w1 ⟨rfl, rfl⟩))
    all_goals go_wp2_with fail
    all_goals go_meet
    all_goals exact ⟨w.heap.size + 1, rfl, has_drew (has_new' _ _ zA.symm), ((Keeps.refl [] WA).alloc _).drew, by omega⟩
  case rest =>
    obtain ⟨D, rfl, hD, kC, zD⟩ := hcut
    have K1 := Lib.hid (KA.out.trans kC)
    have hDd : Keeps [] wc wc.drew := (Keeps.refl [] wc).drew
    have hq := (KA.out.trans kC).has HQ.out (by simp)
    obtain ⟨gc, cc, W3, hrun, v3, k3⟩ := ref_copy w.heap.size q (2 ^ T.L) T.V wc.drew (hDd.has hq (by simp)) (by rw [← hM.out]; omega) (by rw [← hM.out]; exact hM1) (by have := K1.out.size; exact this)
    rw [← hM.out] at hrun
    have bt := (KA.out.trans kC).has HB.out (by simp)
    have x2 : wc.cell? ⟨t, 2, none⟩ = some (.slice (some ⟨q, 0, none⟩) M M) := by rw [hM.out]; exact cell_has bt (i := 2) rfl
    have d2 : wc.cell? ⟨D, 2, none⟩ = some (.slice none 0 0) := cell_has hD (i := 2) rfl
    have hD3 := k3.has (has_drew hD) (by simp)
    have d23 : W3.cell? ⟨D, 2, none⟩ = some (.slice none 0 0) := cell_has hD3 (i := 2) rfl
    have f23 := free_of_has hD3 2
    have kD3 : Keeps [D] W3 (W3.setCell ⟨D, 2, none⟩ (.slice (some ⟨gc, 0, none⟩) M cc)) := (Keeps.refl _ _).setCell (.inr (by simp)) _
    have zDl := lt_of_block hD
    have hgD : D ∉ blk (some (⟨gc, 0, none⟩ : Addr)) := v3.notin hD3 (by decide)
    obtain ⟨W4, hW4⟩ : ∃ W4, W3.setCell ⟨D, 2, none⟩ (.slice (some ⟨gc, 0, none⟩) M cc) = W4 := ⟨_, rfl⟩
    have hD4 := has_setCell hD3 2 (.slice (some ⟨gc, 0, none⟩) M cc)
    simp only [sightO, List.setIfInBounds_toArray, List.set_cons_zero, List.set_cons_succ] at hD4
    rw [hW4] at kD3 hD4
    have V4 := Lib.hid (v3.keeps kD3 (fun x hx hx2 => by simp at hx2; subst hx2; exact hgD hx))
    have K4 := Lib.hid ((K1.out.trans (hDd.trans k3)).then (S := []) kD3 (fun x hx => by simp at hx; have := KA.out.size; left; omega))
    have W4H := Lib.hid hW4
    have HD4 := Lib.hid hD4
    have BA4 := Lib.hid (kD3.has (k3.has (hDd.has (kC.has BA.out (by simp)) (by simp)) (by simp)) (by simp; omega))
    have HMM := hM
    clear hD kC hq v3 k3 bt hD3 kD3 hW4 hD4 hDd n1 n3 n4 n5 e1 e3 e4 e5 hgD
    go_upto_region 2 with (fail)
    go_cut [3] from 28 to 37 (fun z3 wx => z3 = .pointer (some ⟨D, 0, none⟩) ∧ W4 = wx)
    case first =>
      go_region_law (refine step_append_run (o := ⟨some 35, _, _, _, _, _⟩) rfl (.tmp 29) (.tmp 34) 60 rfl _ _ rfl rfl _ _ hrun ?_)
      all_goals (go_wp2_with fail; go_meet; exact ⟨rfl, W4H.out.symm⟩)
    case rest =>
      obtain ⟨rfl, rfl⟩ := hcut
      have bt := K4.out.has HB.out (by simp)
      have x1 : W4.cell? ⟨t, 0, none⟩ = some (.slice a T.E.length c) := cell_has bt (i := 0) rfl
      have d3 : W4.cell? ⟨D, 3, none⟩ = some (.slice none 0 0) := cell_has HD4.out (i := 3) rfl
      have hE := HR.out.keeps K4.out (by simp)
      obtain ⟨ae, ce, W5, hrun5, r5, k5⟩ := ent_copy lo w.heap.size c a T.E W4.drew (EntRow.drew hE) hl (by have := K4.out.size; exact this)
      have k54 : Keeps [] W4 W5 := ((Keeps.refl [] W4).drew).trans k5
      have hD5 := k54.has HD4.out (by simp)
      have y33 : W5.cell? ⟨D, 3, none⟩ = some (.slice none 0 0) := cell_has hD5 (i := 3) rfl
      have f33 := free_of_has hD5 3
      obtain ⟨ml, hml⟩ := ex_hid T.E.length
      rw [← hml.out] at x1 hrun5
      have K54 := Lib.hid k54
      have HD5 := Lib.hid hD5
      have R5 := Lib.hid r5
      clear hrun x2 d2 d23 f23 k5 k54 hD5 r5 hE bt
      have kD5 : Keeps [D] W5 (W5.setCell ⟨D, 3, none⟩ (.slice ae ml ce)) := (Keeps.refl _ _).setCell (.inr (by simp)) _
      have hD6 := has_setCell HD5.out 3 (.slice ae ml ce)
      simp only [List.setIfInBounds_toArray, List.set_cons_zero, List.set_cons_succ] at hD6
      obtain ⟨W6, hW6⟩ : ∃ W6, W5.setCell ⟨D, 3, none⟩ (.slice ae ml ce) = W6 := ⟨_, rfl⟩
      rw [hW6] at kD5 hD6
      have W6H := Lib.hid hW6
      have hnE : D ∉ blk ae := R5.out.notin HD5.out (by decide)
      have z4 := K4.out.size
      have z5 := K54.out.size
      have zD4 := lt_of_block HD4.out
      have hnV : D ∉ blk (some (⟨gc, 0, none⟩ : Addr)) := V4.out.notin HD4.out (by decide)
      have V6 := Lib.hid ((V4.out.keeps K54.out (by simp)).keeps kD5 (fun x hx hx2 => by simp at hx2; subst hx2; exact hnV hx))
      have R6 := Lib.hid (R5.out.keeps kD5 (fun x hx hx2 => by simp at hx2; subst hx2; exact hnE hx))
      have K6 := Lib.hid ((K4.out.trans K54.out).then (S := []) kD5 (fun x hx => by simp at hx; have := KA.out.size; left; omega))
      have HD6 := Lib.hid hD6
      have bx := kD5.has (K54.out.has BA4.out (by simp)) (by simp; omega)
      have BX := Lib.hid bx
      clear hW6 kD5 hD6 bx hnE hnV
      go_upto_region 3 with (fail)
      go_cut [3] from 37 to 45 (fun z3 wx => z3 = .pointer (some ⟨D, 0, none⟩) ∧ W6 = wx)
      case first =>
        go_region_law (refine step_append_run (o := ⟨some 43, _, _, _, _, _⟩) rfl (.tmp 38) (.tmp 42) 61 rfl _ _ rfl rfl _ _ hrun5 ?_)
        all_goals (go_wp2_with fail; go_meet; exact ⟨rfl, W6H.out.symm⟩)
      case rest =>
        obtain ⟨rfl, rfl⟩ := hcut
        have d0 : W6.cell? ⟨D, 0, none⟩ = some (.int .i64 T.L) := cell_has HD6.out (i := 0) rfl
        have d1 : W6.cell? ⟨D, 1, none⟩ = some (.int .i64 (wdOf T.L)) := cell_has HD6.out (i := 1) rfl
        have d2 : W6.cell? ⟨D, 2, none⟩ = some (.slice (some ⟨gc, 0, none⟩) M cc) := cell_has HD6.out (i := 2) rfl
        have d3 : W6.cell? ⟨D, 3, none⟩ = some (.slice ae ml ce) := cell_has HD6.out (i := 3) rfl
        have d4 : W6.cell? ⟨D, 4, none⟩ = some (.int .i64 (liveN T.E : Nat)) := cell_has HD6.out (i := 4) rfl
        have d5 : W6.cell? ⟨D, 5, none⟩ = some (.int .i64 T.births) := cell_has HD6.out (i := 5) rfl
        have d6 : W6.cell? ⟨D, 6, none⟩ = some (.int .i64 T.made) := cell_has HD6.out (i := 6) rfl
        have b0 := cell_has BX.out (i := 0) rfl
        have b1 := cell_has BX.out (i := 1) rfl
        have b2 := cell_has BX.out (i := 2) rfl
        have b3 := cell_has BX.out (i := 3) rfl
        have b4 := cell_has BX.out (i := 4) rfl
        have b5 := cell_has BX.out (i := 5) rfl
        have b6 := cell_has BX.out (i := 6) rfl
        have w0 := free_of_has BX.out 0
        have w1 := free_of_has BX.out 1
        have w2' := free_of_has BX.out 2
        have w3 := free_of_has BX.out 3
        have w4 := free_of_has BX.out 4
        have w5 := free_of_has BX.out 5
        have w6 := free_of_has BX.out 6
        clear hrun5 x1 y33 f33 z4 z5 zD4
        go_wp2_with fail
        have bF := sight_store T (.slice (some ⟨gc, 0, none⟩) M cc) (.slice ae ml ce) BX.out
        have kF : Keeps [w.heap.size] W6 (((((((W6.setCell ⟨w.heap.size, 0, none⟩ (.int .i64 T.L)).setCell ⟨w.heap.size, 1, none⟩ (.int .i64 (wdOf T.L))).setCell ⟨w.heap.size, 2, none⟩ (.slice (some ⟨gc, 0, none⟩) M cc)).setCell ⟨w.heap.size, 3, none⟩ (.slice ae ml ce)).setCell ⟨w.heap.size, 4, none⟩ (.int .i64 (liveN T.E : Nat))).setCell ⟨w.heap.size, 5, none⟩ (.int .i64 T.births)).setCell ⟨w.heap.size, 6, none⟩ (.int .i64 T.made)) := (((((((Keeps.refl _ _).setCell (.inr (by simp)) _).setCell (.inr (by simp)) _).setCell (.inr (by simp)) _).setCell (.inr (by simp)) _).setCell (.inr (by simp)) _).setCell (.inr (by simp)) _).setCell (.inr (by simp)) _
        obtain ⟨WF, hWF⟩ : ∃ WF, ((((((W6.setCell ⟨w.heap.size, 0, none⟩ (.int .i64 T.L)).setCell ⟨w.heap.size, 1, none⟩ (.int .i64 (wdOf T.L))).setCell ⟨w.heap.size, 2, none⟩ (.slice (some ⟨gc, 0, none⟩) M cc)).setCell ⟨w.heap.size, 3, none⟩ (.slice ae ml ce)).setCell ⟨w.heap.size, 4, none⟩ (.int .i64 (liveN T.E : Nat))).setCell ⟨w.heap.size, 5, none⟩ (.int .i64 T.births)).setCell ⟨w.heap.size, 6, none⟩ (.int .i64 T.made) = WF := ⟨_, rfl⟩
        rw [hWF] at bF kF ⊢
        have rc := cell_of_has bF
        refine bodyPost_ret (v := sightAgg T (.slice (some ⟨gc, 0, none⟩) M cc) (.slice ae ml ce)) ?_ rfl ?_
        · simp [results, Tryz.results18, go_sem, rc, sightAgg, sightO]
        · refine ⟨some ⟨gc, 0, none⟩, cc, ae, ce, by rw [hml.out, hM.out], ?_, ?_, ?_⟩
          · exact V6.out.keeps kF (fun x hx hx2 => by simp at hx2; subst hx2; exact V6.out.notin BX.out (by decide) hx)
          · exact R6.out.keeps kF (fun x hx hx2 => by simp at hx2; subst hx2; exact R6.out.notin BX.out (by decide) hx)
          · exact (K6.out.then (S := []) kF (fun x hx => by simp at hx; left; omega)).below (by simp) (by simp)
end Go.Proofs.YtajmfenfajbakaaGreat
end

section
namespace Go.Proofs.YtajmfenfajbakaaGreat
open Go.RowKit
set_option linter.unusedVariables false
set_option linter.unusedSimpArgs false

theorem strRow_lit (g lo : Nat) (N : List ByteArray) (W : World) (h : W.heap[g]? = some (.cells (N.map Value.string).toArray 9 (0, 0))) (hl : lo ≤ g) (hN : N.length ≤ 1000) : ValRow 9 lo (some ⟨g, 0, none⟩) N.length N.length (strV N) W := by
  refine ⟨by rw [valR_len]; omega, .inr ⟨g, N.length, _, rfl, hl, h, Nat.le_refl _, by unfold maxLen; omega, by simp, ?_⟩⟩
  apply List.ext_getElem?
  intro k
  rcases Nat.lt_or_ge k N.length with h1 | h1
  · rw [valR_get h1, List.getElem?_take_of_lt (by omega)]
    simp [strV, List.getElem?_eq_getElem h1, List.getD]
  · rw [List.getElem?_eq_none (by simp; omega), List.getElem?_eq_none (by rw [valR_len]; exact h1)]
theorem FamOk.new (most pairs : Int) : FamOk 0 ⟨most, pairs, newT, []⟩ [] :=
  ⟨TInv.new, fun i x h => by simp [newT] at h, by simp, fun i x h => by simp [newT] at h, by simp [newT], by simp⟩
theorem SRow.low {fb t mb lo : Nat} {a : Option Addr} {ST : List Nat} {m : Option Nat} {f : Fam} {sb rb : Nat} {ar : Option Addr} {vs : List Int} {ver : Nat} {c : C4} {W : World} (h : SRow fb t mb lo a ST m f sb rb ar vs ver c W) : ∀ z, z ∈ spFeet fb mb a ST m sb rb ar → lo ≤ z ∨ z ∈ mS m := fun z hz => by
  unfold spFeet at hz
  simp only [List.mem_cons, List.mem_append] at hz
  rcases hz with h1 | (h1 | h1) | h1
  · rw [h1]; exact .inl h.ls
  · exact .inl (h.F.foot z h1).1
  · exact .inl (h.R.foot z (by simp only [List.mem_cons]; exact h1)).1
  · exact .inr h1
def xS : ByteArray := ⟨#[120]⟩
def yS : ByteArray := ⟨#[121]⟩
theorem xyS : xS ≠ yS := by decide
set_option maxRecDepth 100000 in
set_option maxHeartbeats 4000000 in
theorem awake10 (w : World) : Calls Tryz.prog 7 #[] w fun e w' => e = .returned (.bool true) ∧ Keeps [] w w' := by
  have sx : (⟨#[120]⟩ : ByteArray) = xS := rfl
  have sy : (⟨#[121]⟩ : ByteArray) = yS := rfl
  have SX := Lib.hid sx
  have SY := Lib.hid sy
  clear sx sy
  go_enter Tryz.func7, Tryz.ntmps7
  go_wp2_with fail
  refine (fnew_any 3 10 none ⟨0, 0, 0, 0⟩ w (MtrAt.nil _ _) (by omega) (by omega) (by omega) (by omega)).mono ?_
  rintro r w1 ⟨fb, t, mb, ST, rfl, f1, m1, k1⟩
  have F1 := Lib.hid f1
  have K1 := Lib.hid k1
  clear f1 m1 k1
  go_wp2_with fail
  refine (fmake_any fb t mb w.heap.size none ST none _ ⟨0, 0, 0, 0⟩ w1 F1.out (MtrAt.nil _ _) (fun b h => by cases h)).mono ?_
  rintro r w2 ⟨sb, rb, rfl, s2, k2, zs, zr⟩
  have S2 := Lib.hid s2
  have K2 := Lib.hid (K1.out.trans k2)
  have Z2 := Lib.hid (show w.heap.size ≤ sb ∧ w.heap.size ≤ rb from by have := K1.out.size; omega)
  clear s2 k2 zs zr
  go_wp2_with fail
  refine (sset_next 0 (by omega) fb t mb w.heap.size none ST none _ [] sb rb none [] 0 _ xS 1 w2 S2.out (FamOk.new 3 10) (by decide) (by omega) (by simp) (by simp) (by simp) (by simp) (.inr ⟨rfl, by simp, by simp⟩)).mono ?_
  rintro r w3 ⟨rfl, f3, c3, a3, ST3, ar3, ⟨o3, p3, q3, n3, _, _⟩, s3, k3, g3, g4⟩
  have O3 := Lib.hid (show FamOk 1 f3 [xS] from by simpa using o3)
  have Q3 := Lib.hid (And.intro p3 (And.intro q3 n3))
  have S3 := Lib.hid s3
  have K3 := Lib.hid (show Keeps [] w w3 from (K2.out.mono (by simp [mS])).then k3 (fun z hz => .inl (by rcases S2.out.low z hz with h | h; exact h; simp [mS] at h)))
  clear o3 p3 q3 n3 s3 k3 g3 g4
  go_wp2_with fail
  have hp3 : f3.pairs = 10 := Q3.out.2.1
  have hm3 : f3.most = 3 := Q3.out.1
  have hn3 := Q3.out.2.2
  refine (sset_next 1 (by omega) fb t mb w.heap.size a3 ST3 none f3 [xS] sb rb ar3 _ _ c3 yS 2 w3 S3.out O3.out (by decide) (by omega) (by simp at hn3; omega) (by simp) (by simp; exact fun e => xyS e.symm) (by rw [hp3]; simp) (.inr ⟨rfl, by simp; exact fun e => xyS e.symm, by rw [hm3]; simp⟩)).mono ?_
  rintro r w4 ⟨rfl, f4, c4, a4, ST4, ar4, ⟨o4, p4, q4, n4, _, _⟩, s4, k4, g5, g6⟩
  have O4 := Lib.hid (show FamOk 2 f4 [xS, yS] from by simpa using o4)
  have S4 := Lib.hid s4
  have K4 := Lib.hid (show Keeps [] w w4 from K3.out.then k4 (fun z hz => .inl (by rcases S3.out.low z hz with h | h; exact h; simp [mS] at h)))
  clear o4 p4 q4 n4 s4 k4 g5 g6 hp3 hm3 hn3
  go_wp2_with fail
  refine (sget_has 2 (by omega) fb t mb w.heap.size a4 ST4 none f4 [xS, yS] sb rb ar4 _ _ c4 yS w4 S4.out O4.out (by decide) 1 rfl (by simp)).mono ?_
  rintro r w5 ⟨rfl, c5, _, s5, k5⟩
  have S5 := Lib.hid s5
  have K5 := Lib.hid (show Keeps [] w w5 from K4.out.trans (k5.mono (by simp [mS])))
  clear s5 k5
  simp only [List.nil_append, List.cons_append, List.getD, List.getElem?_cons_succ, List.getElem?_cons_zero, Option.getD_some]
  go_wp2_with fail
  refine (sshared_row sb fb rb _ w5 S5.out.s).mono ?_
  rintro r w6 ⟨rfl, rfl⟩
  go_wp2_with fail
  refine (names_any 2 (by omega) fb t mb w.heap.size a4 ST4 none f4 [xS, yS] w5 S5.out.F O4.out).mono ?_
  rintro r w7 ⟨lo7, a7, c7, _, rfl, v7, k7⟩
  have V7 := Lib.hid v7
  have K7 := Lib.hid (K5.out.trans k7)
  clear v7 k7
  go_wp2_with fail
  refine (names_cmp lo7 0 a7 (some ⟨w7.heap.size, 0, none⟩) c7 2 [xS, yS] [xS, yS] (w7.alloc (.cells #[.string xS, .string yS] 9)) (V7.out.keeps ((Keeps.refl [] w7).alloc _) (by simp)) (strRow_lit _ _ [xS, yS] _ (has_new _ _) (Nat.zero_le _) (by simp)) (by simp)).mono ?_
  rintro r w8 ⟨rfl, k8⟩
  have K8 := Lib.hid ((K7.out.alloc _).trans k8)
  clear k8
  go_wp2_with fail
  go_ret
  exact ⟨rfl, K8.out⟩
end Go.Proofs.YtajmfenfajbakaaGreat
end

section
section
namespace Go.Proofs.YtajmfenfajbakaaGreat
open Go.ChangeShapes Go.WideShapes Go.ChangeAt Go.RowKit Go.Deep
variable {H : Type} {enc : TypeId × Value → H} {P : Program} {w : World} {spare : Nat → Bool} {held : Bool}

theorem add_off10 (b off i : Nat) : ((⟨b, off, none⟩ : Addr).add i) = ⟨b, off + i, none⟩ := by
  unfold Addr.add
  split
  · rename_i h; rw [h]; rfl
  · rfl
/-- Its strings lay there before the call. -/
def StrRow (w : World) (a : Option Addr) (len : Nat) (N : Nat → ByteArray) : Prop :=
  len = 0 ∨ ∃ b off, a = some ⟨b, off, none⟩ ∧ b < w.heap.size ∧ (len : Int) ≤ 9223372036854775807 ∧ ∀ i, i < len → w.cell? ⟨b, off + i, none⟩ = some (.string (N i))
theorem StrRow.keeps {w w' : World} {a : Option Addr} {len : Nat} {N : Nat → ByteArray} (h : StrRow w a len N) (hb : Keeps [] w w') : StrRow w' a len N := by
  rcases h with h | ⟨b, off, h1, h2, h3, h4⟩
  · exact .inl h
  · exact .inr ⟨b, off, h1, Nat.lt_of_lt_of_le h2 hb.size, h3, fun i hi => hb.cell (h4 i hi) (by simp)⟩
theorem rows_of_strings {t e : TypeId} {a : Option Addr} {len cap : Nat} {d : DataW H} {p : List MemPlace} (ht : P.underlying t = some (.slice e)) (he : P.underlying e = some .string) (hc : P.cellsOf e = 1)
    (h : DataW.Trod enc P w 0 spare held t (.slice a len cap) d p) : ∃ N, StrRow w a len N := by
  obtain ⟨fuel, hf⟩ := h
  rcases open_strings ht he hc hf with ⟨hcs, _⟩ | ⟨x, l, c, ss, hcs, _, hl, hm, hz, _, hcell, hwz⟩
  · simp [Value.cells] at hcs
    exact ⟨fun _ => .empty, .inl hcs.2.1⟩
  · simp [Value.cells] at hcs
    obtain ⟨rfl, rfl, rfl⟩ := hcs
    unfold maxLen at hm
    have hlz : len ≤ ss.length := by rw [hz]; split <;> omega
    rcases Nat.eq_zero_or_pos len with h0 | h0
    · exact ⟨fun _ => .empty, .inl h0⟩
    · have hc0 := hcell 0 (by omega)
      obtain ⟨b, off, spot⟩ := x
      have hspot : spot = none := by simpa [Addr.add] using World.cell?_spot hc0
      subst hspot
      have hblk := World.block_lt_of_cell? _ _ hc0
      exact ⟨fun i => ss.getD i .empty, .inr ⟨b, off, rfl, by simpa [Addr.add] using hblk, by omega, fun i hi => add_off10 b off i ▸ hcell i (by omega)⟩⟩
def fldV (isS : Nat → Bool) (sz : Nat) (F : Nat → Int) (N : Nat → ByteArray) (i : Nat) : Value := if isS (i % sz) = true then .string (N i) else .int .i64 (F i)
/-- Its cells lay there before the call: where isS tells so a string, else an int. -/
def FldRow (isS : Nat → Bool) (sz : Nat) (w : World) (a : Option Addr) (len : Nat) (F : Nat → Int) (N : Nat → ByteArray) : Prop :=
  len = 0 ∨ ∃ b off, a = some ⟨b, off, none⟩ ∧ b < w.heap.size ∧ (len : Int) ≤ 9223372036854775807 ∧ ∀ i, i < len * sz → w.cell? ⟨b, off + i, none⟩ = some (fldV isS sz F N i)
theorem FldRow.keeps {isS : Nat → Bool} {sz : Nat} {w w' : World} {a : Option Addr} {len : Nat} {F : Nat → Int} {N : Nat → ByteArray} (h : FldRow isS sz w a len F N) (hb : Keeps [] w w') : FldRow isS sz w' a len F N := by
  rcases h with h | ⟨b, off, h1, h2, h3, h4⟩
  · exact .inl h
  · exact .inr ⟨b, off, h1, Nat.lt_of_lt_of_le h2 hb.size, h3, fun i hi => hb.cell (h4 i hi) (by simp)⟩
theorem rows_of_fields {t e : TypeId} {fs : Array Field} {a : Option Addr} {len cap : Nat} (isS : Nat → Bool) {d : DataW H} {p : List MemPlace} (ht : P.underlying t = some (.slice e)) (he : P.underlying e = some (.struct fs))
    (hone : oneCellFields P fs = true) (hC : P.cellsOf e = fs.size) (hpos : 0 < fs.size) (hfs : ∀ (j : Nat) (f : Field), fs[j]? = some f → (isS j = true → P.underlying f.type = some .string) ∧ (isS j = false → P.underlying f.type = some (.int .i64)))
    (h : DataW.Trod enc P w 0 spare held t (.slice a len cap) d p) : ∃ F N, FldRow isS fs.size w a len F N := by
  obtain ⟨fuel, hf⟩ := h
  rcases open_slice_fields ht he hone hC hf with hcs | ⟨x, len', cap', m, hcs, hl, hm, hmm, hx⟩
  · simp [Value.cells] at hcs
    exact ⟨fun _ => 0, fun _ => .empty, .inl hcs.2.1⟩
  · simp [Value.cells] at hcs
    obtain ⟨rfl, rfl, rfl⟩ := hcs
    have hlm : len ≤ m := by rw [hmm]; split <;> omega
    unfold maxLen at hm
    have hx1 : ∀ i, i < len * fs.size → ∃ (n : Int) (b : ByteArray), w.cell? (x.add i) = some (if isS (i % fs.size) = true then .string b else .int .i64 n) := by
      intro i hi
      have hq : i / fs.size < len := (Nat.div_lt_iff_lt_mul hpos).2 hi
      have hr : i % fs.size < fs.size := Nat.mod_lt _ hpos
      obtain ⟨ys, n, hy⟩ := hx (i / fs.size) (by omega)
      obtain ⟨v, y, h1, _, h3⟩ := hy (i % fs.size) fs[i % fs.size] (Array.getElem?_eq_getElem hr)
      rw [Nat.div_add_mod' i fs.size] at h1
      have hk := hfs _ _ (Array.getElem?_eq_getElem hr)
      cases hb : isS (i % fs.size)
      · obtain ⟨q, e1, e2, e3⟩ := DataW.trod_int (hk.2 hb) h3
        simp at e1
        exact ⟨q, .empty, by rw [h1, e1]; simp⟩
      · obtain ⟨q, e1, e2⟩ := DataW.trod_string (hk.1 hb) h3
        simp at e1
        exact ⟨0, q, by rw [h1, e1]; simp⟩
    rcases Nat.eq_zero_or_pos (len * fs.size) with h0 | h0
    · rcases Nat.eq_zero_or_pos len with h1 | h1
      · exact ⟨fun _ => 0, fun _ => .empty, .inl h1⟩
      · exact absurd h0 (Nat.ne_of_gt (Nat.mul_pos h1 hpos))
    · refine ⟨fun i => if hi : i < len * fs.size then (hx1 i hi).choose else 0, fun i => if hi : i < len * fs.size then (hx1 i hi).choose_spec.choose else .empty, ?_⟩
      obtain ⟨n0, b0, hc0⟩ := hx1 0 h0
      obtain ⟨b, off, spot⟩ := x
      have hspot : spot = none := by simpa [Addr.add] using World.cell?_spot hc0
      subst hspot
      have hblk := World.block_lt_of_cell? _ _ hc0
      refine .inr ⟨b, off, rfl, by simpa [Addr.add] using hblk, by omega, fun i hi => ?_⟩
      have hch := (hx1 i hi).choose_spec.choose_spec
      simp only [fldV, hi, dite_true]
      exact add_off10 b off i ▸ hch
end Go.Proofs.YtajmfenfajbakaaGreat
end
end

section
namespace Go.Proofs.YtajmfenfajbakaaGreat
open Go.RowKit
set_option linter.unusedVariables false
set_option linter.unusedSimpArgs false

/-- Whose a block is: true is the program's side. -/
inductive Tg10 where
  | free
  | met (s : Bool)
  | fam (s : Bool)
  | sp (s : Bool) (i : Nat)
  | two (k : Nat)
  | row (k : Nat)
deriving DecidableEq
def Tg10.side (s : Bool) : Tg10 → Bool
  | .met s' => s == s'
  | .fam s' => s == s'
  | .sp s' _ => s == s'
  | _ => false
/-- Only blocks of some owners have changed, and no old block has another owner. -/
structure MvT (p : Tg10 → Bool) (o : Nat → Tg10) (W : World) (o' : Nat → Tg10) (W' : World) : Prop where
  os : W'.os = W.os
  tape : W'.tape = W.tape
  output : W'.output = W.output
  size : W.heap.size ≤ W'.heap.size
  old : ∀ z, z < W.heap.size → o' z = o z
  blk : ∀ z, z < W.heap.size → p (o z) = false → W'.heap[z]? = W.heap[z]?
theorem MvT.refl (p : Tg10 → Bool) (o : Nat → Tg10) (W : World) : MvT p o W o W := ⟨rfl, rfl, rfl, Nat.le_refl _, fun _ _ => rfl, fun _ _ _ => rfl⟩
theorem MvT.mono {p q : Tg10 → Bool} {o o' : Nat → Tg10} {W W' : World} (h : MvT p o W o' W') (hq : ∀ t, q t = false → p t = false) : MvT q o W o' W' := ⟨h.os, h.tape, h.output, h.size, h.old, fun z hz hp => h.blk z hz (hq _ hp)⟩
theorem MvT.trans {p : Tg10 → Bool} {o o' o'' : Nat → Tg10} {W W' W'' : World} (h : MvT p o W o' W') (k : MvT p o' W' o'' W'') : MvT p o W o'' W'' :=
  ⟨k.os.trans h.os, k.tape.trans h.tape, k.output.trans h.output, Nat.le_trans h.size k.size, fun z hz => (k.old z (Nat.lt_of_lt_of_le hz h.size)).trans (h.old z hz),
    fun z hz hp => (k.blk z (Nat.lt_of_lt_of_le hz h.size) (by rw [h.old z hz]; exact hp)).trans (h.blk z hz hp)⟩
theorem MvT.of_keeps {p : Tg10 → Bool} {o : Nat → Tg10} {W W' : World} {S : List Nat} (k : Keeps S W W') (hS : ∀ z, z ∈ S → p (o z) = true) : MvT p o W o W' :=
  ⟨k.os, k.tape, k.output, k.size, fun _ _ => rfl, fun z hz hp => k.block z hz (fun hx => by rw [hS z hx] at hp; cases hp)⟩
def FrT (p : Tg10 → Bool) (o : Nat → Tg10) (W : World) : List Nat := (List.range W.heap.size).filter fun z => p (o z)
theorem MvT.keeps {p : Tg10 → Bool} {o o' : Nat → Tg10} {W W' : World} (h : MvT p o W o' W') : Keeps (FrT p o W) W W' :=
  ⟨h.os, h.tape, h.output, h.size, fun z hz hn => h.blk z hz (by
    cases hp : p (o z)
    · rfl
    · exact absurd (by unfold FrT; simp; exact ⟨hz, hp⟩) hn)⟩
theorem not_frT {p : Tg10 → Bool} {o : Nat → Tg10} {W : World} {z : Nat} (h : p (o z) = false) : z ∉ FrT p o W := by
  unfold FrT; simp [h]
theorem MvT.below {p : Tg10 → Bool} {o o' : Nat → Tg10} {W W' : World} (h : MvT p o W o' W') {B : Nat} (hB : B ≤ W.heap.size) (hp : ∀ z, p (o z) = true → B ≤ z) : Below B W W' :=
  ⟨h.os, h.tape, h.output, h.size, fun z hz => h.blk z (by omega) (by
    cases hq : p (o z)
    · rfl
    · have := hp z hq; omega)⟩
def FreeT (o : Nat → Tg10) (W : World) : Prop := ∀ z, W.heap.size ≤ z → o z = .free
def NewT10 (o o' : Nat → Tg10) (W : World) : Prop := ∀ z, o' z ≠ .free → o z ≠ .free ∨ W.heap.size ≤ z
theorem FreeT.quiet {o : Nat → Tg10} {W W' : World} (h : FreeT o W) (k : W.heap.size ≤ W'.heap.size) : FreeT o W' := fun z hz => h z (by omega)

/-- The program, or the document. -/
structure Side10 where
  tag : Bool
  FA : Nat → Nat → List Nat → Option Nat → Fam → World → Prop
  SA : Nat → Nat → Nat → List Nat → Option Nat → Way10 → Nat → World → Prop
  CA : Option Nat → C4 → World → Prop
  fk : ∀ fb lo S m f W W' R, FA fb lo S m f W → Keeps R W W' → (∀ z, z ∈ S → z ∉ R) → FA fb lo S m f W'
  fl : ∀ fb lo S m f W, FA fb lo S m f W → ∀ z, z ∈ S → lo ≤ z ∧ z < W.heap.size
  sk : ∀ fb sb lo S m wy ver W W' R, SA fb sb lo S m wy ver W → Keeps R W W' → (∀ z, z ∈ S → z ∉ R) → SA fb sb lo S m wy ver W'
  sl : ∀ fb sb lo S m wy ver W, SA fb sb lo S m wy ver W → ∀ z, z ∈ S → lo ≤ z ∧ z < W.heap.size
  ck : ∀ m c W W' R, CA m c W → Keeps R W W' → (∀ b, m = some b → b ∉ R) → CA m c W'
  cl : ∀ m c W, CA m c W → ∀ b, m = some b → b < W.heap.size
def sideP10 : Side10 where
  tag := true
  FA := FA10
  SA := SA10
  CA := MtrAt
  fk _ _ _ _ _ _ _ _ h k hd := h.keeps k hd
  fl _ _ _ _ _ _ h := h.foot
  sk _ _ _ _ _ _ _ _ _ _ h k hd := h.keeps k hd
  sl _ _ _ _ _ _ _ _ h := h.foot
  ck _ _ _ _ _ h k hd := h.keeps k hd
  cl _ _ _ h b hb := lt_of_block (h b hb)
/-- Where a namespace lies, how it is kept, its version. -/
structure PS10 where
  sb : Nat
  wy : Way10
  ver : Nat
/-- One side: its meter, family, namespaces. -/
structure SJ (σ : Side10) (m : Option Nat) (lo fb : Nat) (f : Fam) (c : C4) (o : Nat → Tg10) (L : List PS10) (W : World) : Prop where
  ct : σ.CA m c W
  mt : ∀ b, m = some b → b < lo ∧ o b = .met σ.tag
  fm : ∃ S, σ.FA fb lo S m f W ∧ ∀ z, z ∈ S → o z = .fam σ.tag
  sp : ∀ (i : Nat) (x : PS10), L[i]? = some x → ∃ S, σ.SA fb x.sb lo S m x.wy x.ver W ∧ ∀ z, z ∈ S → o z = .sp σ.tag i
section
variable {σ : Side10} {m : Option Nat} {lo fb : Nat} {f : Fam} {c : C4} {o o' : Nat → Tg10} {L : List PS10} {W W' : World}
theorem SJ.mS (h : SJ σ m lo fb f c o L W) : ∀ z, z ∈ mS m → o z = .met σ.tag := fun z hz => by
  cases hm : m with
  | none => rw [hm] at hz; simp [Go.Proofs.YtajmfenfajbakaaGreat.mS] at hz
  | some b => rw [hm] at hz; simp [Go.Proofs.YtajmfenfajbakaaGreat.mS] at hz; subst hz; exact (h.mt _ hm).2
/-- Others' blocks alone have changed. -/
theorem SJ.mv {p : Tg10 → Bool} (h : SJ σ m lo fb f c o L W) (k : MvT p o W o' W') (hp : ∀ t : Tg10, t.side σ.tag = true → p t = false) : SJ σ m lo fb f c o' L W' := by
  have kk := k.keeps
  obtain ⟨S, h1, h2⟩ := h.fm
  refine ⟨σ.ck _ _ _ _ _ h.ct kk (fun b hb => not_frT (hp _ (by rw [(h.mt b hb).2]; simp [Tg10.side]))), fun b hb => ⟨(h.mt b hb).1, (k.old b (σ.cl _ _ _ h.ct b hb)).trans (h.mt b hb).2⟩,
    ⟨S, σ.fk _ _ _ _ _ _ _ _ h1 kk (fun z hz => not_frT (hp _ (by rw [h2 z hz]; simp [Tg10.side]))), fun z hz => (k.old z (σ.fl _ _ _ _ _ _ h1 z hz).2).trans (h2 z hz)⟩, fun i x hx => ?_⟩
  obtain ⟨R, r1, r2⟩ := h.sp i x hx
  exact ⟨R, σ.sk _ _ _ _ _ _ _ _ _ _ r1 kk (fun z hz => not_frT (hp _ (by rw [r2 z hz]; simp [Tg10.side]))), fun z hz => (k.old z (σ.sl _ _ _ _ _ _ _ _ r1 z hz).2).trans (r2 z hz)⟩
theorem SJ.quiet (h : SJ σ m lo fb f c o L W) (k : Keeps [] W W') : SJ σ m lo fb f c o L W' := by
  obtain ⟨S, h1, h2⟩ := h.fm
  refine ⟨σ.ck _ _ _ _ _ h.ct k (by simp), h.mt, ⟨S, σ.fk _ _ _ _ _ _ _ _ h1 k (by simp), h2⟩, fun i x hx => ?_⟩
  obtain ⟨R, r1, r2⟩ := h.sp i x hx
  exact ⟨R, σ.sk _ _ _ _ _ _ _ _ _ _ r1 k (by simp), r2⟩
/-- Only the counts have changed. -/
theorem SJ.met (h : SJ σ m lo fb f c o L W) {c' : C4} (k : Keeps (Go.Proofs.YtajmfenfajbakaaGreat.mS m) W W') (hc : σ.CA m c' W') : SJ σ m lo fb f c' o L W' ∧ MvT (Tg10.side σ.tag) o W o W' := by
  obtain ⟨S, h1, h2⟩ := h.fm
  refine ⟨⟨hc, h.mt, ⟨S, σ.fk _ _ _ _ _ _ _ _ h1 k (fun z hz hy => by have := h.mS z hy; rw [h2 z hz] at this; simp at this), h2⟩, fun i x hx => ?_⟩, MvT.of_keeps k (fun z hz => by rw [h.mS z hz]; simp [Tg10.side])⟩
  obtain ⟨R, r1, r2⟩ := h.sp i x hx
  exact ⟨R, σ.sk _ _ _ _ _ _ _ _ _ _ r1 k (fun z hz hy => by have := h.mS z hy; rw [r2 z hz] at this; simp at this), r2⟩
theorem set_get10 {α : Type} {l : List α} {i j : Nat} {a b x : α} (hx : l[i]? = some x) (h : (l.set i a)[j]? = some b) : (i = j ∧ b = a) ∨ (i ≠ j ∧ l[j]? = some b) := by
  rw [List.getElem?_set] at h
  split at h
  · rename_i e
    split at h
    · simp at h; exact .inl ⟨e, h.symm⟩
    · cases h
  · rename_i e; exact .inr ⟨e, h⟩
/-- A call on one namespace, which may change it and the family. -/
theorem SJ.did (h : SJ σ m lo fb f c o L W) (fr : FreeT o W) {i : Nat} {x : PS10} (hx : L[i]? = some x) {SF SS SF' SS' : List Nat} {f' : Fam} {wy' : Way10} {ver' : Nat} {c' : C4}
    (hSF : ∀ z, z ∈ SF → o z = .fam σ.tag) (hSFl : ∀ z, z ∈ SF → z < W.heap.size) (hSS : ∀ z, z ∈ SS → o z = .sp σ.tag i) (hSSl : ∀ z, z ∈ SS → z < W.heap.size)
    (a1 : σ.FA fb lo SF' m f' W') (a2 : σ.SA fb x.sb lo SS' m wy' ver' W') (a3 : σ.CA m c' W') (k : Keeps (SF ++ SS ++ Go.Proofs.YtajmfenfajbakaaGreat.mS m) W W') (g1 : Grew SF W SF') (g2 : Grew SS W SS') (d : ∀ z, z ∈ SF' → z ∉ SS') :
    ∃ o', SJ σ m lo fb f' c' o' (L.set i { x with wy := wy', ver := ver' }) W' ∧ MvT (Tg10.side σ.tag) o W o' W' ∧ FreeT o' W' ∧ NewT10 o o' W := by
  have hR : ∀ z, z ∈ SF ++ SS ++ Go.Proofs.YtajmfenfajbakaaGreat.mS m → o z = .fam σ.tag ∨ o z = .sp σ.tag i ∨ o z = .met σ.tag := by
    intro z hz
    simp only [List.mem_append] at hz
    rcases hz with (hz | hz) | hz
    · exact .inl (hSF z hz)
    · exact .inr (.inl (hSS z hz))
    · exact .inr (.inr (h.mS z hz))
  have hn : ∀ z, o z ≠ .fam σ.tag → o z ≠ .sp σ.tag i → o z ≠ .met σ.tag → z ∉ SF ++ SS ++ Go.Proofs.YtajmfenfajbakaaGreat.mS m := by
    intro z h1 h2 h3 hz
    rcases hR z hz with h9 | h9 | h9
    · exact h1 h9
    · exact h2 h9
    · exact h3 h9
  obtain ⟨o', ho'⟩ : ∃ o' : Nat → Tg10, o' = fun z => if z < W.heap.size then o z else if z ∈ SF' then .fam σ.tag else if z ∈ SS' then .sp σ.tag i else .free := ⟨_, rfl⟩
  have old : ∀ z, z < W.heap.size → o' z = o z := fun z hz => by rw [ho']; simp [hz]
  have nF : ∀ z, z ∈ SF' → o' z = .fam σ.tag := fun z hz => by
    rcases g1 z hz with h9 | h9
    · rw [old z (hSFl z h9)]; exact hSF z h9
    · rw [ho']; simp only [if_neg (show ¬ z < W.heap.size by omega), if_pos hz]
  have nS : ∀ z, z ∈ SS' → o' z = .sp σ.tag i := fun z hz => by
    rcases g2 z hz with h9 | h9
    · rw [old z (hSSl z h9)]; exact hSS z h9
    · rw [ho']; simp only [if_neg (show ¬ z < W.heap.size by omega)]
      rw [if_neg (fun h8 => d z h8 hz), if_pos hz]
  refine ⟨o', ⟨a3, fun b hb => ⟨(h.mt b hb).1, (old b (σ.cl _ _ _ h.ct b hb)).trans (h.mt b hb).2⟩, ⟨SF', a1, nF⟩, fun j y hy => ?_⟩, ⟨k.os, k.tape, k.output, k.size, old, fun z hz hp => k.block z hz (fun hq => ?_)⟩, fun z hz => ?_, fun z hz => ?_⟩
  · rcases set_get10 hx hy with ⟨rfl, rfl⟩ | ⟨hne, h9⟩
    · exact ⟨SS', a2, nS⟩
    · obtain ⟨R, r1, r2⟩ := h.sp j y h9
      refine ⟨R, σ.sk _ _ _ _ _ _ _ _ _ _ r1 k (fun z hz => hn z (by rw [r2 z hz]; simp) (by rw [r2 z hz]; simp; exact fun e => hne e.symm) (by rw [r2 z hz]; simp)), fun z hz => (old z (σ.sl _ _ _ _ _ _ _ _ r1 z hz).2).trans (r2 z hz)⟩
  · rcases hR z hq with h9 | h9 | h9 <;> rw [h9] at hp <;> simp [Tg10.side] at hp
  · have hs := k.size
    rw [ho']
    simp only [if_neg (show ¬ z < W.heap.size by omega)]
    rw [if_neg (fun hz' => by have := (σ.fl _ _ _ _ _ _ a1 z hz').2; omega), if_neg (fun hz' => by have := (σ.sl _ _ _ _ _ _ _ _ a2 z hz').2; omega)]
  · by_cases hz' : z < W.heap.size
    · rw [old z hz'] at hz; exact .inl hz
    · exact .inr (by omega)
/-- A namespace more. -/
theorem SJ.make (h : SJ σ m lo fb f c o L W) (fr : FreeT o W) {x : PS10} {SS : List Nat} (a2 : σ.SA fb x.sb lo SS m x.wy x.ver W') (k : Keeps [] W W') (hS : ∀ z, z ∈ SS → W.heap.size ≤ z) :
    ∃ o', SJ σ m lo fb f c o' (L ++ [x]) W' ∧ MvT (Tg10.side σ.tag) o W o' W' ∧ FreeT o' W' ∧ NewT10 o o' W := by
  obtain ⟨o', ho'⟩ : ∃ o' : Nat → Tg10, o' = fun z => if z ∈ SS then .sp σ.tag L.length else o z := ⟨_, rfl⟩
  have old : ∀ z, z < W.heap.size → o' z = o z := fun z hz => by rw [ho']; simp only [if_neg (show ¬ z ∈ SS from fun h9 => by have := hS z h9; omega)]
  obtain ⟨S, h1, h2⟩ := h.fm
  refine ⟨o', ⟨σ.ck _ _ _ _ _ h.ct k (by simp), fun b hb => ⟨(h.mt b hb).1, (old b (σ.cl _ _ _ h.ct b hb)).trans (h.mt b hb).2⟩, ⟨S, σ.fk _ _ _ _ _ _ _ _ h1 k (by simp), fun z hz => (old z (σ.fl _ _ _ _ _ _ h1 z hz).2).trans (h2 z hz)⟩, fun j y hy => ?_⟩, ⟨k.os, k.tape, k.output, k.size, old, fun z hz hp => k.block z hz (by simp)⟩, fun z hz => ?_, fun z hz => ?_⟩
  · rw [List.getElem?_append] at hy
    split at hy
    · obtain ⟨R, r1, r2⟩ := h.sp j y hy
      exact ⟨R, σ.sk _ _ _ _ _ _ _ _ _ _ r1 k (by simp), fun z hz => (old z (σ.sl _ _ _ _ _ _ _ _ r1 z hz).2).trans (r2 z hz)⟩
    · rename_i hge
      have hj : j = L.length := by
        rcases Nat.lt_or_ge (j - L.length) 1 with h9 | h9
        · omega
        · rw [List.getElem?_eq_none (by simpa using h9)] at hy; cases hy
      subst hj
      simp at hy
      subst hy
      exact ⟨SS, a2, fun z hz => by rw [ho']; simp only [if_pos hz]⟩
  · rw [ho']; simp only [if_neg (show ¬ z ∈ SS from fun h9 => by have := (σ.sl _ _ _ _ _ _ _ _ a2 z h9).2; omega)]; exact fr z (by have := k.size; omega)
  · by_cases he : z ∈ SS
    · exact .inr (hS z he)
    · rw [ho'] at hz; simp only [if_neg he] at hz; exact .inl hz
end
/-- What is true of a family and its namespaces. -/
structure PJ (k : Nat) (f : Fam) (ks : List ByteArray) (L : List (Way10 × Nat)) : Prop where
  fk : FamOk k f ks
  n : f.N.length ≤ k
  z : ∀ s, s ∈ ks → s.size ≤ 200
  sp : ∀ (i : Nat) (x : Way10 × Nat), L[i]? = some x → SpOk k f ks x.1 ∧ x.2 ≤ k
theorem PJ.mono {k k' : Nat} {f : Fam} {ks : List ByteArray} {L : List (Way10 × Nat)} (h : PJ k f ks L) (hk : k ≤ k') : PJ k' f ks L :=
  ⟨h.fk.mono hk, Nat.le_trans h.n hk, h.z, fun i x hx => ⟨(h.sp i x hx).1.mono hk, Nat.le_trans (h.sp i x hx).2 hk⟩⟩
theorem PJ.good {k : Nat} {f : Fam} {ks : List ByteArray} {L : List (Way10 × Nat)} (h : PJ k f ks L) (hk : k ≤ 900) {i : Nat} {x : Way10 × Nat} (hx : L[i]? = some x) : Good10 k k f ks x.1 :=
  ⟨h.fk, (h.sp i x hx).1, hk, hk, by have := h.n; omega, fun s hs => by have := h.z s hs; omega⟩
theorem PJ.make {k : Nat} {f : Fam} {ks : List ByteArray} {L : List (Way10 × Nat)} (h : PJ k f ks L) : PJ k f ks (L ++ [(.row [], 0)]) :=
  ⟨h.fk, h.n, h.z, fun i x hx => by
    rw [List.getElem?_append] at hx
    split at hx
    · exact h.sp i x hx
    · have : x = (.row [], 0) := by
        rcases Nat.lt_or_ge (i - L.length) 1 with h9 | h9
        · have : i - L.length = 0 := by omega
          rw [this] at hx; simp at hx; exact hx.symm
        · rw [List.getElem?_eq_none (by simpa using h9)] at hx; cases hx
      subst this
      exact ⟨⟨by simp, by simp⟩, Nat.zero_le _⟩⟩
/-- The names of the common order after a Set. -/
theorem PJ.set {k : Nat} {f : Fam} {ks : List ByteArray} {L : List (Way10 × Nat)} (h : PJ k f ks L) (hk : k ≤ 900) {i : Nat} {x : Way10 × Nat} (hx : L[i]? = some x) (c : C4) (s : ByteArray) (v : Int) (hs : s.size ≤ 200) :
    ∃ ks', PJ (k + 1) (setW f x.1 c s v).2.1 ks' (L.set i ((setW f x.1 c s v).2.2.1, if (setW f x.1 c s v).1 = 0 then x.2 + 1 else x.2)) ∧ Ext10 f ks (setW f x.1 c s v).2.1 ks' ∧
      (((setW f x.1 c s v).1 = 6 ∧ setLw (pairsW f x.1) s v f.pairs = none ∧ pairsW (setW f x.1 c s v).2.1 (setW f x.1 c s v).2.2.1 = pairsW f x.1) ∨ ((setW f x.1 c s v).1 = 0 ∧ setLw (pairsW f x.1) s v f.pairs = some (pairsW (setW f x.1 c s v).2.1 (setW f x.1 c s v).2.2.1))) := by
  rcases setW_ok hk hk h.fk (h.sp i x hx).1 c s v with ⟨e1, e2, e3, e4⟩ | ⟨e1, e2, ks', g1, g2, g3, g4, g5⟩
  · refine ⟨ks, ?_, ?_, .inl ⟨e1, e2, by rw [e3, e4]⟩⟩
    · rw [e3, e4, e1]
      have : L.set i (x.1, if (6 : Int) = 0 then x.2 + 1 else x.2) = L := by
        rw [if_neg (by decide)]
        refine List.ext_getElem? fun q => ?_
        rw [List.getElem?_set]
        split
        · rename_i hq; subst hq; rw [hx]; simp [(List.getElem?_eq_some_iff.1 hx).1]
        · rfl
      rw [this]
      exact h.mono (by omega)
    · rw [e3]; exact Ext10.refl _ _
  · refine ⟨ks', ⟨g1, by have := h.n; omega, ?_, fun j y hy => ?_⟩, g2, .inr ⟨e1, e2⟩⟩
    · intro t ht
      rcases g5 t ht with h9 | rfl
      · exact h.z t h9
      · exact hs
    · rw [e1, if_pos rfl] at hy
      rcases set_get10 hx hy with ⟨rfl, rfl⟩ | ⟨hne, h9⟩
      · exact ⟨g3, by have := (h.sp i x hx).2; show x.2 + 1 ≤ k + 1; omega⟩
      · exact ⟨((h.sp j y h9).1.ext g2).mono (by omega), by have := (h.sp j y h9).2; omega⟩
end Go.Proofs.YtajmfenfajbakaaGreat
end

section
namespace Go.Proofs.YtajmfenfajbakaaGreat
open Go.RowKit
set_option linter.unusedVariables false
set_option linter.unusedSimpArgs false

/-- What a namespace is, without where it lies. -/
def PS10.pure (x : PS10) : Way10 × Nat := (x.wy, x.ver)
section
variable {m : Option Nat} {lo fb : Nat} {f : Fam} {c : C4} {o o' : Nat → Tg10} {L : List PS10} {W W' : World} {k : Nat} {ks : List ByteArray} {i : Nat} {x : PS10}
theorem pure_at (hx : L[i]? = some x) : (L.map PS10.pure)[i]? = some (x.wy, x.ver) := by rw [List.getElem?_map, hx]; rfl
theorem SJ.at10 (h : SJ sideP10 m lo fb f c o L W) (hx : L[i]? = some x) : ∃ SF SS, At10 fb x.sb lo SF SS m f x.wy x.ver c W ∧ (∀ z, z ∈ SF → o z = .fam true) ∧ (∀ z, z ∈ SS → o z = .sp true i) ∧ (∀ z, z ∈ SF → z < W.heap.size) ∧ ∀ z, z ∈ SS → z < W.heap.size := by
  obtain ⟨SF, h1, h2⟩ := h.fm
  obtain ⟨SS, h3, h4⟩ := h.sp i x hx
  exact ⟨SF, SS, ⟨h1, h3, h.ct, fun z hz hy => by have := h2 z hz; rw [h4 z hy] at this; simp at this, fun b hb => (h.mt b hb).1⟩, h2, h4, fun z hz => (FA10.foot h1 z hz).2, fun z hz => (SA10.foot h3 z hz).2⟩
/-- Behind a call that may have changed one namespace and the family. -/
def JDid (m : Option Nat) (lo fb : Nat) (o : Nat → Tg10) (L : List PS10) (i : Nat) (x : PS10) (e : Int) (f' : Fam) (wy' : Way10) (ver' : Nat) (c' : C4) (W : World) (r : Ending) (W' : World) : Prop :=
  r = .returned (.int .i64 e) ∧ ∃ o', SJ sideP10 m lo fb f' c' o' (L.set i { x with wy := wy', ver := ver' }) W' ∧ MvT (Tg10.side true) o W o' W' ∧ FreeT o' W' ∧ NewT10 o o' W
theorem jdid (h : SJ sideP10 m lo fb f c o L W) (fr : FreeT o W) (hx : L[i]? = some x) {SF SS : List Nat} (h2 : ∀ z, z ∈ SF → o z = .fam true) (h3 : ∀ z, z ∈ SS → o z = .sp true i) (h4 : ∀ z, z ∈ SF → z < W.heap.size) (h5 : ∀ z, z ∈ SS → z < W.heap.size)
    {e : Int} {f' : Fam} {wy' : Way10} {ver' : Nat} {c' : C4} {r : Ending} (hd : Did10 fb x.sb lo SF SS m e f' wy' ver' c' W r W') : JDid m lo fb o L i x e f' wy' ver' c' W r W' := by
  obtain ⟨SF', SS', h6, h7, h8, h9, h10⟩ := hd
  exact ⟨h6, h.did fr hx h2 h4 h3 h5 h7.F h7.s h7.M h8 h9 h10 h7.d⟩
theorem jset_any (h : SJ sideP10 m lo fb f c o L W) (fr : FreeT o W) (P : PJ k f ks (L.map PS10.pure)) (hk : k ≤ 900) (hx : L[i]? = some x) (s : ByteArray) (v : Int) (hs : s.size ≤ 200) :
    Calls Tryz.prog 21 #[.pointer (some ⟨x.sb, 0, none⟩), .string s, .int .i64 v] W (JDid m lo fb o L i x (setW f x.wy c s v).1 (setW f x.wy c s v).2.1 (setW f x.wy c s v).2.2.1 (if (setW f x.wy c s v).1 = 0 then x.ver + 1 else x.ver) (setW f x.wy c s v).2.2.2 W) := by
  obtain ⟨SF, SS, h1, h2, h3, h4, h5⟩ := h.at10 hx
  have hv := (P.sp i _ (pure_at hx)).2
  exact (set10_any (P.good hk (pure_at hx)) h1 s v (by omega) (by simp only at hv; omega)).mono fun r W' hd => jdid h fr hx h2 h3 h4 h5 hd
theorem jdel_any (h : SJ sideP10 m lo fb f c o L W) (fr : FreeT o W) (P : PJ k f ks (L.map PS10.pure)) (hk : k ≤ 900) (hx : L[i]? = some x) (s : ByteArray) (hs : s.size ≤ 200) :
    Calls Tryz.prog 31 #[.pointer (some ⟨x.sb, 0, none⟩), .string s] W (JDid m lo fb o L i x (delW f x.wy c s).1 f (delW f x.wy c s).2.1 (if (delW f x.wy c s).1 = 0 then x.ver + 1 else x.ver) (delW f x.wy c s).2.2 W) := by
  obtain ⟨SF, SS, h1, h2, h3, h4, h5⟩ := h.at10 hx
  have hv := (P.sp i _ (pure_at hx)).2
  exact (del10_any (P.good hk (pure_at hx)) h1 s (by omega) (by simp only at hv; omega)).mono fun r W' hd => jdid h fr hx h2 h3 h4 h5 hd
theorem jget_any (h : SJ sideP10 m lo fb f c o L W) (P : PJ k f ks (L.map PS10.pure)) (hk : k ≤ 900) (hx : L[i]? = some x) (s : ByteArray) (hs : s.size ≤ 200) :
    Calls Tryz.prog 22 #[.pointer (some ⟨x.sb, 0, none⟩), .string s] W fun r W' => r = .returned (.tuple #[.int .i64 (if 0 ≤ (findW f s c x.wy).1 then valW (findW f s c x.wy).1 x.wy else 0), .bool (decide (0 ≤ (findW f s c x.wy).1))]) ∧ SJ sideP10 m lo fb f (findW f s c x.wy).2 o L W' ∧ MvT (Tg10.side true) o W o W' ∧ Keeps (mS m) W W' := by
  obtain ⟨SF, SS, h1, h2, h3, h4, h5⟩ := h.at10 hx
  refine (get10_any (P.good hk (pure_at hx)) h1 s (by omega)).mono ?_
  rintro r W' ⟨g1, g2, g3⟩
  obtain ⟨q1, q2⟩ := h.met g3 g2.M
  exact ⟨g1, q1, q2, g3⟩
theorem jpairs_any (h : SJ sideP10 m lo fb f c o L W) (P : PJ k f ks (L.map PS10.pure)) (hk : k ≤ 900) (hx : L[i]? = some x) :
    Calls Tryz.prog 37 #[.pointer (some ⟨x.sb, 0, none⟩)] W (Pairs10 (pairsW f x.wy) W) := by
  obtain ⟨SF, SS, h1, _⟩ := h.at10 hx
  exact pairs10_any (P.good hk (pure_at hx)) h1
theorem jlen_any (h : SJ sideP10 m lo fb f c o L W) (hx : L[i]? = some x) :
    Calls Tryz.prog 33 #[.pointer (some ⟨x.sb, 0, none⟩)] W fun r w' => r = .returned (.int .i64 (x.wy.len : Nat)) ∧ W = w' := by
  obtain ⟨SF, SS, h1, _⟩ := h.at10 hx
  exact len10_any h1
theorem jver_any (h : SJ sideP10 m lo fb f c o L W) (P : PJ k f ks (L.map PS10.pure)) (hk : k ≤ 900) (hx : L[i]? = some x) :
    Calls Tryz.prog 35 #[.pointer (some ⟨x.sb, 0, none⟩)] W fun r w' => r = .returned (.int .i64 (x.ver : Nat)) ∧ W = w' := by
  obtain ⟨SF, SS, h1, _⟩ := h.at10 hx
  have hv := (P.sp i _ (pure_at hx)).2
  exact ver10_any h1 (by simp only at hv; omega)
theorem jshared_any (h : SJ sideP10 m lo fb f c o L W) (hx : L[i]? = some x) :
    Calls Tryz.prog 23 #[.pointer (some ⟨x.sb, 0, none⟩)] W fun r w' => r = .returned (.bool x.wy.isRow) ∧ W = w' := by
  obtain ⟨SF, SS, h1, _⟩ := h.at10 hx
  exact shared10_any h1
theorem jsight_any (h : SJ sideP10 m lo fb f c o L W) (P : PJ k f ks (L.map PS10.pure)) (hk : k ≤ 900) (hx : L[i]? = some x) :
    Calls Tryz.prog 39 #[.pointer (some ⟨x.sb, 0, none⟩)] W (SeenP x.wy W) := by
  obtain ⟨SF, SS, h1, _⟩ := h.at10 hx
  exact sight10_any (P.good hk (pure_at hx)) h1
theorem jnames_any (h : SJ sideP10 m lo fb f c o L W) (P : PJ k f ks (L.map PS10.pure)) (hk : k ≤ 900) :
    Calls Tryz.prog 14 #[.pointer (some ⟨fb, 0, none⟩)] W (Names10 ks W) := by
  obtain ⟨SF, ⟨t, mb, a, ST, rfl, h1⟩, h2⟩ := h.fm
  exact names_any k (by omega) fb t mb lo a ST m f ks W h1 P.fk
theorem jfsight_any (h : SJ sideP10 m lo fb f c o L W) (P : PJ k f ks (L.map PS10.pure)) (hk : k ≤ 900) :
    Calls Tryz.prog 17 #[.pointer (some ⟨fb, 0, none⟩)] W (SightP f.K W) := by
  obtain ⟨SF, ⟨t, mb, a, ST, rfl, h1⟩, h2⟩ := h.fm
  have hI := P.fk.t
  exact fsight_any fb t mb lo a ST m f W h1 (by have := hI.l12; omega) hI.ft (by have := hI.ek; omega)
theorem jmake_any (h : SJ sideP10 m lo fb f c o L W) (fr : FreeT o W) :
    Calls Tryz.prog 20 #[.pointer (some ⟨fb, 0, none⟩)] W fun r W' => ∃ sb, r = .returned (.pointer (some ⟨sb, 0, none⟩)) ∧ W.heap.size ≤ sb ∧ Keeps [] W W' ∧ ∃ o', SJ sideP10 m lo fb f c o' (L ++ [⟨sb, .row [], 0⟩]) W' ∧ MvT (Tg10.side true) o W o' W' ∧ FreeT o' W' ∧ NewT10 o o' W := by
  obtain ⟨SF, ⟨t, mb, a, ST, rfl, h1⟩, h2⟩ := h.fm
  refine (fmake_any fb t mb lo a ST m f c W h1 h.ct (fun b hb => (h.mt b hb).1)).mono ?_
  rintro r W' ⟨sb, rb, rfl, g1, g2, g3, g4⟩
  refine ⟨sb, rfl, g3, g2, h.make fr (x := ⟨sb, .row [], 0⟩) (SS := [sb, rb]) (show SA10 fb sb lo [sb, rb] m (.row []) 0 W' from ⟨g1.ls, rb, none, rfl, g1.R, g1.s, g1.d2.2⟩) g2 (fun z hz => by simp at hz; omega)⟩
theorem jnew_any (most pairs : Int) (m : Option Nat) (c : C4) (W : World) (hM : MtrAt m c W) (h0 : 0 ≤ most) (h1 : most ≤ 256) (h2 : 0 ≤ pairs) (h3 : pairs ≤ 65536) :
    Calls Tryz.prog 19 #[.int .i64 most, .int .i64 pairs, mV m] W fun r W' => ∃ fb, r = .returned (.tuple #[.pointer (some ⟨fb, 0, none⟩), .int .i64 0]) ∧ W.heap.size ≤ fb ∧ Keeps (mS m) W W' ∧ MtrAt m c.tab W' ∧ ∃ S, FA10 fb W.heap.size S m ⟨most, pairs, newT, []⟩ W' := by
  refine (fnew_any most pairs m c W hM h0 h1 h2 h3).mono ?_
  rintro r W' ⟨fb, t, mb, ST, rfl, f1, m1, k1⟩
  exact ⟨fb, rfl, (f1.foot fb (by unfold famS; simp)).1, k1, m1, _, t, mb, none, ST, rfl, f1⟩
end
theorem PJ.new (most pairs : Int) : PJ 0 ⟨most, pairs, newT, []⟩ [] [] := ⟨FamOk.new most pairs, by simp, by simp, fun i x hx => by simp at hx⟩
end Go.Proofs.YtajmfenfajbakaaGreat
end

section
namespace Go.Proofs.YtajmfenfajbakaaGreat
open Go.RowKit
set_option linter.unusedVariables false
set_option linter.unusedSimpArgs false

set_option maxRecDepth 100000 in
set_option maxHeartbeats 4000000 in
theorem sight10_same (T : Tab) (lo1 lo2 lo3 lo4 c1 c2 ce1 ce2 : Nat) (a1 a2 ae1 ae2 : Option Addr) (w : World) (r1 : ValRow 3 lo1 a1 (2 ^ T.L) c1 (fun k => .int .i64 (T.V k)) w) (r2 : ValRow 3 lo2 a2 (2 ^ T.L) c2 (fun k => .int .i64 (T.V k)) w)
    (h1 : EntRow lo3 ae1 ce1 T.E w) (h2 : EntRow lo4 ae2 ce2 T.E w) (hL : T.L ≤ 20) (hl : T.E.length ≤ 1000000) :
    Calls Tryz.prog 16 #[sightAgg T (.slice a1 (2 ^ T.L) c1) (.slice ae1 T.E.length ce1), sightAgg T (.slice a2 (2 ^ T.L) c2) (.slice ae2 T.E.length ce2)] w fun r w' => r = .returned (.bool true) ∧ Keeps [] w w' := by
  have R1 := Lib.hid r1
  have R2 := Lib.hid r2
  have H1 := Lib.hid h1
  have H2 := Lib.hid h2
  have hn1 := pow_le hL
  have hp := pow_pos T.L
  obtain ⟨n, hn⟩ := ex_hid (2 ^ T.L)
  obtain ⟨l, hl2⟩ := ex_hid T.E.length
  obtain ⟨g1, rfl⟩ := r1.shape hp
  obtain ⟨g2, rfl⟩ := r2.shape hp
  unfold sightAgg
  rw [← hl2.out] at hl ⊢
  rw [← hn.out] at hn1 hp ⊢
  obtain ⟨z1, hz1⟩ := ex_hid (wdOf T.L)
  obtain ⟨z2, hz2⟩ := ex_hid (liveN T.E)
  rw [← hz1.out, ← hz2.out]
  clear r1 r2 h1 h2
  go_enter Tryz.func16, Tryz.ntmps16
  go_upto_region 1 with (fail)
  obtain ⟨W, hW⟩ : ∃ W, ((w.alloc (.cells #[.int .i64 T.L, .int .i64 z1, .slice (some ⟨g1, 0, none⟩) n c1, .slice ae1 l ce1, .int .i64 z2, .int .i64 T.births, .int .i64 T.made] 63)).alloc (.cells #[.int .i64 T.L, .int .i64 z1, .slice (some ⟨g2, 0, none⟩) n c2, .slice ae2 l ce2, .int .i64 z2, .int .i64 T.births, .int .i64 T.made] 63)) = W := ⟨_, rfl⟩
  have kW : Keeps [] w W := by rw [← hW]; exact ((Keeps.refl [] w).alloc _).alloc _
  have b1 : W.heap[w.heap.size]? = some (.cells #[.int .i64 T.L, .int .i64 z1, .slice (some ⟨g1, 0, none⟩) n c1, .slice ae1 l ce1, .int .i64 z2, .int .i64 T.births, .int .i64 T.made] 63 (0, 0)) := by rw [← hW]; exact has_alloc (has_new _ _) _
  have b2 : W.heap[w.heap.size + 1]? = some (.cells #[.int .i64 T.L, .int .i64 z1, .slice (some ⟨g2, 0, none⟩) n c2, .slice ae2 l ce2, .int .i64 z2, .int .i64 T.births, .int .i64 T.made] 63 (0, 0)) := by rw [← hW]; exact has_new' _ _ (by simp)
  rw [hW]
  have KW := Lib.hid kW
  have B1 := Lib.hid b1
  have B2 := Lib.hid b2
  have x0 : W.cell? ⟨w.heap.size, 0, none⟩ = some (.int .i64 T.L) := cell_has b1 (i := 0) rfl
  have y0 : W.cell? ⟨w.heap.size + 1, 0, none⟩ = some (.int .i64 T.L) := cell_has b2 (i := 0) rfl
  have x1 : W.cell? ⟨w.heap.size, 1, none⟩ = some (.int .i64 z1) := cell_has b1 (i := 1) rfl
  have y1 : W.cell? ⟨w.heap.size + 1, 1, none⟩ = some (.int .i64 z1) := cell_has b2 (i := 1) rfl
  have x2 : W.cell? ⟨w.heap.size, 2, none⟩ = some (.slice (some ⟨g1, 0, none⟩) n c1) := cell_has b1 (i := 2) rfl
  have y2 : W.cell? ⟨w.heap.size + 1, 2, none⟩ = some (.slice (some ⟨g2, 0, none⟩) n c2) := cell_has b2 (i := 2) rfl
  have x3 : W.cell? ⟨w.heap.size, 3, none⟩ = some (.slice ae1 l ce1) := cell_has b1 (i := 3) rfl
  have y3 : W.cell? ⟨w.heap.size + 1, 3, none⟩ = some (.slice ae2 l ce2) := cell_has b2 (i := 3) rfl
  have x4 : W.cell? ⟨w.heap.size, 4, none⟩ = some (.int .i64 z2) := cell_has b1 (i := 4) rfl
  have y4 : W.cell? ⟨w.heap.size + 1, 4, none⟩ = some (.int .i64 z2) := cell_has b2 (i := 4) rfl
  have x5 : W.cell? ⟨w.heap.size, 5, none⟩ = some (.int .i64 T.births) := cell_has b1 (i := 5) rfl
  have y5 : W.cell? ⟨w.heap.size + 1, 5, none⟩ = some (.int .i64 T.births) := cell_has b2 (i := 5) rfl
  have x6 : W.cell? ⟨w.heap.size, 6, none⟩ = some (.int .i64 T.made) := cell_has b1 (i := 6) rfl
  have y6 : W.cell? ⟨w.heap.size + 1, 6, none⟩ = some (.int .i64 T.made) := cell_has b2 (i := 6) rfl
  clear hW kW b1 b2
  go_wp2_with fail
  clear x0 y0 x1 y1 x2 y2 x3 y3 x4 y4 x5 y5 x6 y6
  go_loopw [5] (fun i wr => ∃ k : Nat, k ≤ n ∧ i = .int .i64 k ∧ Keeps [] W wr) (fun i _ => n - (intOf i).toNat)
  case atStart => exact ⟨0, by omega, rfl, Keeps.refl _ _⟩
  case round =>
    obtain ⟨k, hk, rfl, hK⟩ := hrel
    have hk0 : (0 : Int) ≤ (k : Int) := by omega
    have HK := Lib.hid hK
    have b1 := hK.has B1.out (by simp)
    have b2 := hK.has B2.out (by simp)
    have x2 : wr.cell? ⟨w.heap.size, 2, none⟩ = some (.slice (some ⟨g1, 0, none⟩) n c1) := cell_has b1 (i := 2) rfl
    have y2 : wr.cell? ⟨w.heap.size + 1, 2, none⟩ = some (.slice (some ⟨g2, 0, none⟩) n c2) := cell_has b2 (i := 2) rfl
    clear b1 b2
    by_cases hlt : k < n
    · have hlt' : (k : Int) < (n : Int) := by omega
      have hkk : k < 2 ^ T.L := by rw [← hn.out]; exact hlt
      have p0 := (R1.out.keeps (KW.out.trans hK) (by simp)).cell hkk
      have q0 := (R2.out.keeps (KW.out.trans hK) (by simp)).cell hkk
      obtain ⟨v, hv⟩ := ex_hid (T.V k)
      rw [← hv.out] at p0 q0
      clear hK
      go_wp2_with fail
      go_region_held3 (fun w' => w'.cell? ⟨w.heap.size, 2, none⟩ = some (.slice (some ⟨g1, 0, none⟩) n c1) ∧ w'.cell? ⟨w.heap.size + 1, 2, none⟩ = some (.slice (some ⟨g2, 0, none⟩) n c2) ∧ w'.cell? ⟨g1, k, none⟩ = some (.int .i64 v) ∧ w'.cell? ⟨g2, k, none⟩ = some (.int .i64 v)) (go_keep) (fail)
      go_wp2_with fail
      go_roundw
      case rel => exact ⟨k + 1, by omega, by go_num, HK.out.drew⟩
      case measure => simp [intOf]; omega
    · obtain rfl : k = n := by omega
      have hge : ¬ (k : Int) < (k : Int) := by omega
      clear hK
      obtain ⟨WU, hWU⟩ : ∃ W, W = wr := ⟨_, rfl⟩
      rw [← hWU] at HK x2 y2 ⊢
      clear hWU
      go_wp2_with fail
      clear x2 y2
      go_loopw [6] (fun i wr => ∃ k : Nat, k ≤ l ∧ i = .int .i64 k ∧ Keeps [] W wr) (fun i _ => l - (intOf i).toNat)
      case atStart => exact ⟨0, by omega, rfl, HK.out⟩
      case round =>
        obtain ⟨j, hj, rfl, hJ⟩ := hrel
        have hj0 : (0 : Int) ≤ (j : Int) := by omega
        have HJ := Lib.hid hJ
        have b1 := hJ.has B1.out (by simp)
        have b2 := hJ.has B2.out (by simp)
        have x3 : wr.cell? ⟨w.heap.size, 3, none⟩ = some (.slice ae1 l ce1) := cell_has b1 (i := 3) rfl
        have y3 : wr.cell? ⟨w.heap.size + 1, 3, none⟩ = some (.slice ae2 l ce2) := cell_has b2 (i := 3) rfl
        clear b1 b2
        by_cases hlt : j < l
        · have hlt' : (j : Int) < (l : Int) := by omega
          obtain ⟨x, hx⟩ : ∃ x, T.E[j]? = some x := ⟨_, List.getElem?_eq_getElem (by rw [← hl2.out]; exact hlt)⟩
          obtain ⟨g3, rfl⟩ := H1.out.shape (by rw [← hl2.out]; omega)
          obtain ⟨g4, rfl⟩ := H2.out.shape (by rw [← hl2.out]; omega)
          obtain ⟨p0, p1, p2, p3, p4⟩ := (H1.out.keeps (KW.out.trans hJ) (by simp)).five hx
          obtain ⟨q0, q1, q2, q3, q4⟩ := (H2.out.keeps (KW.out.trans hJ) (by simp)).five hx
          have hq := fun w => neq_ent x x w
          simp only [decide_true, Bool.not_true, Ent.agg] at hq
          clear hJ hx
          go_wp2_with fail
          go_region_held3 (fun w' => w'.cell? ⟨w.heap.size, 3, none⟩ = some (.slice (some ⟨g3, 0, none⟩) l ce1) ∧ w'.cell? ⟨w.heap.size + 1, 3, none⟩ = some (.slice (some ⟨g4, 0, none⟩) l ce2) ∧ w'.cell? ⟨g3, j * 5, none⟩ = some (.bool x.live) ∧ w'.cell? ⟨g3, j * 5 + 1, none⟩ = some (.int .i64 x.hash) ∧ w'.cell? ⟨g3, j * 5 + 2, none⟩ = some (.int .i64 x.key) ∧ w'.cell? ⟨g3, j * 5 + 3, none⟩ = some (.int .i64 x.val) ∧ w'.cell? ⟨g3, j * 5 + 4, none⟩ = some (.int .i64 x.birth) ∧ w'.cell? ⟨g4, j * 5, none⟩ = some (.bool x.live) ∧ w'.cell? ⟨g4, j * 5 + 1, none⟩ = some (.int .i64 x.hash) ∧ w'.cell? ⟨g4, j * 5 + 2, none⟩ = some (.int .i64 x.key) ∧ w'.cell? ⟨g4, j * 5 + 3, none⟩ = some (.int .i64 x.val) ∧ w'.cell? ⟨g4, j * 5 + 4, none⟩ = some (.int .i64 x.birth)) (go_keep) (fail)
          go_wp2_with fail
          go_roundw
          case rel => exact ⟨j + 1, by omega, by go_num, HJ.out.drew⟩
          case measure => simp [intOf]; omega
        · obtain rfl : j = l := by omega
          have hge : ¬ (j : Int) < (j : Int) := by omega
          clear hJ
          go_wp2_with fail
          go_ret
          exact ⟨rfl, KW.out.trans HJ.out⟩
set_option maxRecDepth 100000 in
set_option maxHeartbeats 4000000 in
theorem sight10_zero (w : World) :
    Calls Tryz.prog 16 #[noSight, noSight] w fun r w' => r = .returned (.bool true) ∧ Keeps [] w w' := by
  unfold noSight
  go_enter Tryz.func16, Tryz.ntmps16
  go_upto_region 1 with (fail)
  obtain ⟨W, hW⟩ : ∃ W, (w.alloc (.cells #[.int .i64 0, .int .i64 0, .slice none 0 0, .slice none 0 0, .int .i64 0, .int .i64 0, .int .i64 0] 63)).alloc (.cells #[.int .i64 0, .int .i64 0, .slice none 0 0, .slice none 0 0, .int .i64 0, .int .i64 0, .int .i64 0] 63) = W := ⟨_, rfl⟩
  have kW : Keeps [] w W := by rw [← hW]; exact ((Keeps.refl [] w).alloc _).alloc _
  have b1 : W.heap[w.heap.size]? = some (.cells #[.int .i64 0, .int .i64 0, .slice none 0 0, .slice none 0 0, .int .i64 0, .int .i64 0, .int .i64 0] 63 (0, 0)) := by rw [← hW]; exact has_alloc (has_new _ _) _
  have b2 : W.heap[w.heap.size + 1]? = some (.cells #[.int .i64 0, .int .i64 0, .slice none 0 0, .slice none 0 0, .int .i64 0, .int .i64 0, .int .i64 0] 63 (0, 0)) := by rw [← hW]; exact has_new' _ _ (by simp)
  rw [hW]
  have KW := Lib.hid kW
  have B1 := Lib.hid b1
  have B2 := Lib.hid b2
  have x0 : W.cell? ⟨w.heap.size, 0, none⟩ = some (.int .i64 0) := cell_has b1 (i := 0) rfl
  have y0 : W.cell? ⟨w.heap.size + 1, 0, none⟩ = some (.int .i64 0) := cell_has b2 (i := 0) rfl
  have x1 : W.cell? ⟨w.heap.size, 1, none⟩ = some (.int .i64 0) := cell_has b1 (i := 1) rfl
  have y1 : W.cell? ⟨w.heap.size + 1, 1, none⟩ = some (.int .i64 0) := cell_has b2 (i := 1) rfl
  have x2 : W.cell? ⟨w.heap.size, 2, none⟩ = some (.slice none 0 0) := cell_has b1 (i := 2) rfl
  have y2 : W.cell? ⟨w.heap.size + 1, 2, none⟩ = some (.slice none 0 0) := cell_has b2 (i := 2) rfl
  have x3 : W.cell? ⟨w.heap.size, 3, none⟩ = some (.slice none 0 0) := cell_has b1 (i := 3) rfl
  have y3 : W.cell? ⟨w.heap.size + 1, 3, none⟩ = some (.slice none 0 0) := cell_has b2 (i := 3) rfl
  have x4 : W.cell? ⟨w.heap.size, 4, none⟩ = some (.int .i64 0) := cell_has b1 (i := 4) rfl
  have y4 : W.cell? ⟨w.heap.size + 1, 4, none⟩ = some (.int .i64 0) := cell_has b2 (i := 4) rfl
  have x5 : W.cell? ⟨w.heap.size, 5, none⟩ = some (.int .i64 0) := cell_has b1 (i := 5) rfl
  have y5 : W.cell? ⟨w.heap.size + 1, 5, none⟩ = some (.int .i64 0) := cell_has b2 (i := 5) rfl
  have x6 : W.cell? ⟨w.heap.size, 6, none⟩ = some (.int .i64 0) := cell_has b1 (i := 6) rfl
  have y6 : W.cell? ⟨w.heap.size + 1, 6, none⟩ = some (.int .i64 0) := cell_has b2 (i := 6) rfl
  clear hW kW b1 b2
  go_wp2_with fail
  go_loopw [5] (fun i wr => i = .int .i64 0 ∧ W = wr) (fun _ _ => 0)
  case atStart => exact ⟨rfl, rfl⟩
  case round =>
    obtain ⟨rfl, rfl⟩ := hrel
    go_wp2_with fail
    go_loopw [6] (fun i wr => i = .int .i64 0 ∧ W = wr) (fun _ _ => 0)
    case atStart => exact ⟨rfl, rfl⟩
    case round =>
      obtain ⟨rfl, rfl⟩ := hrel
      go_wp2_with fail
      go_ret
      exact ⟨rfl, KW.out⟩
theorem neq_pair10 (x : Pr10) (w : World) : (binOp .neq 134 (.agg #[.string x.1, .int .i64 x.2]) (.agg #[.string x.1, .int .i64 x.2])).run Tryz.prog w = .ok (.bool false) w := by
  simp [go_sem]
set_option maxRecDepth 100000 in
set_option maxHeartbeats 4000000 in
theorem pairs10_same (lo1 lo2 c1 c2 : Nat) (a1 a2 : Option Addr) (P : List Pr10) (w : World) (h1 : PairRow lo1 a1 c1 P w) (h2 : PairRow lo2 a2 c2 P w) (hl : P.length ≤ 1000000) :
    Calls Tryz.prog 36 #[.slice a1 P.length c1, .slice a2 P.length c2] w fun r w' => r = .returned (.bool true) ∧ Keeps [] w w' := by
  have H1 := Lib.hid h1
  have H2 := Lib.hid h2
  obtain ⟨n, hn⟩ := ex_hid P.length
  rw [← hn.out] at hl ⊢
  clear h1 h2
  go_enter Tryz.func36, Tryz.ntmps36
  go_wp2_with fail
  go_loopw [5] (fun i wr => ∃ k : Nat, k ≤ n ∧ i = .int .i64 k ∧ Keeps [] w wr) (fun i _ => n - (intOf i).toNat)
  case atStart => exact ⟨0, by omega, rfl, Keeps.refl _ _⟩
  case round =>
    obtain ⟨k, hk, rfl, hK⟩ := hrel
    have hk0 : (0 : Int) ≤ (k : Int) := by omega
    have HK := Lib.hid hK
    by_cases hlt : k < n
    · have hlt' : (k : Int) < (n : Int) := by omega
      obtain ⟨x, hx⟩ : ∃ x, P[k]? = some x := ⟨_, List.getElem?_eq_getElem (by rw [← hn.out]; exact hlt)⟩
      obtain ⟨g1, rfl⟩ := PairRow.shape H1.out (by rw [← hn.out]; omega)
      obtain ⟨g2, rfl⟩ := PairRow.shape H2.out (by rw [← hn.out]; omega)
      have p0 : wr.cell? ⟨g1, k * 2, none⟩ = some (.string x.1) := (PairRow.keeps H1.out hK (by simp)).cell hx 0 (by omega)
      have p1 : wr.cell? ⟨g1, k * 2 + 1, none⟩ = some (.int .i64 x.2) := (PairRow.keeps H1.out hK (by simp)).cell hx 1 (by omega)
      have q0 : wr.cell? ⟨g2, k * 2, none⟩ = some (.string x.1) := (PairRow.keeps H2.out hK (by simp)).cell hx 0 (by omega)
      have q1 : wr.cell? ⟨g2, k * 2 + 1, none⟩ = some (.int .i64 x.2) := (PairRow.keeps H2.out hK (by simp)).cell hx 1 (by omega)
      have hq := fun w => neq_pair10 x w
      obtain ⟨s, hs⟩ := ex_hid x.1
      obtain ⟨v, hv⟩ := ex_hid x.2
      rw [← hs.out] at p0 q0
      rw [← hv.out] at p1 q1
      simp only [← hs.out, ← hv.out] at hq
      clear hK hx
      go_wp2_with fail
      go_region_held3 (fun w' => w'.cell? ⟨g1, k * 2, none⟩ = some (.string s) ∧ w'.cell? ⟨g1, k * 2 + 1, none⟩ = some (.int .i64 v) ∧ w'.cell? ⟨g2, k * 2, none⟩ = some (.string s) ∧ w'.cell? ⟨g2, k * 2 + 1, none⟩ = some (.int .i64 v)) (go_keep) (fail)
      go_wp2_with fail
      go_roundw
      case rel => exact ⟨k + 1, by omega, by go_num, HK.out.drew⟩
      case measure => simp [intOf]; omega
    · obtain rfl : k = n := by omega
      have hge : ¬ (k : Int) < (k : Int) := by omega
      clear hK
      go_wp2_with fail
      go_ret
      exact ⟨rfl, HK.out⟩
end Go.Proofs.YtajmfenfajbakaaGreat
end

section
namespace Go.Proofs.YtajmfenfajbakaaGreat
open Go.RowKit
set_option linter.unusedVariables false
set_option linter.unusedSimpArgs false

theorem slen_nil (w : World) :
    Calls Tryz.prog 33 #[.pointer none] w fun r w' => r = .returned (.int .i64 0) ∧ Keeps [] w w' := by
  go_enter Tryz.func33, Tryz.ntmps33
  go_wp2_with fail
  refine (snone_nil _).mono ?_
  rintro r w1 ⟨rfl, rfl⟩
  go_wp2_with fail
  go_ret
  exact ⟨rfl, Keeps.refl _ _⟩
theorem sget_nil (s : ByteArray) (w : World) :
    Calls Tryz.prog 22 #[.pointer none, .string s] w fun r w' => r = .returned (.tuple #[.int .i64 0, .bool false]) ∧ Keeps [] w w' := by
  go_enter Tryz.func22, Tryz.ntmps22
  go_wp2_with fail
  refine (snone_nil _).mono ?_
  rintro r w1 ⟨rfl, rfl⟩
  go_wp2_with fail
  go_ret2
  exact ⟨rfl, Keeps.refl _ _⟩
theorem sset_nil (s : ByteArray) (v : Int) (w : World) :
    Calls Tryz.prog 21 #[.pointer none, .string s, .int .i64 v] w fun r w' => r = .returned (.int .i64 1) ∧ Keeps [] w w' := by
  go_enter Tryz.func21, Tryz.ntmps21
  go_wp2_with fail
  refine (snone_nil _).mono ?_
  rintro r w1 ⟨rfl, rfl⟩
  go_wp2_with fail
  go_ret
  exact ⟨rfl, Keeps.refl _ _⟩
theorem sdel_nil (s : ByteArray) (w : World) :
    Calls Tryz.prog 31 #[.pointer none, .string s] w fun r w' => r = .returned (.int .i64 1) ∧ Keeps [] w w' := by
  go_enter Tryz.func31, Tryz.ntmps31
  go_wp2_with fail
  refine (snone_nil _).mono ?_
  rintro r w1 ⟨rfl, rfl⟩
  go_wp2_with fail
  go_ret
  exact ⟨rfl, Keeps.refl _ _⟩
theorem spairs_nil (w : World) :
    Calls Tryz.prog 37 #[.pointer none] w fun r w' => r = .returned (.slice none 0 0) ∧ Keeps [] w w' := by
  go_enter Tryz.func37, Tryz.ntmps37
  go_wp2_with fail
  refine (snone_nil _).mono ?_
  rintro r w1 ⟨rfl, rfl⟩
  go_wp2_with fail
  go_ret
  exact ⟨rfl, Keeps.refl _ _⟩
theorem sshared_nil (w : World) :
    Calls Tryz.prog 23 #[.pointer none] w fun r w' => r = .returned (.bool false) ∧ Keeps [] w w' := by
  go_enter Tryz.func23, Tryz.ntmps23
  go_wp2_with fail
  refine (snone_nil _).mono ?_
  rintro r w1 ⟨rfl, rfl⟩
  go_wp2_with fail
  go_ret
  exact ⟨rfl, Keeps.refl _ _⟩
set_option maxRecDepth 100000 in
theorem ssight_nil (w : World) :
    Calls Tryz.prog 39 #[.pointer none] w fun r w' => r = .returned noSight ∧ Keeps [] w w' := by
  go_enter Tryz.func39, Tryz.ntmps39
  go_wp2_with fail
  refine (snone_nil _).mono ?_
  rintro r w1 ⟨rfl, rfl⟩
  go_wp2_with fail
  exact bodyPost_ret (v := noSight) (by simp [results, Tryz.results39, go_sem, noSight]) rfl ⟨rfl, (Keeps.refl [] w).alloc _⟩
theorem slen_zero (sb : Nat) (w : World) (c0 : w.cell? ⟨sb, 0, none⟩ = some (.pointer none)) :
    Calls Tryz.prog 33 #[.pointer (some ⟨sb, 0, none⟩)] w fun r w' => r = .returned (.int .i64 0) ∧ Keeps [] w w' := by
  go_enter Tryz.func33, Tryz.ntmps33
  go_wp2_with fail
  refine (snone_zero sb _ c0).mono ?_
  rintro r w1 ⟨rfl, rfl⟩
  clear c0
  go_wp2_with fail
  go_ret
  exact ⟨rfl, Keeps.refl _ _⟩
theorem sget_zero (sb : Nat) (s : ByteArray) (w : World) (c0 : w.cell? ⟨sb, 0, none⟩ = some (.pointer none)) :
    Calls Tryz.prog 22 #[.pointer (some ⟨sb, 0, none⟩), .string s] w fun r w' => r = .returned (.tuple #[.int .i64 0, .bool false]) ∧ Keeps [] w w' := by
  go_enter Tryz.func22, Tryz.ntmps22
  go_wp2_with fail
  refine (snone_zero sb _ c0).mono ?_
  rintro r w1 ⟨rfl, rfl⟩
  clear c0
  go_wp2_with fail
  go_ret2
  exact ⟨rfl, Keeps.refl _ _⟩
theorem sset_zero (sb : Nat) (s : ByteArray) (v : Int) (w : World) (c0 : w.cell? ⟨sb, 0, none⟩ = some (.pointer none)) :
    Calls Tryz.prog 21 #[.pointer (some ⟨sb, 0, none⟩), .string s, .int .i64 v] w fun r w' => r = .returned (.int .i64 1) ∧ Keeps [] w w' := by
  go_enter Tryz.func21, Tryz.ntmps21
  go_wp2_with fail
  refine (snone_zero sb _ c0).mono ?_
  rintro r w1 ⟨rfl, rfl⟩
  clear c0
  go_wp2_with fail
  go_ret
  exact ⟨rfl, Keeps.refl _ _⟩
theorem sdel_zero (sb : Nat) (s : ByteArray) (w : World) (c0 : w.cell? ⟨sb, 0, none⟩ = some (.pointer none)) :
    Calls Tryz.prog 31 #[.pointer (some ⟨sb, 0, none⟩), .string s] w fun r w' => r = .returned (.int .i64 1) ∧ Keeps [] w w' := by
  go_enter Tryz.func31, Tryz.ntmps31
  go_wp2_with fail
  refine (snone_zero sb _ c0).mono ?_
  rintro r w1 ⟨rfl, rfl⟩
  clear c0
  go_wp2_with fail
  go_ret
  exact ⟨rfl, Keeps.refl _ _⟩
theorem spairs_zero (sb : Nat) (w : World) (c0 : w.cell? ⟨sb, 0, none⟩ = some (.pointer none)) :
    Calls Tryz.prog 37 #[.pointer (some ⟨sb, 0, none⟩)] w fun r w' => r = .returned (.slice none 0 0) ∧ Keeps [] w w' := by
  go_enter Tryz.func37, Tryz.ntmps37
  go_wp2_with fail
  refine (snone_zero sb _ c0).mono ?_
  rintro r w1 ⟨rfl, rfl⟩
  clear c0
  go_wp2_with fail
  go_ret
  exact ⟨rfl, Keeps.refl _ _⟩
theorem sshared_zero (sb : Nat) (w : World) (c0 : w.cell? ⟨sb, 0, none⟩ = some (.pointer none)) :
    Calls Tryz.prog 23 #[.pointer (some ⟨sb, 0, none⟩)] w fun r w' => r = .returned (.bool false) ∧ Keeps [] w w' := by
  go_enter Tryz.func23, Tryz.ntmps23
  go_wp2_with fail
  refine (snone_zero sb _ c0).mono ?_
  rintro r w1 ⟨rfl, rfl⟩
  clear c0
  go_wp2_with fail
  go_ret
  exact ⟨rfl, Keeps.refl _ _⟩
set_option maxRecDepth 100000 in
theorem ssight_zero (sb : Nat) (w : World) (c0 : w.cell? ⟨sb, 0, none⟩ = some (.pointer none)) :
    Calls Tryz.prog 39 #[.pointer (some ⟨sb, 0, none⟩)] w fun r w' => r = .returned noSight ∧ Keeps [] w w' := by
  go_enter Tryz.func39, Tryz.ntmps39
  go_wp2_with fail
  refine (snone_zero sb _ (cell_alloc c0 _)).mono ?_
  rintro r w1 ⟨rfl, rfl⟩
  clear c0
  go_wp2_with fail
  exact bodyPost_ret (v := noSight) (by simp [results, Tryz.results39, go_sem, noSight]) rfl ⟨rfl, (Keeps.refl [] w).alloc _⟩
theorem sver_nil (w : World) : Calls Tryz.prog 35 #[.pointer none] w fun r w' => r = .returned (.int .i64 0) ∧ Keeps [] w w' := by
  go_enter Tryz.func35, Tryz.ntmps35
  go_wp2_with fail
  go_ret
  exact ⟨rfl, Keeps.refl _ _⟩
set_option maxRecDepth 100000 in
theorem sver_zero (sb : Nat) (w : World) (c2 : w.cell? ⟨sb, 2, none⟩ = some (.int .u64 0)) : Calls Tryz.prog 35 #[.pointer (some ⟨sb, 0, none⟩)] w fun r w' => r = .returned (.int .i64 0) ∧ Keeps [] w w' := by
  go_enter Tryz.func35, Tryz.ntmps35
  go_wp2_with fail
  go_ret
  exact ⟨rfl, Keeps.refl _ _⟩
theorem fmake_nil (w : World) : Calls Tryz.prog 20 #[.pointer none] w fun r w' => r = .returned (.pointer none) ∧ Keeps [] w w' := by
  go_enter Tryz.func20, Tryz.ntmps20
  go_wp2_with fail
  go_ret
  exact ⟨rfl, Keeps.refl _ _⟩
set_option maxRecDepth 100000 in
theorem fsight_nil (w : World) : Calls Tryz.prog 17 #[.pointer none] w fun r w' => r = .returned noSight ∧ Keeps [] w w' := by
  go_enter Tryz.func17, Tryz.ntmps17
  go_wp2_with fail
  exact bodyPost_ret (v := noSight) (by simp [results, Tryz.results17, go_sem, noSight]) rfl ⟨rfl, (Keeps.refl [] w).alloc _⟩
end Go.Proofs.YtajmfenfajbakaaGreat
end

section
namespace Go.Proofs.YtajmfenfajbakaaGreat
open Go.RowKit
set_option linter.unusedVariables false
set_option linter.unusedSimpArgs false

theorem TabAt.lower10 {t lo lo' : Nat} {S : List Nat} {m : Value} {T : Tab} {w : World} (h : TabAt t lo' S m T w) (hl : lo ≤ lo') : TabAt t lo S m T w := by
  obtain ⟨a, c, cb, cr, h1, h2, h3, h4, h5, h6, h7, h8⟩ := h
  exact ⟨a, c, cb, cr, h1, h2.lift (fun x hx => by have := (h2.blk_lt x hx).1; omega), h3, h4, h5, h6, h7, fun x hx => ⟨by have := (h8 x hx).1; omega, (h8 x hx).2⟩⟩
def zeroF : Obj := .cells #[.int .i64 0, .int .i64 0, .pointer none, .pointer none, .slice none 0 0, .map none] 96 (0, 0)
set_option maxRecDepth 100000 in
theorem fbegin_zero (zb : Nat) (w : World) (h : w.heap[zb]? = some zeroF) :
    Calls Tryz.prog 43 #[.pointer (some ⟨zb, 0, none⟩)] w fun r w' => r = .returned (.pointer (some ⟨zb, 0, none⟩)) ∧ ∃ t mb ST, FamAt zb t mb zb none ST none ⟨0, 0, newT, []⟩ w' ∧ Keeps [zb] w w' ∧ ∀ z, z ∈ famS zb mb none ST → z = zb ∨ w.heap.size ≤ z := by
  have hmm := @run_makeMap Tryz.prog
  have NT := newt_any none ⟨0, 0, 0, 0⟩ w (fun b hb => by cases hb)
  have c3 : w.cell? ⟨zb, 3, none⟩ = some (.pointer none) := cell_has h (i := 3) rfl
  have H0 := Lib.hid h
  have zl := lt_of_block h
  rw [show mV none = .pointer none from rfl] at NT
  clear h
  go_enter Tryz.func43, Tryz.ntmps43
  go_wp2_with fail
  refine NT.mono ?_
  rintro r w1 ⟨t, ST, rfl, t1, m1, k1⟩
  have T1 := Lib.hid t1
  have K1 := Lib.hid (show Keeps [] w w1 from k1.mono (by simp [mS]))
  have b1 := K1.out.has H0.out (by simp)
  have B1 := Lib.hid b1
  have b1a := has_alloc b1 (.map #[] 0)
  have s3 := free_of_has b1a 3
  have s5 := free_of_has b1a 5
  have d3 : (w1.alloc (.map #[] 0)).cell? ⟨zb, 3, none⟩ = some (.pointer none) := cell_has b1a (i := 3) rfl
  have d5 : (w1.alloc (.map #[] 0)).cell? ⟨zb, 5, none⟩ = some (.map none) := cell_has b1a (i := 5) rfl
  clear b1a
  clear t1 m1 k1 b1 NT c3
  go_upto_region 3 with (fail)
  refine wp_gen (fun V => V.heap[zb]? = some (famO 0 0 (.pointer none) t (.slice none 0 0) w1.heap.size) ∧ V.heap[w1.heap.size]? = some (numO []) ∧ Keeps [zb] w1 V) ⟨?_, ?_, ?_⟩ ?_
  · have h0 := has_setCell (has_setCell (has_alloc B1.out (.map #[] 0)) 3 (.pointer (some ⟨t, 0, none⟩))) 5 (.map (some w1.heap.size))
    unfold famO
    simpa [zeroF] using h0
  · have hne : w1.heap.size ≠ zb := by have := lt_of_block B1.out; omega
    exact has_setCell_other (has_setCell_other (has_new w1 (.map #[] 0)) hne _) hne _
  · exact (((Keeps.refl [zb] w1).alloc _).setCell (.inr (by simp)) _).setCell (.inr (by simp)) _
  rintro w2 ⟨b2, n2, k2⟩
  have B2 := Lib.hid b2
  have N2 := Lib.hid n2
  have K2 := Lib.hid k2
  clear b2 n2 k2
  go_wp2_with fail
  go_ret
  have ft := T1.out.foot
  refine ⟨rfl, t, w1.heap.size, ST, ⟨⟨0, B2.out, ValRow.nil _ _ _ _⟩, ?_, N2.out, ?_, ?_, by simp [blk], ⟨Nat.le_refl _, ?_⟩⟩, ?_, ?_⟩
  · exact TabAt.lower10 (T1.out.keeps K2.out (fun z hz => by have := (ft z hz).1; simp; omega)) (by omega)
  · simp only [blk, List.nil_append, List.mem_cons, not_or]
    exact ⟨by have := lt_of_block B1.out; omega, fun h => by have := (ft _ h).1; omega⟩
  · simp only [blk, List.nil_append]
    exact fun h => by have := (ft _ h).2; omega
  · have := lt_of_block B1.out; omega
  · exact (K1.out.mono (by simp)).trans K2.out
  · intro z hz
    unfold famS at hz
    simp only [blk, List.nil_append, List.mem_cons] at hz
    rcases hz with h | h | h
    · exact .inl h
    · right; have := K1.out.size; omega
    · right; exact (ft z h).1
theorem fmake_zero (zb : Nat) (w : World) (h : w.heap[zb]? = some zeroF) :
    Calls Tryz.prog 20 #[.pointer (some ⟨zb, 0, none⟩)] w fun r w' => ∃ t mb ST sb rb, r = .returned (.pointer (some ⟨sb, 0, none⟩)) ∧ SRow zb t mb zb none ST none ⟨0, 0, newT, []⟩ sb rb none [] 0 ⟨0, 0, 0, 0⟩ w' ∧ Keeps [zb] w w' ∧ ∀ z, z ∈ spFeet zb mb none ST none sb rb none → z = zb ∨ w.heap.size ≤ z := by
  have BG := fbegin_zero zb w h
  have zl := lt_of_block h
  clear h
  go_enter Tryz.func20, Tryz.ntmps20
  go_wp2_with fail
  refine BG.mono ?_
  rintro r w1 ⟨rfl, t, mb, ST, f1, k1, n1⟩
  have N1 := Lib.hid n1
  have F1 := Lib.hid f1
  have K1 := Lib.hid k1
  clear f1 k1 n1 BG
  go_wp2_with fail
  go_ret
  have ft := F1.out.foot
  have lo2 := (ft zb (by unfold famS; simp)).2
  obtain ⟨F, hF⟩ : ∃ F, F = (w1.alloc (rowWO (.slice none 0 0))).alloc (spO zb (wayR w1.heap.size) (0 : Nat)) := ⟨_, rfl⟩
  have kF : Keeps [] w1 F := by rw [hF]; exact ((Keeps.refl [] w1).alloc _).alloc _
  have hb : F.heap[w1.heap.size + 1]? = some (spO zb (wayR w1.heap.size) (0 : Nat)) := by
    rw [hF]; have := has_new (w1.alloc (rowWO (.slice none 0 0))) (spO zb (wayR w1.heap.size) (0 : Nat)); simpa using this
  have hn : F.heap[w1.heap.size]? = some (rowWO (.slice none 0 0)) := by
    rw [hF]; exact has_alloc (has_new w1 _) _
  refine ⟨t, mb, ST, w1.heap.size + 1, w1.heap.size, by simp, ?_, ?_, ?_⟩
  · have h9 : SRow zb t mb zb none ST none ⟨0, 0, newT, []⟩ (w1.heap.size + 1) w1.heap.size none [] 0 ⟨0, 0, 0, 0⟩ F := ⟨F1.out.keeps kF (by simp), ⟨⟨0, hn, ValRow.nil _ _ _ _⟩, by simp [blk], by omega⟩, (fun b hb => by cases hb), hb, fun z hz hy => by simp [blk] at hy; subst hy; have := (ft _ hz).2; omega, ⟨fun h => by have := (ft _ h).2; omega, by simp [blk]⟩, by omega, (fun b hb => by cases hb)⟩
    rw [hF] at h9; exact h9
  · rw [hF] at kF; exact K1.out.trans (kF.mono (by simp))
  · intro z hz
    have zw := K1.out.size
    unfold spFeet at hz
    simp only [blk, mS, List.append_nil, List.mem_cons, List.mem_append, List.not_mem_nil, or_false] at hz
    rcases hz with h | h | h
    · right; omega
    · exact N1.out z h
    · right; omega
/-- Is a script more than is looked at? -/
theorem much10_any (a : Option Addr) (len c : Nat) (F : Nat → Int) (N : Nat → ByteArray) (w : World) (H : FldRow (fun j => [2].contains j) 4 w a len F N) :
    Calls Tryz.prog 5 #[.slice a len c] w fun r w' => w = w' ∧ (r = .returned (.bool true) ∨ (r = .returned (.bool false) ∧ len ≤ 300 ∧ ∀ i, i < len → (N (i * 4 + 2)).size ≤ 200)) := by
  have HH := Lib.hid H
  clear H
  by_cases h0 : 300 < len
  · have b0 : decide ((300 : Int) < (len : Int)) = true := by simp; omega
    go_enter Tryz.func5, Tryz.ntmps5
    go_wp2_with fail
    go_ret
    exact ⟨rfl, .inl rfl⟩
  have b0 : decide ((300 : Int) < (len : Int)) = false := by simp; omega
  go_enter Tryz.func5, Tryz.ntmps5
  go_wp2_with fail
  go_loopw [3] (fun z3 wr => ∃ i : Nat, i ≤ len ∧ z3 = .int .i64 i ∧ w = wr ∧ Hid (∀ j, j < i → (N (j * 4 + 2)).size ≤ 200)) (fun z3 _ => len - (intOf z3).toNat)
  case atStart => exact ⟨0, Nat.zero_le _, rfl, rfl, Lib.hid (fun j hj => absurd hj (by omega))⟩
  case round =>
    obtain ⟨i, hi, rfl, rfl, I⟩ := hrel
    by_cases hlt : i < len
    · have i1 : (i : Int) < (len : Int) := by omega
      have i0 : (0 : Int) ≤ (i : Int) := by omega
      rcases HH.out with h9 | ⟨b, off, rfl, _, _, hc⟩
      · omega
      have x1 := hc (i * 4 + 2) (by omega)
      have hm : (i * 4 + 2) % 4 = 2 := by omega
      rw [show fldV (fun j => [2].contains j) 4 F N (i * 4 + 2) = .string (N (i * 4 + 2)) from by unfold fldV; rw [hm]; rfl] at x1
      obtain ⟨s, hs⟩ := ex_hid (N (i * 4 + 2))
      rw [← hs.out] at x1
      have x2 : w.cell? ⟨b, off + i * 4 + 2, none⟩ = some (.string s) := by rw [Nat.add_assoc]; exact x1
      clear hm hc
      by_cases hz : 200 < s.size
      · have bz : decide ((200 : Int) < (s.size : Int)) = true := by simp; omega
        go_wp2_with fail
        go_ret
        exact ⟨rfl, .inl rfl⟩
      · have bz : decide ((200 : Int) < (s.size : Int)) = false := by simp; omega
        go_wp2_with fail
        go_roundw
        case rel =>
          refine ⟨i + 1, by omega, by go_num, trivial, Lib.hid (fun j hj => ?_)⟩
          rcases Nat.lt_or_ge j i with h | h
          · exact I.out j h
          · obtain rfl : j = i := by omega
            rw [← hs.out]; omega
        case measure => simp [intOf]; omega
    · obtain rfl : i = len := by omega
      have hge : ¬ (i : Int) < (i : Int) := by omega
      go_wp2_with fail
      go_ret
      exact ⟨rfl, .inr ⟨rfl, by omega, I.out⟩⟩
end Go.Proofs.YtajmfenfajbakaaGreat
end

section
namespace Go.Proofs.YtajmfenfajbakaaGreat
open Go.RowKit
set_option linter.unusedVariables false
set_option linter.unusedSimpArgs false

set_option maxRecDepth 100000 in
theorem rfnew_any (most pairs : Int) (m : Option Nat) (c : C4) (w : World) (hM : CtrAt m c w) (h0 : 0 ≤ most) (h1 : most ≤ 256) (h2 : 0 ≤ pairs) (h3 : pairs ≤ 65536) :
    Calls Tryz.prog 27 #[.int .i64 most, .int .i64 pairs, mV m] w fun r W' => ∃ fb, r = .returned (.tuple #[.pointer (some ⟨fb, 0, none⟩), .int .i64 0]) ∧ w.heap.size ≤ fb ∧ Keeps (mS m) w W' ∧ CtrAt m c.tab W' ∧ ∃ t ST, RFamAt fb t w.heap.size none ST m ⟨most, pairs, newT, []⟩ W' := by
  have b0 : decide (most < 0) = false := by simp; omega
  have b1 : decide ((256 : Int) < most) = false := by simp; omega
  have b2 : decide (pairs < 0) = false := by simp; omega
  have b3 : decide ((65536 : Int) < pairs) = false := by simp; omega
  have NT := rnew10_tab m c w hM
  have HM := Lib.hid hM
  obtain ⟨p, hp⟩ : ∃ p : Option Addr, Hid (mV m = .pointer p) := ⟨_, Lib.hid rfl⟩
  rw [hp.out] at NT ⊢
  clear hM h0 h1 h2 h3
  go_enter Tryz.func27, Tryz.ntmps27
  go_wp2_with fail
  refine NT.mono ?_
  rintro r w1 ⟨t, S, rfl, t1, m1, k1⟩
  have T1 := Lib.hid t1
  have M1 := Lib.hid m1
  have K1 := Lib.hid k1
  clear NT t1 m1 k1
  go_wp2_with fail
  go_ret2
  have z1 := K1.out.size
  have ka : Keeps [] w1 (w1.alloc (.cells #[.int .i64 most, .int .i64 pairs, .pointer (some ⟨t, 0, none⟩), .slice none 0 0, .pointer p] 67)) := (Keeps.refl [] w1).alloc _
  refine ⟨w1.heap.size, rfl, z1, K1.out.trans (ka.mono (by simp)), M1.out.keeps ka (by simp), t, S, ⟨⟨0, ?_, ValRow.nil _ _ _ _⟩, T1.out.keeps ka (by simp), fun h => ?_, fun z hz => by simp [blk] at hz, z1⟩⟩
  · rw [hp.out]; exact has_new w1 _
  · simp [blk] at h
    have := (T1.out.foot _ h).2; omega
set_option maxRecDepth 100000 in
theorem rfnew_bad (most pairs : Int) (p : Option Addr) (w : World) (hb : ¬ (0 ≤ most ∧ most ≤ 256 ∧ 0 ≤ pairs ∧ pairs ≤ 65536)) :
    Calls Tryz.prog 27 #[.int .i64 most, .int .i64 pairs, .pointer p] w fun r W' => r = .returned (.tuple #[.pointer none, .int .i64 1]) ∧ w = W' := by
  have BAD : decide (most < 0) = true ∨ (decide (most < 0) = false ∧ decide ((256 : Int) < most) = true) ∨ (decide (most < 0) = false ∧ decide ((256 : Int) < most) = false ∧ decide (pairs < 0) = true) ∨ (decide (most < 0) = false ∧ decide ((256 : Int) < most) = false ∧ decide (pairs < 0) = false ∧ decide ((65536 : Int) < pairs) = true) := by
    simp only [decide_eq_true_eq, decide_eq_false_iff_not]; omega
  clear hb
  go_enter Tryz.func27, Tryz.ntmps27
  rcases BAD with b1 | ⟨b1, b2⟩ | ⟨b1, b2, b3⟩ | ⟨b1, b2, b3, b4⟩
  all_goals
    go_wp2_with fail
    go_ret2
    exact ⟨rfl, rfl⟩
theorem rmake_any (fb : Nat) (w : World) :
    Calls Tryz.prog 51 #[.pointer (some ⟨fb, 0, none⟩)] w fun r W' => r = .returned (.pointer (some ⟨w.heap.size, 0, none⟩)) ∧ W'.heap[w.heap.size]? = some (rspO fb (.slice none 0 0) (.pointer none) 0) ∧ Keeps [] w W' := by
  go_enter Tryz.func51, Tryz.ntmps51
  go_wp2_with fail
  go_ret
  exact ⟨rfl, has_new w _, (Keeps.refl [] w).alloc _⟩
set_option maxRecDepth 100000 in
set_option maxHeartbeats 4000000 in
theorem rnames_any (k : Nat) (hk0 : k ≤ 1000) (fb t lo : Nat) (a : Option Addr) (ST : List Nat) (m : Option Nat) (f : Fam) (ks : List ByteArray) (w : World) (H : RFamAt fb t lo a ST m f w) (hI : FamOk k f ks) :
    Calls Tryz.prog 15 #[.pointer (some ⟨fb, 0, none⟩)] w (Names10 ks w) := by
  have HF := Lib.hid H
  have HI := Lib.hid hI
  obtain ⟨cN, h1, q1⟩ := H.b
  have QN := Lib.hid q1
  have c2 : w.cell? ⟨fb, 2, none⟩ = some (.pointer (some ⟨t, 0, none⟩)) := cell_has h1 (i := 2) rfl
  have c3 : w.cell? ⟨fb, 3, none⟩ = some (.slice a f.N.length cN) := cell_has h1 (i := 3) rfl
  have LIV := Lib.hid (liveL_all hI.lv)
  have EK := Lib.hid (show f.K.E.length ≤ 1000 from by have := hI.t.ek; omega)
  obtain ⟨n, hn⟩ := ex_hid ks.length
  have HNM : Hid (∀ r w', Names10 ks w r w' = (∃ lo a c, w.heap.size ≤ lo ∧ r = .returned (.slice a n c) ∧ ValRow 9 lo a n c (strV ks) w' ∧ Keeps [] w w')) := Lib.hid (fun r w' => by unfold Names10; rw [← hn.out])
  have EN := Lib.hid (show f.K.E.length = n from by rw [hn.out, hI.kl])
  obtain ⟨ta, tc, tcb, g1, g2, _⟩ := H.k
  have AL := rall_any t lo f.K.L tc ta f.K.E _ _ _ _ _ _ w g1 g2 (by have := EK.out; omega)
  rw [LIV.out.1, LIV.out.2] at AL
  obtain ⟨nN, hnN⟩ := ex_hid f.N.length
  rw [← hnN.out] at c3
  rw [EN.out] at AL
  clear H hI h1 q1 g1 g2
  go_enter Tryz.func15, Tryz.ntmps15
  go_wp2_with fail
  refine AL.mono ?_
  rintro r w1 ⟨al, cl, rfl, e1, k1⟩
  have E1 := Lib.hid (show EntRow w.heap.size al cl f.K.E w1 from e1)
  have K1 := Lib.hid k1
  have c3 := k1.cell c3 (by simp)
  have QN := Lib.hid (QN.out.keeps K1.out (by simp))
  clear AL e1 k1 c2
  go_wp2_with fail
  go_loopw [4, 5] (fun z4 z5 wr => ∃ (i : Nat) (ao : Option Addr) (co : Nat), i ≤ n ∧ z5 = .int .i64 i ∧ z4 = .slice ao i co ∧ Hid (ValRow 9 w1.heap.size ao i co (strV ks) wr ∧ Keeps [] w1 wr)) (fun _ z5 _ => n - (intOf z5).toNat)
  case atStart => exact ⟨0, none, 0, Nat.zero_le _, rfl, rfl, Lib.hid ⟨ValRow.nil _ _ _ _, Keeps.refl _ _⟩⟩
  case round =>
    obtain ⟨i, ao, co, hi, rfl, rfl, I⟩ := hrel
    have hn1 : n ≤ 1000 := by have := EK.out; have := EN.out; omega
    by_cases hlt : i < n
    · have i1 : (i : Int) < (n : Int) := by omega
      have i0 : (0 : Int) ≤ (i : Int) := by omega
      have hx := List.getElem?_eq_getElem (l := f.K.E) (i := i) (by rw [EN.out]; exact hlt)
      obtain ⟨q, q1, q2, q3, q4⟩ := HI.out.ky _ _ hx
      obtain ⟨ge, rfl⟩ := E1.out.shape (by rw [EN.out]; omega)
      have e2 : wr.cell? ⟨ge, i * 5 + 2, none⟩ = some (.int .i64 (q : Nat)) := by rw [← q2]; exact I.out.2.cell (E1.out.five hx).2.2.1 (by simp)
      have x3 : wr.cell? ⟨fb, 3, none⟩ = some (.slice a nN cN) := I.out.2.cell c3 (by simp)
      have QW := QN.out.keeps I.out.2 (by simp)
      obtain ⟨gn, rfl⟩ := QW.shape (by omega)
      have s3 : wr.cell? ⟨gn, q, none⟩ = some (.string (f.N.getD q .empty)) := QW.cell (k := q) q1
      rw [← hnN.out] at q1
      have n0 : (0 : Int) ≤ (q : Int) := by omega
      have n1 : (q : Int) < (nN : Int) := by omega
      obtain ⟨y, hy⟩ := ex_hid (f.N.getD q .empty)
      rw [← hy.out] at s3 q4
      have HKS := Lib.hid q4
      have kd : Keeps [] wr (wr.alloc (.cells #[.string y] 9)).drew := ((Keeps.refl [] wr).alloc _).drew
      obtain ⟨ga, cap, w3, run3, r3, k3, g3, l3⟩ := str_app w1.heap.size ao co i (strV ks) y _ wr.heap.size (I.out.1.keeps kd (by simp)) (has_drew (has_new wr _)) (by have := EK.out; have := EN.out; omega) (by have := kd.size; have := I.out.2.size; omega)
      have R3 := Lib.hid r3
      have K3 := Lib.hid (show Keeps [] w1 w3 from (I.out.2.trans kd).then k3 (fun z hz => .inl (I.out.1.blk_lt z hz).1))
      clear q1 q2 q3 q4 hx QW kd r3 k3 g3 l3
      go_upto_region 6 with (fail)
      go_region_law (refine step_append_run (o := ⟨some 30, _, _, _, _, _⟩) rfl (.tmp 17) (.tmp 29) 51 rfl _ _ rfl rfl _ _ run3 ?_)
      all_goals
        clear e2 x3 s3 run3
        go_wp2_with fail
        go_roundw
        case rel =>
          refine ⟨i + 1, some ⟨ga, 0, none⟩, cap, by omega, by go_num, rfl, Lib.hid ⟨R3.out.congr (fun j hj => ?_), K3.out⟩⟩
          unfold putV strV
          by_cases e : j = i
          · subst e; rw [if_pos rfl]; simp only [List.getD, HKS.out, Option.getD_some]
          · rw [if_neg e]
        case measure => simp [intOf]; omega
    · obtain rfl : i = n := by omega
      have hge : ¬ (i : Int) < (i : Int) := by omega
      go_wp2_with fail
      go_ret
      rw [HNM.out]
      exact ⟨w1.heap.size, ao, co, K1.out.size, rfl, I.out.1, K1.out.trans I.out.2⟩
set_option maxRecDepth 100000 in
theorem rsight10_any {k j fb sb t lo : Nat} {a : Option Addr} {ST S : List Nat} {m : Option Nat} {f : Fam} {ks : List ByteArray} {wy : Way10} {ver : Nat} {c : C4} {w : World} (G : Good10 k j f ks wy) (A : RAt10 fb sb t lo a ST S m f wy ver c w) :
    Calls Tryz.prog 40 #[.pointer (some ⟨sb, 0, none⟩)] w (SeenP wy w) := by
  have hs := A.s
  have k0 : Keeps [] w (w.alloc (.cells #[.int .i64 0, .int .i64 0, .slice none 0 0, .slice none 0 0, .int .i64 0, .int .i64 0, .int .i64 0] 63)) := (Keeps.refl [] w).alloc _
  have K0 := Lib.hid k0
  cases wy with
  | row vs =>
    obtain ⟨ar, cr, _, b1, _⟩ := hs
    have e2 := k0.cell (show w.cell? ⟨sb, 2, none⟩ = some (.pointer none) from cell_has b1 (i := 2) rfl) (by simp)
    clear G A b1 k0
    go_enter Tryz.func40, Tryz.ntmps40
    go_wp2_with fail
    exact bodyPost_ret (v := noSight) (by simp [results, Tryz.results40, go_sem, noSight]) rfl ⟨rfl, K0.out⟩
  | own T =>
    obtain ⟨t2, lo2, b1, h2, _⟩ := hs
    have hw : OwnOk j f.N T := G.w
    have hI := hw.t
    have hj := G.j9
    have h3 : 3 ≤ T.L := hI.l3
    have hL : T.L ≤ 20 := by have := hI.l12; omega
    have hl : T.E.length ≤ 1000000 := by have := hI.ek; omega
    have b0 : (w.alloc (.cells #[.int .i64 0, .int .i64 0, .slice none 0 0, .slice none 0 0, .int .i64 0, .int .i64 0, .int .i64 0] 63)).heap[w.heap.size]? = some (.cells #[.int .i64 0, .int .i64 0, .slice none 0 0, .slice none 0 0, .int .i64 0, .int .i64 0, .int .i64 0] 63 (0, 0)) := has_new _ _
    have B0 := Lib.hid b0
    have e2 := k0.cell (show w.cell? ⟨sb, 2, none⟩ = some (.pointer (some ⟨t2, 0, none⟩)) from cell_has b1 (i := 2) rfl) (by simp)
    have RS := rsight_any t2 lo2 S m T _ (h2.keeps K0.out (by simp)) h3 hL hl
    show Calls _ _ _ _ (SightP T w)
    clear G A b1 h2 k0 b0 hw hI hj h3 hL hl
    go_enter Tryz.func40, Tryz.ntmps40
    go_wp2_with fail
    refine RS.mono ?_
    rintro r w2 ⟨ca, cc, ea, ec, rfl, g1, g2, b2⟩
    have b3 := (Below.keeps b2 []).has B0.out (by simp)
    have G1 := Lib.hid g1
    have G2 := Lib.hid g2
    have K2 := Lib.hid (Below.keeps b2 [])
    have c0 := cell_has b3 (i := 0) rfl
    have c1 := cell_has b3 (i := 1) rfl
    have c2 := cell_has b3 (i := 2) rfl
    have c3 := cell_has b3 (i := 3) rfl
    have c4 := cell_has b3 (i := 4) rfl
    have c5 := cell_has b3 (i := 5) rfl
    have c6 := cell_has b3 (i := 6) rfl
    have f0 := free_of_has b3 0
    have f1 := free_of_has b3 1
    have f2 := free_of_has b3 2
    have f3 := free_of_has b3 3
    have f4 := free_of_has b3 4
    have f5 := free_of_has b3 5
    have f6 := free_of_has b3 6
    have B3 := Lib.hid b3
    obtain ⟨en, hen⟩ := ex_hid T.E.length
    obtain ⟨cn, hcn⟩ := ex_hid (2 ^ T.L)
    rw [← hen.out, ← hcn.out]
    unfold sightAgg
    clear RS g1 g2 b2 b3 e2
    go_wp2_with fail
    have s1 := sight_store T (.slice ca cn cc) (.slice ea en ec) B3.out
    have rc := cell_of_has s1
    have k9 : Keeps [w.heap.size] w2 (((((((w2.setCell ⟨w.heap.size, 0, none⟩ (.int .i64 T.L)).setCell ⟨w.heap.size, 1, none⟩ (.int .i64 (wdOf T.L))).setCell ⟨w.heap.size, 2, none⟩ (.slice ca cn cc)).setCell ⟨w.heap.size, 3, none⟩ (.slice ea en ec)).setCell ⟨w.heap.size, 4, none⟩ (.int .i64 (liveN T.E : Nat))).setCell ⟨w.heap.size, 5, none⟩ (.int .i64 T.births)).setCell ⟨w.heap.size, 6, none⟩ (.int .i64 T.made)) := (((((((Keeps.refl _ _).setCell (.inr (by simp)) _).setCell (.inr (by simp)) _).setCell (.inr (by simp)) _).setCell (.inr (by simp)) _).setCell (.inr (by simp)) _).setCell (.inr (by simp)) _).setCell (.inr (by simp)) _
    refine bodyPost_ret (v := sightAgg T (.slice ca cn cc) (.slice ea en ec)) (by simp [results, Tryz.results40, go_sem, rc, sightAgg]) rfl ⟨ca, cc, ea, ec, by rw [hen.out, hcn.out], ?_, ?_, ?_⟩
    · have h9 := G1.out
      simp only [World.size_alloc] at h9
      exact (h9.keeps k9 (fun x hx => by have := (h9.blk_lt x hx).1; simp; omega)).mono (by omega)
    · have h9 := G2.out
      simp only [World.size_alloc] at h9
      exact (h9.keeps k9 (fun x hx => by have := (h9.blk_lt x hx).1; simp; omega)).lift (fun x hx => by have := (h9.blk_lt x hx).1; omega)
    · exact ((K0.out.trans K2.out).then k9 (S := []) (by intro z hz; simp at hz; left; omega)).below (Nat.le_refl _) (by simp)
end Go.Proofs.YtajmfenfajbakaaGreat
end

section
namespace Go.Proofs.YtajmfenfajbakaaGreat
open Go.RowKit
set_option linter.unusedVariables false
set_option linter.unusedSimpArgs false

theorem prow_lift {lo : Nat} {a : Option Addr} {c : Nat} {P : List Pr10} {w : World} {lo' : Nat} (h : PairRow lo a c P w) (hl : ∀ x, x ∈ blk a → lo' ≤ x) : PairRow lo' a c P w := by
  obtain ⟨h1, h2⟩ := h
  refine ⟨h1, ?_⟩
  rcases h2 with h2 | ⟨g, cap, cur, a1, a2, a3⟩
  · exact .inl h2
  · refine .inr ⟨g, cap, cur, a1, hl g ?_, a3⟩
    simp at a1; simp [a1.1, blk]
theorem wpO_append {P : Program} {o : Oper} {a : Act} {w : World} {K : Act → World → Prop} {Q : Exit → Act → World → Prop} (s x : Operand) (t : TypeId)
    (ho : o.op = .call { callee := .builtin .append, args := #[s, x], argTypes := #[t, t] }) (v1 v2 : Value) (hs : a.eval s = v1) (hx : a.eval x = v2) (r : Value) (w' : World) (hrun : (Builtin.append_ #[t, t] o.type #[v1, v2]).run P w = .ok r w')
    (h : K (a.put o.dst r) w') : Oper.wp P o a w K Q := by
  unfold Oper.wp execOp
  simp only [ho, resolve, invoke, builtin, Sem.run_bind, Sem.run_pure, Result.andThen_ok, List.map_toArray, List.map_cons, List.map_nil, hs, hx, hrun]
  exact h
set_option maxRecDepth 100000 in
set_option maxHeartbeats 8000000 in
theorem rpairs_row {k j fb sb t lo : Nat} {a : Option Addr} {ST S : List Nat} {m : Option Nat} {f : Fam} {ks : List ByteArray} {vs : List Int} {ver : Nat} {c : C4} {w : World} (G : Good10 k j f ks (.row vs)) (A : RAt10 fb sb t lo a ST S m f (.row vs) ver c w) :
    Calls Tryz.prog 38 #[.pointer (some ⟨sb, 0, none⟩)] w (Pairs10 (rowPs f vs vs.length) w) := by
  obtain ⟨hl, hv⟩ : vs.length ≤ ks.length ∧ vs.length ≤ j := G.w
  have hj := G.j9
  have RP := Lib.hid (fun (i : Nat) (hi : i < ks.length) => rowP_at G.fk vs (List.getElem?_eq_getElem hi))
  have KN := Lib.hid (show ks.length = f.K.E.length from G.fk.kl)
  obtain ⟨ar, cr, hS, b1, v1⟩ := A.s
  obtain ⟨cN, f1, q1⟩ := A.F.b
  obtain ⟨ta, tc, tcb, g1, g2, _⟩ := A.F.k
  have V1 := Lib.hid v1
  have QN := Lib.hid q1
  have EN := Lib.hid g2
  obtain ⟨n, hn⟩ := ex_hid vs.length
  obtain ⟨nN, hnN⟩ := ex_hid f.N.length
  obtain ⟨nE, hnE⟩ := ex_hid f.K.E.length
  have hn9 : n ≤ 900 := by have := hn.out; omega
  have HLE := Lib.hid (show n ≤ ks.length from by rw [hn.out]; exact hl)
  have HNP := Lib.hid (show Pairs10 (rowPs f vs vs.length) w = Pairs10 (rowPs f vs n) w from by rw [hn.out])
  rw [HNP.out]
  rw [← hn.out] at b1
  rw [← hnN.out] at f1
  rw [← hnE.out] at g1
  have s0 : w.cell? ⟨sb, 0, none⟩ = some (.pointer (some ⟨fb, 0, none⟩)) := cell_has b1 (i := 0) rfl
  have s1 : w.cell? ⟨sb, 1, none⟩ = some (.slice ar n cr) := cell_has b1 (i := 1) rfl
  have s2 : w.cell? ⟨sb, 2, none⟩ = some (.pointer none) := cell_has b1 (i := 2) rfl
  have f2 : w.cell? ⟨fb, 2, none⟩ = some (.pointer (some ⟨t, 0, none⟩)) := cell_has f1 (i := 2) rfl
  have f3 : w.cell? ⟨fb, 3, none⟩ = some (.slice a nN cN) := cell_has f1 (i := 3) rfl
  have t0 : w.cell? ⟨t, 0, none⟩ = some (.slice ta nE tc) := cell_has g1 (i := 0) rfl
  clear G A b1 v1 f1 q1 g1 g2 hS hl hv hj
  go_enter Tryz.func38, Tryz.ntmps38
  go_wp2_with fail
  go_loopw [3, 4] (fun z3 z4 wr => ∃ (i : Nat) (ao : Option Addr) (co : Nat), i ≤ n ∧ z4 = .int .i64 i ∧ z3 = .slice ao i co ∧ Hid (PairRow w.heap.size ao co (rowPs f vs i) wr ∧ Keeps [] w wr)) (fun _ z4 _ => n - (intOf z4).toNat)
  case atStart => exact ⟨0, none, 0, Nat.zero_le _, rfl, rfl, Lib.hid ⟨PairRow.nil _ _, Keeps.refl _ _⟩⟩
  case round =>
    obtain ⟨i, ao, co, hi, rfl, rfl, I⟩ := hrel
    have y1 := I.out.2.cell s1 (by simp)
    by_cases hlt : i < n
    · have i1 : (i : Int) < (n : Int) := by omega
      have i0 : (0 : Int) ≤ (i : Int) := by omega
      obtain ⟨e1, x, q, e2, e3, e4, e5, _⟩ := RP.out i (by have := HLE.out; omega)
      have hxE := (List.getElem?_eq_some_iff.1 e2).1
      have hqN := (List.getElem?_eq_some_iff.1 e5).1
      rw [← hnE.out] at hxE
      rw [← hnN.out] at hqN
      obtain ⟨gr, rfl⟩ := V1.out.shape (by have := hn.out; omega)
      obtain ⟨ge, rfl⟩ := EN.out.shape (by have := hnE.out; omega)
      obtain ⟨gn, rfl⟩ := QN.out.shape (by have := hnN.out; omega)
      have u1 : w.cell? ⟨ge, i * 5 + 2, none⟩ = some (.int .i64 (q : Nat)) := by rw [← e4]; exact (EN.out.five e2).2.2.1
      have u2 : w.cell? ⟨gn, q, none⟩ = some (.string (f.N.getD q .empty)) := QN.out.cell (k := q) (by rw [← hnN.out]; exact hqN)
      have u3 : w.cell? ⟨gr, i, none⟩ = some (.int .i64 (vs.getD i 0)) := V1.out.cell (k := i) (by rw [← hn.out]; exact hlt)
      have j1 : (i : Int) < (nE : Int) := by omega
      have q0 : (0 : Int) ≤ (q : Int) := by omega
      have q1 : (q : Int) < (nN : Int) := by omega
      obtain ⟨y, hy⟩ := ex_hid (f.N.getD q .empty)
      obtain ⟨v, hv⟩ := ex_hid (vs.getD i 0)
      rw [← hy.out] at u2
      rw [← hv.out] at u3
      have PE := Lib.hid (show rowP f vs i = (y, v) from by rw [e1, hy.out, hv.out, getD_of10 e5])
      have kd : Keeps [] wr (wr.alloc (.cells #[.string y, .int .i64 v] 134)).drew := ((Keeps.refl [] wr).alloc _).drew
      obtain ⟨ga, cap, w3, run3, r3, k3, g3, l3⟩ := pair_append w.heap.size ao co (rowPs f vs i) (y, v) _ wr.heap.size (PairRow.keeps I.out.1 kd (by simp)) (has_drew (has_new wr _)) (by rw [rowPs_len]; omega) (by have := kd.size; have := I.out.2.size; omega)
      rw [rowPs_len] at run3
      have R3 := Lib.hid (show PairRow w.heap.size (some ⟨ga, 0, none⟩) cap (rowPs f vs (i + 1)) w3 from by rw [rowPs_succ, PE.out]; exact r3)
      have K3 := Lib.hid (show Keeps [] w w3 from (I.out.2.trans kd).then k3 (fun z hz => .inl (PairRow.blk_lt I.out.1 z hz).1))
      have KD := Lib.hid (I.out.2.trans kd)
      clear e1 e2 e3 e4 e5 hxE hqN kd r3 k3 g3 l3
      go_upto_region 6 with (fail)
      have hFa : (fun w' : World => w'.cell? ⟨sb, 0, none⟩ = some (.pointer (some ⟨fb, 0, none⟩)) ∧ w'.cell? ⟨fb, 3, none⟩ = some (.slice (some ⟨gn, 0, none⟩) nN cN) ∧ w'.cell? ⟨fb, 2, none⟩ = some (.pointer (some ⟨t, 0, none⟩)) ∧ w'.cell? ⟨t, 0, none⟩ = some (.slice (some ⟨ge, 0, none⟩) nE tc) ∧ w'.cell? ⟨ge, i * 5 + 2, none⟩ = some (.int .i64 (q : Nat)) ∧ w'.cell? ⟨gn, q, none⟩ = some (.string y) ∧ w'.cell? ⟨sb, 1, none⟩ = some (.slice (some ⟨gr, 0, none⟩) n cr) ∧ w'.cell? ⟨gr, i, none⟩ = some (.int .i64 v)) (wr.alloc (.cells #[.string y, .int .i64 v] 134)).drew := ⟨KD.out.cell s0 (by simp), KD.out.cell f3 (by simp), KD.out.cell f2 (by simp), KD.out.cell t0 (by simp), KD.out.cell u1 (by simp), KD.out.cell u2 (by simp), KD.out.cell s1 (by simp), KD.out.cell u3 (by simp)⟩
      have hF3 : (fun w' : World => w'.cell? ⟨sb, 0, none⟩ = some (.pointer (some ⟨fb, 0, none⟩)) ∧ w'.cell? ⟨fb, 3, none⟩ = some (.slice (some ⟨gn, 0, none⟩) nN cN) ∧ w'.cell? ⟨fb, 2, none⟩ = some (.pointer (some ⟨t, 0, none⟩)) ∧ w'.cell? ⟨t, 0, none⟩ = some (.slice (some ⟨ge, 0, none⟩) nE tc) ∧ w'.cell? ⟨ge, i * 5 + 2, none⟩ = some (.int .i64 (q : Nat)) ∧ w'.cell? ⟨gn, q, none⟩ = some (.string y) ∧ w'.cell? ⟨sb, 1, none⟩ = some (.slice (some ⟨gr, 0, none⟩) n cr) ∧ w'.cell? ⟨gr, i, none⟩ = some (.int .i64 v)) w3 := ⟨K3.out.cell s0 (by simp), K3.out.cell f3 (by simp), K3.out.cell f2 (by simp), K3.out.cell t0 (by simp), K3.out.cell u1 (by simp), K3.out.cell u2 (by simp), K3.out.cell s1 (by simp), K3.out.cell u3 (by simp)⟩
      refine wp_regionG (fun w' => w'.cell? ⟨sb, 0, none⟩ = some (.pointer (some ⟨fb, 0, none⟩)) ∧ w'.cell? ⟨fb, 3, none⟩ = some (.slice (some ⟨gn, 0, none⟩) nN cN) ∧ w'.cell? ⟨fb, 2, none⟩ = some (.pointer (some ⟨t, 0, none⟩)) ∧ w'.cell? ⟨t, 0, none⟩ = some (.slice (some ⟨ge, 0, none⟩) nE tc) ∧ w'.cell? ⟨ge, i * 5 + 2, none⟩ = some (.int .i64 (q : Nat)) ∧ w'.cell? ⟨gn, q, none⟩ = some (.string y) ∧ w'.cell? ⟨sb, 1, none⟩ = some (.slice (some ⟨gr, 0, none⟩) n cr) ∧ w'.cell? ⟨gr, i, none⟩ = some (.int .i64 v)) 35 (by kernel_rfl) ⟨I.out.2.cell s0 (by simp), I.out.2.cell f3 (by simp), I.out.2.cell f2 (by simp), I.out.2.cell t0 (by simp), I.out.2.cell u1 (by simp), I.out.2.cell u2 (by simp), I.out.2.cell s1 (by simp), I.out.2.cell u3 (by simp)⟩ (fun hF => ?_)
      refine wpAnyG_takeY (i := 0) (v := ?_) rfl (by kernel_rfl) (by decide +kernel) (by decide +kernel) (by decide +kernel) (fun _ _ _ h => h) (by kernel_rfl) ?_ (by assumption) ?_
      rotate_left
      · (intro wz; go_simp; with_reducible rfl)
      try simp only [Act.put, List.setIfInBounds_toArray, List.set_cons_zero, List.set_cons_succ]
      refine wpAnyG_takeY (i := 1) (v := ?_) rfl (by kernel_rfl) (by decide +kernel) (by decide +kernel) (by decide +kernel) (fun _ _ _ h => h) (by kernel_rfl) ?_ (by assumption) ?_
      rotate_left
      · (intro wz; go_simp; with_reducible rfl)
      try simp only [Act.put, List.setIfInBounds_toArray, List.set_cons_zero, List.set_cons_succ]
      refine wpAnyG_takeY (i := 2) (v := ?_) rfl (by kernel_rfl) (by decide +kernel) (by decide +kernel) (by decide +kernel) (fun _ _ _ h => h) (by kernel_rfl) ?_ (by assumption) ?_
      rotate_left
      · (intro wz; go_simp; with_reducible rfl)
      try simp only [Act.put, List.setIfInBounds_toArray, List.set_cons_zero, List.set_cons_succ]
      refine wpAnyG_takeY (i := 3) (v := ?_) rfl (by kernel_rfl) (by decide +kernel) (by decide +kernel) (by decide +kernel) (fun _ _ _ h => h) (by kernel_rfl) ?_ (by assumption) ?_
      rotate_left
      · (intro wz; go_simp; with_reducible rfl)
      try simp only [Act.put, List.setIfInBounds_toArray, List.set_cons_zero, List.set_cons_succ]
      refine wpAnyG_take (i := 4) (v := ?_) rfl (by kernel_rfl) (by decide +kernel) (by decide +kernel) (by decide +kernel) (by decide +kernel) (by rfl) (fun _ _ _ h => h) (by kernel_rfl) ?_ (by assumption) ?_
      rotate_left
      · (intro wz hSw; (try dsimp only at hSw); go_simp; with_reducible rfl)
      try simp only [Act.put, List.setIfInBounds_toArray, List.set_cons_zero, List.set_cons_succ]
      refine wpAnyG_takeY (i := 5) (v := ?_) rfl (by kernel_rfl) (by decide +kernel) (by decide +kernel) (by decide +kernel) (fun _ _ _ h => h) (by kernel_rfl) ?_ (by assumption) ?_
      rotate_left
      · (intro wz; go_simp; with_reducible rfl)
      try simp only [Act.put, List.setIfInBounds_toArray, List.set_cons_zero, List.set_cons_succ]
      refine wpAnyG_takeY (i := 6) (v := ?_) rfl (by kernel_rfl) (by decide +kernel) (by decide +kernel) (by decide +kernel) (fun _ _ _ h => h) (by kernel_rfl) ?_ (by assumption) ?_
      rotate_left
      · (intro wz; go_simp; with_reducible rfl)
      try simp only [Act.put, List.setIfInBounds_toArray, List.set_cons_zero, List.set_cons_succ]
      refine wpAnyG_take (i := 7) (v := ?_) rfl (by kernel_rfl) (by decide +kernel) (by decide +kernel) (by decide +kernel) (by decide +kernel) (by rfl) (fun _ _ _ h => h) (by kernel_rfl) ?_ (by assumption) ?_
      rotate_left
      · (intro wz hSw; (try dsimp only at hSw); go_simp; with_reducible rfl)
      try simp only [Act.put, List.setIfInBounds_toArray, List.set_cons_zero, List.set_cons_succ]
      refine wpAnyG_takeY (i := 8) (v := ?_) rfl (by kernel_rfl) (by decide +kernel) (by decide +kernel) (by decide +kernel) (fun _ _ _ h => h) (by kernel_rfl) ?_ (by assumption) ?_
      rotate_left
      · (intro wz; go_simp; with_reducible rfl)
      try simp only [Act.put, List.setIfInBounds_toArray, List.set_cons_zero, List.set_cons_succ]
      refine wpAnyG_takeY (i := 9) (v := ?_) rfl (by kernel_rfl) (by decide +kernel) (by decide +kernel) (by decide +kernel) (fun _ _ _ h => h) (by kernel_rfl) ?_ (by assumption) ?_
      rotate_left
      · (intro wz; go_simp; with_reducible rfl)
      try simp only [Act.put, List.setIfInBounds_toArray, List.set_cons_zero, List.set_cons_succ]
      refine wpAnyG_takeY (i := 10) (v := ?_) rfl (by kernel_rfl) (by decide +kernel) (by decide +kernel) (by decide +kernel) (fun _ _ _ h => h) (by kernel_rfl) ?_ (by assumption) ?_
      rotate_left
      · (intro wz; go_simp; with_reducible rfl)
      try simp only [Act.put, List.setIfInBounds_toArray, List.set_cons_zero, List.set_cons_succ]
      refine wpAnyG_take (i := 11) (v := ?_) rfl (by kernel_rfl) (by decide +kernel) (by decide +kernel) (by decide +kernel) (by decide +kernel) (by rfl) (fun _ _ _ h => h) (by kernel_rfl) ?_ (by assumption) ?_
      rotate_left
      · (intro wz hSw; (try dsimp only at hSw); go_simp; with_reducible rfl)
      try simp only [Act.put, List.setIfInBounds_toArray, List.set_cons_zero, List.set_cons_succ]
      refine wpAnyG_takeY (i := 12) (v := ?_) rfl (by kernel_rfl) (by decide +kernel) (by decide +kernel) (by decide +kernel) (fun _ _ _ h => h) (by kernel_rfl) ?_ (by assumption) ?_
      rotate_left
      · (intro wz; go_simp; with_reducible rfl)
      try simp only [Act.put, List.setIfInBounds_toArray, List.set_cons_zero, List.set_cons_succ]
      refine wpAnyG_takeY (i := 13) (v := ?_) rfl (by kernel_rfl) (by decide +kernel) (by decide +kernel) (by decide +kernel) (fun _ _ _ h => h) (by kernel_rfl) ?_ (by assumption) ?_
      rotate_left
      · (intro wz; go_simp; with_reducible rfl)
      try simp only [Act.put, List.setIfInBounds_toArray, List.set_cons_zero, List.set_cons_succ]
      refine wpAnyG_take (i := 14) (v := ?_) rfl (by kernel_rfl) (by decide +kernel) (by decide +kernel) (by decide +kernel) (by decide +kernel) (by rfl) (fun _ _ _ h => h) (by kernel_rfl) ?_ (by assumption) ?_
      rotate_left
      · (intro wz hSw; (try dsimp only at hSw); go_simp; with_reducible rfl)
      try simp only [Act.put, List.setIfInBounds_toArray, List.set_cons_zero, List.set_cons_succ]
      refine wpAnyG_takeY (i := 15) (v := ?_) rfl (by kernel_rfl) (by decide +kernel) (by decide +kernel) (by decide +kernel) (fun _ _ _ h => h) (by kernel_rfl) ?_ (by assumption) ?_
      rotate_left
      · (intro wz; go_simp; with_reducible rfl)
      try simp only [Act.put, List.setIfInBounds_toArray, List.set_cons_zero, List.set_cons_succ]
      refine wpAnyG_takeY (i := 16) (v := ?_) rfl (by kernel_rfl) (by decide +kernel) (by decide +kernel) (by decide +kernel) (fun _ _ _ h => h) (by kernel_rfl) ?_ (by assumption) ?_
      rotate_left
      · (intro wz; go_simp; with_reducible rfl)
      try simp only [Act.put, List.setIfInBounds_toArray, List.set_cons_zero, List.set_cons_succ]
      refine wpAnyG_take (i := 17) (v := ?_) rfl (by kernel_rfl) (by decide +kernel) (by decide +kernel) (by decide +kernel) (by decide +kernel) (by rfl) (fun _ _ _ h => h) (by kernel_rfl) ?_ (by assumption) ?_
      rotate_left
      · (intro wz hSw; (try dsimp only at hSw); go_simp; with_reducible rfl)
      try simp only [Act.put, List.setIfInBounds_toArray, List.set_cons_zero, List.set_cons_succ]
      refine wpAnyG_takeY (i := 18) (v := ?_) rfl (by kernel_rfl) (by decide +kernel) (by decide +kernel) (by decide +kernel) (fun _ _ _ h => h) (by kernel_rfl) ?_ (by assumption) ?_
      rotate_left
      · (intro wz; go_simp; with_reducible rfl)
      try simp only [Act.put, List.setIfInBounds_toArray, List.set_cons_zero, List.set_cons_succ]
      refine wpAnyG_takeY (i := 19) (v := ?_) rfl (by kernel_rfl) (by decide +kernel) (by decide +kernel) (by decide +kernel) (fun _ _ _ h => h) (by kernel_rfl) ?_ (by assumption) ?_
      rotate_left
      · (intro wz; go_simp; with_reducible rfl)
      try simp only [Act.put, List.setIfInBounds_toArray, List.set_cons_zero, List.set_cons_succ]
      refine wpAnyG_takeY (i := 20) (v := ?_) rfl (by kernel_rfl) (by decide +kernel) (by decide +kernel) (by decide +kernel) (fun _ _ _ h => h) (by kernel_rfl) ?_ (by assumption) ?_
      rotate_left
      · (intro wz; go_simp; with_reducible rfl)
      try simp only [Act.put, List.setIfInBounds_toArray, List.set_cons_zero, List.set_cons_succ]
      refine wpAnyG_take (i := 21) (v := ?_) rfl (by kernel_rfl) (by decide +kernel) (by decide +kernel) (by decide +kernel) (by decide +kernel) (by rfl) (fun _ _ _ h => h) (by kernel_rfl) ?_ (by assumption) ?_
      rotate_left
      · (intro wz hSw; (try dsimp only at hSw); go_simp; with_reducible rfl)
      try simp only [Act.put, List.setIfInBounds_toArray, List.set_cons_zero, List.set_cons_succ]
      refine wpAnyG_takeY (i := 22) (v := ?_) rfl (by kernel_rfl) (by decide +kernel) (by decide +kernel) (by decide +kernel) (fun _ _ _ h => h) (by kernel_rfl) ?_ (by assumption) ?_
      rotate_left
      · (intro wz; go_simp; with_reducible rfl)
      try simp only [Act.put, List.setIfInBounds_toArray, List.set_cons_zero, List.set_cons_succ]
      refine wpAnyG_take (i := 23) (v := ?_) rfl (by kernel_rfl) (by decide +kernel) (by decide +kernel) (by decide +kernel) (by decide +kernel) (by rfl) (fun _ _ _ h => h) (by kernel_rfl) ?_ (by assumption) ?_
      rotate_left
      · (intro wz hSw; (try dsimp only at hSw); go_simp; with_reducible rfl)
      try simp only [Act.put, List.setIfInBounds_toArray, List.set_cons_zero, List.set_cons_succ]
      refine wpAnyG_takeY (i := 24) (v := ?_) rfl (by kernel_rfl) (by decide +kernel) (by decide +kernel) (by decide +kernel) (fun _ _ _ h => h) (by kernel_rfl) ?_ (by assumption) ?_
      rotate_left
      · (intro wz; go_simp; with_reducible rfl)
      try simp only [Act.put, List.setIfInBounds_toArray, List.set_cons_zero, List.set_cons_succ]
      refine wpAnyG_takeY (i := 25) (v := ?_) rfl (by kernel_rfl) (by decide +kernel) (by decide +kernel) (by decide +kernel) (fun _ _ _ h => h) (by kernel_rfl) ?_ (by assumption) ?_
      rotate_left
      · (intro wz; go_simp; with_reducible rfl)
      try simp only [Act.put, List.setIfInBounds_toArray, List.set_cons_zero, List.set_cons_succ]
      refine wpAnyG_takeY (i := 26) (v := ?_) rfl (by kernel_rfl) (by decide +kernel) (by decide +kernel) (by decide +kernel) (fun _ _ _ h => h) (by kernel_rfl) ?_ (by assumption) ?_
      rotate_left
      · (intro wz; go_simp; with_reducible rfl)
      try simp only [Act.put, List.setIfInBounds_toArray, List.set_cons_zero, List.set_cons_succ]
      refine wpAnyG_take (i := 27) (v := ?_) rfl (by kernel_rfl) (by decide +kernel) (by decide +kernel) (by decide +kernel) (by decide +kernel) (by rfl) (fun _ _ _ h => h) (by kernel_rfl) ?_ (by assumption) ?_
      rotate_left
      · (intro wz hSw; (try dsimp only at hSw); go_simp; with_reducible rfl)
      try simp only [Act.put, List.setIfInBounds_toArray, List.set_cons_zero, List.set_cons_succ]
      refine wpAnyG_takeY (i := 28) (v := ?_) rfl (by kernel_rfl) (by decide +kernel) (by decide +kernel) (by decide +kernel) (fun _ _ _ h => h) (by kernel_rfl) ?_ (by assumption) ?_
      rotate_left
      · (intro wz; go_simp; with_reducible rfl)
      try simp only [Act.put, List.setIfInBounds_toArray, List.set_cons_zero, List.set_cons_succ]
      refine wpAnyG_takeY (i := 29) (v := ?_) rfl (by kernel_rfl) (by decide +kernel) (by decide +kernel) (by decide +kernel) (fun _ _ _ h => h) (by kernel_rfl) ?_ (by assumption) ?_
      rotate_left
      · (intro wz; go_simp; with_reducible rfl)
      try simp only [Act.put, List.setIfInBounds_toArray, List.set_cons_zero, List.set_cons_succ]
      refine wpAnyG_take (i := 30) (v := ?_) rfl (by kernel_rfl) (by decide +kernel) (by decide +kernel) (by decide +kernel) (by decide +kernel) (by rfl) (fun _ _ _ h => h) (by kernel_rfl) ?_ (by assumption) ?_
      rotate_left
      · (intro wz hSw; (try dsimp only at hSw); go_simp; with_reducible rfl)
      try simp only [Act.put, List.setIfInBounds_toArray, List.set_cons_zero, List.set_cons_succ]
      refine wpAnyG_takeY (i := 31) (v := ?_) rfl (by kernel_rfl) (by decide +kernel) (by decide +kernel) (by decide +kernel) (fun _ _ _ h => h) (by kernel_rfl) ?_ (by assumption) ?_
      rotate_left
      · (intro wz; go_simp; with_reducible rfl)
      try simp only [Act.put, List.setIfInBounds_toArray, List.set_cons_zero, List.set_cons_succ]
      refine wpAnyG_one (i := 32) rfl (by kernel_rfl) (by kernel_rfl) (fun K hK => ?_)
      have HK := Lib.hid hK
      clear hK
      go_simp
      refine HK.out _ _ hFa ?_
      clear HK K
      try simp only [Act.put, List.setIfInBounds_toArray, List.set_cons_zero, List.set_cons_succ]
      refine wpAnyG_one (i := 33) rfl (by kernel_rfl) (by kernel_rfl) (fun K hK => ?_)
      have HK := Lib.hid hK
      clear hK
      refine wpO_append (.tmp 21) (.tmp 53) 89 rfl _ _ rfl rfl _ _ run3 ?_
      refine HK.out _ _ hF3 ?_
      clear HK K
      try simp only [Act.put, List.setIfInBounds_toArray, List.set_cons_zero, List.set_cons_succ]
      refine wpAnyG_takeY (i := 34) (v := ?_) rfl (by kernel_rfl) (by decide +kernel) (by decide +kernel) (by decide +kernel) (fun _ _ _ h => h) (by kernel_rfl) ?_ (by assumption) ?_
      rotate_left
      · (intro wz; go_simp; with_reducible rfl)
      try simp only [Act.put, List.setIfInBounds_toArray, List.set_cons_zero, List.set_cons_succ]
      refine wpAnyG_done (by kernel_rfl) ?_ _
      go_simp
      all_goals
        clear y1 u1 u2 u3 run3 hFa hF3
        go_wp2_with fail
        go_roundw
        case rel => exact ⟨i + 1, some ⟨ga, 0, none⟩, cap, by omega, by go_num, rfl, Lib.hid ⟨R3.out, K3.out⟩⟩
        case measure => simp [intOf]; omega
    · obtain rfl : i = n := by omega
      have hge : ¬ (i : Int) < (i : Int) := by omega
      go_wp2_with fail
      go_ret
      exact ⟨ao, co, by rw [rowPs_len]; rfl, I.out.1, I.out.2⟩
set_option maxRecDepth 100000 in
set_option maxHeartbeats 8000000 in
theorem rpairs_own {k j fb sb t lo : Nat} {a : Option Addr} {ST S : List Nat} {m : Option Nat} {f : Fam} {ks : List ByteArray} {T : Tab} {ver : Nat} {c : C4} {w : World} (G : Good10 k j f ks (.own T)) (A : RAt10 fb sb t lo a ST S m f (.own T) ver c w) :
    Calls Tryz.prog 38 #[.pointer (some ⟨sb, 0, none⟩)] w (Pairs10 ((liveL T.E).map (ownP f.N)) w) := by
  have hw : OwnOk j f.N T := G.w
  have OE := Lib.hid hw.e
  have hj := G.j9
  have TE : T.E.length ≤ 1000 := by have := hw.t.ek; omega
  have hlv := liveN_le T.E
  obtain ⟨t2, lo2, b1, v1, _⟩ := A.s
  obtain ⟨cN, f1, q1⟩ := A.F.b
  have QN := Lib.hid q1
  obtain ⟨ta, tc, tcb, g1, g2, _⟩ := v1
  have AL := rall_any t2 lo2 T.L tc ta T.E _ _ _ _ _ _ w g1 g2 (by omega)
  obtain ⟨P, hP⟩ := ex_hid (liveL T.E)
  have HPL := Lib.hid (show P.length = liveN T.E from by rw [hP.out, liveL_len])
  rw [← hP.out] at AL OE ⊢
  obtain ⟨n, hn⟩ := ex_hid P.length
  rw [show liveN T.E = n from by rw [hn.out]; exact HPL.out.symm] at AL hlv
  obtain ⟨nN, hnN⟩ := ex_hid f.N.length
  rw [← hnN.out] at f1
  have hn9 : n ≤ 1000 := by omega
  have HNP := Lib.hid (show (P.map (ownP f.N)).length = n from by rw [List.length_map, hn.out])
  have HNP2 := Lib.hid (show Pairs10 (P.map (ownP f.N)) w = Pairs10 ((P.map (ownP f.N)).take n) w from by rw [List.take_of_length_le (by rw [HNP.out]; exact Nat.le_refl _)])
  rw [HNP2.out]
  have s0 : w.cell? ⟨sb, 0, none⟩ = some (.pointer (some ⟨fb, 0, none⟩)) := cell_has b1 (i := 0) rfl
  have s2 : w.cell? ⟨sb, 2, none⟩ = some (.pointer (some ⟨t2, 0, none⟩)) := cell_has b1 (i := 2) rfl
  have f3 : w.cell? ⟨fb, 3, none⟩ = some (.slice a nN cN) := cell_has f1 (i := 3) rfl
  clear G A b1 f1 q1 g1 g2 hj hw TE hlv
  go_enter Tryz.func38, Tryz.ntmps38
  go_wp2_with fail
  refine AL.mono ?_
  rintro r w1 ⟨al, cl, rfl, e1, k1⟩
  have E1 := Lib.hid e1
  have K1 := Lib.hid k1
  have s0 := k1.cell s0 (by simp)
  have f3 := k1.cell f3 (by simp)
  have QN := Lib.hid (QN.out.keeps K1.out (by simp))
  clear AL e1 k1 s2
  go_wp2_with fail
  go_loopw [3, 6] (fun z3 z6 wr => ∃ (i : Nat) (ao : Option Addr) (co : Nat), i ≤ n ∧ z6 = .int .i64 i ∧ z3 = .slice ao i co ∧ Hid (PairRow w1.heap.size ao co ((P.map (ownP f.N)).take i) wr ∧ Keeps [] w1 wr)) (fun _ z6 _ => n - (intOf z6).toNat)
  case atStart => exact ⟨0, none, 0, Nat.zero_le _, rfl, rfl, Lib.hid ⟨PairRow.nil _ _, Keeps.refl _ _⟩⟩
  case round =>
    obtain ⟨i, ao, co, hi, rfl, rfl, I⟩ := hrel
    have TL := Lib.hid (show ((P.map (ownP f.N)).take i).length = i from by rw [List.length_take, HNP.out]; omega)
    by_cases hlt : i < n
    · have i1 : (i : Int) < (n : Int) := by omega
      have i0 : (0 : Int) ≤ (i : Int) := by omega
      obtain ⟨x, hx⟩ : ∃ x, P[i]? = some x := ⟨_, List.getElem?_eq_getElem (by rw [← hn.out]; exact hlt)⟩
      obtain ⟨q, s, e5, e4, _⟩ := OE.out x (List.mem_of_getElem? hx)
      have hqN := (List.getElem?_eq_some_iff.1 e5).1
      rw [← hnN.out] at hqN
      obtain ⟨ge, rfl⟩ := E1.out.shape (by have := hn.out; omega)
      obtain ⟨gn, rfl⟩ := QN.out.shape (by have := hnN.out; omega)
      have u1 : w1.cell? ⟨ge, i * 5 + 2, none⟩ = some (.int .i64 (q : Nat)) := by rw [← e4]; exact (E1.out.five hx).2.2.1
      have u3 : w1.cell? ⟨ge, i * 5 + 3, none⟩ = some (.int .i64 x.val) := (E1.out.five hx).2.2.2.1
      have u2 : w1.cell? ⟨gn, q, none⟩ = some (.string (f.N.getD q .empty)) := QN.out.cell (k := q) (by rw [← hnN.out]; exact hqN)
      have q0 : (0 : Int) ≤ (q : Int) := by omega
      have q1 : (q : Int) < (nN : Int) := by omega
      obtain ⟨y, hy⟩ := ex_hid (f.N.getD q .empty)
      obtain ⟨v, hv⟩ := ex_hid x.val
      rw [← hy.out] at u2
      rw [← hv.out] at u3
      have PE := Lib.hid (show (P.map (ownP f.N))[i]? = some (y, v) from by rw [List.getElem?_map, hx, Option.map_some, ownP_of e5 e4, hy.out, hv.out, getD_of10 e5])
      have kd : Keeps [] wr (wr.alloc (.cells #[.string y, .int .i64 v] 134)).drew := ((Keeps.refl [] wr).alloc _).drew
      obtain ⟨ga, cap, w3, run3, r3, k3, g3, l3⟩ := pair_append w1.heap.size ao co ((P.map (ownP f.N)).take i) (y, v) _ wr.heap.size (PairRow.keeps I.out.1 kd (by simp)) (has_drew (has_new wr _)) (by rw [TL.out]; omega) (by have := kd.size; have := I.out.2.size; omega)
      rw [TL.out] at run3
      have R3 := Lib.hid (show PairRow w1.heap.size (some ⟨ga, 0, none⟩) cap ((P.map (ownP f.N)).take (i + 1)) w3 from by rw [List.take_add_one, PE.out]; exact r3)
      have K3 := Lib.hid (show Keeps [] w1 w3 from (I.out.2.trans kd).then k3 (fun z hz => .inl (PairRow.blk_lt I.out.1 z hz).1))
      have KD := Lib.hid (I.out.2.trans kd)
      clear e4 e5 hx hqN kd r3 k3 g3 l3
      go_upto_region 12 with (fail)
      have hFa : (fun w' : World => w'.cell? ⟨sb, 0, none⟩ = some (.pointer (some ⟨fb, 0, none⟩)) ∧ w'.cell? ⟨fb, 3, none⟩ = some (.slice (some ⟨gn, 0, none⟩) nN cN) ∧ w'.cell? ⟨ge, i * 5 + 2, none⟩ = some (.int .i64 (q : Nat)) ∧ w'.cell? ⟨gn, q, none⟩ = some (.string y) ∧ w'.cell? ⟨ge, i * 5 + 3, none⟩ = some (.int .i64 v)) (wr.alloc (.cells #[.string y, .int .i64 v] 134)).drew := ⟨KD.out.cell s0 (by simp), KD.out.cell f3 (by simp), KD.out.cell u1 (by simp), KD.out.cell u2 (by simp), KD.out.cell u3 (by simp)⟩
      have hF3 : (fun w' : World => w'.cell? ⟨sb, 0, none⟩ = some (.pointer (some ⟨fb, 0, none⟩)) ∧ w'.cell? ⟨fb, 3, none⟩ = some (.slice (some ⟨gn, 0, none⟩) nN cN) ∧ w'.cell? ⟨ge, i * 5 + 2, none⟩ = some (.int .i64 (q : Nat)) ∧ w'.cell? ⟨gn, q, none⟩ = some (.string y) ∧ w'.cell? ⟨ge, i * 5 + 3, none⟩ = some (.int .i64 v)) w3 := ⟨K3.out.cell s0 (by simp), K3.out.cell f3 (by simp), K3.out.cell u1 (by simp), K3.out.cell u2 (by simp), K3.out.cell u3 (by simp)⟩
      refine wp_regionG (fun w' => w'.cell? ⟨sb, 0, none⟩ = some (.pointer (some ⟨fb, 0, none⟩)) ∧ w'.cell? ⟨fb, 3, none⟩ = some (.slice (some ⟨gn, 0, none⟩) nN cN) ∧ w'.cell? ⟨ge, i * 5 + 2, none⟩ = some (.int .i64 (q : Nat)) ∧ w'.cell? ⟨gn, q, none⟩ = some (.string y) ∧ w'.cell? ⟨ge, i * 5 + 3, none⟩ = some (.int .i64 v)) 24 (by kernel_rfl) ⟨I.out.2.cell s0 (by simp), I.out.2.cell f3 (by simp), I.out.2.cell u1 (by simp), I.out.2.cell u2 (by simp), I.out.2.cell u3 (by simp)⟩ (fun hF => ?_)
      refine wpAnyG_takeY (i := 0) (v := ?_) rfl (by kernel_rfl) (by decide +kernel) (by decide +kernel) (by decide +kernel) (fun _ _ _ h => h) (by kernel_rfl) ?_ (by assumption) ?_
      rotate_left
      · (intro wz; go_simp; with_reducible rfl)
      try simp only [Act.put, List.setIfInBounds_toArray, List.set_cons_zero, List.set_cons_succ]
      refine wpAnyG_takeY (i := 1) (v := ?_) rfl (by kernel_rfl) (by decide +kernel) (by decide +kernel) (by decide +kernel) (fun _ _ _ h => h) (by kernel_rfl) ?_ (by assumption) ?_
      rotate_left
      · (intro wz; go_simp; with_reducible rfl)
      try simp only [Act.put, List.setIfInBounds_toArray, List.set_cons_zero, List.set_cons_succ]
      refine wpAnyG_takeY (i := 2) (v := ?_) rfl (by kernel_rfl) (by decide +kernel) (by decide +kernel) (by decide +kernel) (fun _ _ _ h => h) (by kernel_rfl) ?_ (by assumption) ?_
      rotate_left
      · (intro wz; go_simp; with_reducible rfl)
      try simp only [Act.put, List.setIfInBounds_toArray, List.set_cons_zero, List.set_cons_succ]
      refine wpAnyG_takeY (i := 3) (v := ?_) rfl (by kernel_rfl) (by decide +kernel) (by decide +kernel) (by decide +kernel) (fun _ _ _ h => h) (by kernel_rfl) ?_ (by assumption) ?_
      rotate_left
      · (intro wz; go_simp; with_reducible rfl)
      try simp only [Act.put, List.setIfInBounds_toArray, List.set_cons_zero, List.set_cons_succ]
      refine wpAnyG_take (i := 4) (v := ?_) rfl (by kernel_rfl) (by decide +kernel) (by decide +kernel) (by decide +kernel) (by decide +kernel) (by rfl) (fun _ _ _ h => h) (by kernel_rfl) ?_ (by assumption) ?_
      rotate_left
      · (intro wz hSw; (try dsimp only at hSw); go_simp; with_reducible rfl)
      try simp only [Act.put, List.setIfInBounds_toArray, List.set_cons_zero, List.set_cons_succ]
      refine wpAnyG_takeY (i := 5) (v := ?_) rfl (by kernel_rfl) (by decide +kernel) (by decide +kernel) (by decide +kernel) (fun _ _ _ h => h) (by kernel_rfl) ?_ (by assumption) ?_
      rotate_left
      · (intro wz; go_simp; with_reducible rfl)
      try simp only [Act.put, List.setIfInBounds_toArray, List.set_cons_zero, List.set_cons_succ]
      refine wpAnyG_takeY (i := 6) (v := ?_) rfl (by kernel_rfl) (by decide +kernel) (by decide +kernel) (by decide +kernel) (fun _ _ _ h => h) (by kernel_rfl) ?_ (by assumption) ?_
      rotate_left
      · (intro wz; go_simp; with_reducible rfl)
      try simp only [Act.put, List.setIfInBounds_toArray, List.set_cons_zero, List.set_cons_succ]
      refine wpAnyG_take (i := 7) (v := ?_) rfl (by kernel_rfl) (by decide +kernel) (by decide +kernel) (by decide +kernel) (by decide +kernel) (by rfl) (fun _ _ _ h => h) (by kernel_rfl) ?_ (by assumption) ?_
      rotate_left
      · (intro wz hSw; (try dsimp only at hSw); go_simp; with_reducible rfl)
      try simp only [Act.put, List.setIfInBounds_toArray, List.set_cons_zero, List.set_cons_succ]
      refine wpAnyG_takeY (i := 8) (v := ?_) rfl (by kernel_rfl) (by decide +kernel) (by decide +kernel) (by decide +kernel) (fun _ _ _ h => h) (by kernel_rfl) ?_ (by assumption) ?_
      rotate_left
      · (intro wz; go_simp; with_reducible rfl)
      try simp only [Act.put, List.setIfInBounds_toArray, List.set_cons_zero, List.set_cons_succ]
      refine wpAnyG_takeY (i := 9) (v := ?_) rfl (by kernel_rfl) (by decide +kernel) (by decide +kernel) (by decide +kernel) (fun _ _ _ h => h) (by kernel_rfl) ?_ (by assumption) ?_
      rotate_left
      · (intro wz; go_simp; with_reducible rfl)
      try simp only [Act.put, List.setIfInBounds_toArray, List.set_cons_zero, List.set_cons_succ]
      refine wpAnyG_takeY (i := 10) (v := ?_) rfl (by kernel_rfl) (by decide +kernel) (by decide +kernel) (by decide +kernel) (fun _ _ _ h => h) (by kernel_rfl) ?_ (by assumption) ?_
      rotate_left
      · (intro wz; go_simp; with_reducible rfl)
      try simp only [Act.put, List.setIfInBounds_toArray, List.set_cons_zero, List.set_cons_succ]
      refine wpAnyG_takeY (i := 11) (v := ?_) rfl (by kernel_rfl) (by decide +kernel) (by decide +kernel) (by decide +kernel) (fun _ _ _ h => h) (by kernel_rfl) ?_ (by assumption) ?_
      rotate_left
      · (intro wz; go_simp; with_reducible rfl)
      try simp only [Act.put, List.setIfInBounds_toArray, List.set_cons_zero, List.set_cons_succ]
      refine wpAnyG_take (i := 12) (v := ?_) rfl (by kernel_rfl) (by decide +kernel) (by decide +kernel) (by decide +kernel) (by decide +kernel) (by rfl) (fun _ _ _ h => h) (by kernel_rfl) ?_ (by assumption) ?_
      rotate_left
      · (intro wz hSw; (try dsimp only at hSw); go_simp; with_reducible rfl)
      try simp only [Act.put, List.setIfInBounds_toArray, List.set_cons_zero, List.set_cons_succ]
      refine wpAnyG_takeY (i := 13) (v := ?_) rfl (by kernel_rfl) (by decide +kernel) (by decide +kernel) (by decide +kernel) (fun _ _ _ h => h) (by kernel_rfl) ?_ (by assumption) ?_
      rotate_left
      · (intro wz; go_simp; with_reducible rfl)
      try simp only [Act.put, List.setIfInBounds_toArray, List.set_cons_zero, List.set_cons_succ]
      refine wpAnyG_take (i := 14) (v := ?_) rfl (by kernel_rfl) (by decide +kernel) (by decide +kernel) (by decide +kernel) (by decide +kernel) (by rfl) (fun _ _ _ h => h) (by kernel_rfl) ?_ (by assumption) ?_
      rotate_left
      · (intro wz hSw; (try dsimp only at hSw); go_simp; with_reducible rfl)
      try simp only [Act.put, List.setIfInBounds_toArray, List.set_cons_zero, List.set_cons_succ]
      refine wpAnyG_takeY (i := 15) (v := ?_) rfl (by kernel_rfl) (by decide +kernel) (by decide +kernel) (by decide +kernel) (fun _ _ _ h => h) (by kernel_rfl) ?_ (by assumption) ?_
      rotate_left
      · (intro wz; go_simp; with_reducible rfl)
      try simp only [Act.put, List.setIfInBounds_toArray, List.set_cons_zero, List.set_cons_succ]
      refine wpAnyG_takeY (i := 16) (v := ?_) rfl (by kernel_rfl) (by decide +kernel) (by decide +kernel) (by decide +kernel) (fun _ _ _ h => h) (by kernel_rfl) ?_ (by assumption) ?_
      rotate_left
      · (intro wz; go_simp; with_reducible rfl)
      try simp only [Act.put, List.setIfInBounds_toArray, List.set_cons_zero, List.set_cons_succ]
      refine wpAnyG_takeY (i := 17) (v := ?_) rfl (by kernel_rfl) (by decide +kernel) (by decide +kernel) (by decide +kernel) (fun _ _ _ h => h) (by kernel_rfl) ?_ (by assumption) ?_
      rotate_left
      · (intro wz; go_simp; with_reducible rfl)
      try simp only [Act.put, List.setIfInBounds_toArray, List.set_cons_zero, List.set_cons_succ]
      refine wpAnyG_takeY (i := 18) (v := ?_) rfl (by kernel_rfl) (by decide +kernel) (by decide +kernel) (by decide +kernel) (fun _ _ _ h => h) (by kernel_rfl) ?_ (by assumption) ?_
      rotate_left
      · (intro wz; go_simp; with_reducible rfl)
      try simp only [Act.put, List.setIfInBounds_toArray, List.set_cons_zero, List.set_cons_succ]
      refine wpAnyG_take (i := 19) (v := ?_) rfl (by kernel_rfl) (by decide +kernel) (by decide +kernel) (by decide +kernel) (by decide +kernel) (by rfl) (fun _ _ _ h => h) (by kernel_rfl) ?_ (by assumption) ?_
      rotate_left
      · (intro wz hSw; (try dsimp only at hSw); go_simp; with_reducible rfl)
      try simp only [Act.put, List.setIfInBounds_toArray, List.set_cons_zero, List.set_cons_succ]
      refine wpAnyG_takeY (i := 20) (v := ?_) rfl (by kernel_rfl) (by decide +kernel) (by decide +kernel) (by decide +kernel) (fun _ _ _ h => h) (by kernel_rfl) ?_ (by assumption) ?_
      rotate_left
      · (intro wz; go_simp; with_reducible rfl)
      try simp only [Act.put, List.setIfInBounds_toArray, List.set_cons_zero, List.set_cons_succ]
      refine wpAnyG_one (i := 21) rfl (by kernel_rfl) (by kernel_rfl) (fun K hK => ?_)
      have HK := Lib.hid hK
      clear hK
      go_simp
      refine HK.out _ _ hFa ?_
      clear HK K
      try simp only [Act.put, List.setIfInBounds_toArray, List.set_cons_zero, List.set_cons_succ]
      refine wpAnyG_one (i := 22) rfl (by kernel_rfl) (by kernel_rfl) (fun K hK => ?_)
      have HK := Lib.hid hK
      clear hK
      refine wpO_append (.tmp 67) (.tmp 88) 89 rfl _ _ rfl rfl _ _ run3 ?_
      refine HK.out _ _ hF3 ?_
      clear HK K
      try simp only [Act.put, List.setIfInBounds_toArray, List.set_cons_zero, List.set_cons_succ]
      refine wpAnyG_takeY (i := 23) (v := ?_) rfl (by kernel_rfl) (by decide +kernel) (by decide +kernel) (by decide +kernel) (fun _ _ _ h => h) (by kernel_rfl) ?_ (by assumption) ?_
      rotate_left
      · (intro wz; go_simp; with_reducible rfl)
      try simp only [Act.put, List.setIfInBounds_toArray, List.set_cons_zero, List.set_cons_succ]
      refine wpAnyG_done (by kernel_rfl) ?_ _
      go_simp
      all_goals
        clear u1 u2 u3 run3 hFa hF3
        go_wp2_with fail
        go_roundw
        case rel => exact ⟨i + 1, some ⟨ga, 0, none⟩, cap, by omega, by go_num, rfl, Lib.hid ⟨R3.out, K3.out⟩⟩
        case measure => simp [intOf]; omega
    · obtain rfl : i = n := by omega
      have hge : ¬ (i : Int) < (i : Int) := by omega
      have RL := Lib.hid (prow_lift (lo' := w.heap.size) I.out.1 (fun z hz => by have := (PairRow.blk_lt I.out.1 z hz).1; have := K1.out.size; omega))
      go_wp2_with fail
      go_ret
      exact ⟨ao, co, by rw [TL.out]; rfl, RL.out, K1.out.trans I.out.2⟩
theorem rpairs10_any {k j fb sb t lo : Nat} {a : Option Addr} {ST S : List Nat} {m : Option Nat} {f : Fam} {ks : List ByteArray} {wy : Way10} {ver : Nat} {c : C4} {w : World} (G : Good10 k j f ks wy) (A : RAt10 fb sb t lo a ST S m f wy ver c w) :
    Calls Tryz.prog 38 #[.pointer (some ⟨sb, 0, none⟩)] w (Pairs10 (pairsW f wy) w) := by
  cases wy with
  | row vs => exact rpairs_row G A
  | own T => exact rpairs_own G A
end Go.Proofs.YtajmfenfajbakaaGreat
end

section
namespace Go.Proofs.YtajmfenfajbakaaGreat
open Go.RowKit
set_option linter.unusedVariables false
set_option linter.unusedSimpArgs false

set_option maxRecDepth 100000 in
theorem rdel_no {k j fb sb t lo : Nat} {a : Option Addr} {ST S : List Nat} {m : Option Nat} {f : Fam} {ks : List ByteArray} {wy : Way10} {ver : Nat} {c : C4} {w : World} (G : Good10 k j f ks wy) (A : RAt10 fb sb t lo a ST S m f wy ver c w) (s : ByteArray) (hs : s.size ≤ 1000000) (h0 : ¬ 0 ≤ (findW f s c wy).1) :
    Calls Tryz.prog 32 #[.pointer (some ⟨sb, 0, none⟩), .string s] w (RDid10 fb sb t lo a ST S m 7 f wy ver (findW f s c wy).2 w) := by
  have FI := rfinds_any G A s hs
  have HA := Lib.hid A
  obtain ⟨c1, hc1⟩ := ex_hid (findW f s c wy).2
  obtain ⟨g, hg⟩ := ex_hid (findW f s c wy).1
  rw [← hc1.out, ← hg.out] at FI
  rw [← hg.out] at h0
  rw [← hc1.out]
  have g0 : g < 0 := by omega
  clear G A h0
  go_enter Tryz.func32, Tryz.ntmps32
  go_wp2_with fail
  refine FI.mono ?_
  rintro r w1 ⟨rfl, m1, k1⟩
  have A1 := Lib.hid (HA.out.met k1 m1)
  have K1 := Lib.hid k1
  clear FI m1 k1
  go_wp2_with fail
  go_ret
  exact ⟨rfl, a, ST, S, A1.out, K1.out.mono (fun z hz => by simp [hz]), Grew.refl _ _, Grew.refl _ _⟩
set_option maxRecDepth 100000 in
theorem rdel_own {k j fb sb t lo : Nat} {a : Option Addr} {ST S : List Nat} {m : Option Nat} {f : Fam} {ks : List ByteArray} {T : Tab} {ver : Nat} {c : C4} {w : World} (G : Good10 k j f ks (.own T)) (A : RAt10 fb sb t lo a ST S m f (.own T) ver c w) (s : ByteArray) (hs : s.size ≤ 1000000) (hver : ver ≤ 1000000) (h0 : 0 ≤ (findW f s c (.own T)).1) :
    Calls Tryz.prog 32 #[.pointer (some ⟨sb, 0, none⟩), .string s] w (RDid10 fb sb t lo a ST S m 0 f (.own (T.kill (findW f s c (.own T)).1)) (ver + 1) (findW f s c (.own T)).2 w) := by
  have FI := rfinds_any G A s hs
  have hw : OwnOk j f.N T := G.w
  have HTI := Lib.hid hw.t
  have hj := G.j9
  have HA := Lib.hid A
  obtain ⟨c1, hc1⟩ := ex_hid (findW f s c (.own T)).2
  obtain ⟨g, hg⟩ := ex_hid (findW f s c (.own T)).1
  rw [← hc1.out, ← hg.out] at FI
  rw [← hg.out] at h0
  rw [← hc1.out, ← hg.out]
  have g0 : ¬ g < 0 := by omega
  have hv1 : wrap64 ((ver : Int) + 1) = ((ver + 1 : Nat) : Int) := rbump10 hver
  clear G A hw
  go_enter Tryz.func32, Tryz.ntmps32
  go_wp2_with fail
  refine FI.mono ?_
  rintro r w1 ⟨rfl, m1, k1⟩
  have A1 := Lib.hid (HA.out.met k1 m1)
  have K1 := Lib.hid k1
  obtain ⟨t2, lo2, b1, v1, l1⟩ := A1.out.s
  have s2 : w1.cell? ⟨sb, 2, none⟩ = some (.pointer (some ⟨t2, 0, none⟩)) := cell_has b1 (i := 2) rfl
  have KI := rkill_any j (by omega) t2 lo2 S m T w1 v1 HTI.out g
  have L1 := Lib.hid l1
  have B1 := Lib.hid b1
  clear FI m1 k1 b1 v1 l1
  go_wp2_with fail
  refine KI.mono ?_
  rintro r w2 ⟨rfl, t3, k3⟩
  have A2 := Lib.hid (A1.out.added B1.out L1.out t3 (A1.out.M.keeps k3 (fun b hb hy => by have := A1.out.hm b hb; have := (A1.out.s.foot.2 b hy).1; omega)) (k3.mono (fun z hz => by simp [hz])) (Grew.refl _ _))
  have K2 := Lib.hid (show Keeps (rfamS fb a ST ++ (sb :: S) ++ mS m) w w2 from (K1.out.mono (fun z hz => by simp [hz])).trans (k3.mono (fun z hz => by simp [hz])))
  obtain ⟨A3, K3⟩ := A2.out.bump (ver + 1)
  have A4 := Lib.hid A3
  have K4 := Lib.hid K3
  obtain ⟨row, own, b2⟩ := A2.out.block
  have s3 : w2.cell? ⟨sb, 3, none⟩ = some (.int .i64 (ver : Nat)) := cell_has b2 (i := 3) rfl
  have sf := free_of_has b2 3
  clear KI t3 k3 A3 K3 b2 s2 h0
  go_wp2_with fail
  go_ret
  exact ⟨rfl, a, ST, S, A4.out, K2.out.trans (K4.out.mono (by simp)), Grew.refl _ _, Grew.refl _ _⟩
set_option maxRecDepth 100000 in
theorem rdel_row {k j fb sb t lo : Nat} {a : Option Addr} {ST S : List Nat} {m : Option Nat} {f : Fam} {ks : List ByteArray} {vs : List Int} {ver : Nat} {c : C4} {w : World} (G : Good10 k j f ks (.row vs)) (A : RAt10 fb sb t lo a ST S m f (.row vs) ver c w) (s : ByteArray) (hs : s.size ≤ 1000000) (hver : ver ≤ 1000000) (h0 : 0 ≤ (findW f s c (.row vs)).1) :
    Calls Tryz.prog 32 #[.pointer (some ⟨sb, 0, none⟩), .string s] w (RDid10 fb sb t lo a ST S m 0 f (.own ((privT f vs vs.length).kill (findW f s c (.row vs)).1)) (ver + 1) (privC f vs (findW f s c (.row vs)).2 vs.length).shf w) := by
  have FI := rfinds_any G A s hs
  obtain ⟨hl, hv⟩ : vs.length ≤ ks.length ∧ vs.length ≤ j := G.w
  have hj := G.j9
  have HTI := Lib.hid (show TInv vs.length (privT f vs vs.length) from (privT_ok G.fk hl (by omega) vs.length (Nat.le_refl _)).1.t)
  have hvl : vs.length ≤ 1000 := by omega
  have HA := Lib.hid A
  have HG := Lib.hid G
  obtain ⟨c1, hc1⟩ := ex_hid (findW f s c (.row vs)).2
  obtain ⟨g, hg⟩ := ex_hid (findW f s c (.row vs)).1
  rw [← hc1.out, ← hg.out] at FI
  rw [← hg.out] at h0
  rw [← hc1.out, ← hg.out]
  have g0 : ¬ g < 0 := by omega
  have hv1 : wrap64 ((ver : Int) + 1) = ((ver + 1 : Nat) : Int) := rbump10 hver
  clear G A hl hv
  go_enter Tryz.func32, Tryz.ntmps32
  go_wp2_with fail
  refine FI.mono ?_
  rintro r w1 ⟨rfl, m1, k1⟩
  have A1 := Lib.hid (HA.out.met k1 m1)
  have K1 := Lib.hid k1
  have RP := rpriv_any HG.out A1.out
  unfold RPrivP at RP
  obtain ⟨ar, cr, _, b1, _⟩ := A1.out.s
  have s2 : w1.cell? ⟨sb, 2, none⟩ = some (.pointer none) := cell_has b1 (i := 2) rfl
  obtain ⟨TT, hTT⟩ := ex_hid (privT f vs vs.length)
  obtain ⟨cc, hcc⟩ := ex_hid (privC f vs c1 vs.length).shf
  rw [← hTT.out, ← hcc.out] at RP
  rw [← hTT.out] at HTI
  clear FI m1 k1 b1
  go_wp2_with fail
  refine RP.mono ?_
  rintro r w6 ⟨rfl, S6, a6, k6, n6⟩
  have A6 := Lib.hid a6
  have K6 := Lib.hid k6
  have N6 := Lib.hid n6
  obtain ⟨t2, lo2, b7, v7, l7⟩ := a6.s
  have s2b : w6.cell? ⟨sb, 2, none⟩ = some (.pointer (some ⟨t2, 0, none⟩)) := cell_has b7 (i := 2) rfl
  have KI := rkill_any vs.length hvl t2 lo2 S6 m TT w6 v7 HTI.out g
  have L7 := Lib.hid l7
  have B7 := Lib.hid b7
  clear RP a6 k6 n6 b7 v7 l7 s2
  go_wp2_with fail
  refine KI.mono ?_
  rintro r w2 ⟨rfl, t3, k3⟩
  have A2 := Lib.hid (A6.out.added B7.out L7.out t3 (A6.out.M.keeps k3 (fun b hb hy => by have := A6.out.hm b hb; have := (A6.out.s.foot.2 b hy).1; omega)) (k3.mono (fun z hz => by simp [hz])) (Grew.refl _ _))
  have K2 := Lib.hid (show Keeps (rfamS fb a ST ++ (sb :: S) ++ mS m) w w2 from ((K1.out.mono (fun z hz => by simp [hz])).trans (K6.out.mono (fun z hz => by simp at hz ⊢; rcases hz with h | h <;> simp [h]))).then k3 (fun z hz => by left; have := N6.out z hz; have := K1.out.size; omega))
  obtain ⟨A3, K3⟩ := A2.out.bump (ver + 1)
  have A4 := Lib.hid A3
  have K4 := Lib.hid K3
  obtain ⟨row, own, b2⟩ := A2.out.block
  have s3 : w2.cell? ⟨sb, 3, none⟩ = some (.int .i64 (ver : Nat)) := cell_has b2 (i := 3) rfl
  have sf := free_of_has b2 3
  clear KI t3 k3 A3 K3 b2 s2b h0
  go_wp2_with fail
  go_ret
  have A5 := A4.out
  rw [hTT.out, hcc.out] at A5
  refine ⟨rfl, a, ST, S6, A5, K2.out.trans (K4.out.mono (by simp)), Grew.refl _ _, fun z hz => ?_⟩
  rcases List.mem_cons.1 hz with e | e
  · exact .inl (by simp [e])
  · right; have := N6.out z e; have := K1.out.size; omega
/-- Del, either way. -/
theorem rdel10_any {k j fb sb t lo : Nat} {a : Option Addr} {ST S : List Nat} {m : Option Nat} {f : Fam} {ks : List ByteArray} {wy : Way10} {ver : Nat} {c : C4} {w : World} (G : Good10 k j f ks wy) (A : RAt10 fb sb t lo a ST S m f wy ver c w) (s : ByteArray) (hs : s.size ≤ 1000000) (hver : ver ≤ 1000000) :
    Calls Tryz.prog 32 #[.pointer (some ⟨sb, 0, none⟩), .string s] w (RDid10 fb sb t lo a ST S m (delW f wy c s).1 f (delW f wy c s).2.1 (if (delW f wy c s).1 = 0 then ver + 1 else ver) (delW f wy c s).2.2 w) := by
  by_cases h0 : 0 ≤ (findW f s c wy).1
  · have e : delW f wy c s = (0, .own ((turnT f (findW f s c wy).2 wy).1.kill (findW f s c wy).1), (turnT f (findW f s c wy).2 wy).2) := by unfold delW; rw [if_pos h0]
    rw [e]
    simp only [if_true]
    cases wy with
    | row vs => exact rdel_row G A s hs hver h0
    | own T => exact rdel_own G A s hs hver h0
  · have e : delW f wy c s = (7, wy, (findW f s c wy).2) := by unfold delW; rw [if_neg h0]
    rw [e]
    simp only [show ¬ (7 : Int) = 0 from by decide, if_false]
    exact rdel_no G A s hs h0
/-- Set, either way. -/
theorem rset10_any {k j fb sb t lo : Nat} {a : Option Addr} {ST S : List Nat} {m : Option Nat} {f : Fam} {ks : List ByteArray} {wy : Way10} {ver : Nat} {c : C4} {w : World} (G : Good10 k j f ks wy) (A : RAt10 fb sb t lo a ST S m f wy ver c w) (s : ByteArray) (v : Int) (hs : s.size ≤ 1000000) (hver : ver ≤ 1000000) (hN : f.N.length ≤ 99999) :
    Calls Tryz.prog 29 #[.pointer (some ⟨sb, 0, none⟩), .string s, .int .i64 v] w (RDid10 fb sb t lo a ST S m (setW f wy c s v).1 (setW f wy c s v).2.1 (setW f wy c s v).2.2.1 (if (setW f wy c s v).1 = 0 then ver + 1 else ver) (setW f wy c s v).2.2.2 w) := by
  by_cases h0 : 0 ≤ (findW f s c wy).1
  · have e : setW f wy c s v = (0, f, putW (findW f s c wy).1 v wy, (findW f s c wy).2) := by unfold setW; rw [if_pos h0]
    rw [e]
    simp only [if_true]
    cases wy with
    | row vs => exact rset_orow G A s v hs hver h0
    | own T => exact rset_oown G A s v hs hver h0
  · by_cases hf : f.pairs ≤ (wy.len : Int)
    · have e : setW f wy c s v = (6, f, wy, (findW f s c wy).2) := by unfold setW; rw [if_neg h0, if_pos hf]
      rw [e]
      simp only [show ¬ (6 : Int) = 0 from by decide, if_false]
      exact rset_full G A s v hs h0 hf
    · have e : setW f wy c s v = (0, newW f (findW f s c wy).2 s v wy) := by
        unfold setW
        rw [if_neg h0, if_neg hf]
        cases wy with
        | row vs =>
          cases hr : rowAdd f vs.length s (findW f s c (.row vs)).2 with
          | none => simp only [hr]; rw [newW_none hr]; rfl
          | some x => obtain ⟨f', c'⟩ := x; simp only [hr]; rw [newW_some hr]
        | own T => rfl
      rw [e]
      simp only [if_true]
      exact rset_new G A s v hs hver hN h0 hf
end Go.Proofs.YtajmfenfajbakaaGreat
end

section
namespace Go.Proofs.YtajmfenfajbakaaGreat
open Go.RowKit
set_option linter.unusedVariables false
set_option linter.unusedSimpArgs false

def RFA10 (fb lo : Nat) (S : List Nat) (m : Option Nat) (f : Fam) (W : World) : Prop := ∃ t a ST, S = rfamS fb a ST ∧ RFamAt fb t lo a ST m f W
def RSA10 (fb sb lo : Nat) (S : List Nat) (m : Option Nat) (wy : Way10) (ver : Nat) (W : World) : Prop := lo ≤ sb ∧ ∃ R, S = sb :: R ∧ sb ∉ R ∧ RSpAt fb sb lo R m wy ver W
def sideR10 : Side10 where
  tag := false
  FA := RFA10
  SA := RSA10
  CA := CtrAt
  fk _ _ _ _ _ _ _ _ h k hd := by
    obtain ⟨t, a, ST, rfl, h⟩ := h
    exact ⟨t, a, ST, rfl, h.keeps k hd⟩
  fl _ _ _ _ _ _ h := by
    obtain ⟨t, a, ST, rfl, h⟩ := h
    exact h.foot
  sk _ _ _ _ _ _ _ _ _ _ h k hd := by
    obtain ⟨hl, R, rfl, h0, h⟩ := h
    exact ⟨hl, R, rfl, h0, h.keeps k (hd _ (by simp)) (fun z hz => hd z (by simp [hz]))⟩
  sl _ _ _ _ _ _ _ _ h := by
    obtain ⟨hl, R, rfl, h0, h⟩ := h
    intro z hz
    rcases List.mem_cons.1 hz with rfl | hz
    · exact ⟨hl, h.foot.1⟩
    · exact h.foot.2 z hz
  ck _ _ _ _ _ h k hd := h.keeps k hd
  cl _ _ _ h b hb := lt_of_block (h b hb)
section
variable {m : Option Nat} {lo fb : Nat} {f : Fam} {c : C4} {o o' : Nat → Tg10} {L : List PS10} {W W' : World} {k : Nat} {ks : List ByteArray} {i : Nat} {x : PS10}
theorem SJ.rat10 (h : SJ sideR10 m lo fb f c o L W) (hx : L[i]? = some x) : ∃ t a ST S, RAt10 fb x.sb t lo a ST S m f x.wy x.ver c W ∧ (∀ z, z ∈ rfamS fb a ST → o z = .fam false) ∧ ∀ z, z ∈ x.sb :: S → o z = .sp false i := by
  obtain ⟨SF, ⟨t, a, ST, rfl, h1⟩, h2⟩ := h.fm
  obtain ⟨SS, ⟨hl, R, rfl, h0, h3⟩, h4⟩ := h.sp i x hx
  exact ⟨t, a, ST, R, ⟨h1, h3, h.ct, fun z hz hy => by have := h2 z hz; rw [h4 z hy] at this; simp at this, h0, hl, fun b hb => (h.mt b hb).1⟩, h2, h4⟩
/-- Behind a call that may have changed one namespace and the family. -/
def RJDid (m : Option Nat) (lo fb : Nat) (o : Nat → Tg10) (L : List PS10) (i : Nat) (x : PS10) (e : Int) (f' : Fam) (wy' : Way10) (ver' : Nat) (c' : C4) (W : World) (r : Ending) (W' : World) : Prop :=
  r = .returned (.int .i64 e) ∧ ∃ o', SJ sideR10 m lo fb f' c' o' (L.set i { x with wy := wy', ver := ver' }) W' ∧ MvT (Tg10.side false) o W o' W' ∧ FreeT o' W' ∧ NewT10 o o' W
theorem rjdid (h : SJ sideR10 m lo fb f c o L W) (fr : FreeT o W) (hx : L[i]? = some x) {t : Nat} {a : Option Addr} {ST S : List Nat} (A : RAt10 fb x.sb t lo a ST S m f x.wy x.ver c W) (h2 : ∀ z, z ∈ rfamS fb a ST → o z = .fam false) (h4 : ∀ z, z ∈ x.sb :: S → o z = .sp false i)
    {e : Int} {f' : Fam} {wy' : Way10} {ver' : Nat} {c' : C4} {r : Ending} (hd : RDid10 fb x.sb t lo a ST S m e f' wy' ver' c' W r W') : RJDid m lo fb o L i x e f' wy' ver' c' W r W' := by
  obtain ⟨rfl, a', ST', S', A', k, g1, g2⟩ := hd
  refine ⟨rfl, h.did fr hx h2 (fun z hz => (A.F.foot z hz).2) h4 (fun z hz => ?_) (show RFA10 fb lo (rfamS fb a' ST') m f' W' from ⟨t, a', ST', rfl, A'.F⟩) (show RSA10 fb x.sb lo (x.sb :: S') m wy' ver' W' from ⟨A'.ls, S', rfl, A'.d2, A'.s⟩) A'.M k g1 g2 A'.d1⟩
  rcases List.mem_cons.1 hz with rfl | hz
  · exact A.s.foot.1
  · exact (A.s.foot.2 z hz).2
theorem rjset_any (h : SJ sideR10 m lo fb f c o L W) (fr : FreeT o W) (P : PJ k f ks (L.map PS10.pure)) (hk : k ≤ 900) (hx : L[i]? = some x) (s : ByteArray) (v : Int) (hs : s.size ≤ 200) :
    Calls Tryz.prog 29 #[.pointer (some ⟨x.sb, 0, none⟩), .string s, .int .i64 v] W (RJDid m lo fb o L i x (setW f x.wy c s v).1 (setW f x.wy c s v).2.1 (setW f x.wy c s v).2.2.1 (if (setW f x.wy c s v).1 = 0 then x.ver + 1 else x.ver) (setW f x.wy c s v).2.2.2 W) := by
  obtain ⟨t, a, ST, S, A, h2, h4⟩ := h.rat10 hx
  have hv := (P.sp i _ (pure_at hx)).2
  have hN := P.n
  exact (rset10_any (P.good hk (pure_at hx)) A s v (by omega) (by simp only at hv; omega) (by omega)).mono fun r W' hd => rjdid h fr hx A h2 h4 hd
theorem rjdel_any (h : SJ sideR10 m lo fb f c o L W) (fr : FreeT o W) (P : PJ k f ks (L.map PS10.pure)) (hk : k ≤ 900) (hx : L[i]? = some x) (s : ByteArray) (hs : s.size ≤ 200) :
    Calls Tryz.prog 32 #[.pointer (some ⟨x.sb, 0, none⟩), .string s] W (RJDid m lo fb o L i x (delW f x.wy c s).1 f (delW f x.wy c s).2.1 (if (delW f x.wy c s).1 = 0 then x.ver + 1 else x.ver) (delW f x.wy c s).2.2 W) := by
  obtain ⟨t, a, ST, S, A, h2, h4⟩ := h.rat10 hx
  have hv := (P.sp i _ (pure_at hx)).2
  exact (rdel10_any (P.good hk (pure_at hx)) A s (by omega) (by simp only at hv; omega)).mono fun r W' hd => rjdid h fr hx A h2 h4 hd
theorem rjget_any (h : SJ sideR10 m lo fb f c o L W) (P : PJ k f ks (L.map PS10.pure)) (hk : k ≤ 900) (hx : L[i]? = some x) (s : ByteArray) (hs : s.size ≤ 200) :
    Calls Tryz.prog 30 #[.pointer (some ⟨x.sb, 0, none⟩), .string s] W fun r W' => r = .returned (.tuple #[.int .i64 (if 0 ≤ (findW f s c x.wy).1 then valW (findW f s c x.wy).1 x.wy else 0), .bool (decide (0 ≤ (findW f s c x.wy).1))]) ∧ SJ sideR10 m lo fb f (findW f s c x.wy).2 o L W' ∧ MvT (Tg10.side false) o W o W' ∧ Keeps (mS m) W W' := by
  obtain ⟨t, a, ST, S, A, h2, h4⟩ := h.rat10 hx
  refine (rget10_any (P.good hk (pure_at hx)) A s (by omega)).mono ?_
  rintro r W' ⟨g1, g2, g3⟩
  obtain ⟨q1, q2⟩ := h.met g3 g2
  exact ⟨g1, q1, q2, g3⟩
theorem rjpairs_any (h : SJ sideR10 m lo fb f c o L W) (P : PJ k f ks (L.map PS10.pure)) (hk : k ≤ 900) (hx : L[i]? = some x) :
    Calls Tryz.prog 38 #[.pointer (some ⟨x.sb, 0, none⟩)] W (Pairs10 (pairsW f x.wy) W) := by
  obtain ⟨t, a, ST, S, A, _⟩ := h.rat10 hx
  exact rpairs10_any (P.good hk (pure_at hx)) A
theorem rjlen_any (h : SJ sideR10 m lo fb f c o L W) (hx : L[i]? = some x) :
    Calls Tryz.prog 34 #[.pointer (some ⟨x.sb, 0, none⟩)] W fun r w' => r = .returned (.int .i64 (x.wy.len : Nat)) ∧ W = w' := by
  obtain ⟨t, a, ST, S, A, _⟩ := h.rat10 hx
  exact rlen10_any A
theorem rjsight_any (h : SJ sideR10 m lo fb f c o L W) (P : PJ k f ks (L.map PS10.pure)) (hk : k ≤ 900) (hx : L[i]? = some x) :
    Calls Tryz.prog 40 #[.pointer (some ⟨x.sb, 0, none⟩)] W (SeenP x.wy W) := by
  obtain ⟨t, a, ST, S, A, _⟩ := h.rat10 hx
  exact rsight10_any (P.good hk (pure_at hx)) A
theorem rjnames_any (h : SJ sideR10 m lo fb f c o L W) (P : PJ k f ks (L.map PS10.pure)) (hk : k ≤ 900) :
    Calls Tryz.prog 15 #[.pointer (some ⟨fb, 0, none⟩)] W (Names10 ks W) := by
  obtain ⟨SF, ⟨t, a, ST, rfl, h1⟩, h2⟩ := h.fm
  exact rnames_any k (by omega) fb t lo a ST m f ks W h1 P.fk
/-- The document's key table is looked at. -/
theorem rjkeys_any (h : SJ sideR10 m lo fb f c o L W) (P : PJ k f ks (L.map PS10.pure)) (hk : k ≤ 900) :
    ∃ t, W.cell? ⟨fb, 2, none⟩ = some (.pointer (some ⟨t, 0, none⟩)) ∧ ∀ W', Keeps [] W W' → Calls Tryz.prog 18 #[.pointer (some ⟨t, 0, none⟩)] W' (SightP f.K W') := by
  obtain ⟨SF, ⟨t, a, ST, rfl, h1⟩, h2⟩ := h.fm
  obtain ⟨cN, f1, _⟩ := h1.b
  have hI := P.fk.t
  exact ⟨t, cell_has f1 (i := 2) rfl, fun W' q => rsight_any t lo ST m f.K W' (h1.k.keeps q (by simp)) hI.l3 (by have := hI.l12; omega) (by have := hI.ek; omega)⟩
/-- A namespace's own cells are looked at: its version, and whether it is shared. -/
theorem rjcells (h : SJ sideR10 m lo fb f c o L W) (hx : L[i]? = some x) : ∃ p : Option Addr, W.cell? ⟨x.sb, 2, none⟩ = some (.pointer p) ∧ (p = none ↔ x.wy.isRow = true) ∧ W.cell? ⟨x.sb, 3, none⟩ = some (.int .i64 (x.ver : Nat)) := by
  obtain ⟨t, a, ST, S, A, _⟩ := h.rat10 hx
  have hs := A.s
  cases hw : x.wy with
  | row vs =>
    rw [hw] at hs
    obtain ⟨ar, cr, _, b1, _⟩ := hs
    exact ⟨none, cell_has b1 (i := 2) rfl, by simp [Way10.isRow], cell_has b1 (i := 3) rfl⟩
  | own T =>
    rw [hw] at hs
    obtain ⟨t2, lo2, b1, _⟩ := hs
    exact ⟨some ⟨t2, 0, none⟩, cell_has b1 (i := 2) rfl, by simp [Way10.isRow], cell_has b1 (i := 3) rfl⟩
theorem rjmake_any (h : SJ sideR10 m lo fb f c o L W) (fr : FreeT o W) :
    Calls Tryz.prog 51 #[.pointer (some ⟨fb, 0, none⟩)] W fun r W' => ∃ sb, r = .returned (.pointer (some ⟨sb, 0, none⟩)) ∧ W.heap.size ≤ sb ∧ Keeps [] W W' ∧ ∃ o', SJ sideR10 m lo fb f c o' (L ++ [⟨sb, .row [], 0⟩]) W' ∧ MvT (Tg10.side false) o W o' W' ∧ FreeT o' W' ∧ NewT10 o o' W := by
  refine (rmake_any fb W).mono ?_
  rintro r W' ⟨rfl, b1, k1⟩
  have hlo : lo ≤ W.heap.size := by
    obtain ⟨SF, ⟨t, a, ST, rfl, h1⟩, h2⟩ := h.fm
    have := h1.foot fb (by unfold rfamS; simp); omega
  refine ⟨_, rfl, Nat.le_refl _, k1, h.make fr (x := ⟨W.heap.size, .row [], 0⟩) (SS := [W.heap.size]) (show RSA10 fb W.heap.size lo [W.heap.size] m (.row []) 0 W' from ⟨hlo, [], rfl, by simp, none, 0, rfl, b1, ValRow.nil _ _ _ _⟩) k1 (fun z hz => by simp at hz; omega)⟩
theorem rjnew_any (most pairs : Int) (m : Option Nat) (c : C4) (W : World) (hM : CtrAt m c W) (h0 : 0 ≤ most) (h1 : most ≤ 256) (h2 : 0 ≤ pairs) (h3 : pairs ≤ 65536) :
    Calls Tryz.prog 27 #[.int .i64 most, .int .i64 pairs, mV m] W fun r W' => ∃ fb, r = .returned (.tuple #[.pointer (some ⟨fb, 0, none⟩), .int .i64 0]) ∧ W.heap.size ≤ fb ∧ Keeps (mS m) W W' ∧ CtrAt m c.tab W' ∧ ∃ S, RFA10 fb W.heap.size S m ⟨most, pairs, newT, []⟩ W' := by
  refine (rfnew_any most pairs m c W hM h0 h1 h2 h3).mono ?_
  rintro r W' ⟨fb, rfl, g1, g2, g3, t, ST, g4⟩
  exact ⟨fb, rfl, g1, g2, g3, _, t, none, ST, rfl, g4⟩
end
end Go.Proofs.YtajmfenfajbakaaGreat
end

section
namespace Go.Proofs.YtajmfenfajbakaaGreat
open Go.RowKit
set_option linter.unusedVariables false
set_option linter.unusedSimpArgs false

/-- One value of one cell is appended to a row of such. -/
theorem val_app11 {T E TY : TypeId} {z : Value} {by8 : Nat} (hT : Tryz.prog.underlying T = some (.slice E)) (hE : (Tryz.prog.info? E).map (fun i => (i.zero, i.size, i.bytes)) = some (some z, 1, by8)) (hz : z.cells.size = 1) (h8 : by8 ≤ 24)
    (lo : Nat) (a : Option Addr) (c m : Nat) (V : Nat → Value) (x : Value) (hx : x.oneCell' = true) (W : World) (B : Nat) (h : ValRow E lo a m c V W) (hB : W.heap[B]? = some (.cells #[x] TY (0, 0))) (hm : m ≤ 1000000) (hlo : lo ≤ W.heap.size) :
    ∃ g cap w', (Builtin.append_ #[T, T] T #[.slice a m c, .slice (some ⟨B, 0, none⟩) 1 1]).run Tryz.prog W = .ok (.slice (some ⟨g, 0, none⟩) (m + 1) cap) w' ∧ ValRow E lo (some ⟨g, 0, none⟩) (m + 1) cap (putV V m x) w' ∧ Keeps (blk a) W w' ∧ (g ∈ blk a ∨ g = W.heap.size) ∧ g < w'.heap.size := by
  obtain ⟨j0, hi, hz0, hz1, hz2⟩ := info_parts hE
  obtain ⟨g, cap, w', r1, r2, r3, r4, r5⟩ := run_append_lies (P := Tryz.prog) W T T lo E j0 z 1 by8 hT hi hz0 hz1 hz2 hz (by decide) _ m (valR m V) h ⟨B, 0, none⟩ 1 1 [x] rfl
    (fun j u hj => by
      have hlt : j < 1 := by have := (List.getElem?_eq_some_iff.1 hj).1; simpa using this
      obtain rfl : j = 0 := by omega
      rw [show (⟨B, 0, none⟩ : Addr).add 0 = ⟨B, 0, none⟩ by unfold Addr.add; split <;> simp_all, cell_of_has hB]
      simpa using hj) (by intro u hu; simp at hu; subst hu; exact hx) (by decide) (by unfold maxLen; omega) (Nat.le_trans (Nat.mul_le_mul_left _ h8) (by omega)) hlo _ rfl
  refine ⟨g, cap, w', r1, ValRow.of_append r2, ?_, ?_, r5⟩
  · exact ⟨r3.os, r3.tape, r3.output, r3.size, fun k hk hn => r3.block k hk (fun e => hn (blk_own a _ _ k e.symm))⟩
  · rcases r4 with r4 | r4
    · exact .inl (blk_own a _ _ g r4)
    · exact .inr r4
theorem infoSp11 : (Tryz.prog.info? 71).map (fun i => (i.zero, i.size, i.bytes)) = some (some (.pointer none), 1, 8) := by kernel_rfl
theorem infoRs11 : (Tryz.prog.info? 81).map (fun i => (i.zero, i.size, i.bytes)) = some (some (.pointer none), 1, 8) := by kernel_rfl
/-- Blocks of one owner change, and some come to it. -/
theorem own_app11 {t : Tg10} {S S' : List Nat} {o : Nat → Tg10} {W W' : World} (hS : ∀ z, z ∈ S → o z = t) (hSl : ∀ z, z ∈ S → z < W.heap.size) (k : Keeps S W W') (g : ∀ z, z ∈ S' → z ∈ S ∨ W.heap.size ≤ z) (fr : FreeT o W) (hl : ∀ z, z ∈ S' → z < W'.heap.size) :
    ∃ o', (∀ z, z ∈ S' → o' z = t) ∧ MvT (fun q => decide (q = t)) o W o' W' ∧ FreeT o' W' ∧ NewT10 o o' W := by
  obtain ⟨o', ho'⟩ : ∃ o' : Nat → Tg10, o' = fun z => if z < W.heap.size then o z else if z ∈ S' then t else .free := ⟨_, rfl⟩
  have old : ∀ z, z < W.heap.size → o' z = o z := fun z hz => by rw [ho']; simp [hz]
  refine ⟨o', fun z hz => ?_, ⟨k.os, k.tape, k.output, k.size, old, fun z hz hp => k.block z hz (fun hy => by simp at hp; exact hp (hS z hy))⟩, fun z hz => ?_, fun z hz => ?_⟩
  · rcases g z hz with h | h
    · rw [old z (hSl z h)]; exact hS z h
    · rw [ho']; simp only [if_neg (show ¬ z < W.heap.size by omega), if_pos hz]
  · have := k.size
    have hn : z ∉ S' := fun hy => by have := hl z hy; omega
    rw [ho']; simp only [if_neg (show ¬ z < W.heap.size by omega), if_neg hn]
  · by_cases h : z < W.heap.size
    · rw [old z h] at hz; exact .inl hz
    · exact .inr (by omega)
/-- Where the namespaces lie. -/
def sptV10 (L : List PS10) (i : Nat) : Value := match L[i]? with | some x => .pointer (some ⟨x.sb, 0, none⟩) | none => .pointer none
theorem sptV10_at {L : List PS10} {i : Nat} {x : PS10} (h : L[i]? = some x) : sptV10 L i = .pointer (some ⟨x.sb, 0, none⟩) := by unfold sptV10; rw [h]
theorem sptV10_set {L : List PS10} {i : Nat} {x x' : PS10} (hx : L[i]? = some x) (hs : x'.sb = x.sb) (j : Nat) : sptV10 (L.set i x') j = sptV10 L j := by
  unfold sptV10
  rw [List.getElem?_set]
  by_cases e : i = j
  · subst e
    rw [hx, if_pos rfl, if_pos (List.getElem?_eq_some_iff.1 hx).1]; simp only; rw [hs]
  · rw [if_neg e]
def twoO10 (fp fr : Nat) (sv kv : Value) : Obj := .cells #[.pointer (some ⟨fp, 0, none⟩), .pointer (some ⟨fr, 0, none⟩), sv, kv] 57 (0, 0)
structure D10 where
  lp : Nat
  fp : Nat
  lr : Nat
  fr : Nat
  sa : Option Addr
  ka : Option Addr
  sc : Nat
  kc : Nat
  f : Fam
  ks : List ByteArray
  c : C4
  o : Nat → Tg10
  LP : List PS10
  LR : List PS10
structure J10 (lo0 xb : Nat) (m1 m2 : Option Nat) (k : Nat) (d : D10) (W : World) : Prop where
  P : SJ sideP10 m1 d.lp d.fp d.f d.c d.o d.LP W
  R : SJ sideR10 m2 d.lr d.fr d.f d.c d.o d.LR W
  rel : d.LP.map PS10.pure = d.LR.map PS10.pure
  pj : PJ k d.f d.ks (d.LP.map PS10.pure)
  fr : FreeT d.o W
  b : W.heap[xb]? = some (twoO10 d.fp d.fr (.slice d.sa d.LP.length d.sc) (.slice d.ka d.LP.length d.kc))
  bo : d.o xb = .two 0
  s : ValRow 71 lo0 d.sa d.LP.length d.sc (sptV10 d.LP) W
  so : ∀ z, z ∈ blk d.sa → d.o z = .two 1
  kr : ValRow 81 lo0 d.ka d.LP.length d.kc (sptV10 d.LR) W
  ko : ∀ z, z ∈ blk d.ka → d.o z = .two 2
  low : ∀ z, d.o z ≠ .free → lo0 ≤ z
section
variable {lo0 xb k k' : Nat} {m1 m2 : Option Nat} {d : D10} {W W1 W2 W' : World}
theorem J10.mono (h : J10 lo0 xb m1 m2 k d W) (hk : k ≤ k') : J10 lo0 xb m1 m2 k' d W := ⟨h.P, h.R, h.rel, h.pj.mono hk, h.fr, h.b, h.bo, h.s, h.so, h.kr, h.ko, h.low⟩
theorem J10.quiet (h : J10 lo0 xb m1 m2 k d W) (q : Keeps [] W W') : J10 lo0 xb m1 m2 k d W' :=
  ⟨h.P.quiet q, h.R.quiet q, h.rel, h.pj, h.fr.quiet q.size, q.has h.b (by simp), h.bo, h.s.keeps q (by simp), h.so, h.kr.keeps q (by simp), h.ko, h.low⟩
theorem J10.lolt (h : J10 lo0 xb m1 m2 k d W) : lo0 ≤ W.heap.size := by
  have h1 := h.low xb (by rw [h.bo]; simp)
  have h2 := lt_of_block h.b
  omega
theorem J10.pj2 (h : J10 lo0 xb m1 m2 k d W) : PJ k d.f d.ks (d.LR.map PS10.pure) := by rw [← h.rel]; exact h.pj
/-- The two lists, place by place. -/
theorem J10.twin (h : J10 lo0 xb m1 m2 k d W) {i : Nat} {x : PS10} (hx : d.LP[i]? = some x) : ∃ y, d.LR[i]? = some y ∧ y.wy = x.wy ∧ y.ver = x.ver := by
  have h1 := pure_at hx
  rw [h.rel, List.getElem?_map] at h1
  cases hy : d.LR[i]? with
  | none => rw [hy] at h1; simp at h1
  | some y =>
    rw [hy] at h1
    simp only [Option.map_some, Option.some.injEq, PS10.pure, Prod.mk.injEq] at h1
    exact ⟨y, rfl, h1.1, h1.2⟩
theorem two_off {p q : Tg10 → Bool} {o o1 o2 : Nat → Tg10} (v1 : MvT p o W o1 W1) (v2 : MvT q o1 W1 o2 W2) : MvT (fun t => p t || q t) o W o2 W2 :=
  (v1.mono (fun t ht => by simp at ht; exact ht.1)).trans (v2.mono (fun t ht => by simp at ht; exact ht.2))
/-- Both sides have answered a call. -/
theorem J10.both (h : J10 lo0 xb m1 m2 k d W) {f' : Fam} {ks' : List ByteArray} {c' : C4} {LP' LR' : List PS10} {o1 o2 : Nat → Tg10}
    (p1 : SJ sideP10 m1 d.lp d.fp f' c' o1 LP' W1) (v1 : MvT (Tg10.side true) d.o W o1 W1) (n1 : NewT10 d.o o1 W)
    (r2 : SJ sideR10 m2 d.lr d.fr f' c' o2 LR' W2) (v2 : MvT (Tg10.side false) o1 W1 o2 W2) (fr2 : FreeT o2 W2) (n2 : NewT10 o1 o2 W1)
    (rel : LP'.map PS10.pure = LR'.map PS10.pure) (pj : PJ k' f' ks' (LP'.map PS10.pure)) (lP : ∀ q, sptV10 LP' q = sptV10 d.LP q) (lR : ∀ q, sptV10 LR' q = sptV10 d.LR q) (ln : LP'.length = d.LP.length) :
    J10 lo0 xb m1 m2 k' { d with f := f', ks := ks', c := c', o := o2, LP := LP', LR := LR' } W2 ∧ Below lo0 W W2 := by
  have v := two_off v1 v2
  have kk := v.keeps
  have hl := h.lolt
  have old : ∀ z, d.o z ≠ .free → o2 z = d.o z := fun z hz => by
    have hz' : z < W.heap.size := Nat.lt_of_not_le (fun h9 => hz (h.fr z h9))
    exact v.old z hz'
  have off : ∀ z, (d.o z = .two 0 ∨ d.o z = .two 1 ∨ d.o z = .two 2) → z ∉ FrT (fun t => Tg10.side true t || Tg10.side false t) d.o W := fun z hz => not_frT (by rcases hz with e | e | e <;> rw [e] <;> rfl)
  refine ⟨⟨p1.mv v2 (fun t ht => by cases t <;> simp_all [Tg10.side, sideP10]), r2, rel, pj, fr2, ?_, (old xb (by rw [h.bo]; simp)).trans h.bo, ?_, fun z hz => (old z (by rw [h.so z hz]; simp)).trans (h.so z hz), ?_, fun z hz => (old z (by rw [h.ko z hz]; simp)).trans (h.ko z hz), fun z hz => ?_⟩, ⟨v.os, v.tape, v.output, v.size, fun z hz => v.blk z (by omega) ?_⟩⟩
  · show W2.heap[xb]? = some (twoO10 d.fp d.fr (.slice d.sa LP'.length d.sc) (.slice d.ka LP'.length d.kc))
    rw [ln]; exact kk.has h.b (off xb (.inl h.bo))
  · show ValRow _ lo0 d.sa LP'.length d.sc (sptV10 LP') W2
    rw [ln]; exact (h.s.keeps kk (fun z hz => off z (.inr (.inl (h.so z hz))))).congr (fun q hq => (lP q).symm)
  · show ValRow _ lo0 d.ka LP'.length d.kc (sptV10 LR') W2
    rw [ln]; exact (h.kr.keeps kk (fun z hz => off z (.inr (.inr (h.ko z hz))))).congr (fun q hq => (lR q).symm)
  · rcases n2 z hz with h9 | h9
    · rcases n1 z h9 with h8 | h8
      · exact h.low z h8
      · omega
    · have := v1.size; omega
  · cases hs : (Tg10.side true (d.o z) || Tg10.side false (d.o z))
    · rfl
    · exfalso
      have := h.low z (by intro e9; rw [e9] at hs; cases hs)
      omega
end
end Go.Proofs.YtajmfenfajbakaaGreat
end

section
namespace Go.Proofs.YtajmfenfajbakaaGreat
open Go.RowKit
set_option linter.unusedVariables false
set_option linter.unusedSimpArgs false

theorem at_idx10 (m : Int) {n : Nat} (hn : 0 < n) : ∃ p : Nat, p < n ∧ (if m.tmod n < 0 then m.tmod n + n else m.tmod n) = (p : Int) := by
  have h1 := Int.tmod_lt_of_pos m (show (0 : Int) < n by omega)
  have h2 := Int.lt_tmod_of_pos m (show (0 : Int) < n by omega)
  by_cases h : m.tmod n < 0
  · rw [if_pos h]; exact ⟨(m.tmod n + n).toNat, by omega, by omega⟩
  · rw [if_neg h]; exact ⟨(m.tmod n).toNat, by omega, by omega⟩
theorem jat_any {lo0 xb k : Nat} {m1 m2 : Option Nat} {d : D10} {W : World} (h : J10 lo0 xb m1 m2 k d W) (hn : 0 < d.LP.length) (hn2 : d.LP.length ≤ 1000) (s : Int) :
    Calls Tryz.prog 12 #[.pointer (some ⟨xb, 0, none⟩), .int .i64 s] W fun r W' => ∃ p : Nat, p < d.LP.length ∧ r = .returned (.int .i64 p) ∧ W = W' := by
  have c2 : W.cell? ⟨xb, 2, none⟩ = some (.slice d.sa d.LP.length d.sc) := cell_has h.b (i := 2) rfl
  obtain ⟨n, hn3⟩ := ex_hid d.LP.length
  rw [← hn3.out] at c2 hn hn2 ⊢
  obtain ⟨p, hp, hpe⟩ := at_idx10 s hn
  have HPE := Lib.hid hpe
  have n0 : ¬ (n : Int) = 0 := by omega
  have n1 : ((n : Int) == 0) = false := by simp; omega
  clear h hpe
  by_cases ht : s.tmod n < 0
  · have hw : wrap64 (s.tmod n + n) = (p : Int) := by have h9 := HPE.out; rw [if_pos ht] at h9; rw [IntWalk.wrap64_in _ (by omega)]; exact h9
    go_enter Tryz.func12, Tryz.ntmps12
    go_wp2_with fail
    go_ret
    exact ⟨p, hp, by rw [← hw]; rfl, rfl⟩
  · have hw : s.tmod n = (p : Int) := by have h9 := HPE.out; rw [if_neg ht] at h9; exact h9
    go_enter Tryz.func12, Tryz.ntmps12
    go_wp2_with fail
    go_ret
    exact ⟨p, hp, by rw [← hw]; rfl, rfl⟩
def stepV10 (k s : Int) (n : ByteArray) (v : Int) : Value := .agg #[.int .i64 k, .int .i64 s, .string n, .int .i64 v]
def stepB10 (k s : Int) (n : ByteArray) (v : Int) : Obj := .cells #[.int .i64 k, .int .i64 s, .string n, .int .i64 v] 43 (0, 0)
/-- Both sides have answered alike. -/
def DoesP (lo0 xb : Nat) (m1 m2 : Option Nat) (k fp fr : Nat) (W : World) (r : Ending) (W' : World) : Prop := r = .returned (.bool true) ∧ ∃ d', J10 lo0 xb m1 m2 (k + 1) d' W' ∧ 0 < d'.LP.length ∧ d'.LP.length ≤ 12 ∧ Below lo0 W W' ∧ d'.fp = fp ∧ d'.fr = fr
theorem PJ.del10 {k : Nat} {f : Fam} {ks : List ByteArray} {L : List (Way10 × Nat)} (h : PJ k f ks L) (hk : k ≤ 900) {i : Nat} {x : Way10 × Nat} (hx : L[i]? = some x) (c : C4) (s : ByteArray) :
    PJ (k + 1) f ks (L.set i ((delW f x.1 c s).2.1, if (delW f x.1 c s).1 = 0 then x.2 + 1 else x.2)) ∧ True := by
  refine ⟨?_, trivial⟩
  rcases delW_ok hk h.fk (h.sp i x hx).1 c s with ⟨e1, e2, e3⟩ | ⟨e1, e2, e3, _⟩
  · rw [e3, e1]
    have : L.set i (x.1, if (7 : Int) = 0 then x.2 + 1 else x.2) = L := by
      rw [if_neg (by decide)]
      refine List.ext_getElem? fun q => ?_
      rw [List.getElem?_set]
      split
      · rename_i hq; subst hq; rw [hx]; simp [(List.getElem?_eq_some_iff.1 hx).1]
      · rfl
    rw [this]
    exact h.mono (by omega)
  · refine ⟨h.fk.mono (by omega), by have := h.n; omega, h.z, fun j y hy => ?_⟩
    rw [e1, if_pos rfl] at hy
    rcases set_get10 hx hy with ⟨rfl, rfl⟩ | ⟨hne, h9⟩
    · exact ⟨e3, by have := (h.sp i x hx).2; show x.2 + 1 ≤ k + 1; omega⟩
    · exact ⟨(h.sp j y h9).1.mono (by omega), by have := (h.sp j y h9).2; omega⟩
set_option maxRecDepth 100000 in
set_option maxHeartbeats 4000000 in
theorem does10_set {lo0 xb k : Nat} {m1 m2 : Option Nat} {d : D10} {W : World} (h : J10 lo0 xb m1 m2 k d W) (hk : k ≤ 900) (hn : 0 < d.LP.length) (hn2 : d.LP.length ≤ 12) (s : Int) (nm : ByteArray) (v : Int) (hs : nm.size ≤ 200) :
    Calls Tryz.prog 10 #[.pointer (some ⟨xb, 0, none⟩), stepV10 1 s nm v] W (DoesP lo0 xb m1 m2 k d.fp d.fr W) := by
  have H := Lib.hid h
  have HN := Lib.hid (And.intro hn hn2)
  have HS := Lib.hid hs
  have q1 : (((1 : Int)) == 1) = true := by decide
  unfold stepV10
  clear h hn hn2 hs
  go_enter Tryz.func10, Tryz.ntmps10
  go_upto_region 1 with (fail)
  refine wp_gen (fun V => V.heap[W.heap.size]? = some (stepB10 1 s nm v) ∧ Keeps [] W V) ⟨has_new _ _, (Keeps.refl [] W).alloc _⟩ ?_
  rintro w0 ⟨b0, k0⟩
  have J := Lib.hid (H.out.quiet k0)
  obtain ⟨X, hX⟩ := ex_hid W.heap.size
  have OX := Lib.hid (show d.o X = .free from by rw [hX.out]; exact H.out.fr _ (Nat.le_refl _))
  have K0 := Lib.hid k0
  rw [← hX.out] at b0 ⊢
  have BX := Lib.hid b0
  have x0 : w0.cell? ⟨X, 0, none⟩ = some (.int .i64 1) := cell_has b0 (i := 0) rfl
  have x1 : w0.cell? ⟨X, 1, none⟩ = some (.int .i64 s) := cell_has b0 (i := 1) rfl
  have x2 : w0.cell? ⟨X, 2, none⟩ = some (.string nm) := cell_has b0 (i := 2) rfl
  have x3 : w0.cell? ⟨X, 3, none⟩ = some (.int .i64 v) := cell_has b0 (i := 3) rfl
  have AT := jat_any J.out HN.out.1 (by have := HN.out.2; omega) s
  clear b0 k0 hX
  go_wp2_with fail
  refine AT.mono ?_
  rintro r w1 ⟨p, hp, rfl, rfl⟩
  clear AT x1
  obtain ⟨x, hx⟩ : ∃ x, d.LP[p]? = some x := ⟨_, List.getElem?_eq_getElem hp⟩
  obtain ⟨y, hy, yw, yv⟩ := J.out.twin hx
  have p0 : (0 : Int) ≤ (p : Int) := by omega
  obtain ⟨n, hnn⟩ := ex_hid d.LP.length
  have pn : (p : Int) < (n : Int) := by have := hnn.out; omega
  obtain ⟨gs, hgs⟩ := J.out.s.shape (by omega)
  obtain ⟨gk, hgk⟩ := J.out.kr.shape (by omega)
  have bb := J.out.b
  rw [hgs, hgk, ← hnn.out] at bb
  have e2 : w0.cell? ⟨xb, 2, none⟩ = some (.slice (some ⟨gs, 0, none⟩) n d.sc) := cell_has bb (i := 2) rfl
  have e3 : w0.cell? ⟨xb, 3, none⟩ = some (.slice (some ⟨gk, 0, none⟩) n d.kc) := cell_has bb (i := 3) rfl
  have rs := J.out.s
  have rk := J.out.kr
  rw [hgs] at rs
  rw [hgk] at rk
  have e4 : w0.cell? ⟨gs, p, none⟩ = some (.pointer (some ⟨x.sb, 0, none⟩)) := by rw [← sptV10_at hx]; exact rs.cell hp
  have e5 : w0.cell? ⟨gk, p, none⟩ = some (.pointer (some ⟨y.sb, 0, none⟩)) := by rw [← sptV10_at hy]; exact rk.cell hp
  have tg : Hid (d.o gs = .two 1 ∧ d.o gk = .two 2 ∧ d.o xb = .two 0 ∧ d.o X = .free) := Lib.hid ⟨J.out.so gs (by rw [hgs]; simp [blk]), J.out.ko gk (by rw [hgk]; simp [blk]), J.out.bo, OX.out⟩
  have lt : Hid (gs < w0.heap.size ∧ gk < w0.heap.size ∧ xb < w0.heap.size ∧ X < w0.heap.size) := Lib.hid ⟨(rs.blk_lt gs (by simp [blk])).2, (rk.blk_lt gk (by simp [blk])).2, lt_of_block J.out.b, lt_of_block BX.out⟩
  have HX := Lib.hid hx
  have HY := Lib.hid hy
  have PL := Lib.hid hp
  have YW := Lib.hid (And.intro yw yv)
  have hk9 := hk
  clear bb rs rk hx hy hp yw yv hgs hgk
  have JD := Lib.hid (J.out.quiet (Keeps.refl [] w0).drew)
  obtain ⟨q, hq⟩ := ex_hid (setW d.f x.wy d.c nm v)
  have CP := jset_any JD.out.P JD.out.fr JD.out.pj hk9 HX.out nm v HS.out
  unfold JDid at CP
  rw [← hq.out] at CP
  have CR := Lib.hid (fun (o1 : Nat → Tg10) (u1 : World) (v1 : MvT (Tg10.side true) d.o w0.drew o1 u1) (fr1 : FreeT o1 u1) => (show Calls Tryz.prog 29 #[.pointer (some ⟨y.sb, 0, none⟩), .string nm, .int .i64 v] u1 (RJDid m2 d.lr d.fr o1 d.LR p y q.1 q.2.1 q.2.2.1 (if q.1 = 0 then y.ver + 1 else y.ver) q.2.2.2 u1) from by
    have h9 := rjset_any (JD.out.R.mv v1 (fun t ht => by cases t <;> simp_all [Tg10.side, sideR10])) fr1 JD.out.pj2 hk9 HY.out nm v HS.out
    rw [YW.out.1, ← hq.out] at h9
    exact h9))
  unfold RJDid at CR
  obtain ⟨e, he⟩ := ex_hid q.1
  rw [← he.out] at CP CR
  go_upto_region 4 with (fail)
  clear x0
  go_region_held3 (fun w' => w'.cell? ⟨xb, 2, none⟩ = some (.slice (some ⟨gs, 0, none⟩) n d.sc) ∧ w'.cell? ⟨gs, p, none⟩ = some (.pointer (some ⟨x.sb, 0, none⟩)) ∧ w'.cell? ⟨X, 2, none⟩ = some (.string nm) ∧ w'.cell? ⟨X, 3, none⟩ = some (.int .i64 v) ∧ w'.cell? ⟨xb, 3, none⟩ = some (.slice (some ⟨gk, 0, none⟩) n d.kc) ∧ w'.cell? ⟨gk, p, none⟩ = some (.pointer (some ⟨y.sb, 0, none⟩))) (go_keep)
    (first
      | (go_at_call 21; refine CP.mono ?_; rintro r u1 ⟨rfl, o1, p1, v1, fr1, n1⟩; have P1 := Lib.hid p1; have V1 := Lib.hid v1; have FR1 := Lib.hid fr1; have N1 := Lib.hid n1; have Z := v1.keeps; have c2 := Z.cell (w := w0.drew) e2 (not_frT (by rw [tg.out.2.2.1]; rfl)); have c4 := Z.cell (w := w0.drew) e4 (not_frT (by rw [tg.out.1]; rfl)); have cx := Z.cell (w := w0.drew) x2 (not_frT (by rw [tg.out.2.2.2]; rfl)); have c3 := Z.cell (w := w0.drew) x3 (not_frT (by rw [tg.out.2.2.2]; rfl)); have ck := Z.cell (w := w0.drew) e3 (not_frT (by rw [tg.out.2.2.1]; rfl)); have c5 := Z.cell (w := w0.drew) e5 (not_frT (by rw [tg.out.2.1]; rfl)); clear p1 v1 fr1 n1 Z)
      | (go_at_call 29; refine (CR.out o1 u1 V1.out FR1.out).mono ?_; rintro r u2 ⟨rfl, o2, r2, v2, fr2, n2⟩; have R2 := Lib.hid r2; have V2 := Lib.hid v2; have FR2 := Lib.hid fr2; have N2 := Lib.hid n2; have Z2 := (two_off V1.out v2).keeps; have f2 := Z2.cell (w := w0.drew) e2 (not_frT (by rw [tg.out.2.2.1]; rfl)); have f4 := Z2.cell (w := w0.drew) e4 (not_frT (by rw [tg.out.1]; rfl)); have fx := Z2.cell (w := w0.drew) x2 (not_frT (by rw [tg.out.2.2.2]; rfl)); have f3 := Z2.cell (w := w0.drew) x3 (not_frT (by rw [tg.out.2.2.2]; rfl)); have fk := Z2.cell (w := w0.drew) e3 (not_frT (by rw [tg.out.2.2.1]; rfl)); have f5 := Z2.cell (w := w0.drew) e5 (not_frT (by rw [tg.out.2.1]; rfl)); clear r2 v2 fr2 n2 Z2))
  clear c2 c4 cx c3 ck c5 f2 f4 fx f3 fk f5 e2 e3 e4 e5 x2 x3
  go_wp2_with fail
  go_ret
  have hpl : (d.LP.set p { x with wy := q.2.2.1, ver := (if e = 0 then x.ver + 1 else x.ver) }).map PS10.pure = (d.LR.set p { y with wy := q.2.2.1, ver := (if e = 0 then y.ver + 1 else y.ver) }).map PS10.pure := by
    rw [List.map_set, List.map_set, JD.out.rel]; congr 1
    unfold PS10.pure; simp only; rw [YW.out.2]
  obtain ⟨ks', g1, g2, g3⟩ := JD.out.pj.set hk9 (pure_at HX.out) d.c nm v HS.out
  simp only at g1
  rw [← hq.out, ← he.out] at g1
  obtain ⟨A9, B9⟩ := JD.out.both (k' := k + 1) (ks' := ks') P1.out V1.out N1.out R2.out V2.out FR2.out N2.out hpl (by rw [List.map_set]; exact g1) (sptV10_set HX.out rfl) (sptV10_set HY.out rfl) (List.length_set ..)
  refine ⟨by simp, _, A9, ?_, ?_, (K0.out.below H.out.lolt (by simp)).trans ((Keeps.refl [] w0).drew.below J.out.lolt (by simp) |>.trans B9), rfl, rfl⟩
  · simp only [List.length_set]; exact HN.out.1
  · simp only [List.length_set]; exact HN.out.2
set_option maxRecDepth 100000 in
set_option maxHeartbeats 4000000 in
theorem does10_get {lo0 xb k : Nat} {m1 m2 : Option Nat} {d : D10} {W : World} (h : J10 lo0 xb m1 m2 k d W) (hk : k ≤ 900) (hn : 0 < d.LP.length) (hn2 : d.LP.length ≤ 12) (s : Int) (nm : ByteArray) (v : Int) (hs : nm.size ≤ 200) :
    Calls Tryz.prog 10 #[.pointer (some ⟨xb, 0, none⟩), stepV10 2 s nm v] W (DoesP lo0 xb m1 m2 k d.fp d.fr W) := by
  have H := Lib.hid h
  have HN := Lib.hid (And.intro hn hn2)
  have HS := Lib.hid hs
  have q1 : (((2 : Int)) == 1) = false := by decide
  have q2 : (((2 : Int)) == 2) = true := by decide
  unfold stepV10
  clear h hn hn2 hs
  go_enter Tryz.func10, Tryz.ntmps10
  go_upto_region 1 with (fail)
  refine wp_gen (fun V => V.heap[W.heap.size]? = some (stepB10 2 s nm v) ∧ Keeps [] W V) ⟨has_new _ _, (Keeps.refl [] W).alloc _⟩ ?_
  rintro w0 ⟨b0, k0⟩
  have J := Lib.hid (H.out.quiet k0)
  obtain ⟨X, hX⟩ := ex_hid W.heap.size
  have OX := Lib.hid (show d.o X = .free from by rw [hX.out]; exact H.out.fr _ (Nat.le_refl _))
  have K0 := Lib.hid k0
  rw [← hX.out] at b0 ⊢
  have BX := Lib.hid b0
  have x0 : w0.cell? ⟨X, 0, none⟩ = some (.int .i64 2) := cell_has b0 (i := 0) rfl
  have x1 : w0.cell? ⟨X, 1, none⟩ = some (.int .i64 s) := cell_has b0 (i := 1) rfl
  have x2 : w0.cell? ⟨X, 2, none⟩ = some (.string nm) := cell_has b0 (i := 2) rfl
  have x3 : w0.cell? ⟨X, 3, none⟩ = some (.int .i64 v) := cell_has b0 (i := 3) rfl
  have AT := jat_any J.out HN.out.1 (by have := HN.out.2; omega) s
  clear b0 k0 hX
  go_wp2_with fail
  refine AT.mono ?_
  rintro r w1 ⟨p, hp, rfl, rfl⟩
  clear AT x1
  obtain ⟨x, hx⟩ : ∃ x, d.LP[p]? = some x := ⟨_, List.getElem?_eq_getElem hp⟩
  obtain ⟨y, hy, yw, yv⟩ := J.out.twin hx
  have p0 : (0 : Int) ≤ (p : Int) := by omega
  obtain ⟨n, hnn⟩ := ex_hid d.LP.length
  have pn : (p : Int) < (n : Int) := by have := hnn.out; omega
  obtain ⟨gs, hgs⟩ := J.out.s.shape (by omega)
  obtain ⟨gk, hgk⟩ := J.out.kr.shape (by omega)
  have bb := J.out.b
  rw [hgs, hgk, ← hnn.out] at bb
  have e2 : w0.cell? ⟨xb, 2, none⟩ = some (.slice (some ⟨gs, 0, none⟩) n d.sc) := cell_has bb (i := 2) rfl
  have e3 : w0.cell? ⟨xb, 3, none⟩ = some (.slice (some ⟨gk, 0, none⟩) n d.kc) := cell_has bb (i := 3) rfl
  have rs := J.out.s
  have rk := J.out.kr
  rw [hgs] at rs
  rw [hgk] at rk
  have e4 : w0.cell? ⟨gs, p, none⟩ = some (.pointer (some ⟨x.sb, 0, none⟩)) := by rw [← sptV10_at hx]; exact rs.cell hp
  have e5 : w0.cell? ⟨gk, p, none⟩ = some (.pointer (some ⟨y.sb, 0, none⟩)) := by rw [← sptV10_at hy]; exact rk.cell hp
  have tg : Hid (d.o gs = .two 1 ∧ d.o gk = .two 2 ∧ d.o xb = .two 0 ∧ d.o X = .free) := Lib.hid ⟨J.out.so gs (by rw [hgs]; simp [blk]), J.out.ko gk (by rw [hgk]; simp [blk]), J.out.bo, OX.out⟩
  have lt : Hid (gs < w0.heap.size ∧ gk < w0.heap.size ∧ xb < w0.heap.size ∧ X < w0.heap.size) := Lib.hid ⟨(rs.blk_lt gs (by simp [blk])).2, (rk.blk_lt gk (by simp [blk])).2, lt_of_block J.out.b, lt_of_block BX.out⟩
  have HX := Lib.hid hx
  have HY := Lib.hid hy
  have PL := Lib.hid hp
  have YW := Lib.hid (And.intro yw yv)
  have hk9 := hk
  clear bb rs rk hx hy hp yw yv hgs hgk
  have JD := Lib.hid (J.out.quiet (Keeps.refl [] w0).drew)
  have CP := jget_any JD.out.P JD.out.pj hk9 HX.out nm HS.out
  obtain ⟨q, hq⟩ := ex_hid (findW d.f nm d.c x.wy)
  rw [← hq.out] at CP
  obtain ⟨vv, hvv⟩ := ex_hid (if 0 ≤ q.1 then valW q.1 x.wy else 0)
  obtain ⟨ob, hob⟩ := ex_hid (decide (0 ≤ q.1))
  rw [← hvv.out, ← hob.out] at CP
  have CR := Lib.hid (fun (u1 : World) (v1 : MvT (Tg10.side true) d.o w0.drew d.o u1) => (show Calls Tryz.prog 30 #[.pointer (some ⟨y.sb, 0, none⟩), .string nm] u1 (fun r W' => r = .returned (.tuple #[.int .i64 vv, .bool ob]) ∧ SJ sideR10 m2 d.lr d.fr d.f q.2 d.o d.LR W' ∧ MvT (Tg10.side false) d.o u1 d.o W' ∧ Keeps (mS m2) u1 W') from by
    have h9 := rjget_any (JD.out.R.mv v1 (fun t ht => by cases t <;> simp_all [Tg10.side, sideR10])) JD.out.pj2 hk9 HY.out nm HS.out
    rw [YW.out.1, ← hq.out, ← hvv.out, ← hob.out] at h9
    exact h9))
  go_upto_region 6 with (fail)
  clear x0 x3
  go_region_held3 (fun w' => w'.cell? ⟨xb, 2, none⟩ = some (.slice (some ⟨gs, 0, none⟩) n d.sc) ∧ w'.cell? ⟨gs, p, none⟩ = some (.pointer (some ⟨x.sb, 0, none⟩)) ∧ w'.cell? ⟨X, 2, none⟩ = some (.string nm)) (go_keep)
    (first
      | (go_at_call 22; refine CP.mono ?_; rintro r u1 ⟨rfl, p1, v1, k1⟩; have P1 := Lib.hid p1; have V1 := Lib.hid v1; have Z := v1.keeps; have c2 := Z.cell (w := w0.drew) e2 (not_frT (by rw [tg.out.2.2.1]; rfl)); have c4 := Z.cell (w := w0.drew) e4 (not_frT (by rw [tg.out.1]; rfl)); have cx := Z.cell (w := w0.drew) x2 (not_frT (by rw [tg.out.2.2.2]; rfl)); have ck := Z.cell (w := w0.drew) e3 (not_frT (by rw [tg.out.2.2.1]; rfl)); have c5 := Z.cell (w := w0.drew) e5 (not_frT (by rw [tg.out.2.1]; rfl)); clear p1 v1 k1 Z))
  have V1d := Lib.hid (show MvT (Tg10.side true) d.o w0.drew d.o u1.drew from V1.out.trans (MvT.of_keeps (S := []) (Keeps.refl [] u1).drew (by simp)))
  have CRd := CR.out u1.drew V1d.out
  have P1d := Lib.hid (P1.out.quiet (Keeps.refl [] u1).drew)
  clear CR CP
  go_upto_region 7 with (fail)
  go_region_held3 (fun w' => w'.cell? ⟨xb, 3, none⟩ = some (.slice (some ⟨gk, 0, none⟩) n d.kc) ∧ w'.cell? ⟨gk, p, none⟩ = some (.pointer (some ⟨y.sb, 0, none⟩)) ∧ w'.cell? ⟨X, 2, none⟩ = some (.string nm)) (go_keep)
    (first
      | (go_at_call 30; refine CRd.mono ?_; rintro r u2 ⟨rfl, r2, v2, k2⟩; have R2 := Lib.hid r2; have V2 := Lib.hid v2; have Z2 := v2.keeps; have f3 := Z2.cell (w := u1.drew) ck (not_frT (by rw [tg.out.2.2.1]; rfl)); have f5 := Z2.cell (w := u1.drew) c5 (not_frT (by rw [tg.out.2.1]; rfl)); have fx := Z2.cell (w := u1.drew) cx (not_frT (by rw [tg.out.2.2.2]; rfl)); clear r2 v2 k2 Z2))
  clear c2 c4 cx ck c5 f3 f5 fx e2 e3 e4 e5 x2 CRd
  have vb : (vv == vv) = true := by simp
  have obb : (ob == ob) = true := by simp
  go_wp2_with fail
  go_ret
  have V9 := two_off V1d.out V2.out
  obtain ⟨A9, B9⟩ := JD.out.both (k' := k + 1) (ks' := d.ks) (o1 := d.o) (o2 := d.o) P1d.out V1d.out (fun z hz => .inl hz) R2.out V2.out (JD.out.fr.quiet V9.size) (fun z hz => .inl hz) JD.out.rel (JD.out.pj.mono (Nat.le_succ _)) (fun _ => rfl) (fun _ => rfl) rfl
  exact ⟨by simp, _, A9, HN.out.1, HN.out.2, (K0.out.below H.out.lolt (by simp)).trans ((Keeps.refl [] w0).drew.below J.out.lolt (by simp) |>.trans B9), rfl, rfl⟩
set_option maxRecDepth 100000 in
set_option maxHeartbeats 4000000 in
theorem does10_del {lo0 xb k : Nat} {m1 m2 : Option Nat} {d : D10} {W : World} (h : J10 lo0 xb m1 m2 k d W) (hk : k ≤ 900) (hn : 0 < d.LP.length) (hn2 : d.LP.length ≤ 12) (s : Int) (nm : ByteArray) (v : Int) (hs : nm.size ≤ 200) :
    Calls Tryz.prog 10 #[.pointer (some ⟨xb, 0, none⟩), stepV10 3 s nm v] W (DoesP lo0 xb m1 m2 k d.fp d.fr W) := by
  have H := Lib.hid h
  have HN := Lib.hid (And.intro hn hn2)
  have HS := Lib.hid hs
  have q1 : (((3 : Int)) == 1) = false := by decide
  have q2 : (((3 : Int)) == 2) = false := by decide
  have q3 : (((3 : Int)) == 3) = true := by decide
  unfold stepV10
  clear h hn hn2 hs
  go_enter Tryz.func10, Tryz.ntmps10
  go_upto_region 1 with (fail)
  refine wp_gen (fun V => V.heap[W.heap.size]? = some (stepB10 3 s nm v) ∧ Keeps [] W V) ⟨has_new _ _, (Keeps.refl [] W).alloc _⟩ ?_
  rintro w0 ⟨b0, k0⟩
  have J := Lib.hid (H.out.quiet k0)
  obtain ⟨X, hX⟩ := ex_hid W.heap.size
  have OX := Lib.hid (show d.o X = .free from by rw [hX.out]; exact H.out.fr _ (Nat.le_refl _))
  have K0 := Lib.hid k0
  rw [← hX.out] at b0 ⊢
  have BX := Lib.hid b0
  have x0 : w0.cell? ⟨X, 0, none⟩ = some (.int .i64 3) := cell_has b0 (i := 0) rfl
  have x1 : w0.cell? ⟨X, 1, none⟩ = some (.int .i64 s) := cell_has b0 (i := 1) rfl
  have x2 : w0.cell? ⟨X, 2, none⟩ = some (.string nm) := cell_has b0 (i := 2) rfl
  have x3 : w0.cell? ⟨X, 3, none⟩ = some (.int .i64 v) := cell_has b0 (i := 3) rfl
  have AT := jat_any J.out HN.out.1 (by have := HN.out.2; omega) s
  clear b0 k0 hX
  go_wp2_with fail
  refine AT.mono ?_
  rintro r w1 ⟨p, hp, rfl, rfl⟩
  clear AT x1
  obtain ⟨x, hx⟩ : ∃ x, d.LP[p]? = some x := ⟨_, List.getElem?_eq_getElem hp⟩
  obtain ⟨y, hy, yw, yv⟩ := J.out.twin hx
  have p0 : (0 : Int) ≤ (p : Int) := by omega
  obtain ⟨n, hnn⟩ := ex_hid d.LP.length
  have pn : (p : Int) < (n : Int) := by have := hnn.out; omega
  obtain ⟨gs, hgs⟩ := J.out.s.shape (by omega)
  obtain ⟨gk, hgk⟩ := J.out.kr.shape (by omega)
  have bb := J.out.b
  rw [hgs, hgk, ← hnn.out] at bb
  have e2 : w0.cell? ⟨xb, 2, none⟩ = some (.slice (some ⟨gs, 0, none⟩) n d.sc) := cell_has bb (i := 2) rfl
  have e3 : w0.cell? ⟨xb, 3, none⟩ = some (.slice (some ⟨gk, 0, none⟩) n d.kc) := cell_has bb (i := 3) rfl
  have rs := J.out.s
  have rk := J.out.kr
  rw [hgs] at rs
  rw [hgk] at rk
  have e4 : w0.cell? ⟨gs, p, none⟩ = some (.pointer (some ⟨x.sb, 0, none⟩)) := by rw [← sptV10_at hx]; exact rs.cell hp
  have e5 : w0.cell? ⟨gk, p, none⟩ = some (.pointer (some ⟨y.sb, 0, none⟩)) := by rw [← sptV10_at hy]; exact rk.cell hp
  have tg : Hid (d.o gs = .two 1 ∧ d.o gk = .two 2 ∧ d.o xb = .two 0 ∧ d.o X = .free) := Lib.hid ⟨J.out.so gs (by rw [hgs]; simp [blk]), J.out.ko gk (by rw [hgk]; simp [blk]), J.out.bo, OX.out⟩
  have lt : Hid (gs < w0.heap.size ∧ gk < w0.heap.size ∧ xb < w0.heap.size ∧ X < w0.heap.size) := Lib.hid ⟨(rs.blk_lt gs (by simp [blk])).2, (rk.blk_lt gk (by simp [blk])).2, lt_of_block J.out.b, lt_of_block BX.out⟩
  have HX := Lib.hid hx
  have HY := Lib.hid hy
  have PL := Lib.hid hp
  have YW := Lib.hid (And.intro yw yv)
  have hk9 := hk
  clear bb rs rk hx hy hp yw yv hgs hgk
  have JD := Lib.hid (J.out.quiet (Keeps.refl [] w0).drew)
  obtain ⟨q, hq⟩ := ex_hid (delW d.f x.wy d.c nm)
  have CP := jdel_any JD.out.P JD.out.fr JD.out.pj hk9 HX.out nm HS.out
  unfold JDid at CP
  rw [← hq.out] at CP
  have CR := Lib.hid (fun (o1 : Nat → Tg10) (u1 : World) (v1 : MvT (Tg10.side true) d.o w0.drew o1 u1) (fr1 : FreeT o1 u1) => (show Calls Tryz.prog 32 #[.pointer (some ⟨y.sb, 0, none⟩), .string nm] u1 (RJDid m2 d.lr d.fr o1 d.LR p y q.1 d.f q.2.1 (if q.1 = 0 then y.ver + 1 else y.ver) q.2.2 u1) from by
    have h9 := rjdel_any (JD.out.R.mv v1 (fun t ht => by cases t <;> simp_all [Tg10.side, sideR10])) fr1 JD.out.pj2 hk9 HY.out nm HS.out
    rw [YW.out.1, ← hq.out] at h9
    exact h9))
  unfold RJDid at CR
  obtain ⟨e, he⟩ := ex_hid q.1
  rw [← he.out] at CP CR
  go_upto_region 10 with (fail)
  clear x0
  go_region_held3 (fun w' => w'.cell? ⟨xb, 2, none⟩ = some (.slice (some ⟨gs, 0, none⟩) n d.sc) ∧ w'.cell? ⟨gs, p, none⟩ = some (.pointer (some ⟨x.sb, 0, none⟩)) ∧ w'.cell? ⟨X, 2, none⟩ = some (.string nm) ∧ w'.cell? ⟨xb, 3, none⟩ = some (.slice (some ⟨gk, 0, none⟩) n d.kc) ∧ w'.cell? ⟨gk, p, none⟩ = some (.pointer (some ⟨y.sb, 0, none⟩))) (go_keep)
    (first
      | (go_at_call 31; refine CP.mono ?_; rintro r u1 ⟨rfl, o1, p1, v1, fr1, n1⟩; have P1 := Lib.hid p1; have V1 := Lib.hid v1; have FR1 := Lib.hid fr1; have N1 := Lib.hid n1; have Z := v1.keeps; have c2 := Z.cell (w := w0.drew) e2 (not_frT (by rw [tg.out.2.2.1]; rfl)); have c4 := Z.cell (w := w0.drew) e4 (not_frT (by rw [tg.out.1]; rfl)); have cx := Z.cell (w := w0.drew) x2 (not_frT (by rw [tg.out.2.2.2]; rfl)); have ck := Z.cell (w := w0.drew) e3 (not_frT (by rw [tg.out.2.2.1]; rfl)); have c5 := Z.cell (w := w0.drew) e5 (not_frT (by rw [tg.out.2.1]; rfl)); clear p1 v1 fr1 n1 Z)
      | (go_at_call 32; refine (CR.out o1 u1 V1.out FR1.out).mono ?_; rintro r u2 ⟨rfl, o2, r2, v2, fr2, n2⟩; have R2 := Lib.hid r2; have V2 := Lib.hid v2; have FR2 := Lib.hid fr2; have N2 := Lib.hid n2; have Z2 := (two_off V1.out v2).keeps; have f2 := Z2.cell (w := w0.drew) e2 (not_frT (by rw [tg.out.2.2.1]; rfl)); have f4 := Z2.cell (w := w0.drew) e4 (not_frT (by rw [tg.out.1]; rfl)); have fx := Z2.cell (w := w0.drew) x2 (not_frT (by rw [tg.out.2.2.2]; rfl)); have fk := Z2.cell (w := w0.drew) e3 (not_frT (by rw [tg.out.2.2.1]; rfl)); have f5 := Z2.cell (w := w0.drew) e5 (not_frT (by rw [tg.out.2.1]; rfl)); clear r2 v2 fr2 n2 Z2))
  clear c2 c4 cx ck c5 f2 f4 fx fk f5 e2 e3 e4 e5 x2 x3
  go_wp2_with fail
  go_ret
  have hpl : (d.LP.set p { x with wy := q.2.1, ver := (if e = 0 then x.ver + 1 else x.ver) }).map PS10.pure = (d.LR.set p { y with wy := q.2.1, ver := (if e = 0 then y.ver + 1 else y.ver) }).map PS10.pure := by
    rw [List.map_set, List.map_set, JD.out.rel]; congr 1
    unfold PS10.pure; simp only; rw [YW.out.2]
  obtain ⟨g1, g3⟩ := JD.out.pj.del10 hk9 (pure_at HX.out) d.c nm
  simp only at g1
  rw [← hq.out, ← he.out] at g1
  obtain ⟨A9, B9⟩ := JD.out.both (k' := k + 1) (ks' := d.ks) P1.out V1.out N1.out R2.out V2.out FR2.out N2.out hpl (by rw [List.map_set]; exact g1) (sptV10_set HX.out rfl) (sptV10_set HY.out rfl) (List.length_set ..)
  refine ⟨by simp, _, A9, ?_, ?_, (K0.out.below H.out.lolt (by simp)).trans ((Keeps.refl [] w0).drew.below J.out.lolt (by simp) |>.trans B9), rfl, rfl⟩
  · simp only [List.length_set]; exact HN.out.1
  · simp only [List.length_set]; exact HN.out.2
end Go.Proofs.YtajmfenfajbakaaGreat
end

section
namespace Go.Proofs.YtajmfenfajbakaaGreat
open Go.RowKit
set_option linter.unusedVariables false
set_option linter.unusedSimpArgs false

theorem sptV10_push (L : List PS10) (x : PS10) : ∀ q, q < L.length + 1 → putV (sptV10 L) L.length (.pointer (some ⟨x.sb, 0, none⟩)) q = sptV10 (L ++ [x]) q := by
  intro q hq
  unfold putV sptV10
  by_cases e : q = L.length
  · subst e; rw [if_pos rfl]; simp
  · rw [if_neg e, List.getElem?_append_left (by omega)]
theorem map_push10 {LP LR : List PS10} (h : LP.map PS10.pure = LR.map PS10.pure) (a b : Nat) : (LP ++ [(⟨a, .row [], 0⟩ : PS10)]).map PS10.pure = (LR ++ [(⟨b, .row [], 0⟩ : PS10)]).map PS10.pure := by
  rw [List.map_append, List.map_append, h]; rfl
set_option maxRecDepth 100000 in
set_option maxHeartbeats 4000000 in
theorem more10 {lo0 xb k : Nat} {m1 m2 : Option Nat} {d : D10} {W : World} (h : J10 lo0 xb m1 m2 k d W) (hn : d.LP.length ≤ 11) :
    Calls Tryz.prog 28 #[.pointer (some ⟨xb, 0, none⟩)] W fun r W' => r = .returned (.bool true) ∧ ∃ d', J10 lo0 xb m1 m2 k d' W' ∧ d'.LP.length = d.LP.length + 1 ∧ Below lo0 W W' ∧ d'.fp = d.fp ∧ d'.fr = d.fr := by
  have H := Lib.hid h
  have HL := Lib.hid hn
  have LN := Lib.hid (show d.LR.length = d.LP.length from by have := congrArg List.length h.rel; simpa using this.symm)
  obtain ⟨n, hnn⟩ := ex_hid d.LP.length
  have bb := h.b
  rw [← hnn.out] at bb
  have e0 : W.cell? ⟨xb, 0, none⟩ = some (.pointer (some ⟨d.fp, 0, none⟩)) := cell_has bb (i := 0) rfl
  have MK := jmake_any h.P h.fr
  have RMK := Lib.hid (fun (o2 : Nat → Tg10) (u1 : World) (r : SJ sideR10 m2 d.lr d.fr d.f d.c o2 d.LR u1) (f : FreeT o2 u1) => rjmake_any r f)
  clear h hn bb
  go_enter Tryz.func28, Tryz.ntmps28
  go_wp2_with fail
  refine MK.mono ?_
  rintro r w1 ⟨sP, rfl, lP, k1, o1, p1, v1, fr1, nw1⟩
  have P1 := Lib.hid p1
  have V1 := Lib.hid v1
  have FR1 := Lib.hid fr1
  have NW1 := Lib.hid nw1
  have K1 := Lib.hid k1
  have hlo := H.out.lolt
  have z1 := k1.size
  have HV := Lib.hid hlo
  have bb := k1.has H.out.b (by simp)
  rw [← hnn.out] at bb
  have S1 := H.out.s.keeps k1 (by simp)
  obtain ⟨g, cap, w2, run2, r2, k2, q2, l2⟩ := val_app11 (T := 54) (E := 71) (TY := 71) Tryz.underlying54 infoSp11 rfl (by decide) lo0 d.sa d.sc d.LP.length (sptV10 d.LP) (.pointer (some ⟨sP, 0, none⟩)) rfl (w1.alloc (.cells #[.pointer (some ⟨sP, 0, none⟩)] 71)) w1.heap.size (S1.keeps ((Keeps.refl [] w1).alloc _) (by simp)) (has_new _ _) (by have := HL.out; omega) (by simp; omega)
  rw [← hnn.out] at run2
  have RUN2 := Lib.hid run2
  have k12 : Keeps (blk d.sa) w1 w2 := ((Keeps.refl (blk d.sa) w1).alloc _).trans k2
  have old1 : ∀ z, d.o z ≠ .free → o1 z = d.o z := fun z hz => V1.out.old z (Nat.lt_of_not_le (fun h9 => hz (H.out.fr z h9)))
  have so1 : ∀ z, z ∈ blk d.sa → o1 z = .two 1 := fun z hz => (old1 z (by rw [H.out.so z hz]; simp)).trans (H.out.so z hz)
  have bo1 : o1 xb = .two 0 := (old1 xb (by rw [H.out.bo]; simp)).trans H.out.bo
  have ko1 : ∀ z, z ∈ blk d.ka → o1 z = .two 2 := fun z hz => (old1 z (by rw [H.out.ko z hz]; simp)).trans (H.out.ko z hz)
  obtain ⟨o2, tg2, mv2, fr2, nw2⟩ := own_app11 (t := .two 1) (S := blk d.sa) (S' := blk (some (⟨g, 0, none⟩ : Addr))) so1 (fun z hz => (S1.blk_lt z hz).2) k12 (fun z hz => by
    simp [blk] at hz; subst hz
    rcases q2 with h | h
    · exact .inl h
    · right; rw [h]; simp) fr1 (fun z hz => by simp [blk] at hz; subst hz; exact l2)
  have xbsa : xb ∉ blk d.sa := fun h => by have := so1 xb h; rw [bo1] at this; simp at this
  have b2 := k12.has bb xbsa
  have xbl := lt_of_block b2
  have bo2 : o2 xb = .two 0 := (mv2.old xb (lt_of_block bb)).trans bo1
  have kS : Keeps [xb] w2 (w2.setCell ⟨xb, 2, none⟩ (.slice (some ⟨g, 0, none⟩) (n + 1) cap)) := (Keeps.refl _ _).setCell (.inr (by simp)) _
  have mvS : MvT (fun t => decide (t = .two 0)) o2 w2 o2 (w2.setCell ⟨xb, 2, none⟩ (.slice (some ⟨g, 0, none⟩) (n + 1) cap)) := MvT.of_keeps kS (fun z hz => by simp at hz; subst hz; simp [bo2])
  have V3 := two_off mv2 mvS
  have b3 : (w2.setCell ⟨xb, 2, none⟩ (.slice (some ⟨g, 0, none⟩) (n + 1) cap)).heap[xb]? = some (twoO10 d.fp d.fr (.slice (some ⟨g, 0, none⟩) (n + 1) cap) (.slice d.ka n d.kc)) := has_setCell b2 2 _
  have gxb : g ≠ xb := fun e => by have := tg2 g (by simp [blk]); rw [e, bo2] at this; simp at this
  have S3 : ValRow 71 lo0 (some ⟨g, 0, none⟩) (d.LP.length + 1) cap (sptV10 (d.LP ++ [⟨sP, .row [], 0⟩])) (w2.setCell ⟨xb, 2, none⟩ (.slice (some ⟨g, 0, none⟩) (n + 1) cap)) := (r2.congr (fun q hq => sptV10_push d.LP ⟨sP, .row [], 0⟩ q hq)).keeps kS (fun z hz hy => by simp [blk] at hz; simp at hy; subst hz; exact gxb hy)
  have offk : ∀ z, z ∈ blk d.ka → z ∉ FrT (fun t => decide (t = .two 1) || decide (t = .two 0)) o1 w1 := fun z hz => not_frT (by rw [ko1 z hz]; rfl)
  have KR1 := H.out.kr.keeps k1 (by simp)
  have KR3 := KR1.keeps V3.keeps offk
  have ko2 : ∀ z, z ∈ blk d.ka → o2 z = .two 2 := fun z hz => (mv2.old z (KR1.blk_lt z hz).2).trans (ko1 z hz)
  have P3 := P1.out.mv V3 (fun t ht => by cases t <;> simp_all [Tg10.side, sideP10])
  have R3 := (H.out.R.mv V1.out (fun t ht => by cases t <;> simp_all [Tg10.side, sideR10])).mv V3 (fun t ht => by cases t <;> simp_all [Tg10.side, sideR10])
  have FR3 : FreeT o2 (w2.setCell ⟨xb, 2, none⟩ (.slice (some ⟨g, 0, none⟩) (n + 1) cap)) := fr2.quiet kS.size
  have c2a : w1.cell? ⟨xb, 2, none⟩ = some (.slice d.sa n d.sc) := cell_has bb (i := 2) rfl
  have c2b : w2.cell? ⟨xb, 2, none⟩ = some (.slice d.sa n d.sc) := cell_has b2 (i := 2) rfl
  have cf2 := free_of_has b2 2
  have B03 := H.out.lolt
  have V13 := Lib.hid (two_off V1.out V3)
  obtain ⟨w3, hw3⟩ : ∃ y, y = w2.setCell ⟨xb, 2, none⟩ (.slice (some ⟨g, 0, none⟩) (n + 1) cap) := ⟨_, rfl⟩
  rw [← hw3] at b3 S3 KR3 P3 R3 FR3 V13 V3
  have PK := Lib.hid (show SJ sideP10 m1 d.lp d.fp d.f d.c o2 (d.LP ++ [⟨sP, .row [], 0⟩]) w3 ∧ SJ sideR10 m2 d.lr d.fr d.f d.c o2 d.LR w3 ∧ FreeT o2 w3 ∧ ValRow 71 lo0 (some ⟨g, 0, none⟩) (d.LP.length + 1) cap (sptV10 (d.LP ++ [⟨sP, .row [], 0⟩])) w3 ∧ ValRow 81 lo0 d.ka d.LP.length d.kc (sptV10 d.LR) w3 ∧ w3.heap[xb]? = some (twoO10 d.fp d.fr (.slice (some ⟨g, 0, none⟩) (n + 1) cap) (.slice d.ka n d.kc)) ∧ o2 xb = .two 0 ∧ (∀ z, z ∈ blk (some (⟨g, 0, none⟩ : Addr)) → o2 z = .two 1) ∧ (∀ z, z ∈ blk d.ka → o2 z = .two 2) from ⟨P3, R3, FR3, S3, KR3, b3, bo2, tg2, ko2⟩)
  have N3 := Lib.hid (show ∀ z, o2 z ≠ .free → lo0 ≤ z from fun z hz => by
    rcases nw2 z hz with h9 | h9
    · rcases NW1.out z h9 with h8 | h8
      · exact H.out.low z h8
      · have := HV.out; omega
    · have := HV.out; have := K1.out.size; omega)
  have HW3 := Lib.hid hw3
  clear MK p1 v1 fr1 nw1 k1 S1 run2 r2 k2 q2 l2 k12 old1 so1 bo1 ko1 tg2 mv2 fr2 nw2 xbsa b2 xbl bo2 kS mvS V3 b3 gxb S3 offk KR1 KR3 ko2 P3 R3 FR3 bb hlo B03 hw3
  go_upto_region 3 with (at_builtin; refine wpList_append_run rfl _ _ 54 rfl _ _ rfl rfl _ _ RUN2.out ?_)
  rw [← HW3.out]
  have e3 : w3.drew.cell? ⟨xb, 3, none⟩ = some (.slice d.ka n d.kc) := cell_has PK.out.2.2.2.2.2.1 (i := 3) rfl
  have e1 : w3.drew.cell? ⟨xb, 1, none⟩ = some (.pointer (some ⟨d.fr, 0, none⟩)) := cell_has PK.out.2.2.2.2.2.1 (i := 1) rfl
  have MR := RMK.out o2 w3.drew (PK.out.2.1.quiet (Keeps.refl [] w3).drew) (PK.out.2.2.1.quiet (Keeps.refl [] w3).drew.size)
  clear c2a c2b cf2 e0
  refine wp_regionG (fun w' => w'.cell? ⟨xb, 3, none⟩ = some (.slice d.ka n d.kc) ∧ w'.cell? ⟨xb, 1, none⟩ = some (.pointer (some ⟨d.fr, 0, none⟩))) 14 (by kernel_rfl) ⟨e3, e1⟩ (fun hF => ?_)
  refine wpAnyG_takeY (i := 0) (v := ?_) rfl (by kernel_rfl) (by decide +kernel) (by decide +kernel) (by decide +kernel) (fun _ _ _ h => h) (by kernel_rfl) ?_ (by assumption) ?_
  rotate_left
  · (intro wz; go_simp; with_reducible rfl)
  try simp only [Act.put, List.setIfInBounds_toArray, List.set_cons_zero, List.set_cons_succ]
  refine wpAnyG_takeY (i := 1) (v := ?_) rfl (by kernel_rfl) (by decide +kernel) (by decide +kernel) (by decide +kernel) (fun _ _ _ h => h) (by kernel_rfl) ?_ (by assumption) ?_
  rotate_left
  · (intro wz; go_simp; with_reducible rfl)
  try simp only [Act.put, List.setIfInBounds_toArray, List.set_cons_zero, List.set_cons_succ]
  refine wpAnyG_takeY (i := 2) (v := ?_) rfl (by kernel_rfl) (by decide +kernel) (by decide +kernel) (by decide +kernel) (fun _ _ _ h => h) (by kernel_rfl) ?_ (by assumption) ?_
  rotate_left
  · (intro wz; go_simp; with_reducible rfl)
  try simp only [Act.put, List.setIfInBounds_toArray, List.set_cons_zero, List.set_cons_succ]
  refine wpAnyG_takeY (i := 3) (v := ?_) rfl (by kernel_rfl) (by decide +kernel) (by decide +kernel) (by decide +kernel) (fun _ _ _ h => h) (by kernel_rfl) ?_ (by assumption) ?_
  rotate_left
  · (intro wz; go_simp; with_reducible rfl)
  try simp only [Act.put, List.setIfInBounds_toArray, List.set_cons_zero, List.set_cons_succ]
  refine wpAnyG_take (i := 4) (v := ?_) rfl (by kernel_rfl) (by decide +kernel) (by decide +kernel) (by decide +kernel) (by decide +kernel) (by rfl) (fun _ _ _ h => h) (by kernel_rfl) ?_ (by assumption) ?_
  rotate_left
  · (intro wz hSw; (try dsimp only at hSw); go_simp; with_reducible rfl)
  try simp only [Act.put, List.setIfInBounds_toArray, List.set_cons_zero, List.set_cons_succ]
  refine wpAnyG_takeY (i := 5) (v := ?_) rfl (by kernel_rfl) (by decide +kernel) (by decide +kernel) (by decide +kernel) (fun _ _ _ h => h) (by kernel_rfl) ?_ (by assumption) ?_
  rotate_left
  · (intro wz; go_simp; with_reducible rfl)
  try simp only [Act.put, List.setIfInBounds_toArray, List.set_cons_zero, List.set_cons_succ]
  refine wpAnyG_takeY (i := 6) (v := ?_) rfl (by kernel_rfl) (by decide +kernel) (by decide +kernel) (by decide +kernel) (fun _ _ _ h => h) (by kernel_rfl) ?_ (by assumption) ?_
  rotate_left
  · (intro wz; go_simp; with_reducible rfl)
  try simp only [Act.put, List.setIfInBounds_toArray, List.set_cons_zero, List.set_cons_succ]
  refine wpAnyG_takeY (i := 7) (v := ?_) rfl (by kernel_rfl) (by decide +kernel) (by decide +kernel) (by decide +kernel) (fun _ _ _ h => h) (by kernel_rfl) ?_ (by assumption) ?_
  rotate_left
  · (intro wz; go_simp; with_reducible rfl)
  try simp only [Act.put, List.setIfInBounds_toArray, List.set_cons_zero, List.set_cons_succ]
  refine wpAnyG_take (i := 8) (v := ?_) rfl (by kernel_rfl) (by decide +kernel) (by decide +kernel) (by decide +kernel) (by decide +kernel) (by rfl) (fun _ _ _ h => h) (by kernel_rfl) ?_ (by assumption) ?_
  rotate_left
  · (intro wz hSw; (try dsimp only at hSw); go_simp; with_reducible rfl)
  try simp only [Act.put, List.setIfInBounds_toArray, List.set_cons_zero, List.set_cons_succ]
  refine wpAnyG_one (i := 9) rfl (by kernel_rfl) (by kernel_rfl) (fun K hK => ?_)
  have HK := Lib.hid hK
  clear hK
  go_simp
  refine MR.mono ?_
  rintro r w4 ⟨sR, rfl, lR, k4, o4, r4, v4, fr4, nw4⟩
  have k34 : Keeps [] w3 w4 := ((Keeps.refl [] w3).drew).trans k4
  have hF4 : (fun w' : World => w'.cell? ⟨xb, 3, none⟩ = some (.slice d.ka n d.kc) ∧ w'.cell? ⟨xb, 1, none⟩ = some (.pointer (some ⟨d.fr, 0, none⟩))) w4 := ⟨k4.cell e3 (by simp), k4.cell e1 (by simp)⟩
  refine HK.out _ _ hF4 ?_
  clear HK K
  try simp only [Act.put, List.setIfInBounds_toArray, List.set_cons_zero, List.set_cons_succ]
  have K4 := PK.out.2.2.2.2.1.keeps k34 (by simp)
  have z4 := k34.size
  have ka4 : Keeps [] w4 (w4.alloc (.cells #[.pointer (some ⟨sR, 0, none⟩)] 81)) := (Keeps.refl [] w4).alloc _
  obtain ⟨g5, cap5, w5, run5, r5, k5, q5, l5⟩ := val_app11 (T := 55) (E := 81) (TY := 81) Tryz.underlying55 infoRs11 rfl (by decide) lo0 d.ka d.kc d.LP.length (sptV10 d.LR) (.pointer (some ⟨sR, 0, none⟩)) rfl _ w4.heap.size (K4.keeps ka4 (by simp)) (has_new _ _) (by have := HL.out; omega) (by have := ka4.size; have := V13.out.size; have := HV.out; omega)
  rw [← hnn.out] at run5
  have k45 : Keeps (blk d.ka) w4 w5 := (ka4.mono (by simp)).trans k5
  have old4 : ∀ z, o2 z ≠ .free → o4 z = o2 z := fun z hz => v4.old z (Nat.lt_of_not_le (fun h9 => hz (PK.out.2.2.1 z h9)))
  have ko4 : ∀ z, z ∈ blk d.ka → o4 z = .two 2 := fun z hz => (old4 z (by rw [PK.out.2.2.2.2.2.2.2.2 z hz]; simp)).trans (PK.out.2.2.2.2.2.2.2.2 z hz)
  have bo4 : o4 xb = .two 0 := (old4 xb (by rw [PK.out.2.2.2.2.2.2.1]; simp)).trans PK.out.2.2.2.2.2.2.1
  have so4 : ∀ z, z ∈ blk (some (⟨g, 0, none⟩ : Addr)) → o4 z = .two 1 := fun z hz => (old4 z (by rw [PK.out.2.2.2.2.2.2.2.1 z hz]; simp)).trans (PK.out.2.2.2.2.2.2.2.1 z hz)
  obtain ⟨o5, tg5, mv5, fr5, nw5⟩ := own_app11 (t := .two 2) (S := blk d.ka) (S' := blk (some (⟨g5, 0, none⟩ : Addr))) ko4 (fun z hz => (K4.blk_lt z hz).2) k45 (fun z hz => by
    simp [blk] at hz; subst hz
    rcases q5 with h | h
    · exact .inl h
    · right; rw [h]; simp) fr4 (fun z hz => by simp [blk] at hz; subst hz; exact l5)
  have b4 := k34.has PK.out.2.2.2.2.2.1 (by simp)
  have xbka : xb ∉ blk d.ka := fun h => by have := ko4 xb h; rw [bo4] at this; simp at this
  have b5 := k45.has b4 xbka
  have bo5 : o5 xb = .two 0 := (mv5.old xb (lt_of_block b4)).trans bo4
  have kS5 : Keeps [xb] w5 (w5.setCell ⟨xb, 3, none⟩ (.slice (some ⟨g5, 0, none⟩) (n + 1) cap5)) := (Keeps.refl _ _).setCell (.inr (by simp)) _
  have mvS5 : MvT (fun t => decide (t = .two 0)) o5 w5 o5 (w5.setCell ⟨xb, 3, none⟩ (.slice (some ⟨g5, 0, none⟩) (n + 1) cap5)) := MvT.of_keeps kS5 (fun z hz => by simp at hz; subst hz; simp [bo5])
  have V6 := two_off mv5 mvS5
  have b6 : (w5.setCell ⟨xb, 3, none⟩ (.slice (some ⟨g5, 0, none⟩) (n + 1) cap5)).heap[xb]? = some (twoO10 d.fp d.fr (.slice (some ⟨g, 0, none⟩) (n + 1) cap) (.slice (some ⟨g5, 0, none⟩) (n + 1) cap5)) := has_setCell b5 3 _
  have gxb5 : g5 ≠ xb := fun e => by have := tg5 g5 (by simp [blk]); rw [e, bo5] at this; simp at this
  have KR6 : ValRow 81 lo0 (some ⟨g5, 0, none⟩) (d.LP.length + 1) cap5 (sptV10 (d.LR ++ [⟨sR, .row [], 0⟩])) (w5.setCell ⟨xb, 3, none⟩ (.slice (some ⟨g5, 0, none⟩) (n + 1) cap5)) := (r5.congr (fun q hq => by have h9 := sptV10_push d.LR ⟨sR, .row [], 0⟩ q (by rw [LN.out]; exact hq); rw [LN.out] at h9; exact h9)).keeps kS5 (fun z hz hy => by simp [blk] at hz; simp at hy; subst hz; exact gxb5 hy)
  have S4 := PK.out.2.2.2.1.keeps k34 (by simp)
  have S6 := S4.keeps V6.keeps (fun z hz => not_frT (by rw [so4 z hz]; rfl))
  have so6 : ∀ z, z ∈ blk (some (⟨g, 0, none⟩ : Addr)) → o5 z = .two 1 := fun z hz => (mv5.old z (S4.blk_lt z hz).2).trans (so4 z hz)
  have vq : MvT (fun _ => false) o2 w3 o2 w3.drew := MvT.of_keeps (S := []) (Keeps.refl [] w3).drew (by simp)
  have P4 := ((PK.out.1.quiet (Keeps.refl [] w3).drew).mv v4 (fun t ht => by cases t <;> simp_all [Tg10.side, sideP10])).mv V6 (fun t ht => by cases t <;> simp_all [Tg10.side, sideP10])
  have R4 := r4.mv V6 (fun t ht => by cases t <;> simp_all [Tg10.side, sideR10])
  have FR6 : FreeT o5 (w5.setCell ⟨xb, 3, none⟩ (.slice (some ⟨g5, 0, none⟩) (n + 1) cap5)) := fr5.quiet kS5.size
  have VT := two_off (two_off V13.out (two_off vq v4)) V6
  have J6 := Lib.hid (show J10 lo0 xb m1 m2 k { d with sa := some ⟨g, 0, none⟩, sc := cap, ka := some ⟨g5, 0, none⟩, kc := cap5, o := o5, LP := d.LP ++ [⟨sP, .row [], 0⟩], LR := d.LR ++ [⟨sR, .row [], 0⟩] } (w5.setCell ⟨xb, 3, none⟩ (.slice (some ⟨g5, 0, none⟩) (n + 1) cap5)) from by
    refine ⟨P4, R4, map_push10 H.out.rel _ _, by rw [List.map_append]; exact H.out.pj.make, FR6, ?_, bo5, ?_, so6, ?_, tg5, fun z hz => ?_⟩
    · show _ = some (twoO10 d.fp d.fr (.slice (some ⟨g, 0, none⟩) (d.LP ++ [(⟨sP, .row [], 0⟩ : PS10)]).length cap) (.slice (some ⟨g5, 0, none⟩) (d.LP ++ [(⟨sP, .row [], 0⟩ : PS10)]).length cap5))
      rw [List.length_append, List.length_singleton, ← hnn.out]; exact b6
    · show ValRow _ lo0 _ (d.LP ++ [(⟨sP, .row [], 0⟩ : PS10)]).length _ _ _
      rw [List.length_append, List.length_singleton]; exact S6
    · show ValRow _ lo0 _ (d.LP ++ [(⟨sP, .row [], 0⟩ : PS10)]).length _ _ _
      rw [List.length_append, List.length_singleton]; exact KR6
    · rcases nw5 z hz with h9 | h9
      · rcases nw4 z h9 with h8 | h8
        · exact N3.out z h8
        · have := V13.out.size; have := HV.out; have h7 : w3.drew.heap.size = w3.heap.size := rfl; omega
      · have := V13.out.size; have := HV.out; omega)
  have B6 := Lib.hid (show Below lo0 W (w5.setCell ⟨xb, 3, none⟩ (.slice (some ⟨g5, 0, none⟩) (n + 1) cap5)) from ⟨VT.os, VT.tape, VT.output, VT.size, fun z hz => VT.blk z (by have := HV.out; omega) (by
    have hf : d.o z = .free := Classical.byContradiction (fun h9 => by have := H.out.low z h9; omega)
    rw [hf]; rfl)⟩)
  have hFa : (fun w' : World => w'.cell? ⟨xb, 3, none⟩ = some (.slice d.ka n d.kc) ∧ w'.cell? ⟨xb, 1, none⟩ = some (.pointer (some ⟨d.fr, 0, none⟩))) (w4.alloc (.cells #[.pointer (some ⟨sR, 0, none⟩)] 81)) := ⟨ka4.cell hF4.1 (by simp), ka4.cell hF4.2 (by simp)⟩
  have hF5 : (fun w' : World => w'.cell? ⟨xb, 3, none⟩ = some (.slice d.ka n d.kc) ∧ w'.cell? ⟨xb, 1, none⟩ = some (.pointer (some ⟨d.fr, 0, none⟩))) w5 := ⟨k45.cell hF4.1 xbka, k45.cell hF4.2 xbka⟩
  have vf := free_of_has b5 3
  clear k34 K4 ka4 r5 k5 q5 l5 k45 old4 ko4 bo4 so4 tg5 mv5 fr5 nw5 b4 xbka b5 bo5 kS5 mvS5 V6 b6 gxb5 KR6 S4 S6 so6 vq P4 R4 FR6 VT MR r4 v4 fr4 nw4 k4
  refine wpAnyG_one (i := 10) rfl (by kernel_rfl) (by kernel_rfl) (fun K hK => ?_)
  have HK := Lib.hid hK
  clear hK
  go_simp
  refine HK.out _ _ hFa ?_
  clear HK K
  try simp only [Act.put, List.setIfInBounds_toArray, List.set_cons_zero, List.set_cons_succ]
  refine wpAnyG_one (i := 11) rfl (by kernel_rfl) (by kernel_rfl) (fun K hK => ?_)
  have HK := Lib.hid hK
  clear hK
  refine wpO_append (.tmp 23) (.tmp 29) 55 rfl _ _ rfl rfl _ _ run5 ?_
  refine HK.out _ _ hF5 ?_
  clear HK K
  try simp only [Act.put, List.setIfInBounds_toArray, List.set_cons_zero, List.set_cons_succ]
  refine wpAnyG_takeY (i := 12) (v := ?_) rfl (by kernel_rfl) (by decide +kernel) (by decide +kernel) (by decide +kernel) (fun _ _ _ h => h) (by kernel_rfl) ?_ (by assumption) ?_
  rotate_left
  · (intro wz; go_simp; with_reducible rfl)
  try simp only [Act.put, List.setIfInBounds_toArray, List.set_cons_zero, List.set_cons_succ]
  refine wpAnyG_takeY (i := 13) (v := ?_) rfl (by kernel_rfl) (by decide +kernel) (by decide +kernel) (by decide +kernel) (fun _ _ _ h => h) (by kernel_rfl) ?_ (by assumption) ?_
  rotate_left
  · (intro wz; go_simp; with_reducible rfl)
  try simp only [Act.put, List.setIfInBounds_toArray, List.set_cons_zero, List.set_cons_succ]
  have w53 := hF5.1
  refine wpAnyG_last rfl (by kernel_rfl) (by rfl) (by rfl) (fun K hK => ?_)
  have HK := Lib.hid hK
  clear hK
  go_simp
  refine HK.out _ _ ?_
  clear HK K
  try simp only [Act.put, List.setIfInBounds_toArray, List.set_cons_zero, List.set_cons_succ]
  refine wpAnyG_done (by kernel_rfl) ?_ _
  clear hFa hF5 hF4 w53 vf e3 e1 run5
  go_wp2_with fail
  go_ret
  exact ⟨rfl, _, J6.out, by simp, B6.out, rfl, rfl⟩
set_option maxRecDepth 100000 in
theorem does10_more {lo0 xb k : Nat} {m1 m2 : Option Nat} {d : D10} {W : World} (h : J10 lo0 xb m1 m2 k d W) (hn : 0 < d.LP.length) (hn2 : d.LP.length ≤ 12) (s : Int) (nm : ByteArray) (v : Int) :
    Calls Tryz.prog 10 #[.pointer (some ⟨xb, 0, none⟩), stepV10 4 s nm v] W (DoesP lo0 xb m1 m2 k d.fp d.fr W) := by
  have H := Lib.hid h
  have HN := Lib.hid (And.intro hn hn2)
  have q1 : ((4 : Int) == 1) = false := by decide
  have q2 : ((4 : Int) == 2) = false := by decide
  have q3 : ((4 : Int) == 3) = false := by decide
  have q4 : ((4 : Int) == 4) = true := by decide
  unfold stepV10
  clear h hn hn2
  go_enter Tryz.func10, Tryz.ntmps10
  go_upto_region 1 with (fail)
  refine wp_gen (fun V => V.heap[W.heap.size]? = some (stepB10 4 s nm v) ∧ Keeps [] W V) ⟨has_new _ _, (Keeps.refl [] W).alloc _⟩ ?_
  rintro w0 ⟨b0, k0⟩
  have J := Lib.hid (H.out.quiet k0)
  obtain ⟨X, hX⟩ := ex_hid W.heap.size
  have K0 := Lib.hid k0
  rw [← hX.out] at b0 ⊢
  have x0 : w0.cell? ⟨X, 0, none⟩ = some (.int .i64 4) := cell_has b0 (i := 0) rfl
  have x1 : w0.cell? ⟨X, 1, none⟩ = some (.int .i64 s) := cell_has b0 (i := 1) rfl
  have AT := jat_any J.out HN.out.1 (by have := HN.out.2; omega) s
  obtain ⟨n, hnn⟩ := ex_hid d.LP.length
  have bb := J.out.b
  rw [← hnn.out] at bb
  have e2 : w0.cell? ⟨xb, 2, none⟩ = some (.slice d.sa n d.sc) := cell_has bb (i := 2) rfl
  clear b0 k0 hX bb
  go_wp2_with fail
  refine AT.mono ?_
  rintro r w1 ⟨p, hp, rfl, rfl⟩
  clear AT x1 hp
  by_cases h12 : n ≤ 11
  · have i1 : ¬ (12 : Int) ≤ (n : Int) := by omega
    have MO := more10 J.out (by rw [← hnn.out]; exact h12)
    go_wp2_with fail
    refine MO.mono ?_
    rintro r w2 ⟨rfl, d', j2, l2, b2, q7, q8⟩
    have J2 := Lib.hid j2
    have B2 := Lib.hid b2
    have L2 := Lib.hid l2
    clear MO j2 b2 l2 x0 e2
    go_wp2_with fail
    go_ret
    exact ⟨rfl, d', J2.out.mono (Nat.le_succ _), by have := L2.out; omega, by have := L2.out; have := hnn.out; omega, (K0.out.below H.out.lolt (by simp)).trans B2.out, q7, q8⟩
  · have i1 : (12 : Int) ≤ (n : Int) := by omega
    go_wp2_with fail
    go_ret
    exact ⟨rfl, d, J.out.mono (Nat.le_succ _), HN.out.1, HN.out.2, K0.out.below H.out.lolt (by simp), rfl, rfl⟩
set_option maxRecDepth 100000 in
theorem does10_none {lo0 xb k : Nat} {m1 m2 : Option Nat} {d : D10} {W : World} (h : J10 lo0 xb m1 m2 k d W) (hn : 0 < d.LP.length) (hn2 : d.LP.length ≤ 12) (kd s : Int) (nm : ByteArray) (v : Int) (h1 : kd ≠ 1) (h2 : kd ≠ 2) (h3 : kd ≠ 3) (h4 : kd ≠ 4) :
    Calls Tryz.prog 10 #[.pointer (some ⟨xb, 0, none⟩), stepV10 kd s nm v] W (DoesP lo0 xb m1 m2 k d.fp d.fr W) := by
  have H := Lib.hid h
  have HN := Lib.hid (And.intro hn hn2)
  have q1 : (kd == 1) = false := by simpa using h1
  have q2 : (kd == 2) = false := by simpa using h2
  have q3 : (kd == 3) = false := by simpa using h3
  have q4 : (kd == 4) = false := by simpa using h4
  unfold stepV10
  clear h hn hn2 h1 h2 h3 h4
  go_enter Tryz.func10, Tryz.ntmps10
  go_upto_region 1 with (fail)
  refine wp_gen (fun V => V.heap[W.heap.size]? = some (stepB10 kd s nm v) ∧ Keeps [] W V) ⟨has_new _ _, (Keeps.refl [] W).alloc _⟩ ?_
  rintro w0 ⟨b0, k0⟩
  have J := Lib.hid (H.out.quiet k0)
  obtain ⟨X, hX⟩ := ex_hid W.heap.size
  have K0 := Lib.hid k0
  rw [← hX.out] at b0 ⊢
  have x0 : w0.cell? ⟨X, 0, none⟩ = some (.int .i64 kd) := cell_has b0 (i := 0) rfl
  have x1 : w0.cell? ⟨X, 1, none⟩ = some (.int .i64 s) := cell_has b0 (i := 1) rfl
  have AT := jat_any J.out HN.out.1 (by have := HN.out.2; omega) s
  clear b0 k0 hX
  go_wp2_with fail
  refine AT.mono ?_
  rintro r w1 ⟨p, hp, rfl, rfl⟩
  clear AT x1 hp
  go_wp2_with fail
  go_ret
  exact ⟨rfl, d, J.out.mono (Nat.le_succ _), HN.out.1, HN.out.2, K0.out.below H.out.lolt (by simp), rfl, rfl⟩
theorem does10_any {lo0 xb k : Nat} {m1 m2 : Option Nat} {d : D10} {W : World} (h : J10 lo0 xb m1 m2 k d W) (hk : k ≤ 900) (hn : 0 < d.LP.length) (hn2 : d.LP.length ≤ 12) (kd s : Int) (nm : ByteArray) (v : Int) (hs : nm.size ≤ 200) :
    Calls Tryz.prog 10 #[.pointer (some ⟨xb, 0, none⟩), stepV10 kd s nm v] W (DoesP lo0 xb m1 m2 k d.fp d.fr W) := by
  by_cases h1 : kd = 1
  · subst h1; exact does10_set h hk hn hn2 s nm v hs
  by_cases h2 : kd = 2
  · subst h2; exact does10_get h hk hn hn2 s nm v hs
  by_cases h3 : kd = 3
  · subst h3; exact does10_del h hk hn hn2 s nm v hs
  by_cases h4 : kd = 4
  · subst h4; exact does10_more h hn hn2 s nm v
  exact does10_none h hn hn2 kd s nm v h1 h2 h3 h4
end Go.Proofs.YtajmfenfajbakaaGreat
end

section
namespace Go.Proofs.YtajmfenfajbakaaGreat
open Go.RowKit
set_option linter.unusedVariables false
set_option linter.unusedSimpArgs false

theorem pairs_le10 {k : Nat} {f : Fam} {ks : List ByteArray} {L : List (Way10 × Nat)} {i : Nat} {x : Way10 × Nat} (h : PJ k f ks L) (hk : k ≤ 900) (hx : L[i]? = some x) : (pairsW f x.1).length ≤ 100000 := by
  rw [pairsW_len]
  have h1 := (h.sp i x hx).1
  cases hw : x.1 with
  | row vs => rw [hw] at h1; have := h1.2; show vs.length ≤ _; omega
  | own T => rw [hw] at h1; have := (show OwnOk k f.N T from h1).t.ek; have := liveN_le T.E; show liveN T.E ≤ _; omega
set_option maxRecDepth 100000 in
set_option maxHeartbeats 4000000 in
theorem alike10_row {lo0 xb k : Nat} {m1 m2 : Option Nat} {d : D10} {W : World} (h : J10 lo0 xb m1 m2 k d W) (hk : k ≤ 900) {i : Nat} {x : PS10} (hx : d.LP[i]? = some x) {vs : List Int} (hw : x.wy = .row vs) :
    Calls Tryz.prog 11 #[.pointer (some ⟨xb, 0, none⟩), .int .i64 (i : Nat)] W fun r W' => r = .returned (.bool true) ∧ Keeps [] W W' := by
  obtain ⟨y, hy, yw, yv⟩ := h.twin hx
  have hi := (List.getElem?_eq_some_iff.1 hx).1
  obtain ⟨gs, hgs⟩ := h.s.shape (by omega)
  obtain ⟨gk, hgk⟩ := h.kr.shape (by omega)
  obtain ⟨n, hnn⟩ := ex_hid d.LP.length
  have bb := h.b
  rw [hgs, hgk, ← hnn.out] at bb
  have e2 : W.cell? ⟨xb, 2, none⟩ = some (.slice (some ⟨gs, 0, none⟩) n d.sc) := cell_has bb (i := 2) rfl
  have e3 : W.cell? ⟨xb, 3, none⟩ = some (.slice (some ⟨gk, 0, none⟩) n d.kc) := cell_has bb (i := 3) rfl
  have rs := h.s
  have rk := h.kr
  rw [hgs] at rs
  rw [hgk] at rk
  have e4 : W.cell? ⟨gs, i, none⟩ = some (.pointer (some ⟨x.sb, 0, none⟩)) := by rw [← sptV10_at hx]; exact rs.cell hi
  have e5 : W.cell? ⟨gk, i, none⟩ = some (.pointer (some ⟨y.sb, 0, none⟩)) := by rw [← sptV10_at hy]; exact rk.cell hi
  have i0 : (0 : Int) ≤ (i : Int) := by omega
  have i1 : (i : Int) < (n : Int) := by have := hnn.out; omega
  obtain ⟨pt0, t2, hpt, t3⟩ := rjcells h.R hy
  rw [yv] at t3
  obtain rfl : pt0 = none := hpt.2 (by rw [yw, hw]; rfl)
  have t2d := (Keeps.refl [] W).drew.cell t2 (by simp)
  have t3d := (Keeps.refl [] W).drew.cell t3 (by simp)
  have JD := Lib.hid (h.quiet (Keeps.refl [] W).drew)
  have LEP := jlen_any JD.out.P hx
  have LER := rjlen_any JD.out.R hy
  have VE := jver_any JD.out.P JD.out.pj hk hx
  have SH := jshared_any JD.out.P hx
  have PAP := jpairs_any JD.out.P JD.out.pj hk hx
  have PAR := Lib.hid (fun (V : World) (q : Keeps [] W.drew V) => (show Calls Tryz.prog 38 #[.pointer (some ⟨y.sb, 0, none⟩)] V (Pairs10 (pairsW d.f x.wy) V) from by rw [← yw]; exact rjpairs_any (JD.out.quiet q).R JD.out.pj2 hk hy))
  have SIP := Lib.hid (fun (V : World) (q : Keeps [] W.drew V) => jsight_any (JD.out.quiet q).P JD.out.pj hk hx)
  have SIR := Lib.hid (fun (V : World) (q : Keeps [] W.drew V) => (show Calls Tryz.prog 40 #[.pointer (some ⟨y.sb, 0, none⟩)] V (SeenP x.wy V) from by rw [← yw]; exact rjsight_any (JD.out.quiet q).R JD.out.pj2 hk hy))
  have hPl := pairs_le10 h.pj hk (pure_at hx)
  simp only at hPl
  rw [yw] at LER
  rw [show x.wy.isRow = true from by rw [hw]; rfl] at SH
  rw [hw] at SIP SIR
  obtain ⟨P, hP⟩ := ex_hid (pairsW d.f x.wy)
  rw [← hP.out] at PAP PAR hPl
  have PCM := Lib.hid (fun (l1 l2 : Nat) (a1 a2 : Option Addr) (c1 c2 : Nat) (V : World) (h1 : PairRow l1 a1 c1 P V) (h2 : PairRow l2 a2 c2 P V) => pairs10_same l1 l2 c1 c2 a1 a2 P V h1 h2 (Nat.le_trans hPl (by decide)))
  obtain ⟨np, hnp⟩ := ex_hid P.length
  unfold Pairs10 at PAP PAR
  rw [← hnp.out] at PAP PAR PCM
  obtain ⟨ln, hln⟩ := ex_hid x.wy.len
  rw [← hln.out] at LEP LER
  obtain ⟨ver, hver⟩ := ex_hid x.ver
  rw [← hver.out] at VE t3d
  have SZ := Lib.hid (fun (V : World) => sight10_zero V)
  unfold SeenP at SIP SIR
  simp only at SIP SIR
  unfold noSight at SIP SIR SZ
  clear h hx hy yw yv hi hgs hgk bb rs rk hpt hw hPl t2 t3
  go_enter Tryz.func11, Tryz.ntmps11
  go_upto_region 3 with (fail)
  clear e2 e3 e4 e5
  go_region_held3 (fun w' => w'.cell? ⟨y.sb, 2, none⟩ = some (.pointer none) ∧ w'.cell? ⟨y.sb, 3, none⟩ = some (.int .i64 (ver : Nat))) (go_keep)
    (first
      | (go_at_call 33; refine LEP.mono ?_; rintro r v1 ⟨rfl, rfl⟩)
      | (go_at_call 34; refine LER.mono ?_; rintro r v2 ⟨rfl, rfl⟩)
      | (go_at_call 35; refine VE.mono ?_; rintro r v3 ⟨rfl, rfl⟩)
      | (go_at_call 23; refine SH.mono ?_; rintro r v4 ⟨rfl, rfl⟩)
      | (go_at_call 37; refine PAP.mono ?_; rintro r u1 ⟨a1, c1, rfl, p1, q1⟩; have P1 := Lib.hid p1; have Q1 := Lib.hid q1; have z2 := q1.cell (w := W.drew) t2d (by simp); have z3 := q1.cell (w := W.drew) t3d (by simp); clear p1 q1)
      | (go_at_call 38; refine (PAR.out u1 Q1.out).mono ?_; rintro r u2 ⟨a2, c2, rfl, p2, q2⟩; have P2 := Lib.hid p2; have P12 := Lib.hid (PairRow.keeps P1.out q2 (by simp)); have Q2 := Lib.hid (Q1.out.trans q2); have y2 := Q2.out.cell (w := W.drew) t2d (by simp); have y3 := Q2.out.cell (w := W.drew) t3d (by simp); clear p2 q2)
      | (go_at_call 36; refine (PCM.out _ _ a1 a2 c1 c2 u2 P12.out P2.out).mono ?_; rintro r u3 ⟨rfl, q3⟩; have Q3 := Lib.hid (Q2.out.trans q3); have x2 := Q3.out.cell (w := W.drew) t2d (by simp); have x3 := Q3.out.cell (w := W.drew) t3d (by simp); clear q3)
      | (go_at_call 39; refine (SIP.out u3 Q3.out).mono ?_; rintro r u4 ⟨rfl, q4⟩; have Q4 := Lib.hid (Q3.out.trans q4); have w2 := Q4.out.cell (w := W.drew) t2d (by simp); have w3 := Q4.out.cell (w := W.drew) t3d (by simp); clear q4)
      | (go_at_call 40; refine (SIR.out u4 Q4.out).mono ?_; rintro r u5 ⟨rfl, q5⟩; have Q5 := Lib.hid (Q4.out.trans q5); have s2 := Q5.out.cell (w := W.drew) t2d (by simp); have s3 := Q5.out.cell (w := W.drew) t3d (by simp); clear q5)
      | (go_at_call 16; refine (SZ.out u5).mono ?_; rintro r u6 ⟨rfl, q6⟩; have Q6 := Lib.hid (Q5.out.trans q6); have r2 := Q6.out.cell (w := W.drew) t2d (by simp); have r3 := Q6.out.cell (w := W.drew) t3d (by simp); clear q6))
  go_wp2_with fail
  go_ret
  exact ⟨by simp, ((Keeps.refl [] W).drew).trans Q6.out⟩
set_option maxRecDepth 100000 in
set_option maxHeartbeats 4000000 in
theorem alike10_own {lo0 xb k : Nat} {m1 m2 : Option Nat} {d : D10} {W : World} (h : J10 lo0 xb m1 m2 k d W) (hk : k ≤ 900) {i : Nat} {x : PS10} (hx : d.LP[i]? = some x) {T : Tab} (hw : x.wy = .own T) :
    Calls Tryz.prog 11 #[.pointer (some ⟨xb, 0, none⟩), .int .i64 (i : Nat)] W fun r W' => r = .returned (.bool true) ∧ Keeps [] W W' := by
  obtain ⟨y, hy, yw, yv⟩ := h.twin hx
  have hi := (List.getElem?_eq_some_iff.1 hx).1
  obtain ⟨gs, hgs⟩ := h.s.shape (by omega)
  obtain ⟨gk, hgk⟩ := h.kr.shape (by omega)
  obtain ⟨n, hnn⟩ := ex_hid d.LP.length
  have bb := h.b
  rw [hgs, hgk, ← hnn.out] at bb
  have e2 : W.cell? ⟨xb, 2, none⟩ = some (.slice (some ⟨gs, 0, none⟩) n d.sc) := cell_has bb (i := 2) rfl
  have e3 : W.cell? ⟨xb, 3, none⟩ = some (.slice (some ⟨gk, 0, none⟩) n d.kc) := cell_has bb (i := 3) rfl
  have rs := h.s
  have rk := h.kr
  rw [hgs] at rs
  rw [hgk] at rk
  have e4 : W.cell? ⟨gs, i, none⟩ = some (.pointer (some ⟨x.sb, 0, none⟩)) := by rw [← sptV10_at hx]; exact rs.cell hi
  have e5 : W.cell? ⟨gk, i, none⟩ = some (.pointer (some ⟨y.sb, 0, none⟩)) := by rw [← sptV10_at hy]; exact rk.cell hi
  have i0 : (0 : Int) ≤ (i : Int) := by omega
  have i1 : (i : Int) < (n : Int) := by have := hnn.out; omega
  obtain ⟨pt0, t2, hpt, t3⟩ := rjcells h.R hy
  rw [yv] at t3
  obtain ⟨pt, rfl⟩ : ∃ pt, pt0 = some pt := by
    cases pt0 with
    | none => exfalso; have := hpt.1 rfl; rw [yw, hw] at this; cases this
    | some pt => exact ⟨pt, rfl⟩
  have t2d := (Keeps.refl [] W).drew.cell t2 (by simp)
  have t3d := (Keeps.refl [] W).drew.cell t3 (by simp)
  have JD := Lib.hid (h.quiet (Keeps.refl [] W).drew)
  have LEP := jlen_any JD.out.P hx
  have LER := rjlen_any JD.out.R hy
  have VE := jver_any JD.out.P JD.out.pj hk hx
  have SH := jshared_any JD.out.P hx
  have PAP := jpairs_any JD.out.P JD.out.pj hk hx
  have PAR := Lib.hid (fun (V : World) (q : Keeps [] W.drew V) => (show Calls Tryz.prog 38 #[.pointer (some ⟨y.sb, 0, none⟩)] V (Pairs10 (pairsW d.f x.wy) V) from by rw [← yw]; exact rjpairs_any (JD.out.quiet q).R JD.out.pj2 hk hy))
  have SIP := Lib.hid (fun (V : World) (q : Keeps [] W.drew V) => jsight_any (JD.out.quiet q).P JD.out.pj hk hx)
  have SIR := Lib.hid (fun (V : World) (q : Keeps [] W.drew V) => (show Calls Tryz.prog 40 #[.pointer (some ⟨y.sb, 0, none⟩)] V (SeenP x.wy V) from by rw [← yw]; exact rjsight_any (JD.out.quiet q).R JD.out.pj2 hk hy))
  have hPl := pairs_le10 h.pj hk (pure_at hx)
  simp only at hPl
  have TI := Lib.hid (show TInv k T from by
    have h9 := (h.pj.sp i _ (pure_at hx)).1
    simp only at h9
    rw [hw] at h9
    exact (show OwnOk k d.f.N T from h9).t)
  rw [yw] at LER
  rw [show x.wy.isRow = false from by rw [hw]; rfl] at SH
  rw [hw] at SIP SIR
  obtain ⟨P, hP⟩ := ex_hid (pairsW d.f x.wy)
  rw [← hP.out] at PAP PAR hPl
  have PCM := Lib.hid (fun (l1 l2 : Nat) (a1 a2 : Option Addr) (c1 c2 : Nat) (V : World) (h1 : PairRow l1 a1 c1 P V) (h2 : PairRow l2 a2 c2 P V) => pairs10_same l1 l2 c1 c2 a1 a2 P V h1 h2 (Nat.le_trans hPl (by decide)))
  obtain ⟨np, hnp⟩ := ex_hid P.length
  unfold Pairs10 at PAP PAR
  rw [← hnp.out] at PAP PAR PCM
  obtain ⟨ln, hln⟩ := ex_hid x.wy.len
  rw [← hln.out] at LEP LER
  obtain ⟨ver, hver⟩ := ex_hid x.ver
  rw [← hver.out] at VE t3d
  have SCM := Lib.hid (fun (l1 l2 l3 l4 : Nat) (c1 c2 e1 e2 : Nat) (a1 a2 b1 b2 : Option Addr) (V : World) (h1 : ValRow 3 l1 a1 (2 ^ T.L) c1 (fun k => .int .i64 (T.V k)) V) (h2 : ValRow 3 l2 a2 (2 ^ T.L) c2 (fun k => .int .i64 (T.V k)) V) (h3 : EntRow l3 b1 e1 T.E V) (h4 : EntRow l4 b2 e2 T.E V) => sight10_same T l1 l2 l3 l4 c1 c2 e1 e2 a1 a2 b1 b2 V h1 h2 h3 h4 (by have := TI.out.l12; omega) (by have := TI.out.ek; omega))
  unfold SeenP at SIP SIR
  simp only at SIP SIR
  unfold SightP at SIP SIR
  clear h hx hy yw yv hi hgs hgk bb rs rk hpt hw hPl t2 t3
  go_enter Tryz.func11, Tryz.ntmps11
  go_upto_region 3 with (fail)
  clear e2 e3 e4 e5
  go_region_held3 (fun w' => w'.cell? ⟨y.sb, 2, none⟩ = some (.pointer (some pt)) ∧ w'.cell? ⟨y.sb, 3, none⟩ = some (.int .i64 (ver : Nat))) (go_keep)
    (first
      | (go_at_call 33; refine LEP.mono ?_; rintro r v1 ⟨rfl, rfl⟩)
      | (go_at_call 34; refine LER.mono ?_; rintro r v2 ⟨rfl, rfl⟩)
      | (go_at_call 35; refine VE.mono ?_; rintro r v3 ⟨rfl, rfl⟩)
      | (go_at_call 23; refine SH.mono ?_; rintro r v4 ⟨rfl, rfl⟩)
      | (go_at_call 37; refine PAP.mono ?_; rintro r u1 ⟨a1, c1, rfl, p1, q1⟩; have P1 := Lib.hid p1; have Q1 := Lib.hid q1; have z2 := q1.cell (w := W.drew) t2d (by simp); have z3 := q1.cell (w := W.drew) t3d (by simp); clear p1 q1)
      | (go_at_call 38; refine (PAR.out u1 Q1.out).mono ?_; rintro r u2 ⟨a2, c2, rfl, p2, q2⟩; have P2 := Lib.hid p2; have P12 := Lib.hid (PairRow.keeps P1.out q2 (by simp)); have Q2 := Lib.hid (Q1.out.trans q2); have y2 := Q2.out.cell (w := W.drew) t2d (by simp); have y3 := Q2.out.cell (w := W.drew) t3d (by simp); clear p2 q2)
      | (go_at_call 36; refine (PCM.out _ _ a1 a2 c1 c2 u2 P12.out P2.out).mono ?_; rintro r u3 ⟨rfl, q3⟩; have Q3 := Lib.hid (Q2.out.trans q3); have x2 := Q3.out.cell (w := W.drew) t2d (by simp); have x3 := Q3.out.cell (w := W.drew) t3d (by simp); clear q3)
      | (go_at_call 39; refine (SIP.out u3 Q3.out).mono ?_; rintro r u4 ⟨b1, d1, f1, h1, rfl, g1, g2, g3⟩; have G1 := Lib.hid g1; have G2 := Lib.hid g2; have Q4 := Lib.hid (Q3.out.trans (Below.keeps g3 [])); have w2 := Q4.out.cell (w := W.drew) t2d (by simp); have w3 := Q4.out.cell (w := W.drew) t3d (by simp); clear g1 g2 g3)
      | (go_at_call 40; refine (SIR.out u4 Q4.out).mono ?_; rintro r u5 ⟨b2, d2, f2, h2, rfl, g1, g2, g3⟩; have G3 := Lib.hid g1; have G4 := Lib.hid g2; have G5 := Lib.hid (Below.keeps g3 []); have Q5 := Lib.hid (Q4.out.trans (Below.keeps g3 [])); have s2 := Q5.out.cell (w := W.drew) t2d (by simp); have s3 := Q5.out.cell (w := W.drew) t3d (by simp); clear g1 g2 g3)
      | (go_at_call 16; refine (SCM.out _ _ _ _ d1 d2 h1 h2 b1 b2 f1 f2 u5 (G1.out.keeps G5.out (by simp)) G3.out (G2.out.keeps G5.out (by simp)) G4.out).mono ?_; rintro r u6 ⟨rfl, q6⟩; have Q6 := Lib.hid (Q5.out.trans q6); have r2 := Q6.out.cell (w := W.drew) t2d (by simp); have r3 := Q6.out.cell (w := W.drew) t3d (by simp); clear q6))
  go_wp2_with fail
  go_ret
  exact ⟨by simp, ((Keeps.refl [] W).drew).trans Q6.out⟩
theorem alike10_any {lo0 xb k : Nat} {m1 m2 : Option Nat} {d : D10} {W : World} (h : J10 lo0 xb m1 m2 k d W) (hk : k ≤ 900) {i : Nat} (hi : i < d.LP.length) :
    Calls Tryz.prog 11 #[.pointer (some ⟨xb, 0, none⟩), .int .i64 (i : Nat)] W fun r W' => r = .returned (.bool true) ∧ Keeps [] W W' := by
  have hx := List.getElem?_eq_getElem hi
  cases hw : (d.LP[i]).wy with
  | row vs => exact alike10_row h hk hx hw
  | own T => exact alike10_own h hk hx hw
end Go.Proofs.YtajmfenfajbakaaGreat
end

section
namespace Go.Proofs.YtajmfenfajbakaaGreat
open Go.RowKit
set_option linter.unusedVariables false
set_option linter.unusedSimpArgs false

set_option maxRecDepth 100000 in
theorem fnew_bad (most pairs : Int) (p : Option Addr) (w : World) (hb : ¬ (0 ≤ most ∧ most ≤ 256 ∧ 0 ≤ pairs ∧ pairs ≤ 65536)) :
    Calls Tryz.prog 19 #[.int .i64 most, .int .i64 pairs, .pointer p] w fun r W' => r = .returned (.tuple #[.pointer none, .int .i64 1]) ∧ w = W' := by
  have BAD : decide (most < 0) = true ∨ (decide (most < 0) = false ∧ decide ((256 : Int) < most) = true) ∨ (decide (most < 0) = false ∧ decide ((256 : Int) < most) = false ∧ decide (pairs < 0) = true) ∨ (decide (most < 0) = false ∧ decide ((256 : Int) < most) = false ∧ decide (pairs < 0) = false ∧ decide ((65536 : Int) < pairs) = true) := by
    simp only [decide_eq_true_eq, decide_eq_false_iff_not]; omega
  clear hb
  go_enter Tryz.func19, Tryz.ntmps19
  rcases BAD with b1 | ⟨b1, b2⟩ | ⟨b1, b2, b3⟩ | ⟨b1, b2, b3, b4⟩
  all_goals
    go_wp2_with fail
    go_ret2
    exact ⟨rfl, rfl⟩
theorem J10.init {lo0 xb lp lr fp fr : Nat} {m1 m2 : Option Nat} {SP SR : List Nat} {most al : Int} {c : C4} {W : World} (hP : FA10 fp lp SP m1 ⟨most, al, newT, []⟩ W) (hR : RFA10 fr lr SR m2 ⟨most, al, newT, []⟩ W) (h1 : MtrAt m1 c W) (h2 : CtrAt m2 c W)
    (b : W.heap[xb]? = some (twoO10 fp fr (.slice none 0 0) (.slice none 0 0))) (g1 : ∀ b, m1 = some b → lo0 ≤ b ∧ b < lp) (g2 : ∀ b, m2 = some b → lo0 ≤ b ∧ b < lp) (hne : ∀ b, m1 = some b → m2 ≠ some b) (l1 : lo0 ≤ lp) (l2 : lp ≤ lr) (l3 : ∀ z, z ∈ SP → z < lr) (l4 : ∀ z, z ∈ SR → z < xb) (l5 : lr ≤ xb) :
    ∃ o, J10 lo0 xb m1 m2 0 ⟨lp, fp, lr, fr, none, none, 0, 0, ⟨most, al, newT, []⟩, [], c, o, [], []⟩ W := by
  obtain ⟨o, ho⟩ : ∃ o : Nat → Tg10, o = fun z => if m1 = some z then .met true else if m2 = some z then .met false else if z ∈ SP then .fam true else if z ∈ SR then .fam false else if z = xb then .two 0 else .free := ⟨_, rfl⟩
  have fP := FA10.foot hP
  have fR := sideR10.fl _ _ _ _ _ _ hR
  have n1 : ∀ z, lp ≤ z → m1 ≠ some z := fun z hz e => by have := (g1 z e).2; omega
  have n2 : ∀ z, lp ≤ z → m2 ≠ some z := fun z hz e => by have := (g2 z e).2; omega
  have oP : ∀ z, z ∈ SP → o z = .fam true := fun z hz => by
    rw [ho]; simp only [if_neg (n1 z (fP z hz).1), if_neg (n2 z (fP z hz).1), if_pos hz]
  have oR : ∀ z, z ∈ SR → o z = .fam false := fun z hz => by
    have hz1 := (fR z hz).1
    have hn : z ∉ SP := fun h => by have := l3 z h; omega
    rw [ho]; simp only [if_neg (n1 z (by omega)), if_neg (n2 z (by omega)), if_neg hn, if_pos hz]
  have oX : o xb = .two 0 := by
    have hn : xb ∉ SP := fun h => by have := l3 _ h; omega
    have hn2 : xb ∉ SR := fun h => by have := l4 _ h; omega
    rw [ho]; simp only [if_neg (n1 xb (by omega)), if_neg (n2 xb (by omega)), if_neg hn, if_neg hn2, if_true]
  have oM1 : ∀ b, m1 = some b → o b = .met true := fun b hb => by rw [ho]; simp only [if_pos hb]
  have oM2 : ∀ b, m2 = some b → o b = .met false := fun b hb => by
    rw [ho]; simp only [if_neg (fun e => hne b e hb), if_pos hb]
  have xl := lt_of_block b
  refine ⟨o, ⟨h1, fun b hb => ⟨(g1 b hb).2, oM1 b hb⟩, ⟨SP, hP, oP⟩, fun i x hx => by simp at hx⟩, ⟨h2, fun b hb => ⟨by have := (g2 b hb).2; show b < lr; omega, oM2 b hb⟩, ⟨SR, hR, oR⟩, fun i x hx => by simp at hx⟩, rfl, PJ.new most al, fun z hz => ?_, b, oX, ValRow.nil _ _ _ _, fun z hz => by simp [blk] at hz, ValRow.nil _ _ _ _, fun z hz => by simp [blk] at hz, fun z hz => ?_⟩
  · have q1 : m1 ≠ some z := fun e => by have := (g1 z e).2; omega
    have q2 : m2 ≠ some z := fun e => by have := (g2 z e).2; omega
    have q3 : z ∉ SP := fun h => by have := (fP z h).2; omega
    have q4 : z ∉ SR := fun h => by have := (fR z h).2; omega
    rw [ho]; simp only [if_neg q1, if_neg q2, if_neg q3, if_neg q4, if_neg (show ¬ z = xb by omega)]
  · by_cases q1 : m1 = some z
    · exact (g1 z q1).1
    by_cases q2 : m2 = some z
    · exact (g2 z q2).1
    by_cases q3 : z ∈ SP
    · have := (fP z q3).1; omega
    by_cases q4 : z ∈ SR
    · have := (fR z q4).1; omega
    by_cases q5 : z = xb
    · omega
    · exfalso; apply hz; show o z = _; rw [ho]; simp only [if_neg q1, if_neg q2, if_neg q3, if_neg q4, if_neg q5]
/-- Behind begun. -/
def BegunP (lo0 : Nat) (m1 m2 : Option Nat) (w : World) (r : Ending) (w' : World) : Prop :=
  (r = .returned (.tuple #[.pointer none, .bool true]) ∧ w = w') ∨ ∃ xb d, r = .returned (.tuple #[.pointer (some ⟨xb, 0, none⟩), .bool true]) ∧ J10 lo0 xb m1 m2 0 d w' ∧ d.LP.length = 1 ∧ Below lo0 w w'
set_option maxRecDepth 100000 in
theorem begun_bad (lo0 : Nat) (most al : Int) (m1 m2 : Option Nat) (w : World) (hb : ¬ (0 ≤ most ∧ most ≤ 256 ∧ 0 ≤ al ∧ al ≤ 65536)) :
    Calls Tryz.prog 9 #[.int .i64 most, .int .i64 al, mV m1, mV m2] w (BegunP lo0 m1 m2 w) := by
  obtain ⟨p1, hp1⟩ : ∃ p : Option Addr, Hid (mV m1 = .pointer p) := ⟨_, Lib.hid rfl⟩
  obtain ⟨p2, hp2⟩ : ∃ p : Option Addr, Hid (mV m2 = .pointer p) := ⟨_, Lib.hid rfl⟩
  rw [hp1.out, hp2.out]
  have HB := Lib.hid hb
  clear hb
  go_enter Tryz.func9, Tryz.ntmps9
  go_wp2_with fail
  refine (fnew_bad most al p1 w HB.out).mono ?_
  rintro r w1 ⟨rfl, rfl⟩
  go_wp2_with fail
  refine (rfnew_bad most al p2 w HB.out).mono ?_
  rintro r w1 ⟨rfl, rfl⟩
  go_wp2_with fail
  go_ret2
  exact .inl ⟨rfl, rfl⟩
set_option maxRecDepth 100000 in
set_option maxHeartbeats 4000000 in
theorem begun_ok (lo0 : Nat) (most al : Int) (m1 m2 : Option Nat) (w : World) (hb : 0 ≤ most ∧ most ≤ 256 ∧ 0 ≤ al ∧ al ≤ 65536) (h1 : MtrAt m1 ⟨0, 0, 0, 0⟩ w) (h2 : CtrAt m2 ⟨0, 0, 0, 0⟩ w) (hlo : lo0 ≤ w.heap.size) (g1 : ∀ b, m1 = some b → lo0 ≤ b) (g2 : ∀ b, m2 = some b → lo0 ≤ b) (hne : ∀ b, m1 = some b → m2 ≠ some b) :
    Calls Tryz.prog 9 #[.int .i64 most, .int .i64 al, mV m1, mV m2] w (BegunP lo0 m1 m2 w) := by
  obtain ⟨p1, hp1⟩ : ∃ p : Option Addr, Hid (mV m1 = .pointer p) := ⟨_, Lib.hid rfl⟩
  obtain ⟨p2, hp2⟩ : ∃ p : Option Addr, Hid (mV m2 = .pointer p) := ⟨_, Lib.hid rfl⟩
  have HB := Lib.hid hb
  have G := Lib.hid (And.intro hlo (And.intro g1 (And.intro g2 hne)))
  have LM := Lib.hid (show (∀ b, m1 = some b → b < w.heap.size) ∧ (∀ b, m2 = some b → b < w.heap.size) from ⟨fun b hb => lt_of_block (h1 b hb), fun b hb => lt_of_block (h2 b hb)⟩)
  have H2 := Lib.hid h2
  have R1 := jnew_any most al m1 _ w h1 hb.1 hb.2.1 hb.2.2.1 hb.2.2.2
  rw [hp1.out] at R1
  rw [hp1.out, hp2.out]
  clear h1 h2 hb hlo g1 g2 hne
  go_enter Tryz.func9, Tryz.ntmps9
  go_wp2_with fail
  refine R1.mono ?_
  rintro r w1 ⟨fp, rfl, f1, k1, m1', SP, s1⟩
  have K1 := Lib.hid k1
  have M1 := Lib.hid m1'
  have S1 := Lib.hid s1
  have nm : ∀ b, m2 = some b → b ∉ mS m1 := fun b hb hx => by
    cases hm : m1 with
    | none => rw [hm] at hx; simp [mS] at hx
    | some b' => rw [hm] at hx; simp [mS] at hx; subst hx; exact G.out.2.2.2 _ hm hb
  have R2 := rjnew_any most al m2 _ w1 (H2.out.keeps k1 nm) HB.out.1 HB.out.2.1 HB.out.2.2.1 HB.out.2.2.2
  rw [hp2.out] at R2
  clear R1 k1 m1' s1 nm f1
  go_wp2_with fail
  refine R2.mono ?_
  rintro r w2 ⟨fr, rfl, f2, k2, m2', SR, s2⟩
  have K2 := Lib.hid k2
  have M2 := Lib.hid m2'
  have S2 := Lib.hid s2
  clear R2 k2 m2' s2 f2
  go_upto_region 8 with (fail)
  refine wp_gen (fun V => V.heap[w2.heap.size]? = some (twoO10 fp fr (.slice none 0 0) (.slice none 0 0)) ∧ Keeps [] w2 V) ⟨has_new _ _, (Keeps.refl [] w2).alloc _⟩ ?_
  rintro w4 ⟨b4, k4⟩
  have st : ∃ o, J10 lo0 w2.heap.size m1 m2 0 ⟨w.heap.size, fp, w1.heap.size, fr, none, none, 0, 0, ⟨most, al, newT, []⟩, [], (⟨0, 0, 0, 0⟩ : C4).tab, o, [], []⟩ w4 := by
    have z1 := K1.out.size
    have z2 := K2.out.size
    have hg := G.out
    have lm := LM.out
    have nm1 : ∀ b, m1 = some b → b ∉ mS m2 := fun b hb hx => by
      cases hm : m2 with
      | none => rw [hm] at hx; simp [mS] at hx
      | some b' => rw [hm] at hx; simp [mS] at hx; subst hx; exact hg.2.2.2 _ hb hm
    have nm : ∀ z, w.heap.size ≤ z → z ∉ mS m2 := fun z hz hx => by
      cases hm : m2 with
      | none => rw [hm] at hx; simp [mS] at hx
      | some b' => rw [hm] at hx; simp [mS] at hx; subst hx; have := lm.2 _ hm; omega
    have fS := FA10.foot S1.out
    exact J10.init ((S1.out.keeps K2.out (fun z hz => nm z (fS z hz).1)).keeps k4 (by simp)) (sideR10.fk _ _ _ _ _ _ _ _ S2.out k4 (by simp)) ((M1.out.keeps K2.out nm1).keeps k4 (by simp)) (M2.out.keeps k4 (by simp)) b4 (fun b h => ⟨hg.2.1 b h, lm.1 b h⟩) (fun b h => ⟨hg.2.2.1 b h, lm.2 b h⟩) hg.2.2.2 hg.1 z1 (fun z hz => (fS z hz).2) (fun z hz => (sideR10.fl _ _ _ _ _ _ S2.out z hz).2) z2
  have bel : Below lo0 w w4 := by
    have z1 := K1.out.size
    have hg := G.out
    refine (((K1.out.below hg.1 (fun x hx => ?_)).trans (K2.out.below (by omega) (fun x hx => ?_)))).trans (k4.below (by have := K2.out.size; omega) (by simp))
    · cases hm : m1 with
      | none => rw [hm] at hx; simp [mS] at hx
      | some b' => rw [hm] at hx; simp [mS] at hx; subst hx; exact hg.2.1 _ hm
    · cases hm : m2 with
      | none => rw [hm] at hx; simp [mS] at hx
      | some b' => rw [hm] at hx; simp [mS] at hx; subst hx; exact hg.2.2.1 _ hm
  obtain ⟨o, hJ⟩ := st
  obtain ⟨xb, hxb⟩ := ex_hid w2.heap.size
  rw [← hxb.out] at hJ ⊢
  have MO := more10 hJ (by simp)
  have BEL := Lib.hid bel
  clear b4 k4 hJ S1 S2 M1 M2 K1 K2 H2 LM bel
  go_wp2_with fail
  refine MO.mono ?_
  rintro r w5 ⟨rfl, d', j5, l5, b5, _, _⟩
  have J5 := Lib.hid j5
  have L5 := Lib.hid l5
  have B5 := Lib.hid b5
  clear MO j5 l5 b5
  go_wp2_with fail
  go_ret2
  exact .inr ⟨xb, d', rfl, J5.out, by simpa using L5.out, BEL.out.trans B5.out⟩
end Go.Proofs.YtajmfenfajbakaaGreat
end

section
namespace Go.Proofs.YtajmfenfajbakaaGreat
open Go.RowKit
set_option linter.unusedVariables false
set_option linter.unusedSimpArgs false

theorem stepPl10 {w : World} {a : Option Addr} {len : Nat} {F : Nat → Int} {N : Nat → ByteArray} (h : FldRow (fun j => [2].contains j) 4 w a len F N) {i : Nat} (hi : i < len) :
    ∃ b off, a = some ⟨b, off, none⟩ ∧ ∀ W, Keeps [] w W → W.cell? ⟨b, off + i * 4, none⟩ = some (.int .i64 (F (i * 4))) ∧ W.cell? ⟨b, off + i * 4 + 1, none⟩ = some (.int .i64 (F (i * 4 + 1))) ∧ W.cell? ⟨b, off + i * 4 + 2, none⟩ = some (.string (N (i * 4 + 2))) ∧ W.cell? ⟨b, off + i * 4 + 3, none⟩ = some (.int .i64 (F (i * 4 + 3))) := by
  rcases h with h | ⟨b, off, h1, _, _, hc⟩
  · omega
  · refine ⟨b, off, h1, fun W k => ?_⟩
    have e0 := hc (i * 4) (by omega)
    have e1 := hc (i * 4 + 1) (by omega)
    have e2 := hc (i * 4 + 2) (by omega)
    have e3 := hc (i * 4 + 3) (by omega)
    have m0 : (i * 4) % 4 = 0 := by omega
    have m1 : (i * 4 + 1) % 4 = 1 := by omega
    have m2 : (i * 4 + 2) % 4 = 2 := by omega
    have m3 : (i * 4 + 3) % 4 = 3 := by omega
    unfold fldV at e0 e1 e2 e3
    rw [m0] at e0
    rw [m1] at e1
    rw [m2] at e2
    rw [m3] at e3
    rw [Nat.add_assoc, Nat.add_assoc, Nat.add_assoc]
    exact ⟨k.cell e0 (by simp), k.cell e1 (by simp), k.cell e2 (by simp), k.cell e3 (by simp)⟩
def PlaysP10 (w0 : World) (m1 m2 : Option Nat) (r : Ending) (w' : World) : Prop := r = .returned (.bool true) ∧ Below w0.heap.size w0 w' ∧ ∃ c, MtrAt m1 c w' ∧ CtrAt m2 c w'
set_option maxRecDepth 100000 in
set_option maxHeartbeats 8000000 in
theorem plays10_any (w0 : World) (most al : Int) (m1 m2 : Option Nat) (a : Option Addr) (n0 ca : Nat) (F : Nat → Int) (N : Nat → ByteArray) (w : World) (row : FldRow (fun j => [2].contains j) 4 w0 a n0 F N) (hz : ∀ i, i < n0 → (N (i * 4 + 2)).size ≤ 200) (hn : n0 ≤ 300) (hB : Below w0.heap.size w0 w)
    (BG : Calls Tryz.prog 9 #[.int .i64 most, .int .i64 al, mV m1, mV m2] w (BegunP w0.heap.size m1 m2 w)) (h1 : MtrAt m1 ⟨0, 0, 0, 0⟩ w) (h2 : CtrAt m2 ⟨0, 0, 0, 0⟩ w) :
    Calls Tryz.prog 6 #[.int .i64 most, .int .i64 al, .slice a n0 ca, mV m1, mV m2] w (PlaysP10 w0 m1 m2) := by
  have H0 := Lib.hid row
  have HZ := Lib.hid hz
  have HM := Lib.hid (And.intro h1 h2)
  have HB := Lib.hid hB
  obtain ⟨p1, hp1⟩ : ∃ p : Option Addr, Hid (mV m1 = .pointer p) := ⟨_, Lib.hid rfl⟩
  obtain ⟨p2, hp2⟩ : ∃ p : Option Addr, Hid (mV m2 = .pointer p) := ⟨_, Lib.hid rfl⟩
  rw [hp1.out, hp2.out] at BG ⊢
  clear row hz h1 h2 hB
  go_enter Tryz.func6, Tryz.ntmps6
  go_wp2_with fail
  refine BG.mono ?_
  rintro r w1 (⟨rfl, rfl⟩ | ⟨xb, d, rfl, j0, l0, b0⟩)
  · clear BG
    go_wp2_with fail
    go_ret
    exact ⟨rfl, HB.out, _, HM.out.1, HM.out.2⟩
  · have ST := Lib.hid (show J10 w0.heap.size xb m1 m2 0 d w1 ∧ 0 < d.LP.length ∧ d.LP.length ≤ 12 ∧ Below w0.heap.size w0 w1 from ⟨j0, by omega, by omega, HB.out.trans b0⟩)
    clear BG j0 l0 b0 HM
    go_wp2_with fail
    go_loopw [13] (fun z13 wr => ∃ (i : Nat) (d : D10), i ≤ n0 ∧ z13 = .int .i64 i ∧ Hid (J10 w0.heap.size xb m1 m2 i d wr ∧ 0 < d.LP.length ∧ d.LP.length ≤ 12 ∧ Below w0.heap.size w0 wr)) (fun z13 _ => n0 - (intOf z13).toNat)
    case atStart => exact ⟨0, d, Nat.zero_le _, rfl, ST⟩
    case round =>
      clear ST d
      obtain ⟨i, d, hi, rfl, I⟩ := hrel
      by_cases hlt : i < n0
      · have i1 : (i : Int) < (n0 : Int) := by omega
        have i0 : (0 : Int) ≤ (i : Int) := by omega
        obtain ⟨b, off, rfl, hc⟩ := stepPl10 H0.out hlt
        obtain ⟨x0, x1, x2, x3⟩ := hc wr (Below.keeps I.out.2.2.2 [])
        have HC := Lib.hid hc
        have ZS := Lib.hid (HZ.out i hlt)
        obtain ⟨kd, hkd⟩ := ex_hid (F (i * 4))
        obtain ⟨ss, hss⟩ := ex_hid (F (i * 4 + 1))
        obtain ⟨s, hs⟩ := ex_hid (N (i * 4 + 2))
        obtain ⟨v, hv⟩ := ex_hid (F (i * 4 + 3))
        rw [← hkd.out] at x0
        rw [← hss.out] at x1
        rw [← hs.out] at x2 ZS
        rw [← hv.out] at x3
        have CE := Lib.hid (show ∀ W, Below w0.heap.size w0 W → W.cell? ⟨b, off + i * 4, none⟩ = some (.int .i64 kd) ∧ W.cell? ⟨b, off + i * 4 + 1, none⟩ = some (.int .i64 ss) ∧ W.cell? ⟨b, off + i * 4 + 2, none⟩ = some (.string s) ∧ W.cell? ⟨b, off + i * 4 + 3, none⟩ = some (.int .i64 v) from fun W q => by
          obtain ⟨y0, y1, y2, y3⟩ := HC.out W (Below.keeps q [])
          exact ⟨by rw [hkd.out]; exact y0, by rw [hss.out]; exact y1, by rw [hs.out]; exact y2, by rw [hv.out]; exact y3⟩)
        have BD := Lib.hid (show Below w0.heap.size w0 wr.drew from I.out.2.2.2.trans ((Keeps.refl [] wr).drew.below I.out.2.2.2.size (by simp)))
        have JD := Lib.hid (I.out.1.quiet (Keeps.refl [] wr).drew)
        have NL := Lib.hid (And.intro I.out.2.1 I.out.2.2.1)
        have hi9 : i ≤ 900 := by omega
        have RD := does10_any JD.out hi9 NL.out.1 NL.out.2 kd ss s v ZS.out
        unfold stepV10 DoesP at RD
        have xb0 : wr.drew.cell? ⟨xb, 0, none⟩ = some (.pointer (some ⟨d.fp, 0, none⟩)) := cell_has JD.out.b (i := 0) rfl
        have xb1 : wr.drew.cell? ⟨xb, 1, none⟩ = some (.pointer (some ⟨d.fr, 0, none⟩)) := cell_has JD.out.b (i := 1) rfl
        obtain ⟨fp, hfp⟩ := ex_hid d.fp
        obtain ⟨fr, hfr⟩ := ex_hid d.fr
        rw [← hfp.out] at xb0 RD
        rw [← hfr.out] at xb1 RD
        clear hc HC I
        go_upto_region 7 with (fail)
        go_region_held3 (fun w' => w'.cell? ⟨b, off + i * 4, none⟩ = some (.int .i64 kd) ∧ w'.cell? ⟨b, off + i * 4 + 1, none⟩ = some (.int .i64 ss) ∧ w'.cell? ⟨b, off + i * 4 + 2, none⟩ = some (.string s) ∧ w'.cell? ⟨b, off + i * 4 + 3, none⟩ = some (.int .i64 v) ∧ w'.cell? ⟨xb, 0, none⟩ = some (.pointer (some ⟨fp, 0, none⟩)) ∧ w'.cell? ⟨xb, 1, none⟩ = some (.pointer (some ⟨fr, 0, none⟩))) (go_keep)
          (first
            | (go_at_call 10; refine RD.mono ?_; rintro r u1 ⟨rfl, d1, j1, n1, n2, b1, e1, e2⟩; have J1 := Lib.hid j1; have N1 := Lib.hid (And.intro n1 n2); have B1 := Lib.hid (BD.out.trans b1); obtain ⟨y0, y1, y2, y3⟩ := CE.out u1 B1.out; have yb0 : u1.cell? ⟨xb, 0, none⟩ = some (.pointer (some ⟨fp, 0, none⟩)) := (by rw [← e1]; exact cell_has j1.b (i := 0) rfl); have yb1 : u1.cell? ⟨xb, 1, none⟩ = some (.pointer (some ⟨fr, 0, none⟩)) := (by rw [← e2]; exact cell_has j1.b (i := 1) rfl); have E12 := Lib.hid (And.intro e1 e2); clear j1 n1 n2 b1 e1 e2)
            | (go_at_call 12; refine (jat_any J1.out N1.out.1 (by have := N1.out.2; omega) ss).mono ?_; rintro r u2 ⟨p, hp, rfl, rfl⟩; have HP := Lib.hid hp; clear hp)
            | (go_at_call 11; refine (alike10_any J1.out (by omega) HP.out).mono ?_; rintro r u3 ⟨rfl, k3⟩; have K3 := Lib.hid k3; have a0 := k3.cell y0 (by simp); have a1 := k3.cell y1 (by simp); have a2 := k3.cell y2 (by simp); have a3 := k3.cell y3 (by simp); have ab0 := k3.cell yb0 (by simp); have ab1 := k3.cell yb1 (by simp); clear k3)
            | (go_at_call 14; refine (show Calls Tryz.prog 14 #[.pointer (some ⟨fp, 0, none⟩)] u3 (Names10 d1.ks u3) from by rw [← E12.out.1]; exact jnames_any (J1.out.quiet K3.out).P J1.out.pj (by omega)).mono ?_; rintro r u4 ⟨lo4, q4, c4, l4, rfl, v4, k4⟩; have V4 := Lib.hid v4; have K4 := Lib.hid (K3.out.trans k4); have s0 := k4.cell a0 (by simp); have s1 := k4.cell a1 (by simp); have s2 := k4.cell a2 (by simp); have s3 := k4.cell a3 (by simp); have sb0 := k4.cell ab0 (by simp); have sb1 := k4.cell ab1 (by simp); clear v4 k4 l4)
            | (go_at_call 15; refine (show Calls Tryz.prog 15 #[.pointer (some ⟨fr, 0, none⟩)] u4 (Names10 d1.ks u4) from by rw [← E12.out.2]; exact rjnames_any (J1.out.quiet K4.out).R J1.out.pj2 (by omega)).mono ?_; rintro r u5 ⟨lo5, q5, c5, l5, rfl, v5, k5⟩; have V5 := Lib.hid v5; have V45 := Lib.hid (V4.out.keeps k5 (by simp)); have K5 := Lib.hid (K4.out.trans k5); have t0 := k5.cell s0 (by simp); have t1 := k5.cell s1 (by simp); have t2 := k5.cell s2 (by simp); have t3 := k5.cell s3 (by simp); have tb0 := k5.cell sb0 (by simp); have tb1 := k5.cell sb1 (by simp); clear v5 k5 l5)
            | (go_at_call 13; refine (names_cmp lo4 lo5 q4 q5 c4 c5 d1.ks d1.ks u5 V45.out V5.out (by have := J1.out.pj.fk.kl; have := J1.out.pj.fk.t.ek; omega)).mono ?_; rintro r u6 ⟨rfl, k6⟩; rw [show decide (d1.ks = d1.ks) = true from by simp]; have K6 := Lib.hid (K5.out.trans k6); have r0 := k6.cell t0 (by simp); have r1 := k6.cell t1 (by simp); have r2 := k6.cell t2 (by simp); have r3 := k6.cell t3 (by simp); have rb0 := k6.cell tb0 (by simp); have rb1 := k6.cell tb1 (by simp); clear k6))
        have J9 := Lib.hid (J1.out.quiet K6.out)
        have B9 := Lib.hid (B1.out.trans (K6.out.below B1.out.size (by simp)))
        clear y0 y1 y2 y3 yb0 yb1 a0 a1 a2 a3 ab0 ab1 s0 s1 s2 s3 sb0 sb1 t0 t1 t2 t3 tb0 tb1 r0 r1 r2 r3 rb0 rb1 x0 x1 x2 x3 xb0 xb1 RD
        go_wp2_with fail
        go_roundw
        case rel => exact ⟨i + 1, d1, by omega, by go_num, Lib.hid ⟨J9.out, N1.out.1, N1.out.2, B9.out⟩⟩
        case measure => simp [intOf]; omega
      · obtain rfl : i = n0 := by omega
        have hge : ¬ (i : Int) < (i : Int) := by omega
        have I9 := Lib.hid I.out
        clear I
        go_wp2_with fail
        obtain ⟨wE, hwE⟩ : ∃ y, y = wr := ⟨_, rfl⟩
        subst hwE
        obtain ⟨n, hnn⟩ := ex_hid d.LP.length
        go_loopw [14] (fun z14 wr => ∃ j : Nat, j ≤ n ∧ z14 = .int .i64 j ∧ Hid (Keeps [] wE wr)) (fun z14 _ => n - (intOf z14).toNat)
        case atStart => exact ⟨0, Nat.zero_le _, rfl, Lib.hid (Keeps.refl _ _)⟩
        case round =>
          obtain ⟨j, hj, rfl, Q⟩ := hrel
          have hn12 : n ≤ 12 := by rw [hnn.out]; exact I9.out.2.2.1
          have J := Lib.hid (I9.out.1.quiet Q.out)
          have bb := J.out.b
          rw [← hnn.out] at bb
          by_cases hlt2 : j < n
          · have j1 : (j : Int) < (n : Int) := by omega
            have j0 : (0 : Int) ≤ (j : Int) := by omega
            have e2 : wr.cell? ⟨xb, 2, none⟩ = some (.slice d.sa n d.sc) := cell_has bb (i := 2) rfl
            have AL := alike10_any J.out (by omega) (i := j) (by rw [← hnn.out]; exact hlt2)
            clear bb
            go_wp2_with fail
            refine AL.mono ?_
            rintro r w2 ⟨rfl, k2⟩
            have Q2 := Lib.hid (Q.out.trans k2)
            clear AL k2 e2
            go_wp2_with fail
            go_roundw
            case rel => exact ⟨j + 1, by omega, by go_num, Q2⟩
            case measure => simp [intOf]; omega
          · obtain rfl : j = n := by omega
            have hge2 : ¬ (j : Int) < (j : Int) := by omega
            have e2 : wr.cell? ⟨xb, 2, none⟩ = some (.slice d.sa j d.sc) := cell_has bb (i := 2) rfl
            have hj9 : i ≤ 900 := by omega
            have JD := Lib.hid (J.out.quiet (Keeps.refl [] wr).drew)
            have xb0 : wr.drew.cell? ⟨xb, 0, none⟩ = some (.pointer (some ⟨d.fp, 0, none⟩)) := cell_has JD.out.b (i := 0) rfl
            have xb1 : wr.drew.cell? ⟨xb, 1, none⟩ = some (.pointer (some ⟨d.fr, 0, none⟩)) := cell_has JD.out.b (i := 1) rfl
            have FS := jfsight_any JD.out.P JD.out.pj hj9
            obtain ⟨t, f2, RS⟩ := rjkeys_any JD.out.R JD.out.pj2 hj9
            have HRS := Lib.hid RS
            have TI := Lib.hid JD.out.pj.fk.t
            unfold SightP at FS
            have BE := Lib.hid (I9.out.2.2.2.trans ((Q.out.trans (Keeps.refl [] wr).drew).below I9.out.2.2.2.size (by simp)))
            have SCM := Lib.hid (fun (l1 l2 l3 l4 : Nat) (c1 c2 e1 e2 : Nat) (a1 a2 b1 b2 : Option Addr) (V : World) (h1 : ValRow 3 l1 a1 (2 ^ d.f.K.L) c1 (fun k => .int .i64 (d.f.K.V k)) V) (h2 : ValRow 3 l2 a2 (2 ^ d.f.K.L) c2 (fun k => .int .i64 (d.f.K.V k)) V) (h3 : EntRow l3 b1 e1 d.f.K.E V) (h4 : EntRow l4 b2 e2 d.f.K.E V) => sight10_same d.f.K l1 l2 l3 l4 c1 c2 e1 e2 a1 a2 b1 b2 V h1 h2 h3 h4 (by have := TI.out.l12; omega) (by have := TI.out.ek; omega))
            clear bb RS
            go_upto_region 14 with (fail)
            clear e2
            go_region_held3 (fun w' => w'.cell? ⟨xb, 0, none⟩ = some (.pointer (some ⟨d.fp, 0, none⟩)) ∧ w'.cell? ⟨xb, 1, none⟩ = some (.pointer (some ⟨d.fr, 0, none⟩)) ∧ w'.cell? ⟨d.fr, 2, none⟩ = some (.pointer (some ⟨t, 0, none⟩))) (go_keep)
              (first
                | (go_at_call 17; refine FS.mono ?_; rintro r u4 ⟨b1, d1, f1, h1, rfl, g1, g2, g3⟩; have G1 := Lib.hid g1; have G2 := Lib.hid g2; have Q4 := Lib.hid (Below.keeps g3 []); have w0 := Q4.out.cell (w := wr.drew) xb0 (by simp); have w2 := Q4.out.cell (w := wr.drew) xb1 (by simp); have w3 := Q4.out.cell (w := wr.drew) f2 (by simp); clear g1 g2 g3)
                | (go_at_call 18; refine (HRS.out u4 Q4.out).mono ?_; rintro r u5 ⟨b2, d2, f3, h2, rfl, g1, g2, g3⟩; have G3 := Lib.hid g1; have G4 := Lib.hid g2; have G5 := Lib.hid (Below.keeps g3 []); have Q5 := Lib.hid (Q4.out.trans (Below.keeps g3 [])); have s0 := Q5.out.cell (w := wr.drew) xb0 (by simp); have s2 := Q5.out.cell (w := wr.drew) xb1 (by simp); have s3 := Q5.out.cell (w := wr.drew) f2 (by simp); clear g1 g2 g3)
                | (go_at_call 16; refine (SCM.out _ _ _ _ d1 d2 h1 h2 b1 b2 f1 f3 u5 (G1.out.keeps G5.out (by simp)) G3.out (G2.out.keeps G5.out (by simp)) G4.out).mono ?_; rintro r u6 ⟨rfl, q6⟩; have Q6 := Lib.hid (Q5.out.trans q6); have r0 := Q6.out.cell (w := wr.drew) xb0 (by simp); have r2 := Q6.out.cell (w := wr.drew) xb1 (by simp); have r3 := Q6.out.cell (w := wr.drew) f2 (by simp); clear q6))
            go_wp2_with fail
            go_ret
            exact ⟨rfl, BE.out.trans (Q6.out.below BE.out.size (by simp)), d.c, (JD.out.quiet Q6.out).P.ct, (JD.out.quiet Q6.out).R.ct⟩
end Go.Proofs.YtajmfenfajbakaaGreat
end
