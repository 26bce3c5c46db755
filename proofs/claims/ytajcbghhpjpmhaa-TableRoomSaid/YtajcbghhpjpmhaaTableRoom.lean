/- TableRoom, walked (chapter 7's laws). -/
import Derived.Test.YtajcbghhpjpmhaaRoomM
import Derived.Test.YtajcbghhpjpmhaaLawLaid
import Derived.Test.YtajcbghhpjpmhaaRTabMem
import Derived.Test.YtajcbghhpjpmhaaTabAwake
namespace Go.Proofs.Ytajcbghhpjpmhaa
open Go.RowKit
set_option linter.unusedVariables false
set_option linter.unusedSimpArgs false

theorem tableRoom_early (a1 a2 : Option Addr) (n1 n2 c1 c2 : Nat) (w : World) (h : 300 < n1 ∨ (n1 ≤ 300 ∧ 300 < n2)) :
    Calls Try.prog 3 #[.slice a1 n1 c1, .slice a2 n2 c2] w fun e w' => e = .returned (.bool true) ∧ Below w.heap.size w w' := by
  rcases h with h | ⟨h, h2⟩
  · have d1 : decide ((300 : Int) < (n1 : Int)) = true := by simp; omega
    go_enter Try.func3, Try.ntmps3
    go_wp2_with (go_at_call 13; refine (awake7 _).mono ?_; rintro e w' ⟨rfl, hb⟩)
    go_ret
    exact ⟨rfl, hb⟩
  · have d1 : decide ((300 : Int) < (n1 : Int)) = false := by simp; omega
    have d2 : decide ((300 : Int) < (n2 : Int)) = true := by simp; omega
    go_enter Try.func3, Try.ntmps3
    go_wp2_with (go_at_call 13; refine (awake7 _).mono ?_; rintro e w' ⟨rfl, hb⟩)
    go_ret
    exact ⟨rfl, hb⟩
theorem cnt_le (V : Nat → Int) (k e : Nat) : emptyN V k ≤ k ∧ deadN V k ≤ k ∧ seenN V k e ≤ k := ⟨cntB_le _ _, cntB_le _ _, cntB_le _ _⟩
theorem cnt_zero (V : Nat → Int) : emptyN V 0 = 0 ∧ deadN V 0 = 0 ∧ seenN V 0 = fun _ => 0 := by
  unfold emptyN deadN seenN
  exact ⟨cntB_zero _, cntB_zero _, funext fun _ => cntB_zero _⟩
set_option maxRecDepth 100000 in
set_option maxHeartbeats 8000000 in
theorem tableRoom_main (a1 a2 : Option Addr) (n1 n2 c1 c2 : Nat) (F1 F2 : Nat → Int) (w : World) (h1 : n1 ≤ 300) (h2 : n2 ≤ 300) (s1 : IntRow .i64 1 w a1 n1 F1) (s2 : IntRow .i64 1 w a2 n2 F2) :
    Calls Try.prog 3 #[.slice a1 n1 c1, .slice a2 n2 c2] w fun e w' => e = .returned (.bool true) ∧ Below w.heap.size w w' := by
  have d1 : decide ((300 : Int) < (n1 : Int)) = false := by simp; omega
  have d2 : decide ((300 : Int) < (n2 : Int)) = false := by simp; omega
  have Z1 := Lib.hid s1
  have Z2 := Lib.hid s2
  clear s1 s2
  go_enter Try.func3, Try.ntmps3
  go_wp2_with fail
  refine (laid_any a1 a2 n1 c1 n2 c2 F1 F2 _ Z1.out Z2.out h1 h2).mono ?_
  have I := laidT_inv F1 F2 n2 n1 (by omega)
  generalize laidT F1 F2 n2 n1 = T at *
  have HI := Lib.hid I
  have hEl := I.inv.ek
  have hL := I.inv.l12
  have hL3 := I.inv.l3
  clear I d1 d2
  rintro r w1 ⟨t, S, wa, wc, rfl, t1, _, _, k1⟩
  have T1 := Lib.hid t1
  have K1 := Lib.hid k1
  clear t1 k1
  go_wp2_with fail
  refine (sight_any t w.heap.size S (mV none) T _ T1.out (by omega) HI.out.inv.ft (by omega)).mono ?_
  rintro r w2 ⟨ca, cc, ea, ec, rfl, q1, q2, b2⟩
  have Q1 := Lib.hid q1
  have Q2 := Lib.hid q2
  have K2 := Lib.hid (Below.keeps b2 [])
  clear q1 q2 b2
  unfold sightAgg
  obtain ⟨M, hM⟩ := ex_hid (2 ^ T.L)
  have hM1 : M ≤ 1048576 := by rw [hM.out]; exact pow_le (by omega)
  have hM0 : 0 < M := by rw [hM.out]; exact pow_pos _
  obtain ⟨l, hl⟩ := ex_hid T.E.length
  have hl1 : l ≤ 600 := by rw [hl.out]; omega
  obtain ⟨gc, rfl⟩ := Q1.out.shape (by rw [← hM.out]; exact hM0)
  have hm := fun w => make_ints w l (by omega)
  rw [← hM.out, ← hl.out]
  have kA : Keeps [] w2 (w2.alloc (.cells #[.int .i64 T.L, .int .i64 (wdOf T.L), .slice (some ⟨gc, 0, none⟩) M cc, .slice ea l ec, .int .i64 (liveN T.E : Nat), .int .i64 T.births, .int .i64 T.made] 29)) := (Keeps.refl [] w2).alloc _
  have bA : (w2.alloc (.cells #[.int .i64 T.L, .int .i64 (wdOf T.L), .slice (some ⟨gc, 0, none⟩) M cc, .slice ea l ec, .int .i64 (liveN T.E : Nat), .int .i64 T.births, .int .i64 T.made] 29)).heap[w2.heap.size]? = some (.cells #[.int .i64 T.L, .int .i64 (wdOf T.L), .slice (some ⟨gc, 0, none⟩) M cc, .slice ea l ec, .int .i64 (liveN T.E : Nat), .int .i64 T.births, .int .i64 T.made] 29 (0, 0)) := has_new _ _
  have x3 : (w2.alloc (.cells #[.int .i64 T.L, .int .i64 (wdOf T.L), .slice (some ⟨gc, 0, none⟩) M cc, .slice ea l ec, .int .i64 (liveN T.E : Nat), .int .i64 T.births, .int .i64 T.made] 29)).cell? ⟨w2.heap.size, 3, none⟩ = some (.slice ea l ec) := cell_has bA (i := 3) rfl
  have kB : Keeps [] (w2.alloc (.cells #[.int .i64 T.L, .int .i64 (wdOf T.L), .slice (some ⟨gc, 0, none⟩) M cc, .slice ea l ec, .int .i64 (liveN T.E : Nat), .int .i64 T.births, .int .i64 T.made] 29)) ((w2.alloc (.cells #[.int .i64 T.L, .int .i64 (wdOf T.L), .slice (some ⟨gc, 0, none⟩) M cc, .slice ea l ec, .int .i64 (liveN T.E : Nat), .int .i64 T.births, .int .i64 T.made] 29)).alloc (.cells (numA .i64 l (fun _ => 0)) 3)) := (Keeps.refl [] _).alloc _
  have KB := Lib.hid (kA.trans kB)
  have BB := Lib.hid (kB.has bA (by simp))
  have SB := Lib.hid (show RefAt (w2.heap.size + 1) l (fun _ => 0) ((w2.alloc (.cells #[.int .i64 T.L, .int .i64 (wdOf T.L), .slice (some ⟨gc, 0, none⟩) M cc, .slice ea l ec, .int .i64 (liveN T.E : Nat), .int .i64 T.births, .int .i64 T.made] 29)).alloc (.cells (numA .i64 l (fun _ => 0)) 3)) from has_new' _ _ (by simp))
  clear kA bA kB
  go_wp2_with fail
  obtain ⟨W, hW⟩ : ∃ W, ((w2.alloc (.cells #[.int .i64 T.L, .int .i64 (wdOf T.L), .slice (some ⟨gc, 0, none⟩) M cc, .slice ea l ec, .int .i64 (liveN T.E : Nat), .int .i64 T.births, .int .i64 T.made] 29)).alloc (.cells (numA .i64 l (fun _ => 0)) 3)) = W := ⟨_, rfl⟩
  rw [hW] at KB BB SB ⊢
  clear hW hm x3
  have KW := Lib.hid (K1.out.trans (K2.out.trans KB.out))
  have zs := lt_of_block SB.out
  have sgc : gc < w2.heap.size := (Q1.out.blk_lt gc (by simp [blk])).2
  have sge : ∀ x, x ∈ blk ea → x < w2.heap.size := fun x hx => (Q2.out.blk_lt x hx).2
  have Q1W := Lib.hid (Q1.out.keeps KB.out (by simp))
  have Q2W := Lib.hid (Q2.out.keeps KB.out (by simp))
  have SGE := Lib.hid sge
  clear sge
  go_loopw [9, 10, 12] (fun en de i wr => ∃ k : Nat, k ≤ M ∧ i = .int .i64 k ∧ en = .int .i64 (emptyN T.V k : Nat) ∧ de = .int .i64 (deadN T.V k : Nat) ∧ RefAt (w2.heap.size + 1) l (fun e => (seenN T.V k e : Nat)) wr ∧ Keeps [w2.heap.size + 1] W wr) (fun _ _ i _ => M - (intOf i).toNat)
  case atStart => exact ⟨0, by omega, rfl, by rw [(cnt_zero _).1]; rfl, by rw [(cnt_zero _).2.1]; rfl, by rw [(cnt_zero _).2.2]; exact SB.out, Keeps.refl _ _⟩
  case round =>
    obtain ⟨k, hk, rfl, rfl, rfl, hS, hK⟩ := hrel
    have hk0 : (0 : Int) ≤ (k : Int) := by omega
    have HS := Lib.hid hS
    have HK := Lib.hid hK
    have b2 := hK.has BB.out (by simp)
    have x2 : wr.cell? ⟨w2.heap.size, 2, none⟩ = some (.slice (some ⟨gc, 0, none⟩) M cc) := cell_has b2 (i := 2) rfl
    have x3 : wr.cell? ⟨w2.heap.size, 3, none⟩ = some (.slice ea l ec) := cell_has b2 (i := 3) rfl
    obtain ⟨en, hen⟩ := ex_hid (emptyN T.V k)
    obtain ⟨de, hde⟩ := ex_hid (deadN T.V k)
    have hen1 : en ≤ 1048576 := by have := (cnt_le T.V k 0).1; have := hen.out; omega
    have hde1 : de ≤ 1048576 := by have := (cnt_le T.V k 0).2.1; have := hde.out; omega
    rw [← hen.out, ← hde.out]
    by_cases hlt : k < M
    · have hlt' : (k : Int) < (M : Int) := by omega
      have hkk : k < 2 ^ T.L := by rw [← hM.out]; exact hlt
      have cq : wr.cell? ⟨gc, k, none⟩ = some (.int .i64 (T.V k)) := (Q1W.out.keeps hK (fun x hx hx2 => by simp [blk] at hx hx2; omega)).cell hkk
      clear hS hK b2
      rcases HI.out.inv.ci.rng k hkk with hv | hv | ⟨e, hel, hv⟩
      · obtain ⟨g1, g2, g3⟩ := cnt_empty hv
        have G := Lib.hid (And.intro g1 (And.intro g2 g3))
        rw [hv] at cq
        clear g1 g2 g3 hv
        go_wp2_with fail
        go_roundw
        case rel => exact ⟨k + 1, by omega, by go_num, by rw [G.out.1, ← hen.out]; go_num, by rw [G.out.2.1, ← hde.out], by rw [G.out.2.2]; exact HS.out, HK.out⟩
        case measure => simp [intOf]; omega
      · obtain ⟨g1, g2, g3⟩ := cnt_dead hv
        have G := Lib.hid (And.intro g1 (And.intro g2 g3))
        rw [hv] at cq
        clear g1 g2 g3 hv
        go_wp2_with fail
        go_roundw
        case rel => exact ⟨k + 1, by omega, by go_num, by rw [G.out.1, ← hen.out], by rw [G.out.2.1, ← hde.out]; go_num, by rw [G.out.2.2]; exact HS.out, HK.out⟩
        case measure => simp [intOf]; omega
      · obtain ⟨g1, g2, g3⟩ := cnt_seen hv
        have G := Lib.hid (And.intro g1 (And.intro g2 g3))
        rw [hv] at cq
        rw [← hl.out] at hel
        have he0 : (0 : Int) ≤ (e : Int) := by omega
        have he1 : (e : Int) < (l : Int) := by omega
        have f1 : ((e : Int) == -1) = false := by simp
        have f2 : ((e : Int) == -2) = false := by first | (simp; done) | (simp; omega)
        have f3 : decide ((e : Int) < 0) = false := by simp
        have f4 : decide ((l : Int) ≤ (e : Int)) = false := by simp; omega
        have cs : wr.cell? ⟨w2.heap.size + 1, e, none⟩ = some (.int .i64 (seenN T.V k e : Nat)) := cell_has HS.out (numA_get hel)
        have fs := free_of_has HS.out e
        obtain ⟨se, hse⟩ := ex_hid (seenN T.V k e)
        have hse1 : se ≤ 1048576 := by have := (cnt_le T.V k e).2.2; have := hse.out; omega
        rw [← hse.out] at cs
        clear g1 g2 g3 hv
        go_wp2_with fail
        go_roundw
        case rel =>
          refine ⟨k + 1, by omega, by go_num, by rw [G.out.1, ← hen.out], by rw [G.out.2.1, ← hde.out], ?_, HK.out.setCell (.inr (by simp)) _⟩
          rw [G.out.2.2]
          have hb := has_setCell HS.out e (.int .i64 ((se : Int) + 1))
          rw [numA_set] at hb
          refine ref_congr hb (fun i _ => ?_)
          unfold putN
          by_cases hi : i = e
          · subst hi; simp [hse.out]
          · simp [hi]
        case measure => simp [intOf]; omega
    · obtain rfl : k = M := by omega
      have hge : ¬ (k : Int) < (k : Int) := by omega
      have B5 := Lib.hid b2
      have Q2R := Lib.hid (Q2W.out.keeps hK (fun x hx hx2 => by have := SGE.out x hx; simp at hx2; omega))
      have RL := Lib.hid (room_law HI.out.inv)
      clear hS hK b2 x3
      go_wp2_with fail
      obtain ⟨w5, hw5⟩ : ∃ x, x = wr := ⟨_, rfl⟩
      subst hw5
      go_loopw [14, 15] (fun g i wr => ∃ j : Nat, j ≤ l ∧ i = .int .i64 j ∧ g = .int .i64 (goneN T.E j : Nat) ∧ Keeps [] w5 wr) (fun _ i _ => l - (intOf i).toNat)
      case atStart => exact ⟨0, by omega, rfl, by simp [goneN], Keeps.refl _ _⟩
      case round =>
        obtain ⟨j, hj, rfl, rfl, hK⟩ := hrel
        have hj0 : (0 : Int) ≤ (j : Int) := by omega
        have HK5 := Lib.hid hK
        have b6 := hK.has B5.out (by simp)
        have x3 : wr.cell? ⟨w2.heap.size, 3, none⟩ = some (.slice ea l ec) := cell_has b6 (i := 3) rfl
        obtain ⟨gn, hgn⟩ := ex_hid (goneN T.E j)
        have hgn1 : gn ≤ 1000 := by
          have h9 : goneN T.E j ≤ (T.E.take j).length := List.countP_le_length
          have := List.length_take_le j T.E
          have := hgn.out
          simp at h9
          omega
        rw [← hgn.out]
        by_cases hlt2 : j < l
        · have hlt' : (j : Int) < (l : Int) := by omega
          have hjl : j < T.E.length := by rw [← hl.out]; exact hlt2
          obtain ⟨x, hx⟩ : ∃ x, T.E[j]? = some x := ⟨_, List.getElem?_eq_getElem hjl⟩
          obtain ⟨ge, rfl⟩ := Q2R.out.shape (by omega)
          have q0 := ((Q2R.out.keeps hK (by simp)).five hx).1
          have hS6 := hK.has HS.out (by simp)
          have cs : wr.cell? ⟨w2.heap.size + 1, j, none⟩ = some (.int .i64 (seenN T.V (2 ^ T.L) j : Nat)) := by rw [← hM.out]; exact cell_has hS6 (numA_get hlt2)
          rw [seen_live HI.out.inv.ci hx] at cs
          have GS := Lib.hid (goneN_succ hx)
          clear hK b6 hS6
          cases hlv : x.live
          · rw [hlv] at q0 cs
            have HLV := Lib.hid hlv
            simp only [Bool.false_eq_true, if_false] at cs
            clear hx hlv
            go_wp2_with fail
            go_region_held3 (fun w' => w'.cell? ⟨w2.heap.size, 3, none⟩ = some (.slice (some ⟨ge, 0, none⟩) l ec) ∧ w'.cell? ⟨ge, j * 5, none⟩ = some (.bool false) ∧ w'.cell? ⟨w2.heap.size + 1, j, none⟩ = some (.int .i64 (0 : Nat))) (go_keep) (fail)
            go_wp2_with fail
            go_roundw
            case rel => exact ⟨j + 1, by omega, by go_num, by rw [GS.out, HLV.out, ← hgn.out]; go_num, HK5.out.drew⟩
            case measure => simp [intOf]; omega
          · rw [hlv] at q0 cs
            have HLV := Lib.hid hlv
            simp only [if_true] at cs
            clear hx hlv
            go_wp2_with fail
            go_region_held3 (fun w' => w'.cell? ⟨w2.heap.size, 3, none⟩ = some (.slice (some ⟨ge, 0, none⟩) l ec) ∧ w'.cell? ⟨ge, j * 5, none⟩ = some (.bool true) ∧ w'.cell? ⟨w2.heap.size + 1, j, none⟩ = some (.int .i64 (1 : Nat))) (go_keep) (fail)
            go_wp2_with fail
            go_roundw
            case rel => exact ⟨j + 1, by omega, by go_num, by rw [GS.out, HLV.out, ← hgn.out]; simp, HK5.out.drew⟩
            case measure => simp [intOf]; omega
        · obtain rfl : j = l := by omega
          have hge : ¬ (j : Int) < (j : Int) := by omega
          have x2 : wr.cell? ⟨w2.heap.size, 2, none⟩ = some (.slice (some ⟨gc, 0, none⟩) k cc) := cell_has b6 (i := 2) rfl
          have x0 : wr.cell? ⟨w2.heap.size, 0, none⟩ = some (.int .i64 T.L) := cell_has b6 (i := 0) rfl
          obtain rfl : de = gn := by rw [hde.out, hgn.out, hM.out, hl.out]; exact RL.out.2
          have hroom : (k : Int) ≤ 3 * (en : Int) := by have := RL.out.1; have := hen.out; have := hM.out; rw [← hM.out] at *; omega
          obtain ⟨e3, he3⟩ := ex_hid (3 * en)
          have hw3 : IntKind.i64.wrap (3 * (en : Int)) = (e3 : Int) := by have := he3.out; rw [IntWalk.i64_left]; rw [IntWalk.wrap64_in _ (by omega)]; omega
          have hdr : decide ((k : Int) ≤ (e3 : Int)) = true := by have := he3.out; simp; omega
          have hle : k ≤ e3 := by have := he3.out; omega
          have hd3 : decide ((3 : Int) ≤ (T.L : Int)) = true := by simp; omega
          have hL0 : (0 : Int) ≤ (T.L : Int) := by omega
          have hL1 : (T.L : Int) ≤ 20 := by omega
          have e1 : IntKind.i64.wrap ((2 : Int) ^ T.L) = (k : Int) := by rw [hM.out]; exact i64_pow T.L (by omega)
          have e2 : wrap64 ((2 : Int) ^ T.L) = (k : Int) := by rw [← IntWalk.i64_left]; exact e1
          clear hK b6
          have hde2 : (de : Int) ≤ 1048576 := by omega
          go_wp2_with fail
          go_region_held3 (fun w' => w'.cell? ⟨w2.heap.size, 0, none⟩ = some (.int .i64 T.L) ∧ w'.cell? ⟨w2.heap.size, 2, none⟩ = some (.slice (some ⟨gc, 0, none⟩) k cc)) (go_keep)
            (first
              | (go_at_call 13; refine (awake7 _).mono ?_; rintro r w11 ⟨rfl, b11⟩; have k11 := Below.keeps b11 []; have r0 := k11.cell (w := wr.drew) x0 (by simp); have r2 := k11.cell (w := wr.drew) x2 (by simp); have K11 := Lib.hid (HK5.out.drew.trans k11); clear k11 b11))
          go_wp2_with fail
          go_ret
          exact ⟨rfl, ((KW.out.then (S := []) (HK.out.trans (K11.out.mono (by simp))) (fun x hx => by simp at hx; left; have := K1.out.size; have := K2.out.size; omega))).below (by simp) (by simp)⟩
theorem tableRoom_walk (a0 : Option Addr) (len0 cap0 : Nat) (F0 : Nat → Int) (a1 : Option Addr) (len1 cap1 : Nat) (F1 : Nat → Int) (w : World) (w0 : IntRow .i64 1 w a0 len0 F0) (w1 : IntRow .i64 1 w a1 len1 F1) :
    Calls Try.prog 3 #[.slice a0 len0 cap0, .slice a1 len1 cap1] w fun e w' => e = .returned (.bool true) ∧ Below w.heap.size w w' := by
  by_cases h : 300 < len0 ∨ (len0 ≤ 300 ∧ 300 < len1)
  · exact tableRoom_early a0 a1 len0 len1 cap0 cap1 w h
  · exact tableRoom_main a0 a1 len0 len1 cap0 cap1 F0 F1 w (by omega) (by omega) w0 w1
end Go.Proofs.Ytajcbghhpjpmhaa
