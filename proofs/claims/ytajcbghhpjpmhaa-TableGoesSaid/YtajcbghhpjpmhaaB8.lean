/- laid: a table of adds, of which some are killed (chapter 7's laws). What the document fixes of tables (chapter 7). -/
import Derived.Test.YtajcbghhpjpmhaaB6
import Derived.Test.YtajcbghhpjpmhaaB7
import Derived.Test.YtajcbghhpjpmhaaTabAddS
import Derived.Test.YtajcbghhpjpmhaaTabAddG
import Derived.Test.YtajcbghhpjpmhaaTabKill
import Derived.Test.YtajcbghhpjpmhaaB1
section
namespace Go.Proofs.Ytajcbghhpjpmhaa
open Go.RowKit
set_option linter.unusedVariables false
set_option linter.unusedSimpArgs false

theorem add_none (k : Nat) (hk : k ≤ 1000) (t lo : Nat) (S : List Nat) (T : Tab) (w : World) (H : TabAt t lo S (mV none) T w) (hI : TInv k T) (h ky v : Int) :
    Calls Try.prog 34 #[.pointer (some ⟨t, 0, none⟩), .int .i64 h, .int .i64 ky, .int .i64 v] w fun e w' => ∃ S', e = .returned (.tuple #[.int .i64 T.ready.E.length, .int .i64 0]) ∧ TabAt t lo S' (mV none) (T.add h ky v) w' ∧ Keeps S w w' ∧ Grew S w S' := by
  by_cases he : T.E.length = T.room
  · refine (add_grow k hk t lo S none ⟨0, 0, 0, 0⟩ T w H (MtrAt.nil _ _) (by simp) hI he h ky v).mono ?_
    rintro e w' ⟨S', rfl, h1, _, h2, h3⟩
    exact ⟨S', rfl, h1, by simpa [mS] using h2, h3⟩
  · refine (add_stay k hk t lo S none ⟨0, 0, 0, 0⟩ T w H (MtrAt.nil _ _) (by simp) hI he h ky v).mono ?_
    have hr : T.ready = T := by unfold Tab.ready; rw [if_neg he]
    rintro e w' ⟨S', rfl, h1, _, h2, h3⟩
    exact ⟨S', by rw [hr], by unfold Tab.add; rw [hr]; exact h1, by simpa [mS] using h2, h3⟩
/-- Behind laid. -/
def LaidP (T : Tab) (w : World) (r : Ending) (w' : World) : Prop :=
  ∃ t S wa wc, r = .returned (.tuple #[.pointer (some ⟨t, 0, none⟩), .slice wa (liveN T.E) wc, .bool true]) ∧ TabAt t w.heap.size S (mV none) T w' ∧ EntRow w.heap.size wa wc (liveL T.E) w' ∧ (∀ x, x ∈ blk wa → x ∉ S) ∧ Keeps [] w w'
/-- In the midst of laid. -/
def LaidI (w : World) (t : Nat) (T : Tab) (wa : Option Addr) (wc : Nat) (W : World) : Prop :=
  ∃ S, TabAt t w.heap.size S (mV none) T W ∧ EntRow w.heap.size wa wc (liveL T.E) W ∧ (∀ x, x ∈ blk wa → x ∉ S) ∧ Keeps [] w W
set_option maxRecDepth 100000 in
set_option maxHeartbeats 8000000 in
theorem laid_any (ha ka : Option Addr) (hn hc kn kc : Nat) (F K : Nat → Int) (w : World) (h1 : IntRow .i64 1 w ha hn F) (h2 : IntRow .i64 1 w ka kn K) (hl : hn ≤ 300) (hk : kn ≤ 300) :
    Calls Try.prog 14 #[.slice ha hn hc, .slice ka kn kc] w (LaidP (laidT F K kn hn) w) := by
  have H1 := Lib.hid h1
  have H2 := Lib.hid h2
  clear h1 h2
  go_enter Try.func14, Try.ntmps14
  go_wp2_with fail
  refine (newt_any none ⟨0, 0, 0, 0⟩ _ (MtrAt.nil _ _)).mono ?_
  rintro r w1 ⟨t, S, rfl, t1, _, k1⟩
  have T1 := Lib.hid t1
  have K1 := Lib.hid (show Keeps [] w w1 by simpa [mS] using k1)
  clear t1 k1
  go_wp2_with fail
  go_loopw [8, 9] (fun l i wr => ∃ (k : Nat) (wa : Option Addr) (wc : Nat), k ≤ hn ∧ i = .int .i64 k ∧ l = .slice wa (liveN (laidT F K kn k).E) wc ∧ LaidI w t (laidT F K kn k) wa wc wr) (fun _ i _ => hn - (intOf i).toNat)
  case atStart => exact ⟨0, none, 0, by omega, rfl, by simp [laidT, newT, liveN], S, T1.out, EntRow.nil _ _, by simp [blk], K1.out⟩
  case round =>
    obtain ⟨k, wa, wc, hkl, rfl, rfl, S0, hT, hR, hd, hK⟩ := hrel
    have hk0 : (0 : Int) ≤ (k : Int) := by omega
    have HT := Lib.hid hT
    have HR := Lib.hid hR
    have HK := Lib.hid hK
    have HD := Lib.hid hd
    by_cases hlt : k < hn
    · have hlt' : (k : Int) < (hn : Int) := by omega
      have LI := laidT_inv F K kn k (by omega)
      have HLI := Lib.hid LI
      rcases H1.out with h0 | ⟨b, off, rfl, hb1, hb2, hcl⟩
      · omega
      have q0 := hK.cell (hcl k (by omega)).1 (by simp)
      have q0b := (hcl k (by omega)).2
      have hkv : killA K kn k = some (K k) ∧ k < kn ∧ (∃ kb ko, ka = some ⟨kb, ko, none⟩ ∧ kb < w.heap.size ∧ w.cell? ⟨kb, ko + k, none⟩ = some (.int .i64 (K k)) ∧ (Lit.int .i64 (K k)).wf = true) ∨ killA K kn k = none ∧ kn ≤ k := by
        unfold killA
        by_cases h9 : k < kn
        · rw [if_pos h9]
          rcases H2.out with h0 | ⟨kb, ko, e1, e2, e3, e4⟩
          · omega
          · exact .inl ⟨rfl, h9, kb, ko, e1, e2, (e4 k (by omega)).1, (e4 k (by omega)).2⟩
        · rw [if_neg h9]; exact .inr ⟨rfl, by omega⟩
      obtain ⟨h, hh⟩ := ex_hid (F k)
      obtain ⟨l0, hl0⟩ := ex_hid (liveN (laidT F K kn k).E)
      rw [← hl0.out]
      rw [← hh.out] at q0
      have hk3 : (k : Int) ≤ 300 := by omega
      clear hT hR hd hK hcl LI q0b
      go_wp2_with fail
      refine (add_none (2 * k) (by omega) t w.heap.size S0 (laidT F K kn k) _ HT.out HLI.out.inv h k (3 * k)).mono ?_
      rintro r w2 ⟨S2, rfl, t2, k2, g2⟩
      obtain ⟨T2, hT2⟩ : ∃ T2, Hid (T2 = (laidT F K kn k).add h k (3 * k)) := ⟨_, Lib.hid rfl⟩
      rw [← hT2.out] at t2
      have hz := HT.out.foot
      have k02 : Keeps [] w w2 := HK.out.then k2 (fun x hx => .inl (hz x hx).1)
      have hR2 := HR.out.keeps k2 (fun x hx hx2 => HD.out x hx hx2)
      have hd2 : ∀ x, x ∈ blk wa → x ∉ S2 := fun x hx hx2 => by
        rcases g2 x hx2 with h9 | h9
        · exact HD.out x hx h9
        · have := (HR.out.blk_lt x hx).2; omega
      have q2 : w2.cell? ⟨b, off + k, none⟩ = some (.int .i64 h) := k2.cell q0 (fun hx => by have := (hz _ hx).1; have := hb1; simp at *; omega)
      have TT2 := Lib.hid t2
      have HR2 := Lib.hid hR2
      have HD2 := Lib.hid hd2
      have K02 := Lib.hid k02
      have ka2 : Keeps [] w2 (w2.alloc (.cells #[.bool true, .int .i64 h, .int .i64 k, .int .i64 (3 * k), .int .i64 k] 32)) := (Keeps.refl [] w2).alloc _
      obtain ⟨g, cap, w3, hrun, r1, r2, r3, r4⟩ := ent_append w.heap.size wa wc (liveL (laidT F K kn k).E) ⟨true, h, k, 3 * k, k⟩ _ w2.heap.size (hR2.keeps ka2 (by simp)) (has_new _ _) (by rw [liveL_len]; have := liveN_le (laidT F K kn k).E; have := HLI.out.inv.ek; omega) (by have := k02.size; simp; omega)
      rw [liveL_len, ← hl0.out] at hrun
      have hE3 : liveL T2.E = liveL (laidT F K kn k).E ++ [⟨true, h, k, 3 * k, k⟩] := by rw [hT2.out, add_live, HLI.out.bi]
      have hn3 : liveN T2.E = l0 + 1 := by rw [← liveL_len, hE3, List.length_append, liveL_len, hl0.out]; rfl
      have I2 := Lib.hid (HLI.out.add (by omega) h k (3 * k))
      rw [← hT2.out] at I2
      have kw : Keeps (blk wa) w2 w3 := (ka2.mono (by simp)).trans r2
      have R3 : Hid (EntRow w.heap.size (some ⟨g, 0, none⟩) cap (liveL T2.E) w3) := Lib.hid (by rw [hE3]; exact r1)
      have T3 := Lib.hid (TT2.out.keeps kw (fun x hx hx2 => HD2.out x hx2 hx))
      have D3 : Hid (∀ x, x ∈ blk (some (⟨g, 0, none⟩ : Addr)) → x ∉ S2) := Lib.hid (fun x hx hx2 => by
        simp [blk] at hx
        subst hx
        rcases r3 with h9 | h9
        · exact HD2.out _ h9 hx2
        · have := (TT2.out.foot _ hx2).2; simp at h9; omega)
      have K3 := Lib.hid (K02.out.then kw (fun x hx => .inl (HR2.out.blk_lt x hx).1))
      have HRun := Lib.hid hrun
      have HN3 := Lib.hid hn3
      have hn1b : l0 ≤ 1000 := by have := liveN_le T2.E; have := I2.out.1.ek; omega
      clear t2 k2 g2 hR2 hd2 k02 q0 hz ka2 hrun r1 r2 r3 r4 hE3 kw hn3
      have st : laidT F K kn (k + 1) = laidS (laidT F K kn k) (F k) k (killA K kn k) := rfl
      have ST := Lib.hid st
      clear st
      rcases hkv with ⟨hkv, hkn, kb, ko, rfl, hkb, hkc, hkw⟩ | ⟨hkv, hkn⟩
      · have hkn' : (k : Int) < (kn : Int) := by omega
        have c3 : w3.cell? ⟨kb, ko + k, none⟩ = some (.int .i64 (K k)) := K3.out.cell hkc (by simp)
        obtain ⟨v, hv⟩ := ex_hid (K k)
        rw [← hv.out] at c3 hkw
        have hb9 := bounds_i64 hkw
        clear hkc hkw
        by_cases hv0 : 0 ≤ v
        · have hd0 : decide (0 ≤ v) = true := by simpa using hv0
          obtain ⟨kk, hkk⟩ : ∃ kk : Nat, Hid (kk = (v % ((l0 : Int) + 1)).toNat) := ⟨_, Lib.hid rfl⟩
          have hkI : (v % ((l0 : Int) + 1)) = (kk : Int) := by rw [hkk.out]; have := Int.emod_nonneg v (show ((l0 : Int) + 1) ≠ 0 by omega); omega
          have hkl2 : kk < l0 + 1 := by have := Int.emod_lt_of_pos v (show (0 : Int) < ((l0 : Int) + 1) by omega); omega
          have hL2 : (liveL T2.E).length = l0 + 1 := by rw [liveL_len, HN3.out]
          obtain ⟨x, hx⟩ : ∃ x, (liveL T2.E)[kk]? = some x := ⟨_, List.getElem?_eq_getElem (by rw [hL2]; exact hkl2)⟩
          obtain ⟨p0, p1, p2, p3, p4⟩ := R3.out.five hx
          have HX := Lib.hid hx
          have kk0 : (0 : Int) ≤ (kk : Int) := by omega
          have kk1 : (kk : Int) < (l0 : Int) + 1 := by omega
          clear hx hL2
          go_wp2_with (at_builtin; refine wpList_append_run rfl _ _ 25 rfl _ _ rfl rfl _ _ HRun.out ?_)
          rw [hkI]
          obtain ⟨nx, hnx⟩ := ex_hid (nthN T2.E kk)
          have hnt := nthN_spec HX.out
          rw [← hnx.out] at hnt
          have HNT := Lib.hid hnt
          have hkl3 := kill_live HX.out
          rw [← hnx.out] at hkl3
          have HKL := Lib.hid hkl3
          have hLE := I2.out.1.l12
          have hEE := I2.out.1.ek
          clear hnt hkl3 p0 p1 p2 p3 p4 hkI
          refine (number_any t w.heap.size S2 (mV none) T2 _ T3.out (by omega) I2.out.1.ft (by omega) x nx HNT.out.2.1 (fun j hj => I2.out.2.1.one HNT.out.2.1 HNT.out.2.2 hj)).mono ?_
          rintro r w4 ⟨rfl, k4⟩
          have T4 := Lib.hid (T3.out.keeps k4 (by simp))
          have R4 := Lib.hid (R3.out.keeps k4 (by simp))
          have K4 := Lib.hid (K3.out.trans k4)
          clear k4
          go_wp2_with fail
          refine (kill_any t w.heap.size S2 (mV none) T2 _ T4.out (I2.out.1.mono (by omega)) nx).mono ?_
          rintro r w5 ⟨rfl, t5, k5⟩
          rw [HKL.out.1]
          have T5 := Lib.hid t5
          have hz5 := T4.out.foot
          have R5 := Lib.hid (R4.out.keeps k5 (fun x hx hx2 => D3.out x hx hx2))
          have K5 := Lib.hid (K4.out.then k5 (fun x hx => .inl (hz5 x hx).1))
          clear t5 k5 hz5
          have hcap := R5.out.cap_le
          rw [liveL_len, HN3.out] at hcap
          obtain ⟨hcap1, hcap2⟩ := hcap
          unfold maxLen at hcap2
          simp only [okE, Option.isSome_some, if_true]
          have hll : (liveL T2.E).length = l0 + 1 := by rw [liveL_len, HN3.out]
          obtain ⟨a6, c6, w6, hrun6, r6, k6, b6⟩ := ent_append_src w.heap.size 0 cap none [] ((liveL T2.E).take kk) (some ⟨g, 0, none⟩) w5 (EntRow.nil _ _) (.inr ⟨_, rfl, R5.out.front kk⟩) (by simp; omega) K5.out.size
          have hlt6 : ((liveL T2.E).take kk).length = kk := by rw [List.length_take, hll]; omega
          simp only [List.length_nil, Nat.zero_add, List.nil_append, hlt6] at hrun6 r6
          have HRun6 := Lib.hid hrun6
          have hk6 : Keeps [] w5 w6 := k6
          have R6 := Lib.hid r6
          have R6w := Lib.hid (R5.out.keeps hk6 (by simp))
          have T6 := Lib.hid (T5.out.keeps hk6 (by simp))
          have K6 := Lib.hid (K5.out.trans hk6)
          clear hrun6 r6 k6 hk6 hll
          have hkl4 : kk ≤ l0 := by omega
          have hlive4 : liveL (T2.kill nx).E = (liveL T2.E).take kk ++ (liveL T2.E).drop (kk + 1) := HKL.out.2
          have hlen4 : liveN (T2.kill nx).E = l0 := by rw [← liveL_len, hlive4, List.length_append, List.length_take, List.length_drop, liveL_len, HN3.out]; omega
          have HL4 := Lib.hid (And.intro hlive4 hlen4)
          have fin : ∀ (a7 : Option Addr) (c7 : Nat) (w7 : World), EntRow w.heap.size a7 c7 ((liveL T2.E).take kk ++ (liveL T2.E).drop (kk + 1)) w7 → Keeps (blk a6) w6 w7 → (∀ x, x ∈ blk a7 → x ∈ blk a6 ∨ x = w6.heap.size) → LaidI w t (T2.kill nx) a7 c7 w7 := by
            intro a7 c7 w7 hr hk hb
            have hd6 : ∀ x, x ∈ blk a6 → x ∉ S2 := fun x hx hx2 => by
              rcases b6 x hx with h9 | h9
              · simp [blk] at h9
              · have := (T5.out.foot x hx2).2; omega
            refine ⟨S2, T6.out.keeps hk (fun x hx hx2 => hd6 x hx2 hx), by rw [HL4.out.1]; exact hr, fun x hx hx2 => ?_, K6.out.then hk (fun x hx => .inl (R6.out.blk_lt x hx).1)⟩
            rcases hb x hx with h9 | h9
            · exact hd6 x h9 hx2
            · have := (T6.out.foot x hx2).2; omega
          have FIN := Lib.hid fin
          have NIL := Lib.hid (show l0 = 0 → ∀ a7 c7 w7, LaidI w t (T2.kill nx) a7 c7 w7 → LaidI w t (T2.kill nx) none 0 w7 from fun hz a7 c7 w7 ⟨S, h1, h2, h3, h4⟩ => ⟨S, h1, by
            have h9 : liveL (T2.kill nx).E = [] := List.eq_nil_of_length_eq_zero (by rw [liveL_len, HL4.out.2, hz])
            rw [h9]; exact EntRow.nil _ _, by simp [blk], h4⟩)
          have e9 : laidT F K kn (k + 1) = T2.kill nx := by
            rw [ST.out, hkv, ← hv.out, ← hh.out]
            unfold laidS
            simp only
            rw [if_pos hv0, ← hT2.out, HN3.out, hnx.out, hkk.out]
            rfl
          have E9 := Lib.hid e9
          have hln : ((liveL T2.E).drop (kk + 1)).length = l0 - kk := by rw [List.length_drop, liveL_len, HN3.out]; omega
          have hlt7 : ((liveL T2.E).take kk).length = kk := by rw [List.length_take, liveL_len, HN3.out]; omega
          have hadd7 : kk + (l0 - kk) = l0 := by omega
          have HSZ := Lib.hid (show w.heap.size ≤ w6.heap.size from K6.out.size)
          clear fin e9 hlive4 hlen4 b6
          by_cases hck : cap = kk + 1
          · subst hck
            obtain rfl : l0 = kk := by omega
            obtain ⟨a7, c7, w7, hrun7, r7, k7, b7⟩ := ent_append_src w.heap.size c6 0 a6 ((liveL T2.E).take l0) ((liveL T2.E).drop (l0 + 1)) (some ⟨g, 0, none⟩) w6 R6.out (.inl (List.eq_nil_of_length_eq_zero (by rw [hln]; omega))) (by rw [hlt7, hln]; omega) HSZ.out
            rw [hlt7, hln, hadd7] at hrun7
            simp only [Nat.sub_self] at hrun7
            have HRun7 := Lib.hid hrun7
            have F7 := Lib.hid (FIN.out a7 c7 w7 r7 k7 b7)
            clear hrun7 r7 k7 b7 hln hlt7 hadd7
            by_cases hz : l0 = 0
            · have hzI : (((l0 : Nat) : Int) == 0) = true := by simp [hz]
              have HZ := Lib.hid hz
              clear hz
              go_wp2_with (first | (at_builtin; refine wpList_append_run (o := ⟨some 94, _, _, _, _, _⟩) rfl _ _ 25 rfl _ _ rfl rfl _ _ HRun6.out ?_) | (at_builtin; refine wpList_append_run (o := ⟨some 100, _, _, _, _, _⟩) rfl _ _ 25 rfl _ _ rfl rfl _ _ HRun7.out ?_))
              go_roundw
              case rel => exact ⟨k + 1, none, 0, by omega, by go_num, by rw [E9.out, HL4.out.2, HZ.out], by rw [E9.out]; exact NIL.out HZ.out _ _ _ F7.out⟩
              case measure => simp [intOf]; omega
            · have hzI : (((l0 : Nat) : Int) == 0) = false := by simp [hz]
              have HZ := Lib.hid hz
              clear hz
              go_wp2_with (first | (at_builtin; refine wpList_append_run (o := ⟨some 94, _, _, _, _, _⟩) rfl _ _ 25 rfl _ _ rfl rfl _ _ HRun6.out ?_) | (at_builtin; refine wpList_append_run (o := ⟨some 100, _, _, _, _, _⟩) rfl _ _ 25 rfl _ _ rfl rfl _ _ HRun7.out ?_))
              go_roundw
              case rel => exact ⟨k + 1, a7, c7, by omega, by go_num, by rw [E9.out, HL4.out.2], by rw [E9.out]; exact F7.out⟩
              case measure => simp [intOf]; omega
          · have hck1 : kk + 1 < cap := by omega
            have hck2 : ((kk : Int) + 1) < (cap : Int) := by omega
            obtain ⟨a7, c7, w7, hrun7, r7, k7, b7⟩ := ent_append_src w.heap.size c6 (cap - (kk + 1)) a6 ((liveL T2.E).take kk) ((liveL T2.E).drop (kk + 1)) (some ⟨g, (kk + 1) * 5, none⟩) w6 R6.out (.inr ⟨_, rfl, R6w.out.part (kk + 1)⟩) (by rw [hlt7, hln]; omega) HSZ.out
            rw [hlt7, hln, hadd7] at hrun7
            have HRun7 := Lib.hid hrun7
            have F7 := Lib.hid (FIN.out a7 c7 w7 r7 k7 b7)
            clear hrun7 r7 k7 b7 hln hlt7 hadd7
            by_cases hz : l0 = 0
            · have hzI : (((l0 : Nat) : Int) == 0) = true := by simp [hz]
              have HZ := Lib.hid hz
              clear hz
              go_wp2_with (first | (at_builtin; refine wpList_append_run (o := ⟨some 94, _, _, _, _, _⟩) rfl _ _ 25 rfl _ _ rfl rfl _ _ HRun6.out ?_) | (at_builtin; refine wpList_append_run (o := ⟨some 100, _, _, _, _, _⟩) rfl _ _ 25 rfl _ _ rfl rfl _ _ HRun7.out ?_))
              go_roundw
              case rel => exact ⟨k + 1, none, 0, by omega, by go_num, by rw [E9.out, HL4.out.2, HZ.out], by rw [E9.out]; exact NIL.out HZ.out _ _ _ F7.out⟩
              case measure => simp [intOf]; omega
            · have hzI : (((l0 : Nat) : Int) == 0) = false := by simp [hz]
              have HZ := Lib.hid hz
              clear hz
              go_wp2_with (first | (at_builtin; refine wpList_append_run (o := ⟨some 94, _, _, _, _, _⟩) rfl _ _ 25 rfl _ _ rfl rfl _ _ HRun6.out ?_) | (at_builtin; refine wpList_append_run (o := ⟨some 100, _, _, _, _, _⟩) rfl _ _ 25 rfl _ _ rfl rfl _ _ HRun7.out ?_))
              go_roundw
              case rel => exact ⟨k + 1, a7, c7, by omega, by go_num, by rw [E9.out, HL4.out.2], by rw [E9.out]; exact F7.out⟩
              case measure => simp [intOf]; omega
        · have hd0 : decide (0 ≤ v) = false := by simpa using hv0
          go_wp2_with (at_builtin; refine wpList_append_run rfl _ _ 25 rfl _ _ rfl rfl _ _ HRun.out ?_)
          go_roundw
          case rel =>
            have e9 : laidT F K kn (k + 1) = T2 := by
              rw [ST.out, hkv, ← hv.out, ← hh.out]
              unfold laidS
              simp only
              rw [if_neg (by omega), ← hT2.out]
            refine ⟨k + 1, some ⟨g, 0, none⟩, cap, by omega, by go_num, ?_, ?_⟩
            · rw [e9, HN3.out]
            · rw [e9]; exact ⟨S2, T3.out, R3.out, D3.out, K3.out⟩
          case measure => simp [intOf]; omega
      · have hkn' : ¬ (k : Int) < (kn : Int) := by omega
        go_wp2_with (at_builtin; refine wpList_append_run rfl _ _ 25 rfl _ _ rfl rfl _ _ HRun.out ?_)
        go_roundw
        case rel =>
          have e9 : laidT F K kn (k + 1) = T2 := by rw [ST.out, hkv, hT2.out, hh.out]; rfl
          refine ⟨k + 1, some ⟨g, 0, none⟩, cap, by omega, by go_num, ?_, ?_⟩
          · rw [e9, HN3.out]
          · rw [e9]; exact ⟨S2, T3.out, R3.out, D3.out, K3.out⟩
        case measure => simp [intOf]; omega
    · obtain rfl : k = hn := by omega
      have hge : ¬ (k : Int) < (k : Int) := by omega
      clear hT hR hd hK
      go_wp2_with fail
      exact bodyPost_ret (v := .tuple #[.pointer (some ⟨t, 0, none⟩), .slice wa (liveN (laidT F K kn k).E) wc, .bool true]) (by simp [results, Try.results14, go_sem]) rfl ⟨t, S0, wa, wc, rfl, HT.out, HR.out, HD.out, HK.out⟩
end Go.Proofs.Ytajcbghhpjpmhaa
end

section
namespace Go.Proofs.Ytajcbghhpjpmhaa
open Go.RowKit
set_option linter.unusedVariables false

def aw1 : Tab := newT.add1 5 10 20
def aw2 : Tab := aw1.add1 5 11 21
theorem uh5 : uh 5 = 5 := by decide
theorem tr50 : trC 3 5 0 = 5 := by decide
theorem tr51 : trC 3 5 1 = 2 := by decide
theorem aw1_V : aw1.V = putN (begun 8) 5 0 := by
  show layV 3 (uh 5) (begun 8) 0 = _
  have h0 : fe 3 5 (begun 8) = 0 := by
    unfold fe
    exact fi_eq (by decide) (by simp [isE, tr50, begun]) (fun j hj => by omega)
  rw [uh5, layV_hit (by rw [h0]; decide), h0, tr50]
theorem aw2_V : aw2.V = putN (putN (begun 8) 5 0) 2 1 := by
  show layV 3 (uh 5) aw1.V 1 = _
  rw [aw1_V]
  have h0 : fe 3 5 (putN (begun 8) 5 0) = 1 := by
    unfold fe
    exact fi_eq (by decide) (by simp [isE, tr51, begun, putN]) (fun j hj => by cases j with | zero => simp [isE, tr50, putN] | succ j => omega)
  rw [uh5, layV_hit (by rw [h0]; decide), h0, tr51]
theorem room_new : newT.room = 5 := by decide
theorem aw1_inv : TInv 1 aw1 := by
  have h := TInv.add TInv.new (by omega) 5 10 20
  have e : newT.add 5 10 20 = aw1 := by
    unfold Tab.add Tab.ready
    rw [if_neg (by rw [room_new]; simp [newT])]; rfl
  rwa [e] at h
theorem aw2_inv : TInv 2 aw2 := by
  have h := TInv.add aw1_inv (by omega) 5 11 21
  have e : aw1.add 5 11 21 = aw2 := by
    unfold Tab.add Tab.ready
    rw [if_neg (by show ¬ aw1.E.length = newT.room; rw [room_new]; simp [aw1, Tab.add1, newT])]; rfl
  rwa [e] at h

set_option maxRecDepth 100000 in
set_option maxHeartbeats 2000000 in
theorem awake7 (w : World) : Calls Try.prog 13 #[] w fun e w' => e = .returned (.bool true) ∧ Below w.heap.size w w' := by
  go_enter Try.func13, Try.ntmps13
  go_wp2_with fail
  refine (newt_any none ⟨0, 0, 0, 0⟩ _ (MtrAt.nil _ _)).mono ?_
  rintro r w1 ⟨t, S, rfl, t1, _, k1⟩
  have T1 := Lib.hid t1
  have K1 := Lib.hid k1
  have lo := Lib.hid (show w.heap.size ≤ w1.heap.size from k1.size)
  clear t1 k1
  go_wp2_with fail
  refine (add_stay 0 (by omega) t w.heap.size S none ⟨0, 0, 0, 0⟩ newT _ T1.out (MtrAt.nil _ _) (by simp) TInv.new (by rw [room_new]; simp [newT]) 5 10 20).mono ?_
  rintro r w2 ⟨S2, rfl, t2, _, k2, g2⟩
  have T2 : Hid (TabAt t w.heap.size S2 (mV none) aw1 w2) := Lib.hid t2
  have K2 := Lib.hid k2
  clear t2 k2 g2
  go_wp2_with fail
  refine (add_stay 1 (by omega) t w.heap.size S2 none ⟨0, 0, 0, 0⟩ aw1 _ T2.out (MtrAt.nil _ _) (by simp) aw1_inv (by show ¬ aw1.E.length = newT.room; rw [room_new]; simp [aw1, Tab.add1, newT]) 5 11 21).mono ?_
  rintro r w3 ⟨S3, rfl, t3, _, k3, g3⟩
  have T3 : Hid (TabAt t w.heap.size S3 (mV none) aw2 w3) := Lib.hid t3
  have K3 := Lib.hid k3
  clear t3 k3 g3
  go_wp2_with fail
  refine (sight_any t w.heap.size S3 (mV none) aw2 _ T3.out (by have := aw2_inv.l12; omega) aw2_inv.ft (by have := aw2_inv.ek; omega)).mono ?_
  rintro r w4 ⟨a, c, ae, ce, rfl, r1, r2, b4⟩
  have hL : aw2.L = 3 := rfl
  rw [hL] at r1 ⊢
  obtain ⟨g, rfl⟩ := r1.shape (by decide)
  have c5 : w4.cell? ⟨g, 5, none⟩ = some (.int .i64 0) := by
    have h := r1.cell (k := 5) (by decide)
    rw [aw2_V] at h; simpa [putN] using h
  have c2 : w4.cell? ⟨g, 2, none⟩ = some (.int .i64 1) := by
    have h := r1.cell (k := 2) (by decide)
    rw [aw2_V] at h; simpa [putN] using h
  have B4 := Lib.hid b4
  clear r1 r2 b4
  have c5a := fun o => cell_alloc c5 o
  have c2a := fun o => cell_alloc c2 o
  unfold sightAgg
  rw [show (2 : Nat) ^ 3 = 8 from rfl]
  clear c5 c2
  go_wp2_with fail
  go_ret
  have k9 : Keeps [] w w4 := by
    refine (((K1.out.mono (T := []) (by simp [mS])).then K2.out ?_).then K3.out ?_).trans (Below.keeps B4.out [])
    · intro x hx; simp [mS] at hx; exact .inl ((T1.out.foot x hx).1)
    · intro x hx; simp [mS] at hx; exact .inl ((T2.out.foot x hx).1)
  exact ⟨rfl, (k9.alloc _).below (Nat.le_refl _) (by simp)⟩
end Go.Proofs.Ytajcbghhpjpmhaa
end
