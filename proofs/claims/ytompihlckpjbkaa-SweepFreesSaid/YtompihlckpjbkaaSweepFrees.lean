/- SweepFrees, walked (chapter 12). -/
import Derived.Test.YtompihlckpjbkaaSweepMarks
namespace Go.Proofs.Ytompihlckpjbkaa
open Go.RowKit
set_option linter.unusedVariables false

/-- What is left can be reached still. -/
theorem rch_again {m : Nat} {T Q : Nat → Bool} {LL : Nat → List Int} {rs : List Int} (hQ : ∀ i, Q i = true ↔ Rch m T LL rs i) (i : Nat) : Q i = true ↔ Rch m Q LL rs i := by
  have up : ∀ x : Int, isB m T x = true → Q x.toNat = true → isB m Q x = true := fun x hb hq => by
    simp [isB] at hb ⊢
    exact ⟨hb.1, hq⟩
  constructor
  · intro h
    have h2 := (hQ i).1 h
    clear h
    induction h2 with
    | root hx hb => exact .root hx (up _ hb ((hQ _).2 (.root hx hb)))
    | step hj hx hb ih => exact .step ih hx (up _ hb ((hQ _).2 (.step hj hx hb)))
  · intro h
    exact h.lt.2
theorem freed_self (Q : Nat → Bool) (m : Nat) : cntT (freed Q Q) m = 0 := by
  rw [cntT_congr (T := freed Q Q) (U := fun _ => false) (m := m) (fun i _ => by simp [freed])]
  exact cntT_false m

/-- Both have swept. -/
theorem SW.swept {sb wb lo : Nat} {S R S' R' : List Nat} {m : Nat} {V U V' U' : Nat → Value} {T Q : Nat → Bool} {LL : Nat → List Int} {w w1 w2 : World} (h : SW sb wb lo S R m V U T LL w) (hQ : ∀ i, Q i = true → T i = true)
    (st : SL.SlotSt sb lo S' m V' Q w1) (hv : ∀ i, i < m → Q i = true → V' i = V i) (k1 : Keeps S w w1) (f1 : ∀ x, x ∈ S' → x ∈ S ∨ w.heap.size ≤ x)
    (rf : RefS wb lo R' m U' Q w2) (hu : ∀ i, i < m → Q i = true → U' i = U i) (k2 : Keeps R w1 w2) (f2 : ∀ x, x ∈ R' → x ∈ R ∨ w1.heap.size ≤ x) : SW sb wb lo S' R' m V' U' Q LL w2 := by
  obtain ⟨rf1, lv1, lu1, dj1⟩ := h.left k1 f1
  exact ⟨st.keeps k2 dj1, rf, (lv1.right k2 f2).sub (fun i hi hq => ⟨hQ i hq, hv i hi hq⟩), (lu1.right k2 f2).sub (fun i hi hq => ⟨hQ i hq, hu i hi hq⟩), fun x hx hy => (f2 x hy).elim (dj1 x hx) (fun h => by have := (st.foot x hx).2; omega)⟩

theorem sweepFrees_early (la fa ra : Option Addr) (n lc n2 fc rn rc : Nat) (more : Int) (V0 : Nat → Value) (LL : Nat → List Int) (w : World) (hl : RowsAt w la n V0 LL) (h : tooLarge n rn LL) :
    Calls Try.prog 8 #[.slice la n lc, .slice fa n2 fc, .slice ra rn rc, .int .i64 more] w fun e w' => e = .returned (.bool true) ∧ Keeps [] w w' := by
  have HL := Lib.hid hl
  have HH := Lib.hid h
  clear hl h
  go_enter Try.func8, Try.ntmps8
  go_wp2_with fail
  refine (large_yes la n lc V0 LL ra rn rc _ HL.out HH.out).mono ?_
  rintro e w1 ⟨rfl, rfl⟩
  go_wp2_with fail
  refine (awake12 _).mono ?_
  rintro e w2 ⟨rfl, k2⟩
  go_wp2_with fail
  go_ret
  exact ⟨rfl, k2⟩

set_option maxRecDepth 100000 in
set_option maxHeartbeats 4000000 in
theorem sweepFrees_main (la fa ra : Option Addr) (n lc n2 fc rn rc : Nat) (more : Int) (V0 : Nat → Value) (LL : Nat → List Int) (F2 F3 : Nat → Int) (w : World) (hl : RowsAt w la n V0 LL) (h : ¬ tooLarge n rn LL) (hf : IntAt w fa n2 F2) (hr : IntAt w ra rn F3) (hnil : ra = none → rn = 0 ∧ rc = 0) :
    Calls Try.prog 8 #[.slice la n lc, .slice fa n2 fc, .slice ra rn rc, .int .i64 more] w fun e w' => e = .returned (.bool true) ∧ Keeps [] w w' := by
  obtain ⟨j0, hi, hz0, hz1, hz2⟩ := info_parts infoI
  have HJ := Lib.hid (And.intro hi (And.intro hz0 (And.intro hz1 hz2)))
  clear hi hz0 hz1 hz2
  obtain ⟨hn, hrn, hLL⟩ := not_large h
  have HL := Lib.hid hl
  have HLL := Lib.hid hLL
  have HF := Lib.hid hf
  have HR := Lib.hid hr
  have HN := Lib.hid hnil
  have rn' : (rn : Int) ≤ 200 := by omega
  have rn0 : (0 : Int) ≤ (rn : Int) := by omega
  clear hl h hf hr hnil hLL
  go_enter Try.func8, Try.ntmps8
  go_wp2_with fail
  refine (large_no la n lc V0 LL ra rn rc _ HL.out hn hrn HLL.out).mono ?_
  rintro e w0 ⟨rfl, rfl⟩
  go_wp2_with fail
  refine (laid_any la n lc V0 LL fa n2 fc F2 _ HL.out hn HLL.out HF.out).mono ?_
  rintro e w1 ⟨sb, wb, S, R, V, U, T, rfl, hS, hK, -⟩
  obtain ⟨Q, hQ⟩ := rch_ex n T LL (listOf rn F3)
  obtain ⟨Q2, hQ2⟩ := rch_ex n T LL (listOf (rn + 1) (fun k => if k = rn then more else F3 k))
  have hsub : ∀ i, Q i = true → Q2 i = true := fun i hi => (hQ2 i).2 (((hQ i).1 hi).mono (fun x hx => by
    simp [listOf] at hx ⊢
    obtain ⟨k, h1, h2⟩ := hx
    exact ⟨k, by omega, by rw [if_neg (by omega)]; exact h2⟩))
  have hQT : ∀ i, Q i = true → T i = true := fun i hi => ((hQ i).1 hi).lt.2
  have HQ := Lib.hid hQ
  have HQ2 := Lib.hid hQ2
  have HSUB := Lib.hid hsub
  have HQT := Lib.hid hQT
  have HS := Lib.hid hS
  have HK := Lib.hid hK
  have HR1 := Lib.hid (HR.out.keeps hK)
  have q3 : rn + 1 ≤ maxLen := by unfold maxLen; omega
  have q4 : (rn + 1) * 8 ≤ 140737488355328 := by omega
  have q5 : rn ≤ maxLen := by unfold maxLen; omega
  have q6 : rn * 8 ≤ 140737488355328 := by omega
  have G := Lib.hid (And.intro q3 (And.intro q4 (And.intro q5 q6)))
  have HM := mark_any (.func (.func 28) #[] #[]) LL LL (.inl ⟨rfl, rfl⟩) sb _ n S V T (listOf rn F3) ra rc Q HQ.out w1 HS.out.st hn HS.out.lv.at (by rw [listOf_len]; exact HR1.out.rowL) (by rw [listOf_len]; omega)
  rw [listOf_len] at HM
  have HMM := Lib.hid HM
  obtain ⟨N, hN⟩ := ex_hid (cntT Q n)
  obtain ⟨N2, hN2⟩ := ex_hid (cntT Q2 n)
  have N9 : (N : Int) ≤ 200 := by have := cntT_le Q n; have := hN.out; omega
  have N29 : (N2 : Int) ≤ 200 := by have := cntT_le Q2 n; have := hN2.out; omega
  clear hQ hQ2 hsub hQT hS hK q3 q4 q5 q6 HM
  go_wp2_with fail
  refine HMM.out.mono ?_
  rintro e w2 ⟨a2, cap2, rfl, hown2, k2⟩
  have RN2 := Lib.hid (rowN_of hown2 (idxL_len Q n))
  have K2 := Lib.hid k2
  have HR2 := Lib.hid (HR1.out.keeps k2)
  rw [← hN.out]
  clear hown2 k2 HMM
  go_wp2_with (first
    | (at_builtin; refine wpList_append_src rfl _ _ 22 rfl w2.heap.size 3 j0 (.int .i64 0) 8 Try.underlying22 HJ.out.1 HJ.out.2.1 HJ.out.2.2.1 HJ.out.2.2.2 rfl rfl ra rn rc (fun j => .int .i64 (F3 j)) rfl HN.out HR2.out (fun k hk => rfl) G.out.2.2.1 G.out.2.2.2 (Nat.le_refl _) ?_; intro xa xc w3 row1 k1; have ROW := Lib.hid row1; have K3 := Lib.hid k1; have z3 := k1.size; clear row1 k1)
    | (at_builtin; refine wpList_append_lies _ rfl _ _ 22 rfl w2.heap.size 3 j0 (.int .i64 0) 1 8 Try.underlying22 HJ.out.1 HJ.out.2.1 HJ.out.2.2.1 HJ.out.2.2.2 rfl (by decide) _ rn (valR rn (fun j => .int .i64 (F3 j))) rfl (World.ownsRow.alloc ROW.out _) ⟨w3.heap.size, 0, none⟩ 1 1 [_] rfl rfl (cell_one_new _ _ _) (by intro u hu; simp at hu; subst hu; rfl) (by decide) G.out.1 G.out.2.1 (by simp <;> omega) (w3.heap.size + 1) (by simp) ?_; intro g cap1 w4 hown hgrow hat hlt1; have kk := grown_keeps hgrow; have K4 := Lib.hid (K2.out.trans (K3.out.then kk (fun x hx => .inl (ROW.out.blk_lt x hx).1))); have K24 := Lib.hid (K3.out.then kk (fun x hx => .inl (ROW.out.blk_lt x hx).1) (S := [])); have ROW4 := Lib.hid (ValRow.of_append hown); clear hgrow hown hat kk))
  have xat : IntAt w4 (some ⟨g, 0, none⟩) (rn + 1) (fun k => if k = rn then more else F3 k) := fun k hk => ⟨g, 0, rfl, by
    rw [Nat.zero_add, ROW4.out.cell hk]
    unfold putV
    by_cases e : k = rn
    · subst e; simp
    · simp [e]⟩
  have SW4 := Lib.hid (HS.out.keeps K4.out)
  have HM4 := mark_any (.func (.func 28) #[] #[]) LL LL (.inl ⟨rfl, rfl⟩) sb _ n S V T (listOf (rn + 1) (fun k => if k = rn then more else F3 k)) (some ⟨g, 0, none⟩) cap1 Q2 HQ2.out w4 SW4.out.st hn SW4.out.lv.at (by rw [listOf_len]; exact xat.rowL) (by rw [listOf_len]; omega)
  rw [listOf_len] at HM4
  have HMM4 := Lib.hid HM4
  clear HM4 xat
  go_wp2_with fail
  refine HMM4.out.mono ?_
  rintro e w5 ⟨a5, cap5, rfl, hown5, k5⟩
  have RN5 := Lib.hid (rowN_of hown5 (idxL_len Q2 n))
  have K5 := Lib.hid (K24.out.trans k5)
  have K15 := Lib.hid (K4.out.trans k5)
  rw [← hN2.out]
  clear hown5 k5 HMM4
  have KS0 : Hid ((idxL Q n).drop 0 = keptL Q2 Q n 0) := Lib.hid (by rw [kept_start HSUB.out]; rfl)
  go_wp2_with fail
  go_loopw [15, 16] (fun kk i wr => ∃ (k j : Nat), j ≤ N2 ∧ k ≤ N ∧ i = .int .i64 j ∧ kk = .int .i64 k ∧ (idxL Q n).drop k = keptL Q2 Q n j ∧ Keeps [] w5 wr) (fun _ i _ => N2 - (intOf i).toNat)
  case atStart => exact ⟨0, 0, by omega, by omega, rfl, rfl, KS0.out, Keeps.refl _ _⟩
  case round =>
    clear KS0
    obtain ⟨k, j, hj, hk, rfl, rfl, hd, hkp⟩ := hrel
    have HD := Lib.hid hd
    have HKP := Lib.hid hkp
    have j0' : (0 : Int) ≤ (j : Int) := by omega
    have k0' : (0 : Int) ≤ (k : Int) := by omega
    clear hd hkp
    by_cases hlt : j < N2 ∧ k < N
    · obtain ⟨g1, g2⟩ := hlt
      have d1 : (j : Int) < (N2 : Int) := by omega
      have d2 : (k : Int) < (N : Int) := by omega
      obtain ⟨b, off, rfl, c1⟩ := RN5.out j (by rw [idxL_len, ← hN2.out]; exact g1)
      obtain ⟨b2, off2, rfl, c2⟩ := RN2.out k (by rw [idxL_len, ← hN.out]; exact g2)
      have c1' := HKP.out.cell c1 (by simp)
      have c2' := (K5.out.trans HKP.out).cell c2 (by simp)
      have hj2 : j < cntT Q2 n := by rw [← hN2.out]; exact g1
      rw [show (idxL Q2 n).getD j 0 = SL.ixN Q2 n j from rfl] at c1'
      have hkd : (idxL Q n).drop k = (idxL Q n).getD k 0 :: (idxL Q n).drop (k + 1) := drop_ix (T := Q) (by rw [← hN.out]; exact g2)
      obtain ⟨y, hy⟩ := ex_hid (SL.ixN Q2 n j)
      obtain ⟨z, hz⟩ := ex_hid ((idxL Q n).getD k 0)
      rw [← hy.out] at c1'
      rw [← hz.out] at c2' hkd
      clear c1 c2
      by_cases hRy : Q y = true
      · obtain ⟨p1, p2⟩ := kept_hit (T := Q2) (R := Q) hj2 (by rw [← hy.out]; exact hRy)
        have e1 : z = y ∧ (idxL Q n).drop (k + 1) = keptL Q2 Q n (j + 1) := by
          have := HD.out
          rw [hkd, p1, ← hy.out] at this
          simpa using this
        obtain ⟨rfl, hd2⟩ := e1
        have HD2 := Lib.hid hd2
        clear p1 p2 hkd hd2 hRy
        go_wp2_with fail
        go_quiet (fail)
        go_wp2_with fail
        go_roundw
        case rel => exact ⟨k + 1, j + 1, by omega, by omega, by go_num, by go_num, HD2.out, HKP.out.drewN _⟩
        case measure => simp [intOf]; omega
      · have hRf : Q y = false := by simpa using hRy
        obtain ⟨p1, p2⟩ := kept_miss (T := Q2) (R := Q) hj2 (by rw [← hy.out]; exact hRf)
        have hzq : Q z = true := kept_mem (T := Q2) (m := n) (i := j) (by rw [← HD.out, hkd]; simp)
        have hne : ((y : Int) == (z : Int)) = false := beq_false_of_ne (fun e => by
          have : y = z := by omega
          subst this; rw [hRf] at hzq; simp at hzq)
        have HD2 := Lib.hid (HD.out.trans p1)
        clear p1 p2 hkd hRy hRf hzq
        go_wp2_with fail
        go_quiet (fail)
        go_wp2_with fail
        go_roundw
        case rel => exact ⟨k, j + 1, by omega, by omega, by go_num, rfl, HD2.out, HKP.out.drewN _⟩
        case measure => simp [intOf]; omega
    · have hkN : k = N := by
        rcases Nat.lt_or_ge k N with h | h
        · have hj3 : j = N2 := by omega
          have h2 := HD.out
          have hl := congrArg List.length h2
          simp only [List.length_drop, idxL_len, keptL] at hl
          rw [List.drop_eq_nil_of_le (by rw [idxL_len, ← hN2.out]; omega)] at hl
          simp at hl
          rw [← hN.out] at hl
          omega
        · omega
      subst hkN
      have K1r := Lib.hid (K15.out.trans HKP.out)
      have SWr := Lib.hid (HS.out.keeps K1r.out)
      have HRr := Lib.hid (HR1.out.keeps K1r.out)
      have HM6 := sweep_any LL sb _ n S V T (listOf rn F3) ra rc Q HQ.out wr SWr.out.st hn SWr.out.lv.at (by rw [listOf_len]; exact HRr.out.rowL) (by rw [listOf_len]; omega)
      rw [listOf_len] at HM6
      have HMM6 := Lib.hid HM6
      have KR := Lib.hid (HK.out.trans K1r.out)
      have fS : Hid (∀ x, x ∈ S ++ R → w.heap.size ≤ x ∧ x < wr.heap.size) := Lib.hid fun x hx => (List.mem_append.1 hx).elim (SWr.out.st.foot x) (SWr.out.rf.foot x)
      have ek : ((k : Int) != (k : Int)) = false := by simp
      have z0 := KR.out.size
      obtain ⟨M, hM⟩ := ex_hid (cntT (freed T Q) n)
      have hM9 : (M : Int) ≤ 9223372036854775806 := by have := cntT_le (freed T Q) n; have := hM.out; omega
      have tail : ∀ (a6 : Option Addr) (cap6 : Nat) (w6 : World), True := fun _ _ _ => trivial
      clear HM6 tail
      by_cases hj3 : j < N2
      all_goals
        first
          | (have d1 : (j : Int) < (N2 : Int) := by omega)
          | (have d1 : ¬ (j : Int) < (N2 : Int) := by omega)
        have d2 : ¬ (k : Int) < (k : Int) := by omega
        go_wp2_with fail
        refine HMM6.out.mono ?_
        rintro e w6 ⟨a6, cap6, S6, V6, rfl, hown6, st6, hv6, k6, f6⟩
        obtain ⟨rf6, lv6, lu6, dj6⟩ := SWr.out.left k6 f6
        have HR6 : IntAt w6 ra rn F3 := fun q hq => by
          obtain ⟨b, off, h1, h2⟩ := HR.out q hq
          refine ⟨b, off, h1, k6.cell (KR.out.cell h2 (by simp)) (fun hx => ?_)⟩
          have := (fS.out b (by simp [hx])).1
          have := World.block_lt_of_cell? _ _ h2
          simp at this; omega
        have HM7 := refSweep_any LL wb _ n R U T (listOf rn F3) ra rc Q HQ.out w6 rf6 hn lu6.at (by rw [listOf_len]; exact HR6.rowL) (by rw [listOf_len]; omega)
        rw [listOf_len] at HM7
        have HMM7 := Lib.hid HM7
        have X6 := Lib.hid (And.intro hown6 (And.intro st6 (And.intro hv6 (And.intro k6 f6))))
        rw [← hM.out]
        clear HM7 hown6 st6 hv6 k6 f6 rf6 lv6 lu6 dj6 HR6 HMM6
        go_wp2_with fail
        refine HMM7.out.mono ?_
        rintro e w7 ⟨a7, cap7, R7, U7, rfl, hown7, rf7, hu7, k7, f7⟩
        obtain ⟨hown6, st6, hv6, k6, f6⟩ := X6.out
        have SW7 := Lib.hid (SWr.out.swept HQT.out st6 hv6 k6 f6 rf7 hu7 k7 f7)
        have RN7 := Lib.hid (rowN_of hown7 (idxL_len (freed T Q) n))
        have RN6 := Lib.hid (rowN_of (own_keeps' hown6 k7 (fun x hx hy => by have := (hown6.lt x hx).1; have := (fS.out x (by simp [hy])).2; omega)) (idxL_len (freed T Q) n))
        have K67 := Lib.hid ((KR.out.then k6 (fun x hx => .inl (fS.out x (by simp [hx])).1)).then k7 (fun x hx => .inl (fS.out x (by simp [hx])).1))
        rw [← hM.out]
        clear hown6 st6 hv6 k6 f6 hown7 rf7 hu7 k7 f7 HMM7
        go_wp2_with fail
        refine (same_eq _ a6 a7 M cap6 cap7 _ (RN6.out.reads (by rw [idxL_len]; exact hM.out)) (RN7.out.reads (by rw [idxL_len]; exact hM.out)) hM9).mono ?_
        rintro e w8 ⟨rfl, hb8⟩
        have SW8 := Lib.hid (SW7.out.keeps (Below.keeps hb8 []))
        have K8 := Lib.hid (K67.out.trans (Below.keeps hb8 []))
        clear hb8
        go_wp2_with fail
        refine (taken_any _ _ _ _ _ _ _ _ _ _ _ SW8.out hn).mono ?_
        rintro e w9 ⟨rfl, k9⟩
        have SW9 := Lib.hid (SW8.out.keeps k9)
        have K9 := Lib.hid (K8.out.trans k9)
        clear k9
        go_wp2_with fail
        refine (SL.len_st _ _ _ _ _ _ _ SW9.out.st (by omega)).mono ?_
        rintro e w10 ⟨rfl, k10⟩
        have SW10 := Lib.hid (SW9.out.keeps k10)
        have K10 := Lib.hid (K9.out.trans k10)
        have fT : Hid (∀ x, x ∈ S6 ++ R7 → w.heap.size ≤ x ∧ x < w10.heap.size) := Lib.hid fun x hx => (List.mem_append.1 hx).elim (SW10.out.st.foot x) (SW10.out.rf.foot x)
        have HM11 := sweep_any LL sb _ n S6 V6 Q (listOf rn F3) ra rc Q (rch_again HQ.out) w10 SW10.out.st hn SW10.out.lv.at (by rw [listOf_len]; exact (HR.out.keeps K10.out).rowL) (by rw [listOf_len]; omega)
        rw [listOf_len] at HM11
        have HMM11 := Lib.hid HM11
        rw [← hN.out]
        clear k10 HM11
        go_wp2_with fail
        refine HMM11.out.mono ?_
        rintro e w11 ⟨a11, cap11, S11, V11, rfl, -, st11, hv11, k11, f11⟩
        rw [freed_self]
        obtain ⟨rf12, lv12, lu12, dj12⟩ := SW10.out.left k11 f11
        have SW11 : Hid (SW sb wb w.heap.size S11 R7 n V11 U7 Q LL w11) := Lib.hid ⟨st11, rf12, lv12.sub (fun i hi hq => ⟨hq, hv11 i hi hq⟩), lu12, dj12⟩
        have K11 := Lib.hid (K10.out.then k11 (fun x hx => .inl (fT.out x (by simp [hx])).1))
        clear st11 hv11 k11 f11 rf12 lv12 lu12 dj12 HMM11
        go_wp2_with fail
        refine (taken_any _ _ _ _ _ _ _ _ _ _ _ SW11.out hn).mono ?_
        rintro e w12 ⟨rfl, k12⟩
        have K12 := Lib.hid (K11.out.trans k12)
        clear k12
        go_wp2_with fail
        refine (awake12 _).mono ?_
        rintro e w13 ⟨rfl, k13⟩
        have K13 := Lib.hid (K12.out.trans k13)
        clear k13
        go_wp2_with fail
        go_ret
        exact ⟨rfl, K13.out⟩

theorem sweepFrees_walk (la : Option Addr) (n lc : Nat) (V0 : Nat → Value) (LL : Nat → List Int) (fa : Option Addr) (n2 fc : Nat) (F2 : Nat → Int) (ra : Option Addr) (rn rc : Nat) (F3 : Nat → Int) (more : Int) (w : World) (hl : RowsAt w la n V0 LL) (hf : IntRow .i64 1 w fa n2 F2) (hr : IntRow .i64 1 w ra rn F3) (_hm : (Lit.int .i64 more).wf = true) (hnil : ra = none → rn = 0 ∧ rc = 0) :
    Calls Try.prog 8 #[.slice la n lc, .slice fa n2 fc, .slice ra rn rc, .int .i64 more] w fun e w' => e = .returned (.bool true) ∧ Below w.heap.size w w' := by
  have key : Calls Try.prog 8 #[.slice la n lc, .slice fa n2 fc, .slice ra rn rc, .int .i64 more] w fun e w' => e = .returned (.bool true) ∧ Keeps [] w w' := by
    by_cases h : tooLarge n rn LL
    · exact sweepFrees_early la fa ra n lc n2 fc rn rc more V0 LL w hl h
    · exact sweepFrees_main la fa ra n lc n2 fc rn rc more V0 LL F2 F3 w hl h (intAt_of hf) (intAt_of hr) hnil
  exact key.mono fun e w' ⟨he, hk⟩ => ⟨he, hk.below (Nat.le_refl _) (by simp)⟩
end Go.Proofs.Ytompihlckpjbkaa
