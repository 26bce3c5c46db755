/- The document's Mark, walked (chapter 12). -/
import Derived.Test.YtompihlckpjbkaaRefMark
namespace Go.Proofs.Ytompihlckpjbkaa
open Go.RowKit
set_option linter.unusedVariables false

/-- The document's slots and the flags, behind w. -/
structure RSt (w : World) (m : Nat) (Q : Nat → Bool) (W : World) : Prop where
  kp : Keeps [] w W
  fl : W.heap[w.heap.size]? = some (.cells (flagsA m Q) 4 (0, 0))
theorem RSt.keeps {w : World} {m : Nat} {Q : Nat → Bool} {W W' : World} (h : RSt w m Q W) (k : Keeps [] W W') : RSt w m Q W' := ⟨h.kp.trans k, k.has h.fl (by simp)⟩
theorem RSt.put {w : World} {m : Nat} {Q : Nat → Bool} {W : World} (h : RSt w m Q W) (i : Nat) (b : Bool) : RSt w m (putB Q i b) (W.setCell ⟨w.heap.size, i, none⟩ (.bool b)) :=
  ⟨h.kp.then ((Keeps.refl [w.heap.size] W).setCell (.inr (by simp)) _) (by intro z hz; simp at hz; left; omega), by rw [← flagsA_set]; exact has_setCell h.fl i _⟩

set_option maxRecDepth 100000 in
set_option maxHeartbeats 4000000 in
theorem refMark_any (LL : Nat → List Int) (wb lo m : Nat) (S : List Nat) (V : Nat → Value) (T : Nat → Bool) (rs : List Int) (ra : Option Addr) (rc : Nat) (R : Nat → Bool) (hR : ∀ i, R i = true ↔ Rch m T LL rs i)
    (w : World) (hst : RefS wb lo S m V T w) (hm : m ≤ 200) (hL : LeadsAt m V T LL w) (hr : RowL w (.slice ra rs.length rc) rs) (hrs : rs.length ≤ 100000) :
    Calls Try.prog 30 #[.pointer (some ⟨wb, 0, none⟩), .slice ra rs.length rc] w (ListC m R w) := by
  obtain ⟨j0, hi, hz0, hz1, hz2⟩ := info_parts infoI
  have HJ := Lib.hid (And.intro hi (And.intro hz0 (And.intro hz1 hz2)))
  clear hi hz0 hz1 hz2
  have HST := Lib.hid hst
  have HL := Lib.hid hL
  have HR := Lib.hid hr
  have HRR := Lib.hid hR
  have m0 : (0 : Int) ≤ (m : Int) := by omega
  have m1 : (m : Int) ≤ 200 := by omega
  have hmk := fun w => make_flags w m (by omega)
  obtain ⟨La, Lc, Ta, Tc, h1, h2, h3, h4, hS⟩ := hst
  have c0 := cell_has h1 (i := 0) rfl
  have X := Lib.hid (And.intro h1 (And.intro h2 h3))
  clear h1 h2 h3 h4 hS hL hr hR
  go_enter Try.func30, Try.ntmps30
  go_wp2_with fail
  have S0 : Hid (RSt w m (fun _ => false) (w.alloc (.cells (flagsA m (fun _ => false)) 4))) := Lib.hid ⟨(Keeps.refl _ _).alloc _, has_new _ _⟩
  go_loopw [6] (fun i wr => ∃ (k : Nat) (Q : Nat → Bool), k ≤ rs.length ∧ i = .int .i64 k ∧ RInv m T LL rs (rs.take k) Q ∧ RSt w m Q wr) (fun i _ => rs.length - (intOf i).toNat)
  case atStart => exact ⟨0, _, by omega, rfl, ⟨fun i hi => by simp at hi, fun x hx => by simp at hx⟩, S0.out⟩
  case round =>
    obtain ⟨k, Q, hk, rfl, hI, hQ⟩ := hrel
    have k0 : (0 : Int) ≤ (k : Int) := by omega
    have HI := Lib.hid hI
    have HQ := Lib.hid hQ
    have ref1 := Lib.hid (HST.out.keeps hQ.kp (by simp))
    clear hI hQ c0
    by_cases hlt : k < rs.length
    · have hlt' : (k : Int) < (rs.length : Int) := by omega
      have hx1 := HR.out.keeps HQ.out.kp
      obtain ⟨a', c', he, hx2⟩ := hx1
      obtain ⟨b, off, e2, hc⟩ := hx2 k hlt
      simp at he
      obtain ⟨rfl, rfl⟩ := he
      subst e2
      obtain ⟨x, hx⟩ := ex_hid (rs.getD k 0)
      rw [← hx.out] at hc
      have HTK := Lib.hid (take_snoc hlt)
      rw [← hx.out] at HTK
      have hmem : Hid (x ∈ rs) := Lib.hid (by rw [hx.out]; simp [List.getD_eq_getElem?_getD, hlt])
      have hbl := World.block_lt_of_cell? _ _ hc
      clear hx2
      by_cases hB : isB m T x = true
      · have hb := isB_lt hB
        obtain ⟨y, hy⟩ := Int.eq_ofNat_of_zero_le hb.1
        subst hy
        have HB := Lib.hid hB
        have hym : y < m := by omega
        have y0 : (0 : Int) ≤ (y : Int) := by omega
        have y1 : (y : Int) < (m : Int) := by omega
        clear hb hB
        go_wp2_with fail
        refine (refIs_any _ _ _ _ _ _ _ true HB.out _ ref1.out).mono ?_
        rintro e w1 ⟨rfl, k1⟩
        have hc1 := k1.cell hc (by simp)
        have Q1 := Lib.hid (HQ.out.keeps k1)
        have f1 := cell_has Q1.out.fl (flagsA_get hym)
        have fr1 := free_of_has Q1.out.fl y
        obtain ⟨z, hz⟩ := ex_hid (Q y)
        rw [← hz.out] at f1
        clear k1 hc
        go_wp2_with fail
        go_roundw
        case rel => exact ⟨k + 1, putB Q y true, by omega, by go_num, by rw [HTK.out]; exact (HI.out.put (.root hmem.out HB.out)).snoc _ (fun _ => by simp [putB]), Q1.out.put y true⟩
        case measure => simp [intOf]; omega
      · have hB' : isB m T x = false := by simpa using hB
        have HB := Lib.hid hB'
        clear hB hB'
        go_wp2_with fail
        refine (refIs_any _ _ _ _ _ _ _ false HB.out _ ref1.out).mono ?_
        rintro e w1 ⟨rfl, k1⟩
        have Q1 := Lib.hid (HQ.out.keeps k1)
        clear k1
        go_wp2_with fail
        go_roundw
        case rel => exact ⟨k + 1, Q, by omega, by go_num, by rw [HTK.out]; exact HI.out.snoc _ (fun h => by rw [HB.out] at h; simp at h), Q1.out⟩
        case measure => simp [intOf]; omega
    · obtain rfl : k = rs.length := by omega
      have HI2 : Hid (RInv m T LL rs rs Q) := Lib.hid (by simpa using HI.out)
      clear HI
      obtain ⟨wo, rfl⟩ : ∃ wo : World, wo = wr := ⟨_, rfl⟩
      go_wp2_with fail
      go_loopg [7] ((m - cntT Q m) + 1) (fun gk more wr => ∃ (Q : Nat → Bool) (mo : Bool), gk = (m - cntT Q m) + (if mo then 1 else 0) ∧ more = .bool mo ∧ RInv m T LL rs rs Q ∧ RSt w m Q wr ∧ (mo = false → ∀ j, Q j = true → ∀ x, x ∈ LL j → isB m T x = true → Q x.toNat = true))
      case atStart => exact ⟨Q, true, rfl, rfl, HI2.out, HQ.out, fun h => by simp at h⟩
      case round =>
        clear HI2 HQ ref1
        obtain ⟨Q, mo, hgk, rfl, hI, hQ, hcl⟩ := hrel
        have HG := Lib.hid hgk
        have HI := Lib.hid hI
        have HQ := Lib.hid hQ
        have HC := Lib.hid hcl
        clear hgk hI hQ hcl
        cases mo with
        | false =>
          have hSR : ∀ i, Q i = R i := fun i => by rw [Bool.eq_iff_iff, rch_of_closed HI.out.sub HI.out.rt (HC.out rfl) i, HRR.out i]
          have HSR := Lib.hid hSR
          obtain ⟨w2, rfl⟩ : ∃ w2 : World, w2 = wr := ⟨_, rfl⟩
          have hz2 := lt_of_block HQ.out.fl
          clear hSR HC
          go_wp2_with fail
          go_loopw [11, 12] (fun out i wr => ∃ (k : Nat) (a : Option Addr) (cap : Nat), k ≤ m ∧ i = .int .i64 k ∧ out = .slice a (cntT R k) cap ∧ wr.ownsRow w2.heap.size 3 1 (.slice a (cntT R k) cap) (cntT R k) (intsL (idxL R k)) ∧ Below w2.heap.size w2 wr) (fun _ i _ => m - (intOf i).toNat)
          case atStart => exact ⟨0, none, 0, by omega, rfl, rfl, World.ownsRow_nil _ _ _ _, Below.refl _ _⟩
          case round =>
            obtain ⟨k, a, cap, hk, rfl, rfl, hO2, hkp⟩ := hrel
            have HO := Lib.hid hO2
            have HK := Lib.hid hkp
            have Q5 := Lib.hid (HQ.out.keeps (Below.keeps hkp []))
            have k0 : (0 : Int) ≤ (k : Int) := by omega
            clear hO2 hkp
            by_cases hlt : k < m
            · have hlt' : (k : Int) < (m : Int) := by omega
              have f1 := cell_has Q5.out.fl (flagsA_get hlt)
              rw [HSR.out k] at f1
              have hcl := cntT_le R k
              by_cases hT : R k = true
              · rw [hT] at f1
                have HT := Lib.hid hT
                clear hT
                have q3 : cntT R k + 1 ≤ maxLen := by unfold maxLen; omega
                have q4 : (cntT R k + 1) * 8 ≤ 140737488355328 := by omega
                have q5 : w2.heap.size ≤ wr.heap.size + 1 := by have := HK.out.size; omega
                have G := Lib.hid (And.intro q3 (And.intro q4 q5))
                clear q3 q4 q5
                go_wp2_with (at_builtin; refine wpList_append_lies _ rfl _ _ 22 rfl w2.heap.size 3 j0 (.int .i64 0) 1 8 Try.underlying22 HJ.out.1 HJ.out.2.1 HJ.out.2.2.1 HJ.out.2.2.2 rfl (by decide) _ (cntT R k) (intsL (idxL R k)) rfl (HO.out.alloc _) ⟨wr.heap.size, 0, none⟩ 1 1 [_] rfl rfl (cell_one_new _ _ _) (by intro u hu; simp at hu; subst hu; rfl) (by decide) G.out.1 G.out.2.1 (by simpa using G.out.2.2) (wr.heap.size + 1) (by simp) ?_; intro g cap' w1 hown hgrow _ _; have K1 := Lib.hid (append_kept HO.out HK.out.size hgrow); have H1 := Lib.hid hown; clear hgrow hown)
                go_roundw
                case rel =>
                  refine ⟨k + 1, some ⟨g, 0, none⟩, cap', by omega, by go_num, by simp [cntT, HT.out], ?_, HK.out.trans (K1.out.below (Nat.le_refl _) (by simp))⟩
                  have := H1.out
                  simp only [cntT, idxL, HT.out, if_true]
                  simpa [intsL] using this
                case measure => simp [intOf]; omega
              · have hT' : R k = false := by simpa using hT
                rw [hT'] at f1
                have HT := Lib.hid hT'
                clear hT hT'
                go_wp2_with fail
                go_roundw
                case rel =>
                  refine ⟨k + 1, a, cap, by omega, by go_num, by simp [cntT, HT.out], ?_, HK.out⟩
                  have := HO.out
                  simp only [cntT, idxL, HT.out]
                  simpa using this
                case measure => simp [intOf]; omega
            · obtain rfl : k = m := by omega
              have hge : ¬ (k : Int) < (k : Int) := by omega
              go_wp2_with fail
              go_ret
              exact ⟨a, cap, rfl, ownsRow_base HO.out HQ.out.kp.size, HQ.out.kp.trans (Below.keeps HK.out [])⟩
        | true =>
          obtain ⟨w2, rfl⟩ : ∃ w2 : World, w2 = wr := ⟨_, rfl⟩
          clear HC
          go_wp2_with fail
          go_loopw [7, 8] (fun more i wr => ∃ (k : Nat) (Q' : Nat → Bool) (mo : Bool), k ≤ m ∧ i = .int .i64 k ∧ more = .bool mo ∧ Pass m T LL Q Q' mo k [] ∧ RInv m T LL rs rs Q' ∧ RSt w m Q' wr) (fun _ i _ => m - (intOf i).toNat)
          case atStart => exact ⟨0, Q, false, by omega, rfl, rfl, Pass.start, HI.out, HQ.out⟩
          case round =>
            obtain ⟨k, Q', mo, hk, rfl, rfl, hP, hI', hQ'⟩ := hrel
            have HP := Lib.hid hP
            have HI' := Lib.hid hI'
            have HQ' := Lib.hid hQ'
            have k0 : (0 : Int) ≤ (k : Int) := by omega
            have c0 := cell_has (hQ'.kp.has X.out.1 (by simp)) (i := 0) rfl
            clear hP hI' hQ'
            by_cases hlt : k < m
            · have hlt' : (k : Int) < (m : Int) := by omega
              have f1 := cell_has HQ'.out.fl (flagsA_get hlt)
              by_cases hT : Q' k = true
              · rw [hT] at f1
                have hkr := HI'.out.sub k hT
                have LV := HL.out k hlt hkr.lt.2
                have HKR := Lib.hid hkr
                obtain ⟨⟨la, lc, hve, hvr⟩, hl60⟩ := LV
                have HVR := Lib.hid hvr
                have HVE := Lib.hid hve
                have l60 : ((LL k).length : Int) ≤ 60 := by omega
                have hsh := X.out.2.1.shape (by omega)
                obtain ⟨gL, hgL⟩ := hsh
                have HGL := Lib.hid hgL
                clear hT hkr hve hvr hgL
                obtain ⟨w3, rfl⟩ : ∃ w3 : World, w3 = wr := ⟨_, rfl⟩
                go_wp2_with fail
                go_loopw [7, 9] (fun more j wr => ∃ (n : Nat) (Q4 : Nat → Bool) (mo4 : Bool), n ≤ (LL k).length ∧ j = .int .i64 n ∧ more = .bool mo4 ∧ Pass m T LL Q Q4 mo4 k ((LL k).take n) ∧ RInv m T LL rs rs Q4 ∧ RSt w m Q4 wr) (fun _ j _ => (LL k).length - (intOf j).toNat)
                case atStart => exact ⟨0, Q', mo, by omega, rfl, rfl, by simpa using HP.out, HI'.out, HQ'.out⟩
                case round =>
                  clear c0 f1
                  obtain ⟨n, Q4, mo4, hn, rfl, rfl, hP, hI4, hQ4⟩ := hrel
                  have HP4 := Lib.hid hP
                  have HI4 := Lib.hid hI4
                  have HQ4 := Lib.hid hQ4
                  have n0 : (0 : Int) ≤ (n : Int) := by omega
                  have c0 := cell_has (hQ4.kp.has X.out.1 (by simp)) (i := 0) rfl
                  rw [HGL.out] at c0
                  have c1 : wr.cell? ⟨gL, k, none⟩ = some (.slice la (LL k).length lc) := by rw [← HVE.out]; exact hQ4.kp.cell ((HGL.out ▸ X.out.2.1).cell hlt) (by simp)
                  have ref1 := Lib.hid (HST.out.keeps hQ4.kp (by simp))
                  clear hP hI4 hQ4
                  by_cases hlt4 : n < (LL k).length
                  · have hlt4' : (n : Int) < ((LL k).length : Int) := by omega
                    obtain ⟨b, off, e2, hc0⟩ := HVR.out n hlt4
                    subst e2
                    have hc := HQ4.out.kp.cell hc0 (by simp)
                    obtain ⟨x, hx⟩ := ex_hid ((LL k).getD n 0)
                    rw [← hx.out] at hc
                    have HTK := Lib.hid (take_snoc hlt4)
                    rw [← hx.out] at HTK
                    have hmem : Hid (x ∈ LL k) := Lib.hid (by rw [hx.out]; simp [List.getD_eq_getElem?_getD, hlt4])
                    clear hc0
                    by_cases hB : isB m T x = true
                    · have hb := isB_lt hB
                      obtain ⟨y, hy⟩ := Int.eq_ofNat_of_zero_le hb.1
                      subst hy
                      have HB := Lib.hid hB
                      have hym : y < m := by omega
                      have y0 : (0 : Int) ≤ (y : Int) := by omega
                      have y1 : (y : Int) < (m : Int) := by omega
                      clear hb hB
                      by_cases hqy : Q4 y = true
                      · have HQY := Lib.hid hqy
                        clear hqy
                        go_wp2_with fail
                        refine (refIs_any _ _ _ _ _ _ _ true HB.out _ ref1.out).mono ?_
                        rintro e w4 ⟨rfl, k1⟩
                        have Q1 := Lib.hid (HQ4.out.keeps k1)
                        have f1 := cell_has Q1.out.fl (flagsA_get hym)
                        rw [HQY.out] at f1
                        clear k1
                        go_wp2_with fail
                        go_roundw
                        case rel => exact ⟨n + 1, Q4, mo4, by omega, by go_num, rfl, by rw [HTK.out]; exact HP4.out.skip _ (fun _ => HQY.out), HI4.out, Q1.out⟩
                        case measure => simp [intOf]; omega
                      · have hqy' : Q4 y = false := by simpa using hqy
                        have HQY := Lib.hid hqy'
                        clear hqy hqy'
                        go_wp2_with fail
                        refine (refIs_any _ _ _ _ _ _ _ true HB.out _ ref1.out).mono ?_
                        rintro e w4 ⟨rfl, k1⟩
                        have Q1 := Lib.hid (HQ4.out.keeps k1)
                        have f1 := cell_has Q1.out.fl (flagsA_get hym)
                        have fr1 := free_of_has Q1.out.fl y
                        rw [HQY.out] at f1
                        clear k1
                        go_wp2_with fail
                        go_roundw
                        case rel => exact ⟨n + 1, putB Q4 y true, true, by omega, by go_num, rfl, HP4.out.hit (y : Int) HB.out HQY.out _, HI4.out.put (.step HKR.out hmem.out HB.out), Q1.out.put y true⟩
                        case measure => simp [intOf]; omega
                    · have hB' : isB m T x = false := by simpa using hB
                      have HB := Lib.hid hB'
                      clear hB hB'
                      go_wp2_with fail
                      refine (refIs_any _ _ _ _ _ _ _ false HB.out _ ref1.out).mono ?_
                      rintro e w4 ⟨rfl, k1⟩
                      have Q1 := Lib.hid (HQ4.out.keeps k1)
                      clear k1
                      go_wp2_with fail
                      go_roundw
                      case rel => exact ⟨n + 1, Q4, mo4, by omega, by go_num, rfl, by rw [HTK.out]; exact HP4.out.skip _ (fun h => by rw [HB.out] at h; simp at h), HI4.out, Q1.out⟩
                      case measure => simp [intOf]; omega
                  · obtain rfl : n = (LL k).length := by omega
                    have HP5 : Hid (Pass m T LL Q Q4 mo4 k (LL k)) := Lib.hid (by simpa using HP4.out)
                    go_wp2_with fail
                    go_roundw
                    case rel => exact ⟨k + 1, Q4, mo4, by omega, by go_num, rfl, HP5.out.row, HI4.out, HQ4.out⟩
                    case measure => simp [intOf]; omega
              · have hT' : Q' k = false := by simpa using hT
                rw [hT'] at f1
                have HT := Lib.hid hT'
                clear hT hT'
                go_wp2_with fail
                go_roundw
                case rel => exact ⟨k + 1, Q', mo, by omega, by go_num, rfl, HP.out.norow HT.out, HI'.out, HQ'.out⟩
                case measure => simp [intOf]; omega
            · obtain rfl : k = m := by omega
              have hge : ¬ (k : Int) < (k : Int) := by omega
              go_wp2_with fail
              go_roundg ((k - cntT Q' k) + (if mo then 1 else 0))
              case measure =>
                have h1 := HG.out
                have h2 := cntT_le Q' k
                have h3 := cntT_le Q k
                rcases HP.out with ⟨rfl, h⟩ | ⟨rfl, rfl, _⟩
                · simp at h1 ⊢; omega
                · simp at h1 ⊢; omega
              case rel =>
                refine ⟨Q', mo, rfl, rfl, HI'.out, HQ'.out, fun hmo => ?_⟩
                rcases HP.out with ⟨h, _⟩ | ⟨_, rfl, h3, _⟩
                · rw [h] at hmo; simp at hmo
                · exact fun j hj => h3 j ((HI'.out.sub j hj).lt.1) hj
end Go.Proofs.Ytompihlckpjbkaa
