/- What a namespace tells is a copy (chapter 10, SharedOwn): the walk. -/
import Derived.Test.YtajmfenfajbakaaShOn
namespace Go.Proofs.Ytajmfenfajbakaa
open Go.RowKit
set_option linter.unusedVariables false
set_option linter.unusedSimpArgs false

theorem str_cellO {w : World} {a : Option Addr} {len : Nat} {N : Nat → ByteArray} (h : StrRow w a len N) {i : Nat} (hi : i < len) : ∃ b off, a = some ⟨b, off, none⟩ ∧ ∀ W, Keeps [] w W → W.cell? ⟨b, off + i, none⟩ = some (.string (N i)) := by
  rcases h with h | ⟨b, off, h1, h2, _, h4⟩
  · omega
  · exact ⟨b, off, h1, fun W k => k.cell (h4 i hi) (by simp)⟩
theorem two_up10 {j j2 : Nat} (h : j2 = j + 2) (hj : j ≤ 100000) : IntKind.i64.wrap (j2 : Int) = (j2 : Int) ∧ (j : Int) + 2 = (j2 : Int) ∧ wrap64 (j2 : Int) = (j2 : Int) := by
  subst h
  have e : wrap64 ((j : Int) + 2) = ((j + 2 : Nat) : Int) := by rw [IntWalk.wrap64_in _ (by omega)]; omega
  have e2 : wrap64 ((j + 2 : Nat) : Int) = ((j + 2 : Nat) : Int) := by rw [show ((j + 2 : Nat) : Int) = (j : Int) + 2 from by omega]; exact e.trans (by omega)
  exact ⟨by rw [IntWalk.i64_left]; exact e2, by omega, e2⟩
def qS : ByteArray := ⟨#[63]⟩
set_option maxRecDepth 100000 in
set_option maxHeartbeats 8000000 in
theorem sharedOwn_walk (a0 : Option Addr) (n0 c0 : Nat) (N : Nat → ByteArray) (w : World) (h0 : StrRow w a0 n0 N) :
    Calls Try.prog 4 #[.slice a0 n0 c0] w fun e w' => e = .returned (.bool true) ∧ Below w.heap.size w w' := by
  have H0 := Lib.hid h0
  clear h0
  by_cases e0 : 60 < n0
  · have b0 : decide ((60 : Int) < (n0 : Int)) = true := by simp; omega
    go_enter Try.func4, Try.ntmps4
    go_wp2_with fail
    refine (awake10 w).mono ?_
    rintro r w1 ⟨rfl, k1⟩
    have K1 := Lib.hid k1
    clear k1
    go_wp2_with fail
    go_ret
    exact ⟨rfl, K1.out.below (Nat.le_refl _) (by simp)⟩
  have b0 : decide ((60 : Int) < (n0 : Int)) = false := by simp; omega
  have NW := jnew_any 20 1000 none ⟨0, 0, 0, 0⟩ w (fun b hb => by cases hb) (by omega) (by omega) (by omega) (by omega)
  rw [show mV none = .pointer none from rfl] at NW
  go_enter Try.func4, Try.ntmps4
  go_wp2_with fail
  refine NW.mono ?_
  rintro r w1 ⟨fb, rfl, hfb, k1, m1, S1, f1⟩
  have K1 := Lib.hid (show Keeps [] w w1 from k1.mono (by simp [mS]))
  have MK := make10_any f1 m1 (fun b hb => by cases hb)
  clear NW k1 m1 f1
  go_wp2_with fail
  refine MK.mono ?_
  rintro r w2 ⟨sb, SS, rfl, g2, k2⟩
  have O2 := Lib.hid (And.intro (One10.new g2) ((K1.out.trans k2).below (Nat.le_refl _) (by simp)))
  clear MK g2 k2
  go_wp2_with fail
  go_loopw [6] (fun z6 wr => ∃ i : Nat, i ≤ n0 ∧ z6 = .int .i64 i ∧ Hid (One10 fb sb w.heap.size i wr ∧ Below w.heap.size w wr)) (fun z6 _ => n0 - (intOf z6).toNat)
  case atStart => exact ⟨0, Nat.zero_le _, rfl, O2⟩
  case round =>
    clear O2
    obtain ⟨i, hi, rfl, I⟩ := hrel
    by_cases hlt : i < n0
    · have i1 : (i : Int) < (n0 : Int) := by omega
      have i0 : (0 : Int) ≤ (i : Int) := by omega
      obtain ⟨b, off, rfl, hc⟩ := str_cellO H0.out hlt
      have x1 := hc wr (Below.keeps I.out.2 [])
      clear hc
      obtain ⟨s, hs⟩ := ex_hid (N i)
      rw [← hs.out] at x1
      by_cases hz : 200 < s.size
      · have bz : decide ((200 : Int) < (s.size : Int)) = true := by simp; omega
        go_wp2_with fail
        refine (awake10 wr).mono ?_
        rintro r w3 ⟨rfl, k3⟩
        have K3 := Lib.hid ((Below.keeps I.out.2 []).trans k3)
        clear k3
        go_wp2_with fail
        go_ret
        exact ⟨rfl, K3.out.below (Nat.le_refl _) (by simp)⟩
      · have bz : decide ((200 : Int) < (s.size : Int)) = false := by simp; omega
        go_wp2_with fail
        refine (one10_set I.out.1 (by omega) s i (by omega)).mono ?_
        rintro r w3 ⟨e, he, rfl, o3, b3⟩
        have O3 := Lib.hid (And.intro o3 (I.out.2.trans b3))
        clear o3 b3 I x1
        rcases he with rfl | rfl
        · go_wp2_with fail
          go_roundw
          case rel => exact ⟨i + 1, by omega, by go_num, O3⟩
          case measure => simp [intOf]; omega
        · go_wp2_with fail
          refine (awake10 w3).mono ?_
          rintro r w4 ⟨rfl, k4⟩
          have K4 := Lib.hid ((Below.keeps O3.out.2 []).trans k4)
          clear k4
          go_wp2_with fail
          go_ret
          exact ⟨rfl, K4.out.below (Nat.le_refl _) (by simp)⟩
    · obtain rfl : i = n0 := by omega
      have hge : ¬ (i : Int) < (i : Int) := by omega
      obtain ⟨W5, hW5⟩ : ∃ x, x = wr := ⟨_, rfl⟩
      subst hW5
      obtain ⟨⟨SF, SS, f, ks, wy, ver, c, g1, g2, g3, g4, g5⟩, kw⟩ := I.out
      have KW := Lib.hid kw
      have A0 := Lib.hid g1
      have hE := g2.fk.t.ek
      have hL := g2.fk.t.l12
      have hKL := g2.fk.kl
      have hPn : (pairsW f wy).length ≤ 100000 := by
        rw [pairsW_len]
        cases wy with
        | row vs => have := g2.w.2; show vs.length ≤ _; omega
        | own T => have := (show OwnOk i f.N T from g2.w).t.ek; have := liveN_le T.E; show liveN T.E ≤ _; omega
      obtain ⟨P, hP⟩ := ex_hid (pairsW f wy)
      have PR := Lib.hid (fun (W : World) (h : At10 fb sb w.heap.size SF SS none f wy ver c W) => (show Calls Try.prog 17 #[.pointer (some ⟨sb, 0, none⟩)] W (fun r w' => ∃ a c, r = .returned (.slice a P.length c) ∧ PairRow W.heap.size a c P w' ∧ Keeps [] W w') from by
        have h9 := pairs10_any g2 h
        unfold Pairs10 at h9
        rw [← hP.out] at h9; exact h9))
      rw [← hP.out] at hPn
      obtain ⟨n, hn⟩ := ex_hid P.length
      rw [← hn.out] at PR hPn
      obtain ⟨q, hq⟩ := ex_hid ks.length
      have NM := Lib.hid (fun (W : World) (h : At10 fb sb w.heap.size SF SS none f wy ver c W) => (show Calls Try.prog 15 #[.pointer (some ⟨fb, 0, none⟩)] W (fun r w' => ∃ lo a c, W.heap.size ≤ lo ∧ r = .returned (.slice a q c) ∧ ValRow 9 lo a q c (strV ks) w' ∧ Keeps [] W w') from by
        have h9 := names10_at g2 h
        unfold Names10 at h9
        rw [← hq.out] at h9; exact h9))
      have hqn : q ≤ 1000 := by rw [hq.out, hKL]; omega
      have NCMP := Lib.hid (fun (l1 l2 : Nat) (a1 a2 : Option Addr) (c1 c2 : Nat) (W : World) (h1 : ValRow 9 l1 a1 q c1 (strV ks) W) (h2 : ValRow 9 l2 a2 q c2 (strV ks) W) => (show Calls Try.prog 14 #[.slice a1 q c1, .slice a2 q c2] W (fun r w' => r = .returned (.bool true) ∧ Keeps [] W w') from by
        have h9 := names_cmp l1 l2 a1 a2 c1 c2 ks ks W (by rw [← hq.out]; exact h1) (by rw [← hq.out]; exact h2) (by rw [← hq.out]; exact Nat.le_trans hqn (by decide))
        rw [← hq.out] at h9
        refine h9.mono ?_
        rintro r w' ⟨rfl, k⟩
        exact ⟨by simp, k⟩))
      have PCMP := Lib.hid (fun (l1 l2 : Nat) (a1 a2 : Option Addr) (c1 c2 : Nat) (W : World) (h1 : PairRow l1 a1 c1 P W) (h2 : PairRow l2 a2 c2 P W) => (show Calls Try.prog 19 #[.slice a1 n c1, .slice a2 n c2] W (fun r w' => r = .returned (.bool true) ∧ Keeps [] W w') from by
        have h9 := pairs10_same l1 l2 c1 c2 a1 a2 P W h1 h2 (by rw [← hn.out]; exact Nat.le_trans hPn (by decide))
        rw [← hn.out] at h9
        exact h9))
      obtain ⟨T, hT⟩ := ex_hid f.K
      rw [← hT.out] at hE hL
      obtain ⟨el, hel⟩ := ex_hid T.E.length
      obtain ⟨cn, hcn⟩ := ex_hid (2 ^ T.L)
      have SG := Lib.hid (fun (W : World) (h : At10 fb sb w.heap.size SF SS none f wy ver c W) => (show Calls Try.prog 18 #[.pointer (some ⟨fb, 0, none⟩)] W (fun r w' => ∃ a c ae ce, r = .returned (.agg #[.int .i64 T.L, .int .i64 (wdOf T.L), .slice a cn c, .slice ae el ce, .int .i64 (liveN T.E : Nat), .int .i64 T.births, .int .i64 T.made]) ∧ ValRow 3 W.heap.size a cn c (fun k => .int .i64 (T.V k)) w' ∧ EntRow W.heap.size ae ce T.E w' ∧ Keeps [] W w') from by
        refine (fsight10_at g2 h).mono ?_
        rintro r w' ⟨a, c, ae, ce, h1, h2, h3, h4⟩
        rw [hcn.out, hel.out, hT.out]
        exact ⟨a, c, ae, ce, h1, h2, h3, Below.keeps h4 []⟩))
      have SCMP := Lib.hid (fun (lo1 lo2 lo3 lo4 c1 c2 ce1 ce2 : Nat) (a1 a2 ae1 ae2 : Option Addr) (w : World) (r1 : ValRow 3 lo1 a1 cn c1 (fun k => .int .i64 (T.V k)) w) (r2 : ValRow 3 lo2 a2 cn c2 (fun k => .int .i64 (T.V k)) w) (h1 : EntRow lo3 ae1 ce1 T.E w) (h2 : EntRow lo4 ae2 ce2 T.E w) => (show Calls Try.prog 20 #[(.agg #[.int .i64 T.L, .int .i64 (wdOf T.L), .slice a1 cn c1, .slice ae1 el ce1, .int .i64 (liveN T.E : Nat), .int .i64 T.births, .int .i64 T.made]), (.agg #[.int .i64 T.L, .int .i64 (wdOf T.L), .slice a2 cn c2, .slice ae2 el ce2, .int .i64 (liveN T.E : Nat), .int .i64 T.births, .int .i64 T.made])] w (fun r w' => r = .returned (.bool true) ∧ Keeps [] w w') from by
        rw [hcn.out] at r1 r2
        have h9 := sight10_same T lo1 lo2 lo3 lo4 c1 c2 ce1 ce2 a1 a2 ae1 ae2 w r1 r2 h1 h2 (by omega) (by omega)
        rw [← hcn.out, ← hel.out] at h9; exact h9))
      have hel1 : el ≤ 1000 := by rw [hel.out]; omega
      have HLT := Lib.hid hL
      have FT := Lib.hid (And.intro (fun z (hz : z ∈ SF) => (g1.F.foot z hz).2) (fun z (hz : z ∈ SS) => (g1.s.foot z hz).2))
      clear g1 g2 g3 g4 g5 kw I hE hKL hL
      go_wp2_with fail
      refine (PR.out W5 A0.out).mono ?_
      rintro r wA ⟨aa, ca, rfl, pA, kA⟩
      have PA := Lib.hid pA
      have KA := Lib.hid kA
      clear pA kA
      go_wp2_with fail
      refine (PR.out wA (A0.out.keeps KA.out (by simp) (by simp) (by simp))).mono ?_
      rintro r wB ⟨ab, cb, rfl, pB, kB⟩
      have PB := Lib.hid pB
      have KB := Lib.hid kB
      have KAB := Lib.hid (KA.out.trans kB)
      clear pB kB
      go_wp2_with fail
      refine (NM.out wB (A0.out.keeps KAB.out (by simp) (by simp) (by simp))).mono ?_
      rintro r wC ⟨lc, ac, cc, hlc, rfl, vC, kC⟩
      have VC := Lib.hid vC
      have KC := Lib.hid kC
      have KAC := Lib.hid (KAB.out.trans kC)
      have LC := Lib.hid hlc
      clear vC kC hlc
      go_wp2_with fail
      refine (NM.out wC (A0.out.keeps KAC.out (by simp) (by simp) (by simp))).mono ?_
      rintro r wD ⟨ld, ad, cd, hld, rfl, vD, kD⟩
      have VD := Lib.hid vD
      have KD := Lib.hid kD
      have KAD := Lib.hid (KAC.out.trans kD)
      have LD := Lib.hid hld
      clear vD kD hld
      go_wp2_with fail
      refine (SG.out wD (A0.out.keeps KAD.out (by simp) (by simp) (by simp))).mono ?_
      rintro r wG ⟨ag, cg, age, ceg, rfl, vG, eG, kG⟩
      have VG := Lib.hid vG
      have EG := Lib.hid eG
      have KG := Lib.hid kG
      have KAG := Lib.hid (KAD.out.trans kG)
      clear vG eG kG
      go_upto_region 19 with (fail)
      refine wp_gen (fun V => V.heap[wG.heap.size]? = some (sightO T (.slice ag cn cg) (.slice age el ceg)) ∧ Keeps [] wG V) ⟨has_new _ _, (Keeps.refl [] wG).alloc _⟩ ?_
      rintro wg ⟨bg, kg⟩
      have BG := Lib.hid bg
      have Kg := Lib.hid kg
      have KAg := Lib.hid (KAG.out.trans kg)
      clear bg kg
      go_wp2_with fail
      refine (SG.out wg (A0.out.keeps KAg.out (by simp) (by simp) (by simp))).mono ?_
      rintro r wH ⟨ah, ch, ahe, che, rfl, vH, eH, kH⟩
      have VH := Lib.hid vH
      have EH := Lib.hid eH
      have KH := Lib.hid kH
      have KAH := Lib.hid (KAg.out.trans kH)
      clear vH eH kH
      go_upto_region 20 with (fail)
      refine wp_gen (fun V => V.heap[wH.heap.size]? = some (sightO T (.slice ah cn ch) (.slice ahe el che)) ∧ Keeps [] wH V) ⟨has_new _ _, (Keeps.refl [] wH).alloc _⟩ ?_
      rintro W6 ⟨bh, kh⟩
      have zA := KA.out.size
      have zB := KB.out.size
      have zC := KC.out.size
      have zD := KD.out.size
      have zG := KG.out.size
      have zg := Kg.out.size
      have zH := KH.out.size
      have zh := kh.size
      have lg := lt_of_block BG.out
      have kCD := KD.out
      have kDG := KG.out
      have kG6 : Keeps [] wg W6 := KH.out.trans kh
      have kD6 : Keeps [] wD W6 := (KG.out.trans Kg.out).trans kG6
      have kC6 : Keeps [] wC W6 := KD.out.trans kD6
      have kB6 : Keeps [] wB W6 := KC.out.trans kC6
      have kA6 : Keeps [] wA W6 := KB.out.trans kB6
      have A6 := Lib.hid (PairRow.keeps PA.out kA6 (by simp))
      have B6 := Lib.hid (PairRow.keeps PB.out kB6 (by simp))
      have C6 := Lib.hid (VC.out.keeps kC6 (by simp))
      have D6 := Lib.hid (VD.out.keeps kD6 (by simp))
      have E6 := Lib.hid (EG.out.keeps (Kg.out.trans kG6) (by simp))
      have G11 := Lib.hid (kG6.has BG.out (by simp))
      have H12 := Lib.hid bh
      have HV6 := Lib.hid (VH.out.keeps kh (by simp))
      have HE6 := Lib.hid (EH.out.keeps kh (by simp))
      have KR6 := Lib.hid (KAH.out.trans kh)
      have OFA := Lib.hid (show ∀ z, z ∈ blk aa → W5.heap.size ≤ z ∧ z < wA.heap.size from PA.out.blk_lt)
      have OFC := Lib.hid (show ∀ z, z ∈ blk ac → wB.heap.size ≤ z ∧ z < wC.heap.size from fun z hz => by have := VC.out.blk_lt z hz; have := LC.out; omega)
      have OFE := Lib.hid (show ∀ z, z ∈ blk age → wD.heap.size ≤ z ∧ z < wG.heap.size from EG.out.blk_lt)
      have OFB := Lib.hid (show ∀ z, z ∈ blk ab → wA.heap.size ≤ z ∧ z < wB.heap.size from PB.out.blk_lt)
      have OFD := Lib.hid (show ∀ z, z ∈ blk ad → wC.heap.size ≤ z ∧ z < wD.heap.size from fun z hz => by have := VD.out.blk_lt z hz; have := LD.out; omega)
      have OFH := Lib.hid (show (∀ z, z ∈ blk ah → wg.heap.size ≤ z) ∧ (∀ z, z ∈ blk ahe → wg.heap.size ≤ z) from ⟨fun z hz => (VH.out.blk_lt z hz).1, fun z hz => (EH.out.blk_lt z hz).1⟩)
      have ZZ := Lib.hid (show W5.heap.size ≤ wA.heap.size ∧ wA.heap.size ≤ wB.heap.size ∧ wB.heap.size ≤ wC.heap.size ∧ wC.heap.size ≤ wD.heap.size ∧ wD.heap.size ≤ wG.heap.size ∧ wG.heap.size < wg.heap.size ∧ wg.heap.size ≤ wH.heap.size from ⟨zA, zB, zC, zD, zG, lg, zH⟩)
      obtain ⟨g11, hg11⟩ := ex_hid wG.heap.size
      obtain ⟨h12, hh12⟩ := ex_hid wH.heap.size
      rw [← hg11.out] at G11 ⊢
      rw [← hh12.out] at H12 ⊢
      clear zA zB zC zD zG zg zH zh lg kCD kDG kG6 kD6 kC6 kB6 kA6 bh kh PA PB VC VD VG EG VH EH BG KA KB KC KD KG Kg KH KAB KAC KAD KAG KAg KAH
      go_wp2_with fail
      go_loopw [13] (fun z13 wx => ∃ (j : Nat) (P' : List Pr10), j ≤ n ∧ z13 = .int .i64 j ∧ Hid (P'.length = n ∧ PairRow W5.heap.size aa ca P' wx ∧ Keeps (blk aa) W6 wx)) (fun z13 _ => n - (intOf z13).toNat)
      case atStart => exact ⟨0, P, Nat.zero_le _, rfl, Lib.hid ⟨hn.out.symm, A6.out, Keeps.refl _ _⟩⟩
      case round =>
        obtain ⟨j, P', hj, rfl, J⟩ := hrel
        clear A6
        by_cases hlt2 : j < n
        · have j1 : (j : Int) < (n : Int) := by omega
          have j0 : (0 : Int) ≤ (j : Int) := by omega
          obtain ⟨ga, rfl⟩ := PairRow.shape J.out.2.1 (by rw [J.out.1]; omega)
          have hth : wr.there ga (j * 2) 2 := fun i hi => ⟨J.out.2.1.some_cells (by rw [J.out.1]; exact hlt2) i hi, PairRow.free J.out.2.1 _⟩
          have lay := J.out.2.1.lay (n := j) (by rw [J.out.1]; exact hlt2) (qS, (j : Int))
          obtain ⟨wy2, hwy⟩ : ∃ x, wr.setCells ga (j * 2) (Pr10.cs (qS, (j : Int))) = x := ⟨_, rfl⟩
          rw [hwy] at lay
          have LAY := Lib.hid lay
          have WY := Lib.hid hwy
          clear lay hwy
          go_upto_region 23 with (fail)
          go_upto_region 22 with (refine wpList_store_mid (op := ⟨none, .store 56 (.tmp 81) (.tmp 80), _, _, _, _⟩) rfl 56 (.tmp 81) (.tmp 80) rfl ga (j * 2) (Pr10.cs (qS, (j : Int))).toArray ?hx ?hy hth (by kernel_rfl) (all_oneCell_toArray (cs := Pr10.cs (qS, (j : Int))) (pr10_one _)) ?_)
          case hy => rfl
          case hx => go_simp
          rw [WY.out]
          have J2 := Lib.hid (And.intro J.out.1 J.out.2.2)
          clear J hth
          go_wp2_with fail
          go_roundw
          case rel => exact ⟨j + 1, _, by omega, by go_num, Lib.hid ⟨by rw [List.length_set]; exact J2.out.1, LAY.out.1, J2.out.2.trans (LAY.out.2.mono (by simp [blk]))⟩⟩
          case measure => simp [intOf]; omega
        · obtain rfl : j = n := by omega
          have hge2 : ¬ (j : Int) < (j : Int) := by omega
          obtain ⟨W7, hW7⟩ : ∃ x, x = wr := ⟨_, rfl⟩
          subst hW7
          have OFA2 := OFA.out
          have OFC2 := OFC.out
          have ZZ2 := ZZ.out
          have C7 := Lib.hid (C6.out.keeps J.out.2.2 (fun z hz hy => by have := OFC2 z hz; have := OFA2 z hy; omega))
          clear OFA2 OFC2 ZZ2
          go_wp2_with fail
          go_loopw [14] (fun z14 wx => ∃ (i2 : Nat) (V2 : Nat → Value), i2 ≤ q ∧ z14 = .int .i64 i2 ∧ Hid (ValRow 9 lc ac q cc V2 wx ∧ Keeps (blk ac) W7 wx)) (fun z14 _ => q - (intOf z14).toNat)
          case atStart => exact ⟨0, _, Nat.zero_le _, rfl, Lib.hid ⟨C7.out, Keeps.refl _ _⟩⟩
          case round =>
            obtain ⟨i2, V2, hi2, rfl, Q⟩ := hrel
            clear C7
            by_cases hlt3 : i2 < q
            · have k1 : (i2 : Int) < (q : Int) := by omega
              have k0 : (0 : Int) ≤ (i2 : Int) := by omega
              obtain ⟨gc, rfl⟩ := Q.out.1.shape (by omega)
              have x0 : wr.cell? ⟨gc, i2, none⟩ = some (V2 i2) := Q.out.1.cell hlt3
              have xf := Q.out.1.free i2
              go_wp2_with fail
              go_roundw
              case rel => exact ⟨i2 + 1, _, by omega, by go_num, Lib.hid ⟨Q.out.1.put i2 (.string qS), Q.out.2.trans ((Keeps.refl _ _).setCell (.inr (by simp [blk])) _)⟩⟩
              case measure => simp [intOf]; omega
            · obtain rfl : i2 = q := by omega
              have hge3 : ¬ (i2 : Int) < (i2 : Int) := by omega
              obtain ⟨W8, hW8⟩ : ∃ x, x = wr := ⟨_, rfl⟩
              subst hW8
              have OFA2 := OFA.out
              have OFC2 := OFC.out
              have OFE2 := OFE.out
              have ZZ2 := ZZ.out
              have K68 : Keeps (blk aa ++ blk ac) W6 W8 := (J.out.2.2.mono (fun z hz => by simp [hz])).trans (Q.out.2.mono (fun z hz => by simp [hz]))
              have E8 := Lib.hid (E6.out.keeps K68 (fun z hz hy => by
                have := OFE2 z hz
                rcases List.mem_append.1 hy with h | h
                · have := OFA2 z h; omega
                · have := OFC2 z h; omega))
              have A8 := Lib.hid (PairRow.keeps J.out.2.1 Q.out.2 (fun z hz hy => by have := OFA2 z hz; have := OFC2 z hy; omega))
              have G8 := Lib.hid (K68.has G11.out (fun hy => by
                have h0 := hg11.out
                rcases List.mem_append.1 hy with h | h
                · have := OFA2 _ h; omega
                · have := OFC2 _ h; omega))
              have K8 := Lib.hid K68
              have PL := Lib.hid J.out.1
              have C8 := Lib.hid Q.out.1
              have gne := Lib.hid (show g11 ∉ blk age from fun h => by have := OFE2 _ h; have h0 := hg11.out; omega)
              clear OFA2 OFC2 OFE2 ZZ2 K68 J Q
              go_wp2_with fail
              go_loopw [15] (fun z15 wx => ∃ (j3 : Nat) (E' : List Ent), j3 ≤ el ∧ z15 = .int .i64 j3 ∧ Hid (E'.length = el ∧ EntRow wD.heap.size age ceg E' wx ∧ Keeps (blk age) W8 wx)) (fun z15 _ => el - (intOf z15).toNat)
              case atStart => exact ⟨0, T.E, Nat.zero_le _, rfl, Lib.hid ⟨hel.out.symm, E8.out, Keeps.refl _ _⟩⟩
              case round =>
                obtain ⟨j3, E', hj3, rfl, Y⟩ := hrel
                clear E8
                have x3 : wr.cell? ⟨g11, 3, none⟩ = some (.slice age el ceg) := cell_has (Y.out.2.2.has G8.out gne.out) (i := 3) rfl
                by_cases hlt4 : j3 < el
                · have k1 : (j3 : Int) < (el : Int) := by omega
                  have k0 : (0 : Int) ≤ (j3 : Int) := by omega
                  obtain ⟨ge, rfl⟩ := Y.out.2.1.shape (by rw [Y.out.1]; omega)
                  have hth : wr.there ge (j3 * 5) 5 := fun i hi => ⟨Y.out.2.1.some_cells (by rw [Y.out.1]; exact hlt4) i hi, Y.out.2.1.free _⟩
                  have lay := Y.out.2.1.lay (n := j3) (by rw [Y.out.1]; exact hlt4) ⟨false, 0, 99, 0, 0⟩
                  obtain ⟨wy2, hwy⟩ : ∃ x, wr.setCells ge (j3 * 5) (Ent.cells ⟨false, 0, 99, 0, 0⟩) = x := ⟨_, rfl⟩
                  rw [hwy] at lay
                  have LAY := Lib.hid lay
                  have WY := Lib.hid hwy
                  clear lay hwy
                  go_upto_region 31 with (fail)
                  go_upto_region 30 with (refine wpList_store_mid (op := ⟨none, .store 58 (.tmp 102) (.tmp 101), _, _, _, _⟩) rfl 58 (.tmp 102) (.tmp 101) rfl ge (j3 * 5) (Ent.cells ⟨false, 0, 99, 0, 0⟩).toArray ?hx ?hy hth (by kernel_rfl) (all_oneCell_toArray (cs := Ent.cells ⟨false, 0, 99, 0, 0⟩) (Ent.one _)) ?_)
                  case hy => rfl
                  case hx => go_simp
                  rw [WY.out]
                  have J2 := Lib.hid (And.intro Y.out.1 Y.out.2.2)
                  clear Y hth x3
                  go_wp2_with fail
                  go_roundw
                  case rel => exact ⟨j3 + 1, _, by omega, by go_num, Lib.hid ⟨by rw [List.length_set]; exact J2.out.1, LAY.out.1, J2.out.2.trans (LAY.out.2.mono (by simp [blk]))⟩⟩
                  case measure => simp [intOf]; omega
                · obtain rfl : j3 = el := by omega
                  have hge4 : ¬ (j3 : Int) < (j3 : Int) := by omega
                  obtain ⟨W9, hW9⟩ : ∃ x, x = wr := ⟨_, rfl⟩
                  subst hW9
                  go_upto_region 32 with (fail)
                  clear x3
                  have OFA2 := OFA.out
                  have OFC2 := OFC.out
                  have OFE2 := OFE.out
                  have ZZ2 := ZZ.out
                  have A9 : PairRow W5.heap.size aa ca P' W9 := PairRow.keeps A8.out Y.out.2.2 (fun z hz hy => by have := OFA2 z hz; have := OFE2 z hy; omega)
                  have C9 : ValRow 9 lc ac i2 cc V2 W9 := C8.out.keeps Y.out.2.2 (fun z hz hy => by have := OFC2 z hz; have := OFE2 z hy; omega)
                  have zz9 := Y.out.2.2.size
                  have zz8 := K8.out.size
                  have zk := KR6.out.size
                  have lcl := LC.out
                  have pl := PL.out
                  have zh6 := lt_of_block H12.out
                  have hh0 := hh12.out
                  obtain ⟨a7, c7, w7, run7, r7, k7, b7⟩ := pair_append_src W5.heap.size ca 2 aa P' [(.empty, 0), (.empty, 0)] (some ⟨W9.heap.size, 0, none⟩) (W9.alloc (.cells #[.string .empty, .int .i64 0, .string .empty, .int .i64 0] 56)) (PairRow.keeps A9 ((Keeps.refl [] W9).alloc _) (by simp)) (.inr ⟨_, rfl, two_pairs10 _ _ (has_new _ _)⟩) (by rw [pl]; simp; omega) (by simp; omega)
                  rw [pl] at run7
                  simp only [List.length_cons, List.length_nil, Nat.zero_add, Nat.reduceAdd] at run7
                  have k97 : Keeps (blk aa) W9 w7 := ((Keeps.refl (blk aa) W9).alloc _).trans k7
                  have C10 : ValRow 9 lc ac i2 cc V2 w7 := C9.keeps k97 (fun z hz hy => by have := OFC2 z hz; have := OFA2 z hy; omega)
                  have zz7 := k97.size
                  obtain ⟨gs, cs, W11, run8, k8⟩ := str_app2 wB.heap.size ac cc i2 V2 ⟨#[33]⟩ ⟨#[33]⟩ (w7.alloc (.cells #[.string ⟨#[33]⟩, .string ⟨#[33]⟩] 9)) w7.heap.size ((C10.mono lcl).keeps ((Keeps.refl [] w7).alloc _) (by simp)) (has_new _ _) (by omega) (by simp; omega)
                  obtain ⟨j2, hj2⟩ := ex_hid (j + 2)
                  obtain ⟨q2, hq2⟩ := ex_hid (i2 + 2)
                  rw [← hj2.out] at run7
                  rw [← hq2.out] at run8
                  have RUN7 := Lib.hid run7
                  have RUN8 := Lib.hid run8
                  have kac : Keeps (blk ac) w7 W11 := ((Keeps.refl (blk ac) w7).alloc _).trans k8
                  have KALL : Hid (Keeps (blk aa ++ blk ac ++ blk age) W6 W11) := Lib.hid ((((K8.out.mono (fun z hz => by simp only [List.mem_append] at hz ⊢; rcases hz with h | h <;> simp [h])).trans (Y.out.2.2.mono (fun z hz => by simp [hz]))).trans (k97.mono (fun z hz => by simp [hz]))).trans (kac.mono (fun z hz => by simp [hz])))
                  have rng : ∀ z, z ∈ blk aa ++ blk ac ++ blk age → W5.heap.size ≤ z ∧ z < wG.heap.size ∧ (z < wA.heap.size ∨ wB.heap.size ≤ z) ∧ (z < wC.heap.size ∨ wD.heap.size ≤ z) := fun z hz => by
                    simp only [List.mem_append] at hz
                    rcases hz with (h | h) | h
                    · have := OFA2 z h; omega
                    · have := OFC2 z h; omega
                    · have := OFE2 z h; omega
                  have OFB2 := OFB.out
                  have OFD2 := OFD.out
                  have OFH2 := OFH.out
                  have B11 := Lib.hid (PairRow.keeps B6.out KALL.out (fun z hz hy => by have := OFB2 z hz; have := rng z hy; omega))
                  have D11 := Lib.hid (D6.out.keeps KALL.out (fun z hz hy => by have := OFD2 z hz; have := rng z hy; omega))
                  have H11 := Lib.hid (KALL.out.has H12.out (fun hy => by have := rng _ hy; omega))
                  have HV11 := Lib.hid (HV6.out.keeps KALL.out (fun z hz hy => by have := OFH2.1 z hz; have := rng z hy; omega))
                  have HE11 := Lib.hid (HE6.out.keeps KALL.out (fun z hz hy => by have := OFH2.2 z hz; have := rng z hy; omega))
                  have ft := FT.out
                  have A11 := Lib.hid ((A0.out.keeps KR6.out (by simp) (by simp) (by simp)).keeps KALL.out (fun z hz hy => by have := ft.1 z hz; have := rng z hy; omega) (fun z hz hy => by have := ft.2 z hz; have := rng z hy; omega) (by simp))
                  have KF := Lib.hid (show Keeps [] w W11 from (Below.keeps KW.out []).trans (KR6.out.then (S := []) KALL.out (fun z hz => .inl (rng z hz).1)))
                  obtain ⟨wj, wj2, wj3⟩ := two_up10 hj2.out hPn
                  obtain ⟨wq, wq2, wq3⟩ := two_up10 hq2.out (Nat.le_trans hqn (by decide))
                  have y0 : W11.cell? ⟨h12, 0, none⟩ = some (.int .i64 T.L) := cell_has H11.out (i := 0) rfl
                  have y1 : W11.cell? ⟨h12, 1, none⟩ = some (.int .i64 (wdOf T.L)) := cell_has H11.out (i := 1) rfl
                  have y2 : W11.cell? ⟨h12, 2, none⟩ = some (.slice ah cn ch) := cell_has H11.out (i := 2) rfl
                  have y3 : W11.cell? ⟨h12, 3, none⟩ = some (.slice ahe j3 che) := cell_has H11.out (i := 3) rfl
                  have y4 : W11.cell? ⟨h12, 4, none⟩ = some (.int .i64 (liveN T.E : Nat)) := cell_has H11.out (i := 4) rfl
                  have y5 : W11.cell? ⟨h12, 5, none⟩ = some (.int .i64 T.births) := cell_has H11.out (i := 5) rfl
                  have y6 : W11.cell? ⟨h12, 6, none⟩ = some (.int .i64 T.made) := cell_has H11.out (i := 6) rfl
                  have QD := Lib.hid ((Keeps.refl [] W11).drew)
                  clear zh6 A9 C9 zz9 zz8 zk lcl pl run7 r7 k7 b7 k97 C10 zz7 run8 k8 kac rng OFA2 OFC2 OFE2 ZZ2 OFB2 OFD2 OFH2 hh0 ft Y
                  go_upto_region 33 with (at_builtin; refine wpList_append_run rfl _ _ 49 rfl _ _ rfl rfl _ _ RUN7.out ?_)
                  go_upto_region 34 with (at_builtin; refine wpList_append_run rfl _ _ 22 rfl _ _ rfl rfl _ _ RUN8.out ?_)
                  go_region_held3 (fun w' => w'.cell? ⟨h12, 0, none⟩ = some (.int .i64 T.L) ∧ w'.cell? ⟨h12, 1, none⟩ = some (.int .i64 (wdOf T.L)) ∧ w'.cell? ⟨h12, 2, none⟩ = some (.slice ah cn ch) ∧ w'.cell? ⟨h12, 3, none⟩ = some (.slice ahe j3 che) ∧ w'.cell? ⟨h12, 4, none⟩ = some (.int .i64 (liveN T.E : Nat)) ∧ w'.cell? ⟨h12, 5, none⟩ = some (.int .i64 T.births) ∧ w'.cell? ⟨h12, 6, none⟩ = some (.int .i64 T.made)) (go_keep)
                    (first
                    | (go_at_call 17; refine (PR.out _ (A11.out.keeps QD.out (by simp) (by simp) (by simp))).mono ?_; rintro r v1 ⟨a1, c1, rfl, p1, q1⟩; have Q1 := Lib.hid (QD.out.trans q1); have z1_0 := Q1.out.cell y0 (by simp); have z1_1 := Q1.out.cell y1 (by simp); have z1_2 := Q1.out.cell y2 (by simp); have z1_3 := Q1.out.cell y3 (by simp); have z1_4 := Q1.out.cell y4 (by simp); have z1_5 := Q1.out.cell y5 (by simp); have z1_6 := Q1.out.cell y6 (by simp); have P1 := Lib.hid p1; clear q1)
                    | (go_at_call 19; refine (PCMP.out _ _ ab a1 cb c1 v1 (PairRow.keeps B11.out Q1.out (by simp)) P1.out).mono ?_; rintro r v2 ⟨rfl, q2⟩; have Q2 := Lib.hid (Q1.out.trans q2); have z2_0 := Q2.out.cell y0 (by simp); have z2_1 := Q2.out.cell y1 (by simp); have z2_2 := Q2.out.cell y2 (by simp); have z2_3 := Q2.out.cell y3 (by simp); have z2_4 := Q2.out.cell y4 (by simp); have z2_5 := Q2.out.cell y5 (by simp); have z2_6 := Q2.out.cell y6 (by simp); clear q2)
                    | (go_at_call 15; refine (NM.out _ (A11.out.keeps Q2.out (by simp) (by simp) (by simp))).mono ?_; rintro r v3 ⟨l3, a3, c3, _, rfl, p3, q3⟩; have Q3 := Lib.hid (Q2.out.trans q3); have z3_0 := Q3.out.cell y0 (by simp); have z3_1 := Q3.out.cell y1 (by simp); have z3_2 := Q3.out.cell y2 (by simp); have z3_3 := Q3.out.cell y3 (by simp); have z3_4 := Q3.out.cell y4 (by simp); have z3_5 := Q3.out.cell y5 (by simp); have z3_6 := Q3.out.cell y6 (by simp); have P3 := Lib.hid p3; clear q3)
                    | (go_at_call 14; refine (NCMP.out _ _ ad a3 cd c3 v3 (D11.out.keeps Q3.out (by simp)) P3.out).mono ?_; rintro r v4 ⟨rfl, q4⟩; have Q4 := Lib.hid (Q3.out.trans q4); have z4_0 := Q4.out.cell y0 (by simp); have z4_1 := Q4.out.cell y1 (by simp); have z4_2 := Q4.out.cell y2 (by simp); have z4_3 := Q4.out.cell y3 (by simp); have z4_4 := Q4.out.cell y4 (by simp); have z4_5 := Q4.out.cell y5 (by simp); have z4_6 := Q4.out.cell y6 (by simp); clear q4)
                    | (go_at_call 18; refine (SG.out _ (A11.out.keeps Q4.out (by simp) (by simp) (by simp))).mono ?_; rintro r v5 ⟨a5, c5, e5, d5, rfl, p5, s5, q5⟩; have Q5 := Lib.hid (Q4.out.trans q5); have z5_0 := Q5.out.cell y0 (by simp); have z5_1 := Q5.out.cell y1 (by simp); have z5_2 := Q5.out.cell y2 (by simp); have z5_3 := Q5.out.cell y3 (by simp); have z5_4 := Q5.out.cell y4 (by simp); have z5_5 := Q5.out.cell y5 (by simp); have z5_6 := Q5.out.cell y6 (by simp); have P5 := Lib.hid p5; have S5 := Lib.hid s5; clear q5)
                    | (go_at_call 20; refine (SCMP.out _ _ _ _ ch c5 che d5 ah a5 ahe e5 v5 (HV11.out.keeps Q5.out (by simp)) P5.out (HE11.out.keeps Q5.out (by simp)) S5.out).mono ?_; rintro r v6 ⟨rfl, q6⟩; have Q6 := Lib.hid (Q5.out.trans q6); have z6_0 := Q6.out.cell y0 (by simp); have z6_1 := Q6.out.cell y1 (by simp); have z6_2 := Q6.out.cell y2 (by simp); have z6_3 := Q6.out.cell y3 (by simp); have z6_4 := Q6.out.cell y4 (by simp); have z6_5 := Q6.out.cell y5 (by simp); have z6_6 := Q6.out.cell y6 (by simp); clear q6)
                    | (go_at_call 7; refine (awake10 _).mono ?_; rintro r v7 ⟨rfl, q7⟩; have Q7 := Lib.hid (Q6.out.trans q7); have z7_0 := Q7.out.cell y0 (by simp); have z7_1 := Q7.out.cell y1 (by simp); have z7_2 := Q7.out.cell y2 (by simp); have z7_3 := Q7.out.cell y3 (by simp); have z7_4 := Q7.out.cell y4 (by simp); have z7_5 := Q7.out.cell y5 (by simp); have z7_6 := Q7.out.cell y6 (by simp); clear q7))
                  have Q9 := Lib.hid (KF.out.trans Q7.out)
                  clear y0 y1 y2 y3 y4 y5 y6
                  go_wp2_with fail
                  go_ret
                  exact ⟨rfl, Q9.out.below (Nat.le_refl _) (by simp)⟩
end Go.Proofs.Ytajmfenfajbakaa
