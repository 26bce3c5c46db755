/- The document's namespace in memory; where a name is found (chapter 10). -/
import Derived.Test.YtajmfenfajbakaaGreatRsA
import Derived.Test.YtajmfenfajbakaaGreatShOf
namespace Go.Proofs.YtajmfenfajbakaaGreat
open Go.RowKit
set_option linter.unusedVariables false
set_option linter.unusedSimpArgs false

/-- A namespace in memory, without its own block. -/
def RSpAt (fb sb lo : Nat) (S : List Nat) (m : Option Nat) (wy : Way10) (ver : Nat) (W : World) : Prop :=
  match wy with
  | .row vs => ∃ ar cr, S = blk ar ∧ W.heap[sb]? = some (rspO fb (.slice ar vs.length cr) (.pointer none) (ver : Nat)) ∧ ValRow 3 lo ar vs.length cr (intL vs) W
  | .own T => ∃ t2 lo2, W.heap[sb]? = some (rspO fb (.slice none 0 0) (.pointer (some ⟨t2, 0, none⟩)) (ver : Nat)) ∧ RTabAt t2 lo2 S m T W ∧ lo ≤ lo2
section
variable {fb sb lo : Nat} {S R : List Nat} {m : Option Nat} {wy : Way10} {ver : Nat} {W W' : World}
theorem RSpAt.keeps (h : RSpAt fb sb lo S m wy ver W) (k : Keeps R W W') (h0 : sb ∉ R) (hd : ∀ z, z ∈ S → z ∉ R) : RSpAt fb sb lo S m wy ver W' := by
  cases wy with
  | row vs =>
    obtain ⟨ar, cr, rfl, h1, h2⟩ := h
    exact ⟨ar, cr, rfl, k.has h1 h0, h2.keeps k hd⟩
  | own T =>
    obtain ⟨t2, lo2, h1, h2, h3⟩ := h
    exact ⟨t2, lo2, k.has h1 h0, h2.keeps k hd, h3⟩
theorem RSpAt.foot (h : RSpAt fb sb lo S m wy ver W) : sb < W.heap.size ∧ ∀ z, z ∈ S → lo ≤ z ∧ z < W.heap.size := by
  cases wy with
  | row vs =>
    obtain ⟨ar, cr, rfl, h1, h2⟩ := h
    exact ⟨lt_of_block h1, h2.blk_lt⟩
  | own T =>
    obtain ⟨t2, lo2, h1, h2, h3⟩ := h
    exact ⟨lt_of_block h1, fun z hz => by have := h2.foot z hz; omega⟩
end
/-- All that a call on one of the document's namespaces is about. -/
structure RAt10 (fb sb t lo : Nat) (a : Option Addr) (ST S : List Nat) (m : Option Nat) (f : Fam) (wy : Way10) (ver : Nat) (c : C4) (W : World) : Prop where
  F : RFamAt fb t lo a ST m f W
  s : RSpAt fb sb lo S m wy ver W
  M : CtrAt m c W
  d1 : ∀ z, z ∈ rfamS fb a ST → z ∉ sb :: S
  d2 : sb ∉ S
  ls : lo ≤ sb
  hm : ∀ b, m = some b → b < lo
section
variable {fb sb t lo : Nat} {a : Option Addr} {ST S : List Nat} {m : Option Nat} {f : Fam} {wy : Way10} {ver : Nat} {c : C4} {W W' : World}
theorem RAt10.offm (h : RAt10 fb sb t lo a ST S m f wy ver c W) : ∀ z, lo ≤ z → z ∉ mS m := fun z hz hy => by
  cases hq : m with
  | none => rw [hq] at hy; simp [mS] at hy
  | some b => rw [hq] at hy; simp [mS] at hy; have := h.hm b hq; omega
theorem RAt10.met (h : RAt10 fb sb t lo a ST S m f wy ver c W) {c' : C4} (k : Keeps (mS m) W W') (hM : CtrAt m c' W') : RAt10 fb sb t lo a ST S m f wy ver c' W' :=
  ⟨h.F.keeps k (fun z hz => h.offm z (h.F.foot z hz).1), h.s.keeps k (h.offm _ h.ls) (fun z hz => h.offm z (h.s.foot.2 z hz).1), hM, h.d1, h.d2, h.ls, h.hm⟩
theorem RAt10.quiet (h : RAt10 fb sb t lo a ST S m f wy ver c W) (k : Keeps [] W W') : RAt10 fb sb t lo a ST S m f wy ver c W' := h.met (k.mono (by simp)) (h.M.keeps k (by simp))
end
/-- The table in which a name is sought. -/
def tabW (f : Fam) : Way10 → Tab
  | .row _ => f.K
  | .own T => T
theorem Good10.tab {k j : Nat} {f : Fam} {ks : List ByteArray} {wy : Way10} (G : Good10 k j f ks wy) : ∃ q, q ≤ 900 ∧ TInv q (tabW f wy) ∧ ∀ (e : Int) (x : Ent), (tabW f wy).ent e = some x → ∃ n, n < f.N.length ∧ x.key = (n : Int) := by
  cases wy with
  | row vs =>
    refine ⟨k, G.k9, G.fk.t, fun e x hx => ?_⟩
    obtain ⟨_, h1, _⟩ := ent_some hx
    obtain ⟨n, h2, h3, _⟩ := G.fk.ky _ _ h1
    exact ⟨n, h2, h3⟩
  | own T =>
    have hw : OwnOk j f.N T := G.w
    refine ⟨j, G.j9, hw.t, fun e x hx => ?_⟩
    obtain ⟨_, h1, h2⟩ := ent_some hx
    obtain ⟨n, s, h3, h4, _⟩ := hw.e x (mem_liveL.2 ⟨List.mem_of_getElem? h1, h2⟩)
    exact ⟨n, (List.getElem?_eq_some_iff.1 h3).1, h4⟩
set_option maxRecDepth 100000 in
set_option maxHeartbeats 4000000 in
theorem rfind_row (q0 : Nat) (hq0 : q0 ≤ 1000) (fb sb t lo : Nat) (a : Option Addr) (ST S : List Nat) (m : Option Nat) (f : Fam) (vs : List Int) (ver : Nat) (c : C4) (s : ByteArray) (w : World) (A : RAt10 fb sb t lo a ST S m f (.row vs) ver c w) (hI : TInv q0 f.K) (hK : ∀ (e : Int) (x : Ent), f.K.ent e = some x → ∃ n, n < f.N.length ∧ x.key = (n : Int)) (hn : f.N.Nodup) (hs : s.size ≤ 1000000) :
    Calls Tryz.prog 52 #[.pointer (some ⟨sb, 0, none⟩), .string s] w fun r w' => r = .returned (.int .i64 (rowFindI vs (seekR f.K (numI f.N s) (txtH s) c).1)) ∧ CtrAt m (seekR f.K (numI f.N s) (txtH s) c).2 w' ∧ Keeps (mS m) w w' := by
  obtain ⟨ar, cr, hS, b1, v1⟩ := A.s
  have HT0 := Lib.hid A.F.k
  obtain ⟨cN, f1, f2⟩ := A.F.b
  have HS0 := Lib.hid b1
  have HF0 := Lib.hid f1
  have HN0 := Lib.hid f2
  have HM0 := Lib.hid A.M
  have OFF := Lib.hid A.offm
  have HM1 := Lib.hid A.hm
  have LFB := Lib.hid A.F.l
  have LSB := Lib.hid A.ls
  have HSW := Lib.hid (show ∀ x, x ∈ ST → lo ≤ x ∧ x < w.heap.size from fun x hx => A.F.k.foot x hx)
  have HI := Lib.hid hI
  have HKK := Lib.hid hK
  have HNN := Lib.hid hn
  have TX := fun W => rtext_any s W hs
  obtain ⟨h, hh⟩ := ex_hid (txtH s)
  simp only [← hh.out] at TX ⊢
  obtain ⟨n, hnn⟩ := ex_hid (numI f.N s)
  rw [← hnn.out]
  obtain ⟨N, hN⟩ := ex_hid f.N
  rw [← hN.out] at HF0 HN0
  obtain ⟨nN, hnN⟩ := ex_hid N.length
  rw [← hnN.out] at HF0
  obtain ⟨R, hR⟩ := ex_hid (seekR f.K n h c)
  have HRR := Lib.hid (show seekG f.K n (f.K.E.length + 1) (f.K.seek h) c = R from hR.out.symm)
  rw [← hR.out]
  have s0 : w.cell? ⟨sb, 0, none⟩ = some (.pointer (some ⟨fb, 0, none⟩)) := cell_has HS0.out (i := 0) rfl
  obtain ⟨nv, hnv⟩ := ex_hid vs.length
  rw [← hnv.out] at HS0
  have s1 : w.cell? ⟨sb, 1, none⟩ = some (.slice ar nv cr) := cell_has HS0.out (i := 1) rfl
  have s2 : w.cell? ⟨sb, 2, none⟩ = some (.pointer none) := cell_has HS0.out (i := 2) rfl
  have f2c : w.cell? ⟨fb, 2, none⟩ = some (.pointer (some ⟨t, 0, none⟩)) := cell_has HF0.out (i := 2) rfl
  clear A b1 v1 f1 f2 hI hK hn hS
  go_enter Tryz.func52, Tryz.ntmps52
  go_wp2_with fail
  refine (TX w).mono ?_
  rintro r w1 ⟨rfl, rfl⟩
  clear TX
  go_wp2_with fail
  refine (rseek_any t lo ST m f.K w HT0.out (by have := HI.out.l12; omega) h).mono ?_
  rintro r w2 ⟨kb, rfl, s2k, l2k, k2⟩
  have K2 := Lib.hid k2
  have L2 := Lib.hid l2k
  have S0 := Lib.hid s2k
  clear s2k l2k k2 s0 s2 s1 f2c
  go_wp2_with fail
  go_loopg [] f.K.E.length (fun kx wr => ∃ (sk : Sk) (c' : C4) (jx : Nat), jx ≤ kx ∧ Hid (RSkAt kb t sk wr ∧ CtrAt m c' wr ∧ Keeps (kb :: mS m) w2 wr ∧ SkOk f.K sk ∧ seekG f.K n (jx + 1) sk c' = R ∧ (f.K.E.length : Int) ≤ sk.told + 1 + jx))
  case atStart => exact ⟨f.K.seek h, c, f.K.E.length, Nat.le_refl _, Lib.hid ⟨S0.out, HM0.out.keeps K2.out (by simp), Keeps.refl _ _, SkOk.seek HI.out h, HRR.out, by show (f.K.E.length : Int) ≤ -1 + 1 + _; omega⟩⟩
  case round =>
    obtain ⟨sk, c', jx, hjx, I⟩ := hrel
    have TW := Lib.hid ((HT0.out.keeps K2.out (by simp)).keeps I.out.2.2.1 (fun x hx hy => by
      rcases List.mem_cons.1 hy with e | e
      · subst e; have := (HSW.out _ hx).2; have := L2.out; omega
      · exact OFF.out x (HSW.out x hx).1 e))
    go_wp2_with fail
    refine (rnexts_any q0 hq0 kb t lo ST m c' f.K sk wr TW.out I.out.2.1 HM1.out HI.out I.out.1 (fun hx => by have := (HSW.out _ hx).2; have := L2.out; omega) I.out.2.2.2.1).mono ?_
    rintro r w3 ⟨rfl, s3, m3, k3⟩
    have S3 := Lib.hid s3
    have M3 := Lib.hid m3
    have K3 := Lib.hid (I.out.2.2.1.trans k3)
    have T3 := Lib.hid (TW.out.keeps k3 (fun x hx hy => by
      rcases List.mem_cons.1 hy with e | e
      · subst e; have := (HSW.out _ hx).2; have := L2.out; omega
      · exact OFF.out x (HSW.out x hx).1 e))
    have SG := Lib.hid (show (if (f.K.next sk).over = true then (-1, c'.visN (f.K.walks sk)) else if (atE (entE f.K.E (f.K.next sk).told)).key = n then ((f.K.next sk).told, c'.visN (f.K.walks sk)) else seekG f.K n jx (f.K.next sk) (c'.visN (f.K.walks sk))) = R from I.out.2.2.2.2.1)
    have OK3 := Lib.hid (SkOk.next HI.out I.out.2.2.2.1)
    clear s3 m3 k3
    cases ho : (f.K.next sk).over
    · have TL := Lib.hid (told_live HI.out I.out.2.2.2.1 ho)
      have SG1 := SG.out
      rw [ho] at SG1
      simp only [Bool.false_eq_true, if_false] at SG1
      have es : (f.K.next sk).says = (f.K.next sk).told := by unfold Sk.says; rw [ho]; rfl
      rw [es]
      obtain ⟨x, e1, e2, e3⟩ := TL.out
      obtain ⟨e4, e5, e6⟩ := ent_some e1
      obtain ⟨g, hg⟩ : ∃ g : Nat, (f.K.next sk).told = (g : Int) := ⟨_, (Int.toNat_of_nonneg e4).symm⟩
      obtain ⟨kn, k1, k2⟩ := HKK.out _ _ e1
      rw [hg] at e1 e5 e3 SG1 ⊢
      simp only [Int.toNat_natCast] at e5
      have hge := (List.getElem?_eq_some_iff.1 e5).1
      rw [entE_at e5 e6, k2] at SG1
      have LT := Lib.hid e3
      have HG := Lib.hid hg
      have SGX := Lib.hid SG1
      have HKN := Lib.hid k1
      obtain ⟨ta, tc, tcb, g1, g2, _⟩ := T3.out
      obtain ⟨ga, rfl⟩ := g2.shape (by omega)
      have y0 : w3.cell? ⟨t, 0, none⟩ = some (.slice (some ⟨ga, 0, none⟩) f.K.E.length tc) := cell_has g1 (i := 0) rfl
      have y2 : w3.cell? ⟨ga, g * 5 + 2, none⟩ = some (.int .i64 (kn : Nat)) := by rw [← k2]; exact (g2.five e5).2.2.1
      obtain ⟨nE, hnE⟩ := ex_hid f.K.E.length
      rw [← hnE.out] at y0 hge
      have gE : (g : Int) < (nE : Int) := by omega
      have g0 : (0 : Int) ≤ (g : Int) := by omega
      have n0 : (0 : Int) ≤ (kn : Int) := by omega
      have nlt : (kn : Int) < (nN : Int) := by have := hnN.out; have := congrArg List.length hN.out; omega
      have KW := Lib.hid ((K2.out.mono (by simp)).trans K3.out)
      have off : ∀ z, lo ≤ z → z < w.heap.size → z ∉ kb :: mS m := fun z h1 h2 hy => by
        rcases List.mem_cons.1 hy with e | e
        · have := L2.out; omega
        · exact OFF.out z h1 e
      have BS := Lib.hid (KW.out.has HS0.out (off _ LSB.out (lt_of_block HS0.out)))
      have BF := Lib.hid (KW.out.has HF0.out (off _ LFB.out (lt_of_block HF0.out)))
      have x0 : w3.cell? ⟨sb, 0, none⟩ = some (.pointer (some ⟨fb, 0, none⟩)) := cell_has BS.out (i := 0) rfl
      have x2 : w3.cell? ⟨sb, 2, none⟩ = some (.pointer none) := cell_has BS.out (i := 2) rfl
      have x1 : w3.cell? ⟨sb, 1, none⟩ = some (.slice ar nv cr) := cell_has BS.out (i := 1) rfl
      have x3 : w3.cell? ⟨fb, 3, none⟩ = some (.slice a nN cN) := cell_has BF.out (i := 3) rfl
      have NR := HN0.out.keeps KW.out (fun z hz => off z (HN0.out.blk_lt z hz).1 (HN0.out.blk_lt z hz).2)
      obtain ⟨gn, rfl⟩ := NR.shape (by have := hnN.out; omega)
      have z3 : w3.cell? ⟨gn, kn, none⟩ = some (.string (N.getD kn .empty)) := NR.cell (by have := hnN.out; omega)
      obtain ⟨y, hy⟩ := ex_hid (N.getD kn .empty)
      rw [← hy.out] at z3
      have NAT := Lib.hid (show f.N[kn]? = some y from by rw [hy.out, hN.out]; exact getD_at10 k1)
      clear e1 e2 e3 e4 e5 e6 k1 k2 hg g1 g2 es ho SG1 off NR hge
      go_upto_region 8 with (fail)
      by_cases he : y = s
      · have hb : (y.toList == s.toList) = true := by rw [bytes_list10]; simp [he]
        have HE := Lib.hid (show (kn : Int) = n from by rw [hnn.out]; exact (numI_at HNN.out (by rw [NAT.out, he])).symm)
        clear he
        go_region_held3 (fun w' => w'.cell? ⟨sb, 0, none⟩ = some (.pointer (some ⟨fb, 0, none⟩)) ∧ w'.cell? ⟨fb, 3, none⟩ = some (.slice (some ⟨gn, 0, none⟩) nN cN) ∧ w'.cell? ⟨t, 0, none⟩ = some (.slice (some ⟨ga, 0, none⟩) nE tc) ∧ w'.cell? ⟨ga, g * 5 + 2, none⟩ = some (.int .i64 (kn : Nat)) ∧ w'.cell? ⟨gn, kn, none⟩ = some (.string y)) (go_keep) (fail)
        have R9 := SGX.out
        rw [if_pos HE.out] at R9
        have R10 := Lib.hid R9
        clear R9
        by_cases hlt : g < nv
        · have gl : ¬ ((nv : Int) ≤ (g : Int)) := by omega
          have HL := Lib.hid hlt
          clear hlt
          go_wp2_with fail
          go_ret
          refine ⟨by rw [← R10.out]; unfold rowFindI; rw [if_pos (by have := HL.out; have := hnv.out; omega)]; rfl, by rw [← R10.out]; exact M3.out.keeps (Keeps.refl [] w3).drew (by simp), ?_⟩
          exact ((K2.out.mono (by simp)).then K3.out (fun z hz => by
            rcases List.mem_cons.1 hz with e | e
            · left; rw [e]; exact L2.out
            · exact .inr e)).drew
        · have gl : (nv : Int) ≤ (g : Int) := by omega
          have HL := Lib.hid hlt
          clear hlt
          go_wp2_with fail
          go_ret
          refine ⟨by rw [← R10.out]; unfold rowFindI; rw [if_neg (by have := HL.out; have := hnv.out; omega)]; rfl, by rw [← R10.out]; exact M3.out.keeps (Keeps.refl [] w3).drew (by simp), ?_⟩
          exact ((K2.out.mono (by simp)).then K3.out (fun z hz => by
            rcases List.mem_cons.1 hz with e | e
            · left; rw [e]; exact L2.out
            · exact .inr e)).drew
      · have hb : (y.toList == s.toList) = false := by rw [bytes_list10]; simp [he]
        have HE := Lib.hid (show ¬ (kn : Int) = n from fun e => he (by
          have h8 := numI_nat (N := f.N) (s := s) (k := kn) (by rw [← hnn.out]; exact e.symm)
          rw [NAT.out] at h8; exact Option.some.inj h8))
        clear he
        go_region_held3 (fun w' => w'.cell? ⟨sb, 0, none⟩ = some (.pointer (some ⟨fb, 0, none⟩)) ∧ w'.cell? ⟨fb, 3, none⟩ = some (.slice (some ⟨gn, 0, none⟩) nN cN) ∧ w'.cell? ⟨t, 0, none⟩ = some (.slice (some ⟨ga, 0, none⟩) nE tc) ∧ w'.cell? ⟨ga, g * 5 + 2, none⟩ = some (.int .i64 (kn : Nat)) ∧ w'.cell? ⟨gn, kn, none⟩ = some (.string y)) (go_keep) (fail)
        have R9 := SGX.out
        rw [if_neg HE.out] at R9
        have R10 := Lib.hid R9
        have HLT := Lib.hid (show 1 ≤ jx ∧ (f.K.E.length : Int) ≤ g + 1 + ((jx - 1 : Nat) : Int) from by
          have e7 := I.out.2.2.2.2.2
          have e8 := LT.out
          have e9 := hnE.out
          omega)
        clear R9
        go_wp2_with fail
        go_roundg (jx - 1)
        case measure => have := HLT.out.1; omega
        case rel =>
          refine ⟨f.K.next sk, c'.visN (f.K.walks sk), jx - 1, Nat.le_refl _, Lib.hid ⟨S3.out.keeps (Keeps.refl [] w3).drew (by simp), M3.out.keeps (Keeps.refl [] w3).drew (by simp), K3.out.drew, OK3.out, ?_, ?_⟩⟩
          · rw [Nat.sub_add_cancel HLT.out.1]; exact R10.out
          · rw [HG.out]; exact HLT.out.2
    · have SG1 := SG.out
      rw [ho] at SG1
      simp only [if_true] at SG1
      have SGX := Lib.hid SG1
      clear SG1 ho
      go_wp2_with fail
      go_ret
      refine ⟨by rw [← SGX.out]; unfold rowFindI; simp, by rw [← SGX.out]; exact M3.out, ?_⟩
      exact (K2.out.mono (by simp)).then K3.out (fun z hz => by
        rcases List.mem_cons.1 hz with e | e
        · left; rw [e]; exact L2.out
        · exact .inr e)
set_option maxRecDepth 100000 in
set_option maxHeartbeats 4000000 in
theorem rfind_own (q0 : Nat) (hq0 : q0 ≤ 1000) (fb sb t lo : Nat) (a : Option Addr) (ST S : List Nat) (m : Option Nat) (f : Fam) (T2 : Tab) (ver : Nat) (c : C4) (s : ByteArray) (w : World) (A : RAt10 fb sb t lo a ST S m f (.own T2) ver c w) (hI : TInv q0 T2) (hK : ∀ (e : Int) (x : Ent), T2.ent e = some x → ∃ n, n < f.N.length ∧ x.key = (n : Int)) (hn : f.N.Nodup) (hs : s.size ≤ 1000000) :
    Calls Tryz.prog 52 #[.pointer (some ⟨sb, 0, none⟩), .string s] w fun r w' => r = .returned (.int .i64 (seekR T2 (numI f.N s) (txtH s) c).1) ∧ CtrAt m (seekR T2 (numI f.N s) (txtH s) c).2 w' ∧ Keeps (mS m) w w' := by
  obtain ⟨t2, lo2, b1, v1, l2⟩ := A.s
  have HT0 := Lib.hid v1
  obtain ⟨cN, f1, f2⟩ := A.F.b
  have HS0 := Lib.hid b1
  have HF0 := Lib.hid f1
  have HN0 := Lib.hid f2
  have HM0 := Lib.hid A.M
  have OFF := Lib.hid A.offm
  have HM1 := Lib.hid (show ∀ b, m = some b → b < lo2 from fun b hb => by have := A.hm b hb; omega)
  have LFB := Lib.hid A.F.l
  have LSB := Lib.hid A.ls
  have HSW := Lib.hid (show ∀ x, x ∈ S → lo ≤ x ∧ x < w.heap.size from fun x hx => by have := v1.foot x hx; omega)
  have HI := Lib.hid hI
  have HKK := Lib.hid hK
  have HNN := Lib.hid hn
  have TX := fun W => rtext_any s W hs
  obtain ⟨h, hh⟩ := ex_hid (txtH s)
  simp only [← hh.out] at TX ⊢
  obtain ⟨n, hnn⟩ := ex_hid (numI f.N s)
  rw [← hnn.out]
  obtain ⟨N, hN⟩ := ex_hid f.N
  rw [← hN.out] at HF0 HN0
  obtain ⟨nN, hnN⟩ := ex_hid N.length
  rw [← hnN.out] at HF0
  obtain ⟨R, hR⟩ := ex_hid (seekR T2 n h c)
  have HRR := Lib.hid (show seekG T2 n (T2.E.length + 1) (T2.seek h) c = R from hR.out.symm)
  rw [← hR.out]
  have s0 : w.cell? ⟨sb, 0, none⟩ = some (.pointer (some ⟨fb, 0, none⟩)) := cell_has HS0.out (i := 0) rfl
  have s2 : w.cell? ⟨sb, 2, none⟩ = some (.pointer (some ⟨t2, 0, none⟩)) := cell_has HS0.out (i := 2) rfl
  clear A b1 v1 f1 f2 hI hK hn l2
  go_enter Tryz.func52, Tryz.ntmps52
  go_wp2_with fail
  refine (TX w).mono ?_
  rintro r w1 ⟨rfl, rfl⟩
  clear TX
  go_wp2_with fail
  refine (rseek_any t2 lo2 S m T2 w HT0.out (by have := HI.out.l12; omega) h).mono ?_
  rintro r w2 ⟨kb, rfl, s2k, l2k, k2⟩
  have K2 := Lib.hid k2
  have L2 := Lib.hid l2k
  have S0 := Lib.hid s2k
  clear s2k l2k k2 s0 s2
  go_wp2_with fail
  go_loopg [] T2.E.length (fun kx wr => ∃ (sk : Sk) (c' : C4) (jx : Nat), jx ≤ kx ∧ Hid (RSkAt kb t2 sk wr ∧ CtrAt m c' wr ∧ Keeps (kb :: mS m) w2 wr ∧ SkOk T2 sk ∧ seekG T2 n (jx + 1) sk c' = R ∧ (T2.E.length : Int) ≤ sk.told + 1 + jx))
  case atStart => exact ⟨T2.seek h, c, T2.E.length, Nat.le_refl _, Lib.hid ⟨S0.out, HM0.out.keeps K2.out (by simp), Keeps.refl _ _, SkOk.seek HI.out h, HRR.out, by show (T2.E.length : Int) ≤ -1 + 1 + _; omega⟩⟩
  case round =>
    obtain ⟨sk, c', jx, hjx, I⟩ := hrel
    have TW := Lib.hid ((HT0.out.keeps K2.out (by simp)).keeps I.out.2.2.1 (fun x hx hy => by
      rcases List.mem_cons.1 hy with e | e
      · subst e; have := (HSW.out _ hx).2; have := L2.out; omega
      · exact OFF.out x (HSW.out x hx).1 e))
    go_wp2_with fail
    refine (rnexts_any q0 hq0 kb t2 lo2 S m c' T2 sk wr TW.out I.out.2.1 HM1.out HI.out I.out.1 (fun hx => by have := (HSW.out _ hx).2; have := L2.out; omega) I.out.2.2.2.1).mono ?_
    rintro r w3 ⟨rfl, s3, m3, k3⟩
    have S3 := Lib.hid s3
    have M3 := Lib.hid m3
    have K3 := Lib.hid (I.out.2.2.1.trans k3)
    have T3 := Lib.hid (TW.out.keeps k3 (fun x hx hy => by
      rcases List.mem_cons.1 hy with e | e
      · subst e; have := (HSW.out _ hx).2; have := L2.out; omega
      · exact OFF.out x (HSW.out x hx).1 e))
    have SG := Lib.hid (show (if (T2.next sk).over = true then (-1, c'.visN (T2.walks sk)) else if (atE (entE T2.E (T2.next sk).told)).key = n then ((T2.next sk).told, c'.visN (T2.walks sk)) else seekG T2 n jx (T2.next sk) (c'.visN (T2.walks sk))) = R from I.out.2.2.2.2.1)
    have OK3 := Lib.hid (SkOk.next HI.out I.out.2.2.2.1)
    clear s3 m3 k3
    cases ho : (T2.next sk).over
    · have TL := Lib.hid (told_live HI.out I.out.2.2.2.1 ho)
      have SG1 := SG.out
      rw [ho] at SG1
      simp only [Bool.false_eq_true, if_false] at SG1
      have es : (T2.next sk).says = (T2.next sk).told := by unfold Sk.says; rw [ho]; rfl
      rw [es]
      obtain ⟨x, e1, e2, e3⟩ := TL.out
      obtain ⟨e4, e5, e6⟩ := ent_some e1
      obtain ⟨g, hg⟩ : ∃ g : Nat, (T2.next sk).told = (g : Int) := ⟨_, (Int.toNat_of_nonneg e4).symm⟩
      obtain ⟨kn, k1, k2⟩ := HKK.out _ _ e1
      rw [hg] at e1 e5 e3 SG1 ⊢
      simp only [Int.toNat_natCast] at e5
      have hge := (List.getElem?_eq_some_iff.1 e5).1
      rw [entE_at e5 e6, k2] at SG1
      have LT := Lib.hid e3
      have HG := Lib.hid hg
      have SGX := Lib.hid SG1
      have HKN := Lib.hid k1
      obtain ⟨ta, tc, tcb, g1, g2, _⟩ := T3.out
      obtain ⟨ga, rfl⟩ := g2.shape (by omega)
      have y0 : w3.cell? ⟨t2, 0, none⟩ = some (.slice (some ⟨ga, 0, none⟩) T2.E.length tc) := cell_has g1 (i := 0) rfl
      have y2 : w3.cell? ⟨ga, g * 5 + 2, none⟩ = some (.int .i64 (kn : Nat)) := by rw [← k2]; exact (g2.five e5).2.2.1
      obtain ⟨nE, hnE⟩ := ex_hid T2.E.length
      rw [← hnE.out] at y0 hge
      have gE : (g : Int) < (nE : Int) := by omega
      have g0 : (0 : Int) ≤ (g : Int) := by omega
      have n0 : (0 : Int) ≤ (kn : Int) := by omega
      have nlt : (kn : Int) < (nN : Int) := by have := hnN.out; have := congrArg List.length hN.out; omega
      have KW := Lib.hid ((K2.out.mono (by simp)).trans K3.out)
      have off : ∀ z, lo ≤ z → z < w.heap.size → z ∉ kb :: mS m := fun z h1 h2 hy => by
        rcases List.mem_cons.1 hy with e | e
        · have := L2.out; omega
        · exact OFF.out z h1 e
      have BS := Lib.hid (KW.out.has HS0.out (off _ LSB.out (lt_of_block HS0.out)))
      have BF := Lib.hid (KW.out.has HF0.out (off _ LFB.out (lt_of_block HF0.out)))
      have x0 : w3.cell? ⟨sb, 0, none⟩ = some (.pointer (some ⟨fb, 0, none⟩)) := cell_has BS.out (i := 0) rfl
      have x2 : w3.cell? ⟨sb, 2, none⟩ = some (.pointer (some ⟨t2, 0, none⟩)) := cell_has BS.out (i := 2) rfl
      have x3 : w3.cell? ⟨fb, 3, none⟩ = some (.slice a nN cN) := cell_has BF.out (i := 3) rfl
      have NR := HN0.out.keeps KW.out (fun z hz => off z (HN0.out.blk_lt z hz).1 (HN0.out.blk_lt z hz).2)
      obtain ⟨gn, rfl⟩ := NR.shape (by have := hnN.out; omega)
      have z3 : w3.cell? ⟨gn, kn, none⟩ = some (.string (N.getD kn .empty)) := NR.cell (by have := hnN.out; omega)
      obtain ⟨y, hy⟩ := ex_hid (N.getD kn .empty)
      rw [← hy.out] at z3
      have NAT := Lib.hid (show f.N[kn]? = some y from by rw [hy.out, hN.out]; exact getD_at10 k1)
      clear e1 e2 e3 e4 e5 e6 k1 k2 hg g1 g2 es ho SG1 off NR hge
      go_upto_region 8 with (fail)
      by_cases he : y = s
      · have hb : (y.toList == s.toList) = true := by rw [bytes_list10]; simp [he]
        have HE := Lib.hid (show (kn : Int) = n from by rw [hnn.out]; exact (numI_at HNN.out (by rw [NAT.out, he])).symm)
        clear he
        go_region_held3 (fun w' => w'.cell? ⟨sb, 0, none⟩ = some (.pointer (some ⟨fb, 0, none⟩)) ∧ w'.cell? ⟨fb, 3, none⟩ = some (.slice (some ⟨gn, 0, none⟩) nN cN) ∧ w'.cell? ⟨t2, 0, none⟩ = some (.slice (some ⟨ga, 0, none⟩) nE tc) ∧ w'.cell? ⟨ga, g * 5 + 2, none⟩ = some (.int .i64 (kn : Nat)) ∧ w'.cell? ⟨gn, kn, none⟩ = some (.string y)) (go_keep) (fail)
        have R9 := SGX.out
        rw [if_pos HE.out] at R9
        have R10 := Lib.hid R9
        clear R9
        go_wp2_with fail
        go_ret
        refine ⟨by rw [← R10.out]; rfl, by rw [← R10.out]; exact M3.out.keeps (Keeps.refl [] w3).drew (by simp), ?_⟩
        exact ((K2.out.mono (by simp)).then K3.out (fun z hz => by
          rcases List.mem_cons.1 hz with e | e
          · left; rw [e]; exact L2.out
          · exact .inr e)).drew
      · have hb : (y.toList == s.toList) = false := by rw [bytes_list10]; simp [he]
        have HE := Lib.hid (show ¬ (kn : Int) = n from fun e => he (by
          have h8 := numI_nat (N := f.N) (s := s) (k := kn) (by rw [← hnn.out]; exact e.symm)
          rw [NAT.out] at h8; exact Option.some.inj h8))
        clear he
        go_region_held3 (fun w' => w'.cell? ⟨sb, 0, none⟩ = some (.pointer (some ⟨fb, 0, none⟩)) ∧ w'.cell? ⟨fb, 3, none⟩ = some (.slice (some ⟨gn, 0, none⟩) nN cN) ∧ w'.cell? ⟨t2, 0, none⟩ = some (.slice (some ⟨ga, 0, none⟩) nE tc) ∧ w'.cell? ⟨ga, g * 5 + 2, none⟩ = some (.int .i64 (kn : Nat)) ∧ w'.cell? ⟨gn, kn, none⟩ = some (.string y)) (go_keep) (fail)
        have R9 := SGX.out
        rw [if_neg HE.out] at R9
        have R10 := Lib.hid R9
        have HLT := Lib.hid (show 1 ≤ jx ∧ (T2.E.length : Int) ≤ g + 1 + ((jx - 1 : Nat) : Int) from by
          have e7 := I.out.2.2.2.2.2
          have e8 := LT.out
          have e9 := hnE.out
          omega)
        clear R9
        go_wp2_with fail
        go_roundg (jx - 1)
        case measure => have := HLT.out.1; omega
        case rel =>
          refine ⟨T2.next sk, c'.visN (T2.walks sk), jx - 1, Nat.le_refl _, Lib.hid ⟨S3.out.keeps (Keeps.refl [] w3).drew (by simp), M3.out.keeps (Keeps.refl [] w3).drew (by simp), K3.out.drew, OK3.out, ?_, ?_⟩⟩
          · rw [Nat.sub_add_cancel HLT.out.1]; exact R10.out
          · rw [HG.out]; exact HLT.out.2
    · have SG1 := SG.out
      rw [ho] at SG1
      simp only [if_true] at SG1
      have SGX := Lib.hid SG1
      clear SG1 ho
      go_wp2_with fail
      go_ret
      refine ⟨by rw [← SGX.out]; rfl, by rw [← SGX.out]; exact M3.out, ?_⟩
      exact (K2.out.mono (by simp)).then K3.out (fun z hz => by
        rcases List.mem_cons.1 hz with e | e
        · left; rw [e]; exact L2.out
        · exact .inr e)
/-- Where a name is found, either way. -/
theorem rfinds_any {k j fb sb t lo : Nat} {a : Option Addr} {ST S : List Nat} {m : Option Nat} {f : Fam} {ks : List ByteArray} {wy : Way10} {ver : Nat} {c : C4} {w : World} (G : Good10 k j f ks wy) (A : RAt10 fb sb t lo a ST S m f wy ver c w) (s : ByteArray) (hs : s.size ≤ 1000000) :
    Calls Tryz.prog 52 #[.pointer (some ⟨sb, 0, none⟩), .string s] w fun r w' => r = .returned (.int .i64 (findW f s c wy).1) ∧ CtrAt m (findW f s c wy).2 w' ∧ Keeps (mS m) w w' := by
  obtain ⟨q, h1, h2, h3⟩ := G.tab
  cases wy with
  | row vs => exact rfind_row q (by omega) fb sb t lo a ST S m f vs ver c s w A h2 h3 G.fk.nn hs
  | own T => exact rfind_own q (by omega) fb sb t lo a ST S m f T ver c s w A h2 h3 G.fk.nn hs
end Go.Proofs.YtajmfenfajbakaaGreat
