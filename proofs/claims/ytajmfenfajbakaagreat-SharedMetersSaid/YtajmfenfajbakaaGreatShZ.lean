/- A shared namespace is turned private (chapter 10). -/
import Derived.Test.YtajmfenfajbakaaGreatShY
import Derived.Test.YtajmfenfajbakaaGreatShK
namespace Go.Proofs.YtajmfenfajbakaaGreat
open Go.RowKit
set_option linter.unusedVariables false
set_option linter.unusedSimpArgs false
attribute [local go_sem] meth_rlen meth_rfind meth_rvalue meth_rturn meth_radd meth_rpairs meth_olen meth_ofind meth_ovalue meth_oturn meth_oadd meth_opairs ta_rr ta_ro ta_or ta_oo

def PrivP (fb t mb lo : Nat) (a : Option Addr) (ST : List Nat) (m : Option Nat) (f : Fam) (sb : Nat) (vs : List Int) (ver : Nat) (c : C4) (w : World) (r : Ending) (w' : World) : Prop :=
  ∃ a' ob t2 S2, r = .returned (.tuple #[]) ∧ FamAt fb t mb lo a' ST m f w' ∧ OwnAt ob t2 w.heap.size S2 m (privT f vs vs.length) w' ∧ w'.heap[sb]? = some (spO fb (wayO ob) (ver : Nat)) ∧ MtrAt m (privC f vs c vs.length).shf w' ∧ Keeps (sb :: (famS fb mb a ST ++ mS m)) w w' ∧ Grew (famS fb mb a ST) w (famS fb mb a' ST) ∧ ∀ z, z ∈ famS fb mb a' ST → z ∉ ob :: S2
/-- What holds between two rounds. -/
def PrI (fb t mb lo : Nat) (a : Option Addr) (ST : List Nat) (m : Option Nat) (f : Fam) (ob t2 lo2 : Nat) (S20 : List Nat) (vs : List Int) (c : C4) (w2 : World) (i : Nat) (W : World) : Prop :=
  ∃ a' S2, FamAt fb t mb lo a' ST m f W ∧ OwnAt ob t2 lo2 S2 m (privT f vs i) W ∧ MtrAt m (privC f vs c i) W ∧ Keeps (famS fb mb a ST ++ S20 ++ mS m) w2 W ∧ Grew (famS fb mb a ST) w2 (famS fb mb a' ST) ∧ Grew S20 w2 S2 ∧ ∀ z, z ∈ famS fb mb a' ST → z ∉ ob :: S2
set_option maxRecDepth 100000 in
set_option maxHeartbeats 8000000 in
theorem spriv_any (k : Nat) (hk : k ≤ 1000) (fb t mb lo : Nat) (a : Option Addr) (ST : List Nat) (m : Option Nat) (f : Fam) (sb rb : Nat) (ar : Option Addr) (vs : List Int) (ver : Nat) (c : C4) (w : World) (H : SRow fb t mb lo a ST m f sb rb ar vs ver c w) (hI : TInv k f.K) (hK : KeyOk f vs)
    (hT : ∀ i, i ≤ vs.length → TInv i (privT f vs i)) (hz : ∀ i, i < vs.length → (rowP f vs i).1.size ≤ 1000000) (hg : ∀ i, i < vs.length → giveN f.N (rowP f vs i).1 = f.N) (hN : f.N.length ≤ 100000) (hv : vs.length ≤ 900) :
    Calls Tryz.prog 48 #[.pointer (some ⟨sb, 0, none⟩)] w (PrivP fb t mb lo a ST m f sb vs ver c w) := by
  have HH := Lib.hid H
  have HT := Lib.hid hT
  have HZ := Lib.hid hz
  have HG := Lib.hid hg
  have RP := Lib.hid (fun (c : C4) (W : World) (h : SRow fb t mb lo a ST m f sb rb ar vs ver c W) => rpairs_any k hk fb t mb lo a ST m f rb lo ar vs W h.F h.R hI (by omega) hK)
  have c0 : w.cell? ⟨sb, 0, none⟩ = some (.pointer (some ⟨fb, 0, none⟩)) := cell_has H.s (i := 0) rfl
  have c1 : w.cell? ⟨sb, 1, none⟩ = some (.iface 107 (.pointer (some ⟨rb, 0, none⟩))) := cell_has H.s (i := 1) rfl
  obtain ⟨cN, h9, _⟩ := H.F.b
  have NT := newt_any m c w H.M
  have MT := Lib.hid (fun (c' : C4) (W : World) (h : MtrAt m c' W) => mturn_any m c' W h)
  obtain ⟨p, hp⟩ : ∃ p : Option Addr, Hid (mV m = .pointer p) := ⟨_, Lib.hid rfl⟩
  rw [hp.out] at NT MT h9
  have c2 : w.cell? ⟨fb, 2, none⟩ = some (.pointer p) := cell_has h9 (i := 2) rfl
  obtain ⟨n, hn⟩ := ex_hid vs.length
  have PL := Lib.hid (show (rowPs f vs vs.length).length = n from by rw [rowPs_len, hn.out])
  have sfl := lt_of_block H.s
  have FO := Lib.hid H.F.foot
  clear H hI hK hT hz hg h9
  go_enter Tryz.func48, Tryz.ntmps48
  go_wp2_with fail
  refine NT.mono ?_
  rintro r w1 ⟨t2, S20, rfl, t1, m1, k1⟩
  have lb : ∀ z, lo ≤ z → z ∉ mS m := HH.out.offm
  go_upto_region 1 with (fail)
  refine wp_gen (fun V => V.heap[w1.heap.size]? = some (ownO t2) ∧ Keeps [] w1 V ∧ V.heap.size = w1.heap.size + 1) ⟨has_new _ _, (Keeps.refl [] w1).alloc _, by simp⟩ ?_
  rintro wo ⟨bo, ko, zo⟩
  have z1 := k1.size
  have SO := Lib.hid (HH.out.met (k1.trans (ko.mono (by simp))) (m1.keeps ko (by simp)))
  have OO : Hid (OwnAt w1.heap.size t2 w.heap.size S20 m newT wo) := Lib.hid ⟨bo, t1.keeps ko (by simp), fun h => by have := (t1.foot _ h).2; omega, z1⟩
  have KO := Lib.hid (k1.trans (ko.mono (by simp)))
  have SF := Lib.hid (show ∀ z, z ∈ S20 → w.heap.size ≤ z ∧ z < w1.heap.size from t1.foot)
  obtain ⟨ob, hob⟩ := ex_hid w1.heap.size
  rw [← hob.out] at OO SF zo z1 ⊢
  have q0 : wo.cell? ⟨sb, 0, none⟩ = some (.pointer (some ⟨fb, 0, none⟩)) := cell_has SO.out.s (i := 0) rfl
  have q1 : wo.cell? ⟨sb, 1, none⟩ = some (.iface 107 (.pointer (some ⟨rb, 0, none⟩))) := cell_has SO.out.s (i := 1) rfl
  clear NT t1 m1 k1 bo ko c0 c1 c2 hob
  go_region_held3 (fun w' => w'.cell? ⟨sb, 0, none⟩ = some (.pointer (some ⟨fb, 0, none⟩)) ∧ w'.cell? ⟨sb, 1, none⟩ = some (.iface 107 (.pointer (some ⟨rb, 0, none⟩)))) (go_keep)
    (first | (go_at_call 137; refine (RP.out c.tab wo.drew (SO.out.met (Keeps.refl _ _).drew (SO.out.M.keeps (Keeps.refl [] wo).drew (by simp)))).mono ?_; rintro r w2 ⟨ap, cp, rfl, p2, k2⟩; rw [PL.out]; have P2 := Lib.hid (show PairRow wo.heap.size ap cp (rowPs f vs vs.length) w2 from p2); have K2 := Lib.hid ((Keeps.refl [] wo).drew.trans k2); have r0 := k2.cell (w := wo.drew) q0 (by simp); have r1 := k2.cell (w := wo.drew) q1 (by simp); clear p2 k2))
  clear RP q0 q1
  have kd0 : Keeps [] w wo.drew ∨ True := .inr trivial
  have F2 := Lib.hid (SO.out.F.keeps K2.out (by simp))
  have O2 := Lib.hid (OO.out.keeps K2.out (by simp))
  have M2 := Lib.hid (SO.out.M.keeps K2.out (by simp))
  have B2 := Lib.hid (K2.out.has SO.out.s (by simp))
  have Z2 := Lib.hid (show ob + 1 ≤ w2.heap.size from by have := K2.out.size; omega)
  have D2 := HH.out.d2.1
  have NSB := Lib.hid (show sb ∉ famS fb mb a ST ++ S20 ++ mS m from fun hx => by
    simp only [List.mem_append] at hx
    rcases hx with (h | h) | h
    · exact D2 h
    · have := (SF.out sb h).1; omega
    · exact lb sb HH.out.ls h)
  have NAP := Lib.hid (show ∀ z, z ∈ blk ap → z ∉ famS fb mb a ST ++ S20 ++ mS m from fun z hz hx => by
    have h0 := (PairRow.blk_lt P2.out z hz).1
    simp only [List.mem_append] at hx
    rcases hx with (h | h) | h
    · have := (FO.out z h).2; omega
    · have := (SF.out z h).2; omega
    · refine lb z ?_ h
      have := (FO.out fb (by unfold famS; simp)); omega)
  have LB := Lib.hid lb
  have LM := Lib.hid (show ∀ b, m = some b → b < lo ∧ b < w.heap.size from fun b hb => ⟨HH.out.hm b hb, by have := HH.out.hm b hb; have := FO.out fb (by unfold famS; simp); omega⟩)
  clear kd0 D2 lb r0 r1 OO SO
  have hn1 : n ≤ 900 := by rw [hn.out]; exact hv
  go_wp2_with fail
  go_loopw [27] (fun z27 wr => ∃ i : Nat, i ≤ n ∧ z27 = .int .i64 i ∧ Hid (PrI fb t mb lo a ST m f ob t2 w.heap.size S20 vs c w2 i wr)) (fun z27 _ => n - (intOf z27).toNat)
  case atStart => exact ⟨0, Nat.zero_le _, rfl, Lib.hid ⟨a, S20, F2.out, O2.out, M2.out, Keeps.refl _ _, Grew.refl _ _, Grew.refl _ _, fun z hz hy => by
    rcases List.mem_cons.1 hy with h | h
    · have := (FO.out z hz).2; omega
    · have := (FO.out z hz).2; have := (SF.out z h).1; omega⟩⟩
  case round =>
    obtain ⟨i, hi, rfl, I⟩ := hrel
    clear F2 O2 M2
    by_cases hlt : i < n
    · have i1 : (i : Int) < (n : Int) := by omega
      have i0 : (0 : Int) ≤ (i : Int) := by omega
      obtain ⟨a', S2, j1, j2, j3, j4, j5, j6, j7⟩ := I.out
      obtain ⟨gp, rfl⟩ := PairRow.shape P2.out (by rw [PL.out]; omega)
      have hx : (rowPs f vs vs.length)[i]? = some (rowP f vs i) := by unfold rowPs; rw [List.getElem?_map, List.getElem?_range (by rw [← hn.out]; exact hlt)]; rfl
      have P4 := PairRow.keeps P2.out j4 NAP.out
      have p0 : wr.cell? ⟨gp, i * 2, none⟩ = some (.string (rowP f vs i).1) := P4.cell hx 0 (by omega)
      have p1 : wr.cell? ⟨gp, i * 2 + 1, none⟩ = some (.int .i64 (rowP f vs i).2) := P4.cell hx 1 (by omega)
      have z0 : wr.cell? ⟨sb, 0, none⟩ = some (.pointer (some ⟨fb, 0, none⟩)) := cell_has (j4.has B2.out NSB.out) (i := 0) rfl
      have GS := Lib.hid (HG.out i (by rw [← hn.out]; exact hlt))
      have ZS := HZ.out i (by rw [← hn.out]; exact hlt)
      have TS := Lib.hid (HT.out i (by rw [← hn.out]; omega))
      have PS := Lib.hid (show privT f vs (i + 1) = ownAddT f (rowP f vs i).1 (rowP f vs i).2 (privT f vs i) ∧ privC f vs c (i + 1) = ownAddC (privC f vs c i) (privT f vs i) from ⟨rfl, rfl⟩)
      obtain ⟨s, hs⟩ := ex_hid (rowP f vs i).1
      obtain ⟨v, hv⟩ := ex_hid (rowP f vs i).2
      rw [← hs.out] at p0 GS ZS PS
      rw [← hv.out] at p1 PS
      have JJ := Lib.hid (And.intro j1 (And.intro j2 (And.intro j3 (And.intro j4 (And.intro j5 (And.intro j6 j7))))))
      clear j1 j2 j3 j4 j5 j6 j7 I P4 hx
      go_upto_region 4 with (fail)
      refine wp_gen (fun V => V.heap[wr.heap.size]? = some (.cells #[.string s, .int .i64 v] 134 (0, 0)) ∧ Keeps [] wr V) ⟨has_new _ _, (Keeps.refl [] wr).alloc _⟩ ?_
      rintro w4 ⟨b4, k4⟩
      have x0 : w4.cell? ⟨wr.heap.size, 0, none⟩ = some (.string s) := cell_has b4 (i := 0) rfl
      have x1 : w4.cell? ⟨wr.heap.size, 1, none⟩ = some (.int .i64 v) := cell_has b4 (i := 1) rfl
      have z1 := k4.cell z0 (by simp)
      have K4 := Lib.hid k4
      have NO := Lib.hid (show sb ∉ famS fb mb a' ST ++ S2 ++ mS m ∧ wr.heap.size ∉ famS fb mb a' ST ++ S2 ++ mS m from by
        have f1 := JJ.out.1.foot
        have f2 := JJ.out.2.1.foot
        have hsl : sb < w2.heap.size := by have := Z2.out; have := (SF.out); have := lt_of_block B2.out; omega
        have n1 := NSB.out
        simp only [List.mem_append, not_or] at n1 ⊢
        have zr := JJ.out.2.2.2.1.size
        refine ⟨⟨⟨fun h => ?_, fun h => ?_⟩, n1.2⟩, ⟨⟨fun h => ?_, fun h => ?_⟩, fun h => ?_⟩⟩
        · rcases JJ.out.2.2.2.2.1 _ h with h | h
          · exact n1.1.1 h
          · omega
        · rcases JJ.out.2.2.2.2.2.1 _ h with h | h
          · exact n1.1.2 h
          · omega
        · have := (f1 _ h).2; omega
        · have := (f2 _ (List.mem_cons_of_mem _ h)).2; omega
        · refine LB.out wr.heap.size ?_ h
          have := (f1 fb (by unfold famS; simp)); omega)
      have ADD := Lib.hid (oadd_any i (by rw [hn.out] at hlt; omega) fb t mb lo a' ST m f ob t2 w.heap.size S2 (privT f vs i) (privC f vs c i) s v w4.drew (JJ.out.1.keeps k4.drew (by simp)) (JJ.out.2.1.keeps k4.drew (by simp)) (JJ.out.2.2.1.keeps k4.drew (by simp)) LM.out JJ.out.2.2.2.2.2.2 TS.out ZS hN)
      clear b4 k4 z0 p0 p1
      go_region_held3 (fun w' => w'.cell? ⟨sb, 0, none⟩ = some (.pointer (some ⟨fb, 0, none⟩)) ∧ w'.cell? ⟨wr.heap.size, 0, none⟩ = some (.string s) ∧ w'.cell? ⟨wr.heap.size, 1, none⟩ = some (.int .i64 v)) (go_keep)
        (first | (go_at_call 68; refine ADD.out.mono ?_; rintro r w5 ⟨a5, S5, rfl, f5, o5, m5, k5, g5, h5, d5⟩; have F5 := Lib.hid f5; have O5 := Lib.hid o5; have M5 := Lib.hid m5; have K5 := Lib.hid k5; have G5 := Lib.hid g5; have H5 := Lib.hid h5; have D5 := Lib.hid d5; clear f5 o5 m5 k5 g5 h5 d5; have y0 := K5.out.cell (w := w4.drew) z1 NO.out.1; have y1 := K5.out.cell (w := w4.drew) x0 NO.out.2; have y2 := K5.out.cell (w := w4.drew) x1 NO.out.2))
      have KW : Hid (Keeps (famS fb mb a ST ++ S20 ++ mS m) w2 w5) := Lib.hid ((JJ.out.2.2.2.1.trans (K4.out.mono (by simp))).then K5.out.undrew (fun z hz => by
        simp only [List.mem_append] at hz ⊢
        rcases hz with (h | h) | h
        · rcases JJ.out.2.2.2.2.1 _ h with h | h
          · right; simp [h]
          · exact .inl h
        · rcases JJ.out.2.2.2.2.2.1 _ h with h | h
          · right; simp [h]
          · exact .inl h
        · right; simp [h]))
      have ZZ := Lib.hid (show w2.heap.size ≤ w4.drew.heap.size from by have := JJ.out.2.2.2.1.size; have := K4.out.size; have h3 : wr.heap.size ≤ w4.heap.size := K4.out.size; show w2.heap.size ≤ w4.heap.size; omega)
      clear ADD z1 x0 x1 y0 y1 y2
      go_wp2_with fail
      go_roundw
      case rel =>
        refine ⟨i + 1, by omega, by go_num, Lib.hid ⟨a5, S5, ?_, ?_, ?_, KW.out, ?_, ?_, D5.out⟩⟩
        · have hgf : giveF f s = f := by unfold giveF; rw [GS.out]
          have h9 := F5.out
          rw [hgf] at h9; exact h9
        · rw [PS.out.1]; exact O5.out
        · rw [PS.out.2]; exact M5.out
        · exact JJ.out.2.2.2.2.1.trans G5.out ZZ.out
        · exact JJ.out.2.2.2.2.2.1.trans H5.out ZZ.out
      case measure => simp [intOf]; omega
    · obtain rfl : i = n := by omega
      obtain ⟨a', S2, j1, j2, j3, j4, j5, j6, j7⟩ := I.out
      have b4 := j4.has B2.out NSB.out
      have z1 : wr.cell? ⟨sb, 1, none⟩ = some (wayR rb) := cell_has b4 (i := 1) rfl
      have z1f := free_of_has b4 1
      have B4 := Lib.hid b4
      have JJ := Lib.hid (And.intro j1 (And.intro j2 (And.intro j3 (And.intro j4 (And.intro j5 (And.intro j6 j7))))))
      clear j1 j2 j3 j4 j5 j6 j7 I b4
      go_upto_region 7 with (fail)
      refine wp_gen (fun V => V.heap[sb]? = some (spO fb (wayO ob) (ver : Nat)) ∧ Keeps [sb] wr V) ⟨(by have h0 := has_setCell B4.out 1 (wayO ob); unfold spO wayO at h0 ⊢; simpa using h0), (Keeps.refl [sb] wr).setCell (p := ⟨sb, 1, none⟩) (.inr (by simp)) _⟩ ?_
      rintro w6 ⟨b6, k6⟩
      have D4 := HH.out.d2.1
      have KS := Lib.hid k6
      have F6 := Lib.hid (JJ.out.1.keeps k6 (fun z hz hy => by
        simp at hy; subst hy
        rcases JJ.out.2.2.2.2.1 _ hz with h | h
        · exact D4 h
        · have := Z2.out; have := lt_of_block B2.out; omega))
      have sbo : sb ∉ ob :: S2 := fun h => by
        rcases List.mem_cons.1 h with h | h
        · omega
        · rcases JJ.out.2.2.2.2.2.1 _ h with h | h
          · have := (SF.out _ h).1; omega
          · have := Z2.out; omega
      have O6 := Lib.hid (JJ.out.2.1.keeps k6 (fun z hz hy => by simp at hy; subst hy; exact sbo hz))
      have M6 := Lib.hid (JJ.out.2.2.1.keeps k6 (fun b hb hy => by simp at hy; subst hy; have := HH.out.ls; have := HH.out.hm _ hb; omega))
      have B6 := Lib.hid b6
      obtain ⟨cN6, h6, _⟩ := F6.out.b
      rw [hp.out] at h6
      have x2 : w6.cell? ⟨fb, 2, none⟩ = some (.pointer p) := cell_has h6 (i := 2) rfl
      have x0 : w6.cell? ⟨sb, 0, none⟩ = some (.pointer (some ⟨fb, 0, none⟩)) := cell_has b6 (i := 0) rfl
      have TU := MT.out _ w6 M6.out
      unfold Cntd at TU
      clear b6 k6 D4 sbo h6 z1 z1f
      go_wp2_with fail
      refine TU.mono ?_
      rintro r w7 ⟨rfl, k7, m7⟩
      have K7 := Lib.hid k7
      have M7 := Lib.hid m7
      clear k7 m7 TU x0 x2
      go_wp2_with fail
      go_end0
      have lb := LB.out
      have f6 := F6.out.foot
      have o6 := O6.out.foot
      have zsb := HH.out.ls
      have zw := HH.out.hm
      refine ⟨a', ob, t2, S2, rfl, F6.out.keeps K7.out (fun z hz => lb z (f6 z hz).1), ?_, K7.out.has B6.out (lb sb zsb), ?_, ?_, ?_, JJ.out.2.2.2.2.2.2⟩
      · rw [← hn.out]
        refine O6.out.keeps K7.out (fun z hz => lb z ?_)
        have := (o6 z hz).1
        have := FO.out fb (by unfold famS; simp)
        omega
      · rw [← hn.out]; exact M7.out
      · have k02 : Keeps (mS m) w w2 := KO.out.trans (K2.out.mono (by simp))
        have k2w : Keeps (sb :: (famS fb mb a ST ++ mS m)) w wr := (k02.mono (by intro z hz; simp [hz])).then JJ.out.2.2.2.1 (fun z hz => by
          simp only [List.mem_append, List.mem_cons] at hz ⊢
          rcases hz with (h | h) | h
          · right; simp [h]
          · left; exact (SF.out z h).1
          · right; simp [h])
        exact (k2w.trans (KS.out.mono (by intro z hz; simp at hz; simp [hz]))).trans (K7.out.mono (by intro z hz; simp [hz]))
      · intro z hz
        rcases JJ.out.2.2.2.2.1 z hz with h | h
        · exact .inl h
        · right; have := Z2.out; omega
end Go.Proofs.YtajmfenfajbakaaGreat
