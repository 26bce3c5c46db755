/- The document's namespace is turned private (chapter 10). -/
import Derived.Test.YtajmfenfajbakaaGreatRsC
namespace Go.Proofs.YtajmfenfajbakaaGreat
open Go.RowKit
set_option linter.unusedVariables false
set_option linter.unusedSimpArgs false

def RPrivP (fb sb t lo : Nat) (a : Option Addr) (ST : List Nat) (m : Option Nat) (f : Fam) (vs : List Int) (ver : Nat) (c : C4) (w : World) (r : Ending) (w' : World) : Prop :=
  r = .returned (.tuple #[]) ∧ ∃ S', RAt10 fb sb t lo a ST S' m f (.own (privT f vs vs.length)) ver (privC f vs c vs.length).shf w' ∧ Keeps (sb :: mS m) w w' ∧ ∀ z, z ∈ S' → w.heap.size ≤ z
def RPrI (t2 lo2 : Nat) (S20 : List Nat) (m : Option Nat) (f : Fam) (vs : List Int) (c : C4) (w1 : World) (i : Nat) (W : World) : Prop :=
  ∃ S2, RTabAt t2 lo2 S2 m (privT f vs i) W ∧ CtrAt m (privC f vs c i) W ∧ Keeps (S20 ++ mS m) w1 W ∧ Grew S20 w1 S2
theorem giveI_at {N : List ByteArray} {n : Nat} {s : ByteArray} (hn : N.Nodup) (h : N[n]? = some s) : giveI N s = n := by
  unfold giveI numOf
  rw [numFrom_at (i := 0) hn h]; simp
theorem priv_next {k : Nat} {f : Fam} {ks : List ByteArray} (h : FamOk k f ks) (vs : List Int) {i : Nat} (hi : i < ks.length) :
    ∃ (x : Ent) (n : Nat), f.K.E[i]? = some x ∧ x.key = (n : Int) ∧ privT f vs (i + 1) = (privT f vs i).ready.add1 x.hash (n : Nat) (vs.getD i 0) ∧ (∀ c, privC f vs c (i + 1) = if (privT f vs i).E.length = (privT f vs i).room then (privC f vs c i).tab else privC f vs c i) := by
  obtain ⟨e1, x, n, e2, e3, e4, e5, e6⟩ := rowP_at h vs (List.getElem?_eq_getElem hi)
  refine ⟨x, n, e2, e4, ?_, fun c => rfl⟩
  show ownAddT f (rowP f vs i).1 (rowP f vs i).2 (privT f vs i) = _
  rw [e1, e6]
  unfold ownAddT Tab.add
  rw [giveI_at h.nn e5]
set_option maxRecDepth 100000 in
set_option maxHeartbeats 8000000 in
theorem rpriv_any {k j fb sb t lo : Nat} {a : Option Addr} {ST S : List Nat} {m : Option Nat} {f : Fam} {ks : List ByteArray} {vs : List Int} {ver : Nat} {c : C4} {w : World} (G : Good10 k j f ks (.row vs)) (A : RAt10 fb sb t lo a ST S m f (.row vs) ver c w) :
    Calls Tryz.prog 58 #[.pointer (some ⟨sb, 0, none⟩)] w (RPrivP fb sb t lo a ST m f vs ver c w) := by
  obtain ⟨hl, hv⟩ : vs.length ≤ ks.length ∧ vs.length ≤ j := G.w
  have hj := G.j9
  have HT := Lib.hid (show ∀ i, i ≤ vs.length → TInv i (privT f vs i) from fun i hi => (privT_ok G.fk hl (by omega) i hi).1.t)
  have NX := Lib.hid (show ∀ i, i < vs.length → _ from fun i hi => priv_next G.fk vs (i := i) (by omega))
  have EK := Lib.hid (show f.K.E.length ≤ 100000 from by have := G.fk.t.ek; have := G.k9; omega)
  have NT := rnew10_tab m c w A.M
  have HA := Lib.hid A
  obtain ⟨cN, h9, _⟩ := A.F.b
  obtain ⟨ar, cr, hS, b1, v1⟩ := A.s
  obtain ⟨p, hp⟩ : ∃ p : Option Addr, Hid (mV m = .pointer p) := ⟨_, Lib.hid rfl⟩
  rw [hp.out] at NT h9
  have c0 : w.cell? ⟨sb, 0, none⟩ = some (.pointer (some ⟨fb, 0, none⟩)) := cell_has b1 (i := 0) rfl
  have c4 : w.cell? ⟨fb, 4, none⟩ = some (.pointer p) := cell_has h9 (i := 4) rfl
  have sfl := lt_of_block b1
  obtain ⟨n, hn⟩ := ex_hid vs.length
  have hn9 : n ≤ 900 := by have := hn.out; omega
  have HMB := Lib.hid A.M
  clear G A hS b1 v1 h9 hl hv hj
  go_enter Tryz.func58, Tryz.ntmps58
  go_wp2_with fail
  refine NT.mono ?_
  rintro r w1 ⟨t2, S20, rfl, t1, m1, k1⟩
  have T1 := Lib.hid t1
  have M1 := Lib.hid m1
  have K1 := Lib.hid k1
  have F20 := Lib.hid (show ∀ z, z ∈ S20 → w.heap.size ≤ z ∧ z < w1.heap.size from t1.foot)
  clear NT t1 m1 k1 c0 c4
  go_wp2_with fail
  go_loopw [3] (fun z3 wr => ∃ i : Nat, i ≤ n ∧ z3 = .int .i64 i ∧ Hid (RPrI t2 w.heap.size S20 m f vs c w1 i wr)) (fun z3 _ => n - (intOf z3).toNat)
  case atStart => exact ⟨0, Nat.zero_le _, rfl, Lib.hid ⟨S20, T1.out, M1.out, Keeps.refl _ _, Grew.refl _ _⟩⟩
  case round =>
    obtain ⟨i, hi, rfl, I⟩ := hrel
    obtain ⟨S2, J⟩ : ∃ S2, Hid (RTabAt t2 w.heap.size S2 m (privT f vs i) wr ∧ CtrAt m (privC f vs c i) wr ∧ Keeps (S20 ++ mS m) w1 wr ∧ Grew S20 w1 S2) := by
      obtain ⟨S2, h⟩ := I.out; exact ⟨S2, Lib.hid h⟩
    have KW := Lib.hid (show Keeps (mS m) w wr from K1.out.then J.out.2.2.1 (fun z hz => by
      rcases List.mem_append.1 hz with h | h
      · exact .inl (F20.out z h).1
      · exact .inr h))
    have AW := Lib.hid (HA.out.met KW.out J.out.2.1)
    obtain ⟨cN, h9, _⟩ := AW.out.F.b
    obtain ⟨ar, cr, hS, b1, v1⟩ := AW.out.s
    rw [← hn.out] at b1 v1
    have s0 : wr.cell? ⟨sb, 0, none⟩ = some (.pointer (some ⟨fb, 0, none⟩)) := cell_has b1 (i := 0) rfl
    have s1 : wr.cell? ⟨sb, 1, none⟩ = some (.slice ar n cr) := cell_has b1 (i := 1) rfl
    by_cases hlt : i < n
    · have i1 : (i : Int) < (n : Int) := by omega
      have i0 : (0 : Int) ≤ (i : Int) := by omega
      have f2 : wr.cell? ⟨fb, 2, none⟩ = some (.pointer (some ⟨t, 0, none⟩)) := cell_has h9 (i := 2) rfl
      obtain ⟨x, q, e2, e4, e7, e8⟩ := NX.out i (by rw [← hn.out]; exact hlt)
      have hge := (List.getElem?_eq_some_iff.1 e2).1
      obtain ⟨ta, tc, tcb, g1, g2, _⟩ := AW.out.F.k
      obtain ⟨ga, rfl⟩ := g2.shape (by omega)
      obtain ⟨nE, hnE⟩ := ex_hid f.K.E.length
      rw [← hnE.out] at g1 hge
      have y0 : wr.cell? ⟨t, 0, none⟩ = some (.slice (some ⟨ga, 0, none⟩) nE tc) := cell_has g1 (i := 0) rfl
      have gE : (i : Int) < (nE : Int) := by omega
      obtain ⟨u0, u1, u2, u3, u4⟩ := g2.five e2
      obtain ⟨gr, rfl⟩ := v1.shape (by omega)
      have V1 := Lib.hid v1
      have NXT := Lib.hid (And.intro e7 e8)
      have XK := Lib.hid e4
      have B1 := Lib.hid b1
      have RD := Lib.hid (show ∀ W, Keeps [] wr W → Calls Tryz.prog 56 #[.pointer (some ⟨t2, 0, none⟩), .int .i64 x.hash, .int .i64 x.key, .int .i64 (vs.getD i 0)] W (RAddP t2 w.heap.size S2 m (if (privT f vs i).E.length = (privT f vs i).room then (privC f vs c i).tab else privC f vs c i) (privT f vs i).ready x.hash x.key (vs.getD i 0) W) from fun W k =>
        radd_any i (by omega) t2 w.heap.size S2 m (privC f vs c i) (privT f vs i) W (J.out.1.keeps k (by simp)) (J.out.2.1.keeps k (by simp)) (fun b hb => lt_of_block (HMB.out b hb)) (HT.out i (by have := hn.out; omega)) x.hash x.key (vs.getD i 0))
      obtain ⟨xv, hxv⟩ := ex_hid (vs.getD i 0)
      have y9 : wr.cell? ⟨gr, i, none⟩ = some (.int .i64 xv) := by rw [hxv.out]; exact v1.cell (k := i) hlt
      rw [← hxv.out] at RD NXT
      clear e2 e4 e7 e8 g1 g2 v1 b1 h9 hge hS
      go_upto_region 5 with (fail)
      refine wp_gen (fun V => V.heap[wr.heap.size]? = some (.cells #[.bool x.live, .int .i64 x.hash, .int .i64 x.key, .int .i64 x.val, .int .i64 x.birth] 99 (0, 0)) ∧ Keeps [] wr V) ⟨has_new _ _, (Keeps.refl [] wr).alloc _⟩ ?_
      rintro w5 ⟨b5, k5⟩
      obtain ⟨D, hD⟩ := ex_hid wr.heap.size
      rw [← hD.out] at b5 ⊢
      have z1 : w5.cell? ⟨D, 1, none⟩ = some (.int .i64 x.hash) := cell_has b5 (i := 1) rfl
      have z2 : w5.cell? ⟨D, 2, none⟩ = some (.int .i64 x.key) := cell_has b5 (i := 2) rfl
      have z3 : w5.cell? ⟨sb, 1, none⟩ = some (.slice (some ⟨gr, 0, none⟩) n cr) := k5.cell s1 (by simp)
      have z4 : w5.cell? ⟨gr, i, none⟩ = some (.int .i64 xv) := k5.cell y9 (by simp)
      have K5 := Lib.hid k5
      have AD := RD.out w5.drew (k5.trans (Keeps.refl [] w5).drew)
      have off : ∀ z, (lo ≤ z ∧ z < w.heap.size) ∨ z = D → z ∉ S2 ++ mS m := fun z hz hy => by
        rcases List.mem_append.1 hy with h | h
        · have h8 := J.out.1.foot z h
          have := hD.out
          omega
        · rcases hz with hz | hz
          · exact AW.out.offm z hz.1 h
          · have := hD.out
            have := KW.out.size
            cases m with
            | none => simp [mS] at h
            | some b => simp [mS] at h; have := lt_of_block (HMB.out b rfl); omega
      have oD := off D (.inr rfl)
      have oS := off sb (.inl ⟨HA.out.ls, sfl⟩)
      have oR := off gr (.inl ⟨(V1.out.blk_lt gr (by simp [blk])).1, by
        obtain ⟨ar9, cr9, _, b9, v9⟩ := HA.out.s
        have b8 := KW.out.has b9 (HA.out.offm _ HA.out.ls)
        rw [B1.out] at b8
        unfold rspO at b8
        simp only [Option.some.injEq, Obj.cells.injEq, Array.mk.injEq, List.cons.injEq, Value.slice.injEq, true_and, and_true] at b8
        have b7 := b8.1
        exact (v9.blk_lt gr (by rw [← b7]; simp [blk])).2⟩)
      clear RD k5 b5 s1 y9 y0 u0 u1 u2 u3 u4 f2 off
      go_region_held3 (fun w' => w'.cell? ⟨D, 1, none⟩ = some (.int .i64 x.hash) ∧ w'.cell? ⟨D, 2, none⟩ = some (.int .i64 x.key) ∧ w'.cell? ⟨sb, 1, none⟩ = some (.slice (some ⟨gr, 0, none⟩) n cr) ∧ w'.cell? ⟨gr, i, none⟩ = some (.int .i64 xv)) (go_keep)
        (first | (go_at_call 56; refine AD.mono ?_; rintro r w6 ⟨S3, rfl, t6, m6, k6, gr6⟩; have T6 := Lib.hid t6; have M6 := Lib.hid m6; have K6 := Lib.hid k6; have G6 := Lib.hid gr6; have v1 := k6.cell (w := w5.drew) z1 oD; have v2 := k6.cell (w := w5.drew) z2 oD; have v3 := k6.cell (w := w5.drew) z3 oS; have v4 := k6.cell (w := w5.drew) z4 oR; clear t6 m6 k6 gr6))
      have NEXT := Lib.hid (show RPrI t2 w.heap.size S20 m f vs c w1 (i + 1) w6 from by
        refine ⟨S3, ?_, ?_, ?_, ?_⟩
        · rw [NXT.out.1, ← XK.out]; exact T6.out
        · rw [NXT.out.2 c]; exact M6.out
        · refine (J.out.2.2.1.trans ((K5.out.trans (Keeps.refl [] w5).drew).mono (by simp))).then K6.out (fun z hz => ?_)
          rcases List.mem_append.1 hz with h | h
          · rcases J.out.2.2.2 z h with h9 | h9
            · exact .inr (by simp [h9])
            · exact .inl h9
          · exact .inr (by simp [h])
        · intro z hz
          rcases G6.out z hz with h | h
          · exact J.out.2.2.2 z h
          · right
            have := J.out.2.2.1.size
            have := (K5.out.trans (Keeps.refl [] w5).drew).size
            omega)
      clear v1 v2 v3 v4 z1 z2 z3 z4 AD
      go_wp2_with fail
      go_roundw
      case rel => exact ⟨i + 1, by omega, by go_num, NEXT⟩
      case measure => simp [intOf]; omega
    · obtain rfl : i = n := by omega
      have hge : ¬ (i : Int) < (i : Int) := by omega
      have T9 := Lib.hid (show RTabAt t2 w.heap.size S2 m (privT f vs vs.length) wr from by rw [← hn.out]; exact J.out.1)
      have AV := Lib.hid (show RAt10 fb sb t lo a ST S m f (.row vs) ver (privC f vs c vs.length) wr from by rw [← hn.out]; exact AW.out)
      have S2F := Lib.hid (show ∀ z, z ∈ S2 → w.heap.size ≤ z ∧ z < wr.heap.size from J.out.1.foot)
      have sf1 := free_of_has b1 1
      have sf2 := free_of_has b1 2
      have B1 := Lib.hid b1
      clear J I AW h9 v1 b1
      have kA : Keeps [sb] wr ((wr.setCell ⟨sb, 2, none⟩ (.pointer (some ⟨t2, 0, none⟩))).setCell ⟨sb, 1, none⟩ (.slice none 0 0)) := ((Keeps.refl _ _).setCell (.inr (by simp)) _).setCell (.inr (by simp)) _
      have bA : ((wr.setCell ⟨sb, 2, none⟩ (.pointer (some ⟨t2, 0, none⟩))).setCell ⟨sb, 1, none⟩ (.slice none 0 0)).heap[sb]? = some (rspO fb (.slice none 0 0) (.pointer (some ⟨t2, 0, none⟩)) (ver : Nat)) := by
        have h1 := has_setCell B1.out 2 (.pointer (some ⟨t2, 0, none⟩))
        exact has_setCell h1 1 (.slice none 0 0)
      have A2 : RAt10 fb sb t lo a ST S2 m f (.own (privT f vs vs.length)) ver (privC f vs c vs.length) ((wr.setCell ⟨sb, 2, none⟩ (.pointer (some ⟨t2, 0, none⟩))).setCell ⟨sb, 1, none⟩ (.slice none 0 0)) := by
        have dF : ∀ z, z ∈ rfamS fb a ST → z < w.heap.size := fun z hz => (HA.out.F.foot z hz).2
        have dS : sb ∉ S2 := fun h => by have := (S2F.out _ h).1; omega
        refine ⟨AV.out.F.keeps kA (fun z hz hy => AV.out.d1 z hz (by simp at hy; simp [hy])), ⟨t2, w.heap.size, bA, T9.out.keeps kA (fun z hz hy => by simp at hy; subst hy; exact dS hz), by have := HA.out.ls; omega⟩, AV.out.M.keeps kA (fun b hb hy => by simp at hy; have := HA.out.hm b hb; have := HA.out.ls; omega), fun z hz hy => ?_, dS, HA.out.ls, HA.out.hm⟩
        rcases List.mem_cons.1 hy with e | e
        · exact HA.out.d1 z hz (by simp [e])
        · have := (S2F.out z e).1; have := dF z hz; omega
      have A3 := Lib.hid A2
      have K3 := Lib.hid (show Keeps (sb :: mS m) w ((wr.setCell ⟨sb, 2, none⟩ (.pointer (some ⟨t2, 0, none⟩))).setCell ⟨sb, 1, none⟩ (.slice none 0 0)) from (KW.out.mono (fun z hz => by simp [hz])).trans (kA.mono (by simp)))
      have s2 : wr.cell? ⟨sb, 2, none⟩ = some (.pointer none) := cell_has B1.out (i := 2) rfl
      have s1b : (wr.setCell ⟨sb, 2, none⟩ (.pointer (some ⟨t2, 0, none⟩))).cell? ⟨sb, 1, none⟩ = some (.slice ar i cr) := cell_has (has_setCell B1.out 2 (.pointer (some ⟨t2, 0, none⟩))) (i := 1) rfl
      have sf3 := free_of_has (has_setCell B1.out 2 (.pointer (some ⟨t2, 0, none⟩))) 1
      clear kA bA A2 AV T9
      go_upto_region 8 with (fail)
      refine wp_gen (fun V => RAt10 fb sb t lo a ST S2 m f (.own (privT f vs vs.length)) ver (privC f vs c vs.length) V ∧ Keeps (sb :: mS m) w V) ⟨A3.out, K3.out⟩ ?_
      rintro w8 ⟨a8, k8⟩
      obtain ⟨cM, h9, _⟩ := a8.F.b
      obtain ⟨t9, lo9, b9, _, _⟩ := a8.s
      have A8 := Lib.hid a8
      have K8 := Lib.hid k8
      have v0 : w8.cell? ⟨sb, 0, none⟩ = some (.pointer (some ⟨fb, 0, none⟩)) := cell_has b9 (i := 0) rfl
      clear A3 K3 s0 sf1 sf2 b9 k8 s1 s2 s1b sf3
      cases m with
      | none =>
        have v4 : w8.cell? ⟨fb, 4, none⟩ = some (.pointer none) := cell_has h9 (i := 4) rfl
        clear h9 a8
        go_wp2_with fail
        go_end0
        exact ⟨rfl, S2, ⟨A8.out.F, A8.out.s, CtrAt.nil _ _, A8.out.d1, A8.out.d2, A8.out.ls, A8.out.hm⟩, K8.out, fun z hz => (S2F.out z hz).1⟩
      | some b =>
        have v4 : w8.cell? ⟨fb, 4, none⟩ = some (.pointer (some ⟨b, 0, none⟩)) := cell_has h9 (i := 4) rfl
        have hb := a8.M b rfl
        obtain ⟨c9, hc9⟩ := ex_hid (privC f vs c vs.length)
        rw [← hc9.out] at hb A8
        have v5 : w8.cell? ⟨b, 3, none⟩ = some (.int .i64 c9.d) := cell_has hb (i := 3) rfl
        have vf := free_of_has hb 3
        have HB8 := Lib.hid hb
        clear h9 a8 hb
        go_wp2_with fail
        go_end0
        have km : Keeps (mS (some b)) w8 (w8.setCell ⟨b, 3, none⟩ (.int .i64 (wrap64 (c9.d + 1)))) := (Keeps.refl _ _).setCell (.inr (by simp [mS])) _
        exact ⟨rfl, S2, by rw [← hc9.out]; exact A8.out.met km (fun b' hb' => by cases hb'; exact ctr_shf HB8.out), K8.out.trans (km.mono (fun z hz => by simp [hz])), fun z hz => (S2F.out z hz).1⟩
end Go.Proofs.YtajmfenfajbakaaGreat
