/- The document's Len and Get; its Set where the name is there, or where there is no room (chapter 10). -/
import Derived.Test.YtajmfenfajbakaaGreatRsD
namespace Go.Proofs.YtajmfenfajbakaaGreat
open Go.RowKit
set_option linter.unusedVariables false
set_option linter.unusedSimpArgs false

theorem rlen10_any {fb sb t lo : Nat} {a : Option Addr} {ST S : List Nat} {m : Option Nat} {f : Fam} {wy : Way10} {ver : Nat} {c : C4} {w : World} (A : RAt10 fb sb t lo a ST S m f wy ver c w) :
    Calls Tryz.prog 34 #[.pointer (some ⟨sb, 0, none⟩)] w fun r w' => r = .returned (.int .i64 (wy.len : Nat)) ∧ w = w' := by
  have hs := A.s
  clear A
  cases wy with
  | row vs =>
    obtain ⟨ar, cr, rfl, b1, v1⟩ := hs
    have s1 : w.cell? ⟨sb, 1, none⟩ = some (.slice ar vs.length cr) := cell_has b1 (i := 1) rfl
    have s2 : w.cell? ⟨sb, 2, none⟩ = some (.pointer none) := cell_has b1 (i := 2) rfl
    obtain ⟨n, hn⟩ := ex_hid vs.length
    rw [← hn.out] at s1
    rw [show (Way10.row vs).len = n from hn.out.symm]
    clear b1 v1
    go_enter Tryz.func34, Tryz.ntmps34
    go_wp2_with fail
    go_ret
    exact ⟨rfl, rfl⟩
  | own T =>
    obtain ⟨t2, lo2, b1, v1, _⟩ := hs
    obtain ⟨ta, tc, tq, h1, _⟩ := v1
    have s2 : w.cell? ⟨sb, 2, none⟩ = some (.pointer (some ⟨t2, 0, none⟩)) := cell_has b1 (i := 2) rfl
    have s3 : w.cell? ⟨t2, 3, none⟩ = some (.int .i64 (liveN T.E : Nat)) := cell_has h1 (i := 3) rfl
    rw [show (Way10.own T).len = liveN T.E from rfl]
    clear b1 h1
    go_enter Tryz.func34, Tryz.ntmps34
    go_wp2_with fail
    go_ret
    exact ⟨rfl, rfl⟩
theorem rowFindI_nat {vs : List Int} {i : Int} (h : 0 ≤ rowFindI vs i) : ∃ n : Nat, rowFindI vs i = (n : Int) ∧ n < vs.length := by
  unfold rowFindI at h ⊢
  split
  · rename_i hl
    rw [if_pos hl] at h
    exact ⟨i.toNat, by omega, by omega⟩
  · rename_i hl
    rw [if_neg hl] at h; omega
def FoundW (wy : Way10) (g : Nat) : Prop :=
  match wy with
  | .row vs => g < vs.length
  | .own T => ∃ y, T.E[g]? = some y ∧ y.live = true
/-- A name that is found: where. -/
theorem Good10.found {k j : Nat} {f : Fam} {ks : List ByteArray} {wy : Way10} (G : Good10 k j f ks wy) (s : ByteArray) (c : C4) (h : 0 ≤ (findW f s c wy).1) :
    ∃ g : Nat, (findW f s c wy).1 = (g : Int) ∧ FoundW wy g := by
  cases wy with
  | row vs => exact rowFindI_nat h
  | own T =>
    have hw : OwnOk j f.N T := G.w
    rcases hw.find G.fk.nn s c with ⟨g, y, h1, h2, h3, _⟩ | ⟨h1, _⟩
    · exact ⟨g, h1, y, h2, h3⟩
    · exact absurd (show (0 : Int) ≤ (seekR T (numI f.N s) (txtH s) c).1 from h) (by omega)
set_option maxRecDepth 100000 in
theorem rget10_any {k j fb sb t lo : Nat} {a : Option Addr} {ST S : List Nat} {m : Option Nat} {f : Fam} {ks : List ByteArray} {wy : Way10} {ver : Nat} {c : C4} {w : World} (G : Good10 k j f ks wy) (A : RAt10 fb sb t lo a ST S m f wy ver c w) (s : ByteArray) (hs : s.size ≤ 1000000) :
    Calls Tryz.prog 30 #[.pointer (some ⟨sb, 0, none⟩), .string s] w fun r w' => r = .returned (.tuple #[.int .i64 (if 0 ≤ (findW f s c wy).1 then valW (findW f s c wy).1 wy else 0), .bool (decide (0 ≤ (findW f s c wy).1))]) ∧ CtrAt m (findW f s c wy).2 w' ∧ Keeps (mS m) w w' := by
  have FI := rfinds_any G A s hs
  have HA := Lib.hid A
  obtain ⟨c1, hc1⟩ := ex_hid (findW f s c wy).2
  rw [← hc1.out] at FI ⊢
  by_cases h0 : 0 ≤ (findW f s c wy).1
  · rw [if_pos h0, decide_eq_true h0]
    obtain ⟨n, hn, hm⟩ := G.found s c h0
    rw [hn] at FI ⊢
    clear G A h0 hn
    cases wy with
    | row vs =>
      have hm : n < vs.length := hm
      have VW := Lib.hid (show valW (n : Int) (.row vs) = vs.getD n 0 from by unfold valW; simp)
      rw [VW.out]
      obtain ⟨nv, hnv⟩ := ex_hid vs.length
      rw [← hnv.out] at hm
      have nn : (n : Int) < (nv : Int) := by omega
      have n0 : (0 : Int) ≤ (n : Int) := by omega
      clear VW
      go_enter Tryz.func30, Tryz.ntmps30
      go_wp2_with fail
      refine FI.mono ?_
      rintro r w1 ⟨rfl, m1, k1⟩
      obtain ⟨ar, cr, _, b1, v1⟩ := (HA.out.met k1 m1).s
      have M1 := Lib.hid m1
      have K1 := Lib.hid k1
      rw [← hnv.out] at b1 v1
      obtain ⟨gr, rfl⟩ := v1.shape (by omega)
      have s1 : w1.cell? ⟨sb, 1, none⟩ = some (.slice (some ⟨gr, 0, none⟩) nv cr) := cell_has b1 (i := 1) rfl
      have s2 : w1.cell? ⟨sb, 2, none⟩ = some (.pointer none) := cell_has b1 (i := 2) rfl
      have s3 : w1.cell? ⟨gr, n, none⟩ = some (.int .i64 (vs.getD n 0)) := v1.cell (k := n) hm
      clear FI b1 v1 m1 k1
      go_wp2_with fail
      go_ret2
      exact ⟨rfl, M1.out, K1.out⟩
    | own T =>
      obtain ⟨y, h1, h2⟩ := hm
      have VW := Lib.hid (show valW (n : Int) (.own T) = y.val from by
        show (atE (T.ent (n : Int))).val = y.val
        rw [show T.ent (n : Int) = some y from by unfold Tab.ent; rw [if_pos (by omega)]; simp [h1, h2]]
        rfl)
      rw [VW.out]
      have hlt := (List.getElem?_eq_some_iff.1 h1).1
      have HY := Lib.hid h1
      obtain ⟨nE, hnE⟩ := ex_hid T.E.length
      rw [← hnE.out] at hlt
      have nn : (n : Int) < (nE : Int) := by omega
      have n0 : (0 : Int) ≤ (n : Int) := by omega
      clear VW h1 h2
      go_enter Tryz.func30, Tryz.ntmps30
      go_wp2_with fail
      refine FI.mono ?_
      rintro r w1 ⟨rfl, m1, k1⟩
      obtain ⟨t2, lo2, b1, v1, _⟩ := (HA.out.met k1 m1).s
      have M1 := Lib.hid m1
      have K1 := Lib.hid k1
      obtain ⟨ta, tc, tq, h1, h2, _⟩ := v1
      obtain ⟨ge, rfl⟩ := h2.shape (by have := hnE.out; omega)
      rw [← hnE.out] at h1
      have s2 : w1.cell? ⟨sb, 2, none⟩ = some (.pointer (some ⟨t2, 0, none⟩)) := cell_has b1 (i := 2) rfl
      have s3 : w1.cell? ⟨t2, 0, none⟩ = some (.slice (some ⟨ge, 0, none⟩) nE tc) := cell_has h1 (i := 0) rfl
      have s4 : w1.cell? ⟨ge, n * 5 + 3, none⟩ = some (.int .i64 y.val) := (h2.five HY.out).2.2.2.1
      clear FI b1 h1 h2 m1 k1
      go_wp2_with fail
      go_ret2
      exact ⟨rfl, M1.out, K1.out⟩
  · rw [if_neg h0, decide_eq_false h0]
    obtain ⟨g, hg⟩ := ex_hid (findW f s c wy).1
    rw [← hg.out] at FI h0
    have g0 : g < 0 := by omega
    clear G A h0
    go_enter Tryz.func30, Tryz.ntmps30
    go_wp2_with fail
    refine FI.mono ?_
    rintro r w1 ⟨rfl, m1, k1⟩
    have M1 := Lib.hid m1
    have K1 := Lib.hid k1
    clear m1 k1 FI
    go_wp2_with fail
    go_ret2
    exact ⟨rfl, M1.out, K1.out⟩
/-- Behind a call that may change the namespace and its family. -/
def RDid10 (fb sb t lo : Nat) (a : Option Addr) (ST S : List Nat) (m : Option Nat) (e : Int) (f' : Fam) (wy' : Way10) (ver' : Nat) (c' : C4) (w : World) (r : Ending) (w' : World) : Prop :=
  r = .returned (.int .i64 e) ∧ ∃ a' ST' S', RAt10 fb sb t lo a' ST' S' m f' wy' ver' c' w' ∧ Keeps (rfamS fb a ST ++ (sb :: S) ++ mS m) w w' ∧ Grew (rfamS fb a ST) w (rfamS fb a' ST') ∧ Grew (sb :: S) w (sb :: S')
section
variable {fb sb t lo : Nat} {a : Option Addr} {ST S : List Nat} {m : Option Nat} {f : Fam} {wy : Way10} {ver : Nat} {c : C4} {W W' : World}
/-- What cells its block has. -/
theorem RAt10.block (A : RAt10 fb sb t lo a ST S m f wy ver c W) : ∃ row own, W.heap[sb]? = some (rspO fb row own (ver : Nat)) := by
  have h := A.s
  cases wy with
  | row vs => obtain ⟨ar, cr, _, h1, _⟩ := h; exact ⟨_, _, h1⟩
  | own T => obtain ⟨t2, lo2, h1, _⟩ := h; exact ⟨_, _, h1⟩
/-- Another version. -/
theorem RAt10.bump (A : RAt10 fb sb t lo a ST S m f wy ver c W) (n : Nat) : RAt10 fb sb t lo a ST S m f wy n c (W.setCell ⟨sb, 3, none⟩ (.int .i64 (n : Nat))) ∧ Keeps [sb] W (W.setCell ⟨sb, 3, none⟩ (.int .i64 (n : Nat))) := by
  have k : Keeps [sb] W (W.setCell ⟨sb, 3, none⟩ (.int .i64 (n : Nat))) := (Keeps.refl _ _).setCell (.inr (by simp)) _
  refine ⟨⟨A.F.keeps k (fun z hz hy => A.d1 z hz (by simp at hy; simp [hy])), ?_, A.M.keeps k (fun b hb hy => by simp at hy; have := A.hm b hb; have := A.ls; omega), A.d1, A.d2, A.ls, A.hm⟩, k⟩
  have h := A.s
  cases wy with
  | row vs =>
    obtain ⟨ar, cr, rfl, h1, h2⟩ := h
    exact ⟨ar, cr, rfl, has_setCell h1 3 _, h2.keeps k (fun z hz hy => by simp at hy; subst hy; exact A.d2 hz)⟩
  | own T =>
    obtain ⟨t2, lo2, h1, h2, h3⟩ := h
    exact ⟨t2, lo2, has_setCell h1 3 _, h2.keeps k (fun z hz hy => by simp at hy; subst hy; exact A.d2 hz), h3⟩
end
theorem rbump10 {n : Nat} (h : n ≤ 1000000) : wrap64 ((n : Int) + 1) = ((n + 1 : Nat) : Int) := by rw [IntWalk.wrap64_in _ (by omega)]; omega
set_option maxRecDepth 100000 in
theorem rset_oown {k j fb sb t lo : Nat} {a : Option Addr} {ST S : List Nat} {m : Option Nat} {f : Fam} {ks : List ByteArray} {T : Tab} {ver : Nat} {c : C4} {w : World} (G : Good10 k j f ks (.own T)) (A : RAt10 fb sb t lo a ST S m f (.own T) ver c w) (s : ByteArray) (v : Int) (hs : s.size ≤ 1000000) (hver : ver ≤ 1000000) (h0 : 0 ≤ (findW f s c (.own T)).1) :
    Calls Tryz.prog 29 #[.pointer (some ⟨sb, 0, none⟩), .string s, .int .i64 v] w (RDid10 fb sb t lo a ST S m 0 f (.own (T.put (findW f s c (.own T)).1 v)) (ver + 1) (findW f s c (.own T)).2 w) := by
  have FI := rfinds_any G A s hs
  have hw : OwnOk j f.N T := G.w
  have hTE : T.E.length ≤ 1000000 := by have := hw.t.ek; have := G.j9; omega
  have HA := Lib.hid A
  obtain ⟨c1, hc1⟩ := ex_hid (findW f s c (.own T)).2
  obtain ⟨g, hg⟩ := ex_hid (findW f s c (.own T)).1
  rw [← hc1.out, ← hg.out] at FI
  rw [← hg.out] at h0
  rw [← hc1.out, ← hg.out]
  have hv1 : wrap64 ((ver : Int) + 1) = ((ver + 1 : Nat) : Int) := rbump10 hver
  clear G A hw
  go_enter Tryz.func29, Tryz.ntmps29
  go_wp2_with fail
  refine FI.mono ?_
  rintro r w1 ⟨rfl, m1, k1⟩
  have A1 := Lib.hid (HA.out.met k1 m1)
  have K1 := Lib.hid k1
  obtain ⟨t2, lo2, b1, v1, l1⟩ := A1.out.s
  have s2 : w1.cell? ⟨sb, 2, none⟩ = some (.pointer (some ⟨t2, 0, none⟩)) := cell_has b1 (i := 2) rfl
  have PU := rput_any t2 lo2 S m T w1 v1 hTE g v
  have L1 := Lib.hid l1
  have B1 := Lib.hid b1
  clear FI m1 k1 b1 v1 l1
  go_wp2_with fail
  refine PU.mono ?_
  rintro r w2 ⟨rfl, t3, k3⟩
  have A2 := Lib.hid (show RAt10 fb sb t lo a ST S m f (.own (T.put g v)) ver c1 w2 from
    ⟨A1.out.F.keeps k3 (fun z hz hy => A1.out.d1 z hz (by simp [hy])), ⟨t2, lo2, k3.has B1.out A1.out.d2, t3, L1.out⟩, A1.out.M.keeps k3 (fun b hb hy => by have := A1.out.hm b hb; have := (A1.out.s.foot.2 b hy).1; omega), A1.out.d1, A1.out.d2, A1.out.ls, A1.out.hm⟩)
  have K2 := Lib.hid (show Keeps (rfamS fb a ST ++ (sb :: S) ++ mS m) w w2 from (K1.out.mono (fun z hz => by simp [hz])).trans (k3.mono (fun z hz => by simp [hz])))
  obtain ⟨A3, K3⟩ := A2.out.bump (ver + 1)
  have A4 := Lib.hid A3
  have K4 := Lib.hid K3
  obtain ⟨row, own, b2⟩ := A2.out.block
  have s3 : w2.cell? ⟨sb, 3, none⟩ = some (.int .i64 (ver : Nat)) := cell_has b2 (i := 3) rfl
  have sf := free_of_has b2 3
  clear PU t3 k3 A3 K3 b2 s2 h0
  go_wp2_with fail
  go_ret
  exact ⟨rfl, a, ST, S, A4.out, K2.out.trans (K4.out.mono (by simp)), Grew.refl _ _, Grew.refl _ _⟩
set_option maxRecDepth 100000 in
theorem rset_orow {k j fb sb t lo : Nat} {a : Option Addr} {ST S : List Nat} {m : Option Nat} {f : Fam} {ks : List ByteArray} {vs : List Int} {ver : Nat} {c : C4} {w : World} (G : Good10 k j f ks (.row vs)) (A : RAt10 fb sb t lo a ST S m f (.row vs) ver c w) (s : ByteArray) (v : Int) (hs : s.size ≤ 1000000) (hver : ver ≤ 1000000) (h0 : 0 ≤ (findW f s c (.row vs)).1) :
    Calls Tryz.prog 29 #[.pointer (some ⟨sb, 0, none⟩), .string s, .int .i64 v] w (RDid10 fb sb t lo a ST S m 0 f (.row (vs.set (findW f s c (.row vs)).1.toNat v)) (ver + 1) (findW f s c (.row vs)).2 w) := by
  have FI := rfinds_any G A s hs
  obtain ⟨n, hn, hlt⟩ := G.found s c h0
  have HA := Lib.hid A
  obtain ⟨c1, hc1⟩ := ex_hid (findW f s c (.row vs)).2
  rw [← hc1.out, hn] at FI
  rw [← hc1.out, hn]
  have hlt : n < vs.length := hlt
  simp only [Int.toNat_natCast]
  have hv1 : wrap64 ((ver : Int) + 1) = ((ver + 1 : Nat) : Int) := rbump10 hver
  obtain ⟨nv, hnv⟩ := ex_hid vs.length
  rw [← hnv.out] at hlt
  have nn : (n : Int) < (nv : Int) := by omega
  have n0 : (0 : Int) ≤ (n : Int) := by omega
  clear G A hn h0
  go_enter Tryz.func29, Tryz.ntmps29
  go_wp2_with fail
  refine FI.mono ?_
  rintro r w1 ⟨rfl, m1, k1⟩
  have A1 := Lib.hid (HA.out.met k1 m1)
  have K1 := Lib.hid k1
  obtain ⟨ar, cr, hS, b1, v1⟩ := A1.out.s
  rw [← hnv.out] at b1
  obtain ⟨gr, rfl⟩ := v1.shape (by have := hnv.out; omega)
  have s1 : w1.cell? ⟨sb, 1, none⟩ = some (.slice (some ⟨gr, 0, none⟩) nv cr) := cell_has b1 (i := 1) rfl
  have s2 : w1.cell? ⟨sb, 2, none⟩ = some (.pointer none) := cell_has b1 (i := 2) rfl
  have s4 : w1.cell? ⟨gr, n, none⟩ = some (.int .i64 (vs.getD n 0)) := v1.cell (k := n) (by have := hnv.out; omega)
  have sf := v1.free n
  have k3 : Keeps S w1 (w1.setCell ⟨gr, n, none⟩ (.int .i64 v)) := (Keeps.refl _ _).setCell (.inr (by rw [hS]; simp [blk])) _
  have v3 := (v1.put n (.int .i64 v)).congr (fun q hq => intL_set vs n v (by have := hnv.out; omega) q hq)
  have A2 := Lib.hid (show RAt10 fb sb t lo a ST S m f (.row (vs.set n v)) ver c1 (w1.setCell ⟨gr, n, none⟩ (.int .i64 v)) from
    ⟨A1.out.F.keeps k3 (fun z hz hy => A1.out.d1 z hz (by simp [hy])), ⟨some ⟨gr, 0, none⟩, cr, hS, by rw [List.length_set, ← hnv.out]; exact k3.has b1 A1.out.d2, by rw [List.length_set]; exact v3⟩, A1.out.M.keeps k3 (fun b hb hy => by have := A1.out.hm b hb; have := (A1.out.s.foot.2 b hy).1; omega), A1.out.d1, A1.out.d2, A1.out.ls, A1.out.hm⟩)
  have K2 := Lib.hid (show Keeps (rfamS fb a ST ++ (sb :: S) ++ mS m) w (w1.setCell ⟨gr, n, none⟩ (.int .i64 v)) from (K1.out.mono (fun z hz => by simp [hz])).trans (k3.mono (fun z hz => by simp [hz])))
  clear FI m1 k1 b1 v1 k3 v3
  go_upto_region 6 with (fail)
  refine wp_gen (fun V => RAt10 fb sb t lo a ST S m f (.row (vs.set n v)) ver c1 V ∧ Keeps (rfamS fb a ST ++ (sb :: S) ++ mS m) w V) ⟨A2.out, K2.out⟩ ?_
  rintro w2 ⟨a2, k2⟩
  have K3 := Lib.hid k2
  obtain ⟨A3, K4⟩ := a2.bump (ver + 1)
  have A4 := Lib.hid A3
  have K5 := Lib.hid K4
  obtain ⟨row, own, b2⟩ := a2.block
  have s3 : w2.cell? ⟨sb, 3, none⟩ = some (.int .i64 (ver : Nat)) := cell_has b2 (i := 3) rfl
  have sf3 := free_of_has b2 3
  clear a2 k2 A3 K4 b2 s1 s2 s4 sf
  go_wp2_with fail
  go_ret
  exact ⟨rfl, a, ST, S, A4.out, K3.out.trans (K5.out.mono (by simp)), Grew.refl _ _, Grew.refl _ _⟩
set_option maxRecDepth 100000 in
theorem rset_full {k j fb sb t lo : Nat} {a : Option Addr} {ST S : List Nat} {m : Option Nat} {f : Fam} {ks : List ByteArray} {wy : Way10} {ver : Nat} {c : C4} {w : World} (G : Good10 k j f ks wy) (A : RAt10 fb sb t lo a ST S m f wy ver c w) (s : ByteArray) (v : Int) (hs : s.size ≤ 1000000) (h0 : ¬ 0 ≤ (findW f s c wy).1) (hf : f.pairs ≤ (wy.len : Int)) :
    Calls Tryz.prog 29 #[.pointer (some ⟨sb, 0, none⟩), .string s, .int .i64 v] w (RDid10 fb sb t lo a ST S m 6 f wy ver (findW f s c wy).2 w) := by
  have FI := rfinds_any G A s hs
  have HA := Lib.hid A
  obtain ⟨c1, hc1⟩ := ex_hid (findW f s c wy).2
  obtain ⟨g, hg⟩ := ex_hid (findW f s c wy).1
  rw [← hc1.out, ← hg.out] at FI
  rw [← hg.out] at h0
  rw [← hc1.out]
  have g0 : g < 0 := by omega
  obtain ⟨n, hn⟩ := ex_hid wy.len
  rw [← hn.out] at hf
  obtain ⟨pr, hpr⟩ := ex_hid f.pairs
  rw [← hpr.out] at hf
  clear G A h0
  go_enter Tryz.func29, Tryz.ntmps29
  go_wp2_with fail
  refine FI.mono ?_
  rintro r w1 ⟨rfl, m1, k1⟩
  have A1 := Lib.hid (HA.out.met k1 m1)
  have K1 := Lib.hid k1
  obtain ⟨row, own, b1⟩ := A1.out.block
  obtain ⟨cN, f1, _⟩ := A1.out.F.b
  rw [← hpr.out] at f1
  have s0 : w1.cell? ⟨sb, 0, none⟩ = some (.pointer (some ⟨fb, 0, none⟩)) := cell_has b1 (i := 0) rfl
  have s1 : w1.cell? ⟨fb, 1, none⟩ = some (.int .i64 pr) := cell_has f1 (i := 1) rfl
  have LE := rlen10_any (A1.out.quiet (Keeps.refl [] w1).drew)
  rw [← hn.out] at LE
  clear FI m1 k1 b1 f1
  go_upto_region 8 with (fail)
  go_region_held3 (fun w' => w'.cell? ⟨sb, 0, none⟩ = some (.pointer (some ⟨fb, 0, none⟩)) ∧ w'.cell? ⟨fb, 1, none⟩ = some (.int .i64 pr)) (go_keep)
    (first | (go_at_call 34; refine LE.mono ?_; rintro r w2 ⟨rfl, rfl⟩))
  go_wp2_with fail
  go_ret
  exact ⟨rfl, a, ST, S, A1.out.quiet (Keeps.refl [] w1).drew, (K1.out.mono (fun z hz => by simp [hz])).drew, Grew.refl _ _, Grew.refl _ _⟩
end Go.Proofs.YtajmfenfajbakaaGreat
