/- The document's Set of a name that is new to a namespace (chapter 10). -/
import Derived.Test.YtajmfenfajbakaaGreatRsE
import Derived.Deep.RegionLaw
import Derived.Test.YtajmfenfajbakaaGreatPast
namespace Go.Proofs.YtajmfenfajbakaaGreat
open Go.RowKit
set_option linter.unusedVariables false
set_option linter.unusedSimpArgs false

section
variable {fb sb t lo : Nat} {a : Option Addr} {ST S : List Nat} {m : Option Nat} {f : Fam} {wy : Way10} {ver : Nat} {c : C4} {W W' : World}
/-- Its own table has changed. -/
theorem RAt10.added {T T' : Tab} {t2 lo2 : Nat} {S' : List Nat} {c' : C4} (A : RAt10 fb sb t lo a ST S m f (.own T) ver c W) (b : W.heap[sb]? = some (rspO fb (.slice none 0 0) (.pointer (some ⟨t2, 0, none⟩)) (ver : Nat))) (l : lo ≤ lo2) (hT : RTabAt t2 lo2 S' m T' W') (hM : CtrAt m c' W') (k : Keeps (S ++ mS m) W W') (g : Grew S W S') : RAt10 fb sb t lo a ST S' m f (.own T') ver c' W' := by
  have off : ∀ z, lo ≤ z → z ∉ S → z ∉ S ++ mS m := fun z hz h hy => (List.mem_append.1 hy).elim h (A.offm z hz)
  refine ⟨A.F.keeps k (fun z hz => off z (A.F.foot z hz).1 (fun h => A.d1 z hz (by simp [h]))), ⟨t2, lo2, k.has b (off _ A.ls A.d2), hT, l⟩, hM, fun z hz hy => ?_, fun h => ?_, A.ls, A.hm⟩
  · rcases List.mem_cons.1 hy with e | e
    · exact A.d1 z hz (by simp [e])
    · rcases g z e with h | h
      · exact A.d1 z hz (by simp [h])
      · have := (A.F.foot z hz).2; omega
  · rcases g _ h with h | h
    · exact A.d2 h
    · have := A.s.foot.1; omega
/-- Its family's key table has changed. -/
theorem RAt10.keyed {K' : Tab} {ST' : List Nat} {c' : C4} (A : RAt10 fb sb t lo a ST S m f wy ver c W) (hT : RTabAt t lo ST' m K' W') (hM : CtrAt m c' W') (k : Keeps (ST ++ mS m) W W') (g : Grew ST W ST') : RAt10 fb sb t lo a ST' S m { f with K := K' } wy ver c' W' := by
  have hF : ∀ z, z ∈ ST → z ∈ rfamS fb a ST := fun z hz => by unfold rfamS; simp [hz]
  have off : ∀ z, lo ≤ z → z ∉ ST → z ∉ ST ++ mS m := fun z hz h hy => (List.mem_append.1 hy).elim h (A.offm z hz)
  have nS : ∀ z, z ∈ sb :: S → z ∉ ST := fun z hz h => A.d1 z (hF z h) hz
  obtain ⟨cN, f1, f2⟩ := A.F.b
  have d1 := A.F.d1
  have new : ∀ z, z < W.heap.size → z ∉ ST → z ∉ ST' := fun z hz h hy => by
    rcases g z hy with h9 | h9
    · exact h h9
    · omega
  have fbn : fb ∉ ST := fun h => d1 (by simp [h])
  have han : ∀ z, z ∈ blk a → z ∉ ST := A.F.d3
  refine ⟨⟨⟨cN, k.has f1 (off _ A.F.l fbn), f2.keeps k (fun z hz => off z (f2.blk_lt z hz).1 (han z hz))⟩, hT, fun h => ?_, fun z hz => new z (f2.blk_lt z hz).2 (han z hz), A.F.l⟩, A.s.keeps k (off _ A.ls (nS _ (by simp))) (fun z hz => off z (A.s.foot.2 z hz).1 (nS z (by simp [hz]))), hM, fun z hz hy => ?_, A.d2, A.ls, A.hm⟩
  · rcases List.mem_append.1 h with h | h
    · exact d1 (by simp [h])
    · exact new fb (lt_of_block f1) fbn h
  · unfold rfamS at hz
    simp only [List.mem_cons, List.mem_append] at hz
    rcases hz with e | e | e
    · exact A.d1 z (by unfold rfamS; simp [e]) hy
    · exact A.d1 z (by unfold rfamS; simp [e]) hy
    · rcases g z e with h9 | h9
      · exact A.d1 z (hF z h9) hy
      · rcases List.mem_cons.1 hy with e | e
        · have := A.s.foot.1; omega
        · have := (A.s.foot.2 z e).2; omega
/-- A name more. -/
theorem RAt10.named {s : ByteArray} {g cap : Nat} (A : RAt10 fb sb t lo a ST S m f wy ver c W) (hn : numOf f.N s = none) (r : ValRow 9 lo (some ⟨g, 0, none⟩) (f.N.length + 1) cap (putV (strV f.N) f.N.length (.string s)) W') (k : Keeps (blk a) W W') (q : g ∈ blk a ∨ W.heap.size ≤ g) :
    RAt10 fb sb t lo (some ⟨g, 0, none⟩) ST S m (giveF f s) wy ver c (W'.setCell ⟨fb, 3, none⟩ (.slice (some ⟨g, 0, none⟩) (f.N.length + 1) cap)) ∧ Keeps (rfamS fb a ST) W (W'.setCell ⟨fb, 3, none⟩ (.slice (some ⟨g, 0, none⟩) (f.N.length + 1) cap)) ∧ Grew (rfamS fb a ST) W (rfamS fb (some ⟨g, 0, none⟩) ST) := by
  obtain ⟨cN, f1, f2⟩ := A.F.b
  have hG : giveN f.N s = f.N ++ [s] := by unfold giveN; rw [hn]
  have hL : (giveN f.N s).length = f.N.length + 1 := by rw [hG]; simp
  have d1 := A.F.d1
  have fb1 : fb ∉ blk a := fun h => d1 (by simp [h])
  have kS : Keeps [fb] W' (W'.setCell ⟨fb, 3, none⟩ (.slice (some ⟨g, 0, none⟩) (f.N.length + 1) cap)) := (Keeps.refl _ _).setCell (.inr (by simp)) _
  have kk : Keeps (fb :: blk a) W (W'.setCell ⟨fb, 3, none⟩ (.slice (some ⟨g, 0, none⟩) (f.N.length + 1) cap)) := (k.mono (fun z hz => List.mem_cons_of_mem _ hz)).trans (kS.mono (by simp))
  have gfb : g ≠ fb := fun e => by
    rcases q with h | h
    · exact fb1 (e ▸ h)
    · have := lt_of_block f1; omega
  have gST : g ∉ ST := fun h => by
    rcases q with h9 | h9
    · exact A.F.d3 g h9 h
    · have := (A.F.k.foot g h).2; omega
  have nS : ∀ z, z ∈ sb :: S → z ∉ fb :: blk a := fun z hz hy => by
    rcases List.mem_cons.1 hy with e | e
    · exact A.d1 z (by unfold rfamS; simp [e]) hz
    · exact A.d1 z (by unfold rfamS; simp [e]) hz
  have gS : g ∉ sb :: S := fun h => by
    rcases q with h9 | h9
    · exact A.d1 g (by unfold rfamS; simp [h9]) h
    · rcases List.mem_cons.1 h with e | e
      · have := A.s.foot.1; omega
      · have := (A.s.foot.2 g e).2; omega
  refine ⟨⟨⟨⟨cap, ?_, ?_⟩, A.F.k.keeps kk (fun z hz hy => ?_), fun h => ?_, fun z hz h => by simp [blk] at hz; subst hz; exact gST h, A.F.l⟩, A.s.keeps kk (nS _ (by simp)) (fun z hz => nS z (by simp [hz])), A.M.keeps kk (fun b hb hy => ?_), fun z hz hy => ?_, A.d2, A.ls, A.hm⟩, kk.mono (fun z hz => by unfold rfamS; simp at hz ⊢; rcases hz with h | h <;> simp [h]), fun z hz => ?_⟩
  · show (W'.setCell _ _).heap[fb]? = some (rfamO f.most f.pairs t (.slice (some ⟨g, 0, none⟩) (giveN f.N s).length cap) (mV m))
    rw [hL]
    exact has_setCell (k.has f1 fb1) 3 _
  · show ValRow 9 lo (some ⟨g, 0, none⟩) (giveN f.N s).length cap (strV (giveN f.N s)) _
    rw [hL, hG]
    exact (r.congr (fun j hj => strV_push f.N s j hj)).keeps kS (fun z hz hy => by simp [blk] at hz; simp at hy; subst hz; exact gfb hy)
  · rcases List.mem_cons.1 hy with e | e
    · subst e; exact d1 (by simp [hz])
    · exact A.F.d3 z e hz
  · simp [blk] at h
    rcases h with h | h
    · exact gfb h.symm
    · exact d1 (by simp [h])
  · rcases List.mem_cons.1 hy with e | e
    · have := A.hm b hb; have := A.F.l; omega
    · have := A.hm b hb; have := (f2.blk_lt b e).1; omega
  · unfold rfamS at hz
    simp only [List.mem_cons, List.mem_append, blk] at hz
    rcases hz with e | e | e
    · exact A.d1 z (by unfold rfamS; simp [e]) hy
    · simp at e; subst e; exact gS hy
    · exact A.d1 z (by unfold rfamS; simp [e]) hy
  · unfold rfamS at hz ⊢
    simp only [List.mem_cons, List.mem_append, blk] at hz
    rcases hz with e | e | e
    · exact .inl (by simp [e])
    · simp at e; subst e
      rcases q with h | h
      · exact .inl (by simp [h])
      · exact .inr h
    · exact .inl (by simp [e])
end
theorem priv_give {k : Nat} {f : Fam} {ks : List ByteArray} (h : FamOk k f ks) (s : ByteArray) {vs : List Int} (hl : vs.length ≤ ks.length) : ∀ n, n ≤ vs.length → privT (giveF f s) vs n = privT f vs n ∧ ∀ c, privC (giveF f s) vs c n = privC f vs c n := by
  intro n
  induction n with
  | zero => intro _; exact ⟨rfl, fun c => rfl⟩
  | succ n ih =>
    intro hn
    obtain ⟨i1, i2⟩ := ih (by omega)
    obtain ⟨x, q, a1, a2, a3, a4⟩ := priv_next h vs (i := n) (by omega)
    obtain ⟨x', q', b1, b2, b3, b4⟩ := priv_next (giveF_ext h s).1 vs (i := n) (by omega)
    have b1' : f.K.E[n]? = some x' := b1
    rw [a1] at b1'
    obtain rfl : x = x' := Option.some.inj b1'
    obtain rfl : q = q' := by omega
    exact ⟨by rw [a3, b3, i1], fun c => by rw [a4, b4, i1, i2]⟩
theorem Good10.give {k j : Nat} {f : Fam} {ks : List ByteArray} {vs : List Int} (G : Good10 k j f ks (.row vs)) (hN : f.N.length ≤ 99999) (s : ByteArray) : Good10 k j (giveF f s) ks (.row vs) :=
  ⟨(giveF_ext G.fk s).1, G.w, G.k9, G.j9, by
    show (giveN f.N s).length ≤ _
    unfold giveN
    split
    · omega
    · simp; omega, G.z⟩
/-- What a new name leaves. -/
def newW (f : Fam) (c : C4) (s : ByteArray) (v : Int) : Way10 → Fam × Way10 × C4
  | .row vs => match rowAdd f vs.length s c with
    | some (f', c') => (f', .row (vs ++ [v]), c'.val)
    | none => (giveF f s, .own (ownAddT f s v (privT f vs vs.length)), ownAddC (privC f vs c vs.length).shf (privT f vs vs.length))
  | .own T => (giveF f s, .own (ownAddT f s v T), ownAddC c T)
theorem newW_some {f f' : Fam} {c c' : C4} {s : ByteArray} {v : Int} {vs : List Int} (h : rowAdd f vs.length s c = some (f', c')) : newW f c s v (.row vs) = (f', .row (vs ++ [v]), c'.val) := by
  show (match rowAdd f vs.length s c with
    | some (f', c') => (f', Way10.row (vs ++ [v]), c'.val)
    | none => (giveF f s, .own (ownAddT f s v (privT f vs vs.length)), ownAddC (privC f vs c vs.length).shf (privT f vs vs.length))) = _
  rw [h]
theorem newW_none {f : Fam} {c : C4} {s : ByteArray} {v : Int} {vs : List Int} (h : rowAdd f vs.length s c = none) : newW f c s v (.row vs) = (giveF f s, .own (ownAddT f s v (privT f vs vs.length)), ownAddC (privC f vs c vs.length).shf (privT f vs vs.length)) := by
  show (match rowAdd f vs.length s c with
    | some (f', c') => (f', Way10.row (vs ++ [v]), c'.val)
    | none => (giveF f s, .own (ownAddT f s v (privT f vs vs.length)), ownAddC (privC f vs c vs.length).shf (privT f vs vs.length))) = _
  rw [h]
set_option maxRecDepth 100000 in
set_option maxHeartbeats 8000000 in
theorem rset_new {k j fb sb t lo : Nat} {a : Option Addr} {ST S : List Nat} {m : Option Nat} {f : Fam} {ks : List ByteArray} {wy : Way10} {ver : Nat} {c : C4} {w : World} (G : Good10 k j f ks wy) (A : RAt10 fb sb t lo a ST S m f wy ver c w) (s : ByteArray) (v : Int) (hs : s.size ≤ 1000000) (hver : ver ≤ 1000000) (hN : f.N.length ≤ 99999) (h0 : ¬ 0 ≤ (findW f s c wy).1) (hf : ¬ f.pairs ≤ (wy.len : Int)) :
    Calls Tryz.prog 29 #[.pointer (some ⟨sb, 0, none⟩), .string s, .int .i64 v] w (RDid10 fb sb t lo a ST S m 0 (newW f (findW f s c wy).2 s v wy).1 (newW f (findW f s c wy).2 s v wy).2.1 (ver + 1) (newW f (findW f s c wy).2 s v wy).2.2 w) := by
  have FI := rfinds_any G A s hs
  have HA := Lib.hid A
  have HG := Lib.hid G
  have NNL := Lib.hid hN
  obtain ⟨c1, hc1⟩ := ex_hid (findW f s c wy).2
  obtain ⟨g, hg⟩ := ex_hid (findW f s c wy).1
  rw [← hc1.out, ← hg.out] at FI
  rw [← hg.out] at h0
  rw [← hc1.out]
  have g0 : g < 0 := by omega
  obtain ⟨n, hn⟩ := ex_hid wy.len
  rw [← hn.out] at hf
  obtain ⟨pr, hpr⟩ := ex_hid f.pairs
  rw [← hpr.out] at hf
  have hf1 : (n : Int) < pr := by omega
  have hv1 : wrap64 ((ver : Int) + 1) = ((ver + 1 : Nat) : Int) := rbump10 hver
  have TX := fun W => rtext_any s W hs
  have GI := Lib.hid (show giveI f.N s = (giveI f.N s) from rfl)
  obtain ⟨NW, hNW⟩ := ex_hid (newW f c1 s v wy)
  rw [← hNW.out]
  clear G A h0 hf hN
  go_enter Tryz.func29, Tryz.ntmps29
  go_wp2_with fail
  refine FI.mono ?_
  rintro r w1 ⟨rfl, m1, k1⟩
  have A1 := Lib.hid (HA.out.met k1 m1)
  have K1 := Lib.hid k1
  obtain ⟨row, own, b1⟩ := A1.out.block
  obtain ⟨cN, f1, _⟩ := A1.out.F.b
  rw [← hpr.out] at f1
  have s0 : w1.cell? ⟨sb, 0, none⟩ = some (.pointer (some ⟨fb, 0, none⟩)) := cell_has b1 (i := 0) rfl
  have s1 : w1.cell? ⟨fb, 1, none⟩ = some (.int .i64 pr) := cell_has f1 (i := 1) rfl
  have LE := rlen10_any (A1.out.quiet (Keeps.refl [] w1).drew)
  rw [← hn.out] at LE
  clear FI m1 k1 b1 f1
  go_upto_region 8 with (fail)
  go_region_held3 (fun w' => w'.cell? ⟨sb, 0, none⟩ = some (.pointer (some ⟨fb, 0, none⟩)) ∧ w'.cell? ⟨fb, 1, none⟩ = some (.int .i64 pr)) (go_keep)
    (first | (go_at_call 34; refine LE.mono ?_; rintro r w2 ⟨rfl, rfl⟩))
  have A2 := Lib.hid (A1.out.quiet (Keeps.refl [] w1).drew)
  have K2 := Lib.hid (show Keeps (mS m) w w1.drew from K1.out.trans ((Keeps.refl (mS m) w1).drew))
  obtain ⟨w2, hw2⟩ : ∃ y, y = w1.drew := ⟨_, rfl⟩
  rw [← hw2] at A2 K2 ⊢
  clear LE A1 K1 s0 s1 hw2
  obtain ⟨row2, own2, b2⟩ := A2.out.block
  have s0 : w2.cell? ⟨sb, 0, none⟩ = some (.pointer (some ⟨fb, 0, none⟩)) := cell_has b2 (i := 0) rfl
  have NU := rnumber_any fb t lo a ST m f s w2 A2.out.F (by have := NNL.out; omega)
  clear b2
  obtain ⟨gi, hgi⟩ := ex_hid (giveI f.N s)
  have MOV : ∀ _ : Unit, True := fun _ => trivial
  cases hq : numOf f.N s with
  | some i =>
    have e1 : numI f.N s = (i : Int) := by unfold numI; rw [hq]
    have e2 : gi = i := by rw [hgi.out]; unfold giveI; rw [hq]
    have e3 : giveF f s = f := by unfold giveF giveN; rw [hq]
    rw [e1] at NU
    subst e2
    have HQ := Lib.hid (show numI f.N s = (gi : Int) from e1)
    have W4 : Hid (∃ a2, RAt10 fb sb t lo a2 ST S m (giveF f s) wy ver c1 w2 ∧ Keeps (rfamS fb a ST ++ mS m) w w2 ∧ Grew (rfamS fb a ST) w (rfamS fb a2 ST)) := Lib.hid ⟨a, by rw [e3]; exact A2.out, K2.out.mono (fun z hz => by simp [hz]), Grew.refl _ _⟩
    have gp : ¬ (gi : Int) < 0 := by omega
    clear hq e1 e3
    go_wp2_with fail
    refine NU.mono ?_
    rintro r w3 ⟨rfl, rfl⟩
    clear NU
    go_upto_region 14 with (fail)
    obtain ⟨w4, hw4⟩ : ∃ y, y = w2 := ⟨_, rfl⟩
    rw [← hw4] at W4 ⊢
    clear hw4 s0 A2 K2 gp
    obtain ⟨a2, X⟩ : ∃ a2, Hid (RAt10 fb sb t lo a2 ST S m (giveF f s) wy ver c1 w4 ∧ Keeps (rfamS fb a ST ++ mS m) w w4 ∧ Grew (rfamS fb a ST) w (rfamS fb a2 ST)) := by
      obtain ⟨a2, h⟩ := W4.out; exact ⟨a2, Lib.hid h⟩
    clear W4
    obtain ⟨A5, K5⟩ := X.out.1.bump (ver + 1)
    obtain ⟨row, own, b4⟩ := X.out.1.block
    have s3 : w4.cell? ⟨sb, 3, none⟩ = some (.int .i64 (ver : Nat)) := cell_has b4 (i := 3) rfl
    have sf := free_of_has b4 3
    have A6 := Lib.hid A5
    have K6 := Lib.hid K5
    clear A5 K5 b4
    go_upto_region 15 with (fail)
    refine wp_gen (fun V => RAt10 fb sb t lo a2 ST S m (giveF f s) wy (ver + 1) c1 V ∧ Keeps [sb] w4 V) ⟨A6.out, K6.out⟩ ?_
    rintro w5 ⟨a5, k5⟩
    have A7 := Lib.hid a5
    have KW := Lib.hid (show Keeps (rfamS fb a ST ++ (sb :: S) ++ mS m) w w5 from (X.out.2.1.mono (fun z hz => by simp at hz ⊢; rcases hz with h | h <;> simp [h])).trans (k5.mono (by simp)))
    have GW := Lib.hid X.out.2.2
    clear A6 K6 s3 sf a5 k5 X
    cases wy with
    | own T =>
      have hw : OwnOk j f.N T := HG.out.w
      have HTI := Lib.hid hw.t
      have hj := HG.out.j9
      clear hw
      obtain ⟨t2, lo2, b7, v7, l7⟩ := A7.out.s
      have s2 : w5.cell? ⟨sb, 2, none⟩ = some (.pointer (some ⟨t2, 0, none⟩)) := cell_has b7 (i := 2) rfl
      have oS : sb ∉ S ++ mS m := fun hy => (List.mem_append.1 hy).elim A7.out.d2 (A7.out.offm _ A7.out.ls)
      have RD := Lib.hid (radd_any j (by omega) t2 lo2 S m c1 T w5.drew (v7.keeps (Keeps.refl [] w5).drew (by simp)) (A7.out.M.keeps (Keeps.refl [] w5).drew (by simp)) (fun b hb => by have := A7.out.hm b hb; omega) HTI.out (txtH s) (gi : Nat) v)
      have B7 := Lib.hid b7
      have L7 := Lib.hid l7
      obtain ⟨h, hh⟩ := ex_hid (txtH s)
      rw [← hh.out] at RD
      simp only [← hh.out] at TX
      clear b7 v7 l7
      go_upto_region 25 with (fail)
      go_region_held3 (fun w' => w'.cell? ⟨sb, 2, none⟩ = some (.pointer (some ⟨t2, 0, none⟩))) (go_keep)
        (first
          | (go_at_call 57; refine (TX _).mono ?_; rintro r u1 ⟨rfl, rfl⟩)
          | (go_at_call 56; refine RD.out.mono ?_; rintro r w8 ⟨S8, rfl, t8, m8, k8, g8⟩; have T8 := Lib.hid t8; have M8 := Lib.hid m8; have K8 := Lib.hid k8; have G8 := Lib.hid g8; have z := k8.cell (w := w5.drew) s2 oS; clear t8 m8 k8 g8))
      have A9 := Lib.hid (A7.out.added B7.out L7.out T8.out M8.out (((Keeps.refl (S ++ mS m) w5).drew).trans K8.out) (fun z hz => (G8.out z hz).imp id (fun h => h)))
      clear z s2 TX RD oS
      go_wp2_with fail
      go_ret
      refine ⟨rfl, a2, ST, S8, ?_, ?_, GW.out, ?_⟩
      · rw [hNW.out]
        show RAt10 fb sb t lo a2 ST S8 m (giveF f s) (.own (T.ready.add1 (txtH s) (giveI f.N s : Nat) v)) (ver + 1) (if T.E.length = T.room then c1.tab else c1) w8
        rw [← hh.out, ← hgi.out]; exact A9.out
      · exact KW.out.trans ((((Keeps.refl (S ++ mS m) w5).drew).trans K8.out).mono (fun z hz => by simp at hz ⊢; rcases hz with h | h <;> simp [h]))
      · intro z hz
        rcases List.mem_cons.1 hz with e | e
        · exact .inl (by simp [e])
        · rcases G8.out z e with h9 | h9
          · exact .inl (by simp [h9])
          · right
            have := KW.out.size
            have h8 : w5.drew.heap.size = w5.heap.size := rfl
            omega
    | row vs =>
      obtain ⟨hl, hvj⟩ : vs.length ≤ ks.length ∧ vs.length ≤ j := HG.out.w
      have hj := HG.out.j9
      have hk := HG.out.k9
      obtain ⟨ar, cr, hS, b5, v5⟩ := A7.out.s
      obtain ⟨cM, f5, _⟩ := A7.out.F.b
      obtain ⟨ta, tc, tcb, g1, g2, _⟩ := A7.out.F.k
      obtain ⟨mo, hmo⟩ := ex_hid f.most
      rw [show (giveF f s).most = mo from hmo.out.symm] at f5
      have LK := Lib.hid (show liveN f.K.E = f.K.E.length from (liveL_all HG.out.fk.lv).2)
      have KL := Lib.hid (show ks.length = f.K.E.length from HG.out.fk.kl)
      have KEY := Lib.hid (show ∀ x, f.K.E[vs.length]? = some x → (atE (entE f.K.E (vs.length : Int))).key = x.key ∧ (x.key = (gi : Int) ↔ x.key = numI f.N s) from fun x hx => by
        refine ⟨by rw [entE_at hx (HG.out.fk.lv _ _ hx)], ?_⟩
        obtain ⟨q, q1, q2, _⟩ := HG.out.fk.ky _ _ hx
        refine ⟨fun e => by rw [HQ.out]; exact e, fun e => by rw [HQ.out] at e; exact e⟩)
      obtain ⟨nv, hnv⟩ := ex_hid vs.length
      obtain ⟨nE, hnE⟩ := ex_hid f.K.E.length
      rw [← hnv.out] at b5
      rw [show (giveF f s).K.E.length = nE from hnE.out.symm] at g1
      have s0 : w5.cell? ⟨sb, 0, none⟩ = some (.pointer (some ⟨fb, 0, none⟩)) := cell_has b5 (i := 0) rfl
      have s1 : w5.cell? ⟨sb, 1, none⟩ = some (.slice ar nv cr) := cell_has b5 (i := 1) rfl
      have s2 : w5.cell? ⟨sb, 2, none⟩ = some (.pointer none) := cell_has b5 (i := 2) rfl
      have f0 : w5.cell? ⟨fb, 0, none⟩ = some (.int .i64 mo) := cell_has f5 (i := 0) rfl
      have f2 : w5.cell? ⟨fb, 2, none⟩ = some (.pointer (some ⟨t, 0, none⟩)) := cell_has f5 (i := 2) rfl
      have t0 : w5.cell? ⟨t, 0, none⟩ = some (.slice ta nE tc) := cell_has g1 (i := 0) rfl
      have hle : nv ≤ nE := by have := hnv.out; have := hnE.out; have := KL.out; omega
      clear b5 v5 f5 g1 hS
      by_cases hlt : nv < nE
      · have i1 : (nv : Int) < (nE : Int) := by omega
        have i0 : (0 : Int) ≤ (nv : Int) := by omega
        have i2 : ((nv : Int) == (nE : Int)) = false := by simp; omega
        obtain ⟨x, hx⟩ : ∃ x, f.K.E[vs.length]? = some x := ⟨_, List.getElem?_eq_getElem (by rw [← hnv.out, ← hnE.out]; exact hlt)⟩
        obtain ⟨key1, key2⟩ := KEY.out x hx
        obtain ⟨ge, rfl⟩ := g2.shape (by show 0 < f.K.E.length; rw [← hnE.out]; omega)
        have t5 : w5.cell? ⟨ge, nv * 5 + 2, none⟩ = some (.int .i64 x.key) := by rw [hnv.out]; exact (EntRow.five g2 hx).2.2.1
        obtain ⟨kx, hkx⟩ := ex_hid x.key
        rw [← hkx.out] at t5 key1 key2
        clear g2 hx
        go_upto_region 17 with (fail)
        by_cases hke : kx = (gi : Int)
        · have kb : (kx == (gi : Int)) = true := by simpa using hke
          have RA := Lib.hid (show NW = (f, .row (vs ++ [v]), c1.val) ∧ giveF f s = f from by
            have e5 : kx = numI f.N s := key2.1 hke
            refine ⟨?_, ?_⟩
            · rw [hNW.out]
              exact newW_some (by unfold rowAdd; rw [if_pos (show vs.length < liveN f.K.E from by rw [LK.out, ← hnE.out, ← hnv.out]; exact hlt), key1, if_pos e5])
            · have h9 := numI_nat (N := f.N) (s := s) (k := gi) (by rw [← e5, hke])
              unfold giveF giveN numOf
              rw [numFrom_at (i := 0) HG.out.fk.nn h9])
          clear hke key1 key2
          go_region_held3 (fun w' => w'.cell? ⟨sb, 0, none⟩ = some (.pointer (some ⟨fb, 0, none⟩)) ∧ w'.cell? ⟨sb, 1, none⟩ = some (.slice ar nv cr) ∧ w'.cell? ⟨fb, 2, none⟩ = some (.pointer (some ⟨t, 0, none⟩)) ∧ w'.cell? ⟨t, 0, none⟩ = some (.slice (some ⟨ge, 0, none⟩) nE tc) ∧ w'.cell? ⟨ge, nv * 5 + 2, none⟩ = some (.int .i64 kx)) (go_keep) (fail)
          have A8 := Lib.hid (show RAt10 fb sb t lo a2 ST S m f (.row vs) (ver + 1) c1 w5.drew from by have h9 := A7.out.quiet (Keeps.refl [] w5).drew; rw [RA.out.2] at h9; exact h9)
          have BH := rbehind_any fb sb t lo a2 ST S m f vs v (ver + 1) c1 w5.drew A8.out (by omega)
          clear s0 s1 s2 f0 f2 t0 t5
          go_wp2_with fail
          refine BH.mono ?_
          rintro r w6 ⟨rfl, S6, a6, k6, g6⟩
          have A9 := Lib.hid a6
          have K9 := Lib.hid k6
          have G9 := Lib.hid g6
          clear BH a6 k6 g6
          go_wp2_with fail
          go_ret
          refine ⟨rfl, a2, ST, S6, ?_, ?_, GW.out, ?_⟩
          · rw [RA.out.1]; exact A9.out
          · exact KW.out.drew.trans (K9.out.mono (fun z hz => by simp at hz ⊢; rcases hz with h | h | h <;> simp [h]))
          · intro z hz
            rcases List.mem_cons.1 hz with e | e
            · exact .inl (by simp [e])
            · rcases G9.out z e with h9 | h9
              · exact .inl (by simp [h9])
              · right
                have := KW.out.size
                have h8 : w5.drew.heap.size = w5.heap.size := rfl
                omega
        · have kb : (kx == (gi : Int)) = false := by simpa using hke
          have RA := Lib.hid (show NW = (giveF f s, .own (ownAddT f s v (privT f vs vs.length)), ownAddC (privC f vs c1 vs.length).shf (privT f vs vs.length)) from by
            rw [hNW.out]
            exact newW_none (by unfold rowAdd; rw [if_pos (show vs.length < liveN f.K.E from by rw [LK.out, ← hnE.out, ← hnv.out]; exact hlt), key1, if_neg (fun e => hke (key2.2 e))]))
          clear hke key1 key2
          go_region_held3 (fun w' => w'.cell? ⟨sb, 0, none⟩ = some (.pointer (some ⟨fb, 0, none⟩)) ∧ w'.cell? ⟨sb, 1, none⟩ = some (.slice ar nv cr) ∧ w'.cell? ⟨fb, 2, none⟩ = some (.pointer (some ⟨t, 0, none⟩)) ∧ w'.cell? ⟨t, 0, none⟩ = some (.slice (some ⟨ge, 0, none⟩) nE tc) ∧ w'.cell? ⟨ge, nv * 5 + 2, none⟩ = some (.int .i64 kx)) (go_keep) (fail)
          have A7 := Lib.hid (A7.out.quiet (Keeps.refl [] w5).drew)
          have KW := Lib.hid KW.out.drew
          have s0 := (Keeps.refl [] w5).drew.cell s0 (by simp)
          have s1 := (Keeps.refl [] w5).drew.cell s1 (by simp)
          have f0 := (Keeps.refl [] w5).drew.cell f0 (by simp)
          have RP := rpriv_any (HG.out.give NNL.out s) A7.out
          unfold RPrivP at RP
          obtain ⟨pT, pC⟩ := priv_give HG.out.fk s hl vs.length (Nat.le_refl _)
          rw [pT, pC] at RP
          have HTI := Lib.hid (show TInv vs.length (privT f vs vs.length) from (privT_ok HG.out.fk hl (by omega) vs.length (Nat.le_refl _)).1.t)
          obtain ⟨TT, hTT⟩ := ex_hid (privT f vs vs.length)
          obtain ⟨cc, hcc⟩ := ex_hid (privC f vs c1 vs.length).shf
          rw [← hTT.out, ← hcc.out] at RP RA
          rw [← hTT.out] at HTI
          have hvl : vs.length ≤ 1000 := by omega
          clear pT pC
          go_upto_region 25 with (go_at_call 58; refine RP.mono ?_; rintro r w6 ⟨rfl, S6, a6, k6, n6⟩; have A8 := Lib.hid a6; have K6 := Lib.hid k6; have N6 := Lib.hid n6; clear a6 k6 n6)
          clear RP s0 s1 f0 s2 f2 t0 t5
          obtain ⟨t2, lo2, b7, v7, l7⟩ := A8.out.s
          have s2 : w6.cell? ⟨sb, 2, none⟩ = some (.pointer (some ⟨t2, 0, none⟩)) := cell_has b7 (i := 2) rfl
          have oS : sb ∉ S6 ++ mS m := fun hy => (List.mem_append.1 hy).elim A8.out.d2 (A8.out.offm _ A8.out.ls)
          have RD := Lib.hid (radd_any vs.length hvl t2 lo2 S6 m cc TT w6.drew (v7.keeps (Keeps.refl [] w6).drew (by simp)) (A8.out.M.keeps (Keeps.refl [] w6).drew (by simp)) (fun b hb => by have := A8.out.hm b hb; omega) HTI.out (txtH s) (gi : Nat) v)
          have B7 := Lib.hid b7
          have L7 := Lib.hid l7
          obtain ⟨h, hh⟩ := ex_hid (txtH s)
          rw [← hh.out] at RD
          simp only [← hh.out] at TX
          clear b7 v7 l7
          go_upto_region 25 with (fail)
          go_region_held3 (fun w' => w'.cell? ⟨sb, 2, none⟩ = some (.pointer (some ⟨t2, 0, none⟩))) (go_keep)
            (first
              | (go_at_call 57; refine (TX _).mono ?_; rintro r u1 ⟨rfl, rfl⟩)
              | (go_at_call 56; refine RD.out.mono ?_; rintro r w8 ⟨S8, rfl, t8, m8, k8, g8⟩; have T8 := Lib.hid t8; have M8 := Lib.hid m8; have K8 := Lib.hid k8; have G8 := Lib.hid g8; have z := k8.cell (w := w6.drew) s2 oS; clear t8 m8 k8 g8))
          have A9 := Lib.hid (A8.out.added B7.out L7.out T8.out M8.out (((Keeps.refl (S6 ++ mS m) w6).drew).trans K8.out) (fun z hz => (G8.out z hz).imp id (fun h => h)))
          clear z s2 TX RD oS
          go_wp2_with fail
          go_ret
          refine ⟨rfl, a2, ST, S8, ?_, ?_, GW.out, ?_⟩
          · rw [RA.out]
            show RAt10 fb sb t lo a2 ST S8 m (giveF f s) (.own (TT.ready.add1 (txtH s) (giveI f.N s : Nat) v)) (ver + 1) (if TT.E.length = TT.room then cc.tab else cc) w8
            rw [← hh.out, ← hgi.out]; exact A9.out
          · refine ((KW.out.trans (K6.out.mono (fun z hz => by simp at hz ⊢; rcases hz with h | h <;> simp [h]))).trans (Keeps.refl _ w6).drew).then K8.out (fun z hz => ?_)
            rcases List.mem_append.1 hz with h | h
            · left; have := N6.out z h; have := KW.out.size; omega
            · right; simp [h]
          · intro z hz
            rcases List.mem_cons.1 hz with e | e
            · exact .inl (by simp [e])
            · right
              have s8 := KW.out.size
              have s9 := K6.out.size
              rcases G8.out z e with h9 | h9
              · have := N6.out z h9; omega
              · have h8 : w6.drew.heap.size = w6.heap.size := rfl
                omega
      · obtain rfl : nv = nE := by omega
        have i1 : ¬ (nv : Int) < (nv : Int) := by omega
        have i2 : ((nv : Int) == (nv : Int)) = true := by simp
        clear g2 KEY
        go_upto_region 17 with (fail)
        refine wp_regionG (fun w' => w'.cell? ⟨sb, 1, none⟩ = some (.slice ar nv cr)) 29 (by kernel_rfl) s1 (fun hF => ?_)
        refine wpAnyG_takeY (i := 0) (v := ?_) rfl (by kernel_rfl) (by decide +kernel) (by decide +kernel) (by decide +kernel) (fun _ _ _ h => h) (by kernel_rfl) ?_ (by assumption) ?_
        rotate_left
        · (intro wz; go_simp; with_reducible rfl)
        try simp only [Act.put, List.setIfInBounds_toArray, List.set_cons_zero, List.set_cons_succ]
        refine wpAnyG_takeY (i := 1) (v := ?_) rfl (by kernel_rfl) (by decide +kernel) (by decide +kernel) (by decide +kernel) (fun _ _ _ h => h) (by kernel_rfl) ?_ (by assumption) ?_
        rotate_left
        · (intro wz; go_simp; with_reducible rfl)
        try simp only [Act.put, List.setIfInBounds_toArray, List.set_cons_zero, List.set_cons_succ]
        refine wpAnyG_takeY (i := 2) (v := ?_) rfl (by kernel_rfl) (by decide +kernel) (by decide +kernel) (by decide +kernel) (fun _ _ _ h => h) (by kernel_rfl) ?_ (by assumption) ?_
        rotate_left
        · (intro wz; go_simp; with_reducible rfl)
        try simp only [Act.put, List.setIfInBounds_toArray, List.set_cons_zero, List.set_cons_succ]
        refine wpAnyG_take (i := 3) (v := ?_) rfl (by kernel_rfl) (by decide +kernel) (by decide +kernel) (by decide +kernel) (by decide +kernel) (by rfl) (fun _ _ _ h => h) (by kernel_rfl) ?_ (by assumption) ?_
        rotate_left
        · (intro wz hSw; (try dsimp only at hSw); go_simp; with_reducible rfl)
        try simp only [Act.put, List.setIfInBounds_toArray, List.set_cons_zero, List.set_cons_succ]
        refine wpAnyG_takeY (i := 4) (v := ?_) rfl (by kernel_rfl) (by decide +kernel) (by decide +kernel) (by decide +kernel) (fun _ _ _ h => h) (by kernel_rfl) ?_ (by assumption) ?_
        rotate_left
        · (intro wz; go_simp; with_reducible rfl)
        try simp only [Act.put, List.setIfInBounds_toArray, List.set_cons_zero, List.set_cons_succ]
        refine wpAnyG_takeY (i := 5) (v := ?_) rfl (by kernel_rfl) (by decide +kernel) (by decide +kernel) (by decide +kernel) (fun _ _ _ h => h) (by kernel_rfl) ?_ (by assumption) ?_
        rotate_left
        · (intro wz; go_simp; with_reducible rfl)
        try simp only [Act.put, List.setIfInBounds_toArray, List.set_cons_zero, List.set_cons_succ]
        refine wpAnyG_takeY (i := 6) (v := ?_) rfl (by kernel_rfl) (by decide +kernel) (by decide +kernel) (by decide +kernel) (fun _ _ _ h => h) (by kernel_rfl) ?_ (by assumption) ?_
        rotate_left
        · (intro wz; go_simp; with_reducible rfl)
        try simp only [Act.put, List.setIfInBounds_toArray, List.set_cons_zero, List.set_cons_succ]
        refine wpAnyG_takeY (i := 7) (v := ?_) rfl (by kernel_rfl) (by decide +kernel) (by decide +kernel) (by decide +kernel) (fun _ _ _ h => h) (by kernel_rfl) ?_ (by assumption) ?_
        rotate_left
        · (intro wz; go_simp; with_reducible rfl)
        try simp only [Act.put, List.setIfInBounds_toArray, List.set_cons_zero, List.set_cons_succ]
        refine wpAnyG_takeU (i := 8) rfl (by kernel_rfl) (by decide +kernel) (by decide +kernel) (by decide +kernel) (fun _ _ _ h => h) (by kernel_rfl) (by assumption) ?_
        try simp only [Act.put, List.setIfInBounds_toArray, List.set_cons_zero, List.set_cons_succ]
        refine wpAnyG_takeU (i := 9) rfl (by kernel_rfl) (by decide +kernel) (by decide +kernel) (by decide +kernel) (fun _ _ _ h => h) (by kernel_rfl) (by assumption) ?_
        try simp only [Act.put, List.setIfInBounds_toArray, List.set_cons_zero, List.set_cons_succ]
        refine wpAnyG_takeU (i := 10) rfl (by kernel_rfl) (by decide +kernel) (by decide +kernel) (by decide +kernel) (fun _ _ _ h => h) (by kernel_rfl) (by assumption) ?_
        try simp only [Act.put, List.setIfInBounds_toArray, List.set_cons_zero, List.set_cons_succ]
        refine wpAnyG_takeU (i := 11) rfl (by kernel_rfl) (by decide +kernel) (by decide +kernel) (by decide +kernel) (fun _ _ _ h => h) (by kernel_rfl) (by assumption) ?_
        try simp only [Act.put, List.setIfInBounds_toArray, List.set_cons_zero, List.set_cons_succ]
        refine wpAnyG_takeU (i := 12) rfl (by kernel_rfl) (by decide +kernel) (by decide +kernel) (by decide +kernel) (fun _ _ _ h => h) (by kernel_rfl) (by assumption) ?_
        try simp only [Act.put, List.setIfInBounds_toArray, List.set_cons_zero, List.set_cons_succ]
        refine wpAnyG_takeU (i := 13) rfl (by kernel_rfl) (by decide +kernel) (by decide +kernel) (by decide +kernel) (fun _ _ _ h => h) (by kernel_rfl) (by assumption) ?_
        try simp only [Act.put, List.setIfInBounds_toArray, List.set_cons_zero, List.set_cons_succ]
        refine wpAnyG_takeU (i := 14) rfl (by kernel_rfl) (by decide +kernel) (by decide +kernel) (by decide +kernel) (fun _ _ _ h => h) (by kernel_rfl) (by assumption) ?_
        try simp only [Act.put, List.setIfInBounds_toArray, List.set_cons_zero, List.set_cons_succ]
        refine wpAnyG_takeU (i := 15) rfl (by kernel_rfl) (by decide +kernel) (by decide +kernel) (by decide +kernel) (fun _ _ _ h => h) (by kernel_rfl) (by assumption) ?_
        try simp only [Act.put, List.setIfInBounds_toArray, List.set_cons_zero, List.set_cons_succ]
        refine wpAnyG_takeU (i := 16) rfl (by kernel_rfl) (by decide +kernel) (by decide +kernel) (by decide +kernel) (fun _ _ _ h => h) (by kernel_rfl) (by assumption) ?_
        try simp only [Act.put, List.setIfInBounds_toArray, List.set_cons_zero, List.set_cons_succ]
        refine wpAnyG_takeU (i := 17) rfl (by kernel_rfl) (by decide +kernel) (by decide +kernel) (by decide +kernel) (fun _ _ _ h => h) (by kernel_rfl) (by assumption) ?_
        try simp only [Act.put, List.setIfInBounds_toArray, List.set_cons_zero, List.set_cons_succ]
        refine wpAnyG_takeU (i := 18) rfl (by kernel_rfl) (by decide +kernel) (by decide +kernel) (by decide +kernel) (fun _ _ _ h => h) (by kernel_rfl) (by assumption) ?_
        try simp only [Act.put, List.setIfInBounds_toArray, List.set_cons_zero, List.set_cons_succ]
        refine wpAnyG_takeU (i := 19) rfl (by kernel_rfl) (by decide +kernel) (by decide +kernel) (by decide +kernel) (fun _ _ _ h => h) (by kernel_rfl) (by assumption) ?_
        try simp only [Act.put, List.setIfInBounds_toArray, List.set_cons_zero, List.set_cons_succ]
        refine wpAnyG_takeU (i := 20) rfl (by kernel_rfl) (by decide +kernel) (by decide +kernel) (by decide +kernel) (fun _ _ _ h => h) (by kernel_rfl) (by assumption) ?_
        try simp only [Act.put, List.setIfInBounds_toArray, List.set_cons_zero, List.set_cons_succ]
        refine wpAnyG_takeU (i := 21) rfl (by kernel_rfl) (by decide +kernel) (by decide +kernel) (by decide +kernel) (fun _ _ _ h => h) (by kernel_rfl) (by assumption) ?_
        try simp only [Act.put, List.setIfInBounds_toArray, List.set_cons_zero, List.set_cons_succ]
        refine wpAnyG_takeU (i := 22) rfl (by kernel_rfl) (by decide +kernel) (by decide +kernel) (by decide +kernel) (fun _ _ _ h => h) (by kernel_rfl) (by assumption) ?_
        try simp only [Act.put, List.setIfInBounds_toArray, List.set_cons_zero, List.set_cons_succ]
        refine wpAnyG_takeU (i := 23) rfl (by kernel_rfl) (by decide +kernel) (by decide +kernel) (by decide +kernel) (fun _ _ _ h => h) (by kernel_rfl) (by assumption) ?_
        try simp only [Act.put, List.setIfInBounds_toArray, List.set_cons_zero, List.set_cons_succ]
        refine wpAnyG_takeU (i := 24) rfl (by kernel_rfl) (by decide +kernel) (by decide +kernel) (by decide +kernel) (fun _ _ _ h => h) (by kernel_rfl) (by assumption) ?_
        try simp only [Act.put, List.setIfInBounds_toArray, List.set_cons_zero, List.set_cons_succ]
        refine wpAnyG_takeU (i := 25) rfl (by kernel_rfl) (by decide +kernel) (by decide +kernel) (by decide +kernel) (fun _ _ _ h => h) (by kernel_rfl) (by assumption) ?_
        try simp only [Act.put, List.setIfInBounds_toArray, List.set_cons_zero, List.set_cons_succ]
        refine wpAnyG_takeU (i := 26) rfl (by kernel_rfl) (by decide +kernel) (by decide +kernel) (by decide +kernel) (fun _ _ _ h => h) (by kernel_rfl) (by assumption) ?_
        try simp only [Act.put, List.setIfInBounds_toArray, List.set_cons_zero, List.set_cons_succ]
        refine wpAnyG_takeU (i := 27) rfl (by kernel_rfl) (by decide +kernel) (by decide +kernel) (by decide +kernel) (fun _ _ _ h => h) (by kernel_rfl) (by assumption) ?_
        try simp only [Act.put, List.setIfInBounds_toArray, List.set_cons_zero, List.set_cons_succ]
        refine wpAnyG_takeY (i := 28) (v := ?_) rfl (by kernel_rfl) (by decide +kernel) (by decide +kernel) (by decide +kernel) (fun _ _ _ h => h) (by kernel_rfl) ?_ (by assumption) ?_
        rotate_left
        · (intro wz; go_simp; with_reducible rfl)
        try simp only [Act.put, List.setIfInBounds_toArray, List.set_cons_zero, List.set_cons_succ]
        refine wpAnyG_done (by kernel_rfl) ?_ _
        go_simp
        have s0 := (Keeps.refl [] w5).drew.cell s0 (by simp)
        have s1 := (Keeps.refl [] w5).drew.cell s1 (by simp)
        have f0 := (Keeps.refl [] w5).drew.cell f0 (by simp)
        have f2 := (Keeps.refl [] w5).drew.cell f2 (by simp)
        by_cases hmt : (nv : Int) < mo
        · have RD := Lib.hid (radd_any k (by omega) t lo ST m c1 f.K w5.drew.drew (show RTabAt t lo ST m f.K w5.drew.drew from A7.out.F.k.keeps ((Keeps.refl [] w5).drew.drew) (by simp)) (A7.out.M.keeps ((Keeps.refl [] w5).drew.drew) (by simp)) A7.out.hm HG.out.fk.t (txtH s) (gi : Nat) 0)
          have RA := Lib.hid (show NW = ({ giveF f s with K := f.K.ready.add1 (txtH s) (gi : Nat) 0 }, .row (vs ++ [v]), (if f.K.E.length = f.K.room then c1.tab else c1).val) from by
            rw [hNW.out]
            rw [hgi.out]
            exact newW_some (by unfold rowAdd; rw [if_neg (show ¬ vs.length < liveN f.K.E from by rw [LK.out, ← hnE.out, ← hnv.out]; omega), if_neg (show ¬ f.most ≤ (vs.length : Int) from by rw [← hnv.out, ← hmo.out]; omega)]; rfl))
          have oS : sb ∉ ST ++ mS m := fun hy => (List.mem_append.1 hy).elim (fun h => A7.out.d1 sb (by unfold rfamS; simp [h]) (by simp)) (A7.out.offm _ A7.out.ls)
          have oF : fb ∉ ST ++ mS m := fun hy => (List.mem_append.1 hy).elim (fun h => A7.out.F.d1 (by simp [h])) (A7.out.offm _ A7.out.F.l)
          obtain ⟨h, hh⟩ := ex_hid (txtH s)
          rw [← hh.out] at RD RA
          simp only [← hh.out] at TX
          obtain ⟨c2, hc2⟩ := ex_hid (if f.K.E.length = f.K.room then c1.tab else c1)
          rw [← hc2.out] at RD RA
          go_upto_region 21 with (fail)
          have x0 : w5.drew.drew.cell? ⟨sb, 0, none⟩ = some (.pointer (some ⟨fb, 0, none⟩)) := s0
          have x2 : w5.drew.drew.cell? ⟨fb, 2, none⟩ = some (.pointer (some ⟨t, 0, none⟩)) := f2
          go_region_held3 (fun w' => w'.cell? ⟨sb, 0, none⟩ = some (.pointer (some ⟨fb, 0, none⟩)) ∧ w'.cell? ⟨fb, 2, none⟩ = some (.pointer (some ⟨t, 0, none⟩))) (go_keep)
            (first
              | (go_at_call 57; refine (TX _).mono ?_; rintro r u1 ⟨rfl, rfl⟩)
              | (go_at_call 56; refine RD.out.mono ?_; rintro r w8 ⟨S8, rfl, t8, m8, k8, g8⟩; have T8 := Lib.hid t8; have M8 := Lib.hid m8; have K8 := Lib.hid k8; have G8 := Lib.hid g8; have z0 := k8.cell (w := w5.drew.drew) x0 oS; have z2 := k8.cell (w := w5.drew.drew) x2 oF; clear t8 m8 k8 g8))
          have k58 := Lib.hid (show Keeps (ST ++ mS m) w5 w8 from ((Keeps.refl (ST ++ mS m) w5).drew.drew).trans K8.out)
          have A8 := Lib.hid (A7.out.keyed T8.out M8.out k58.out (fun z hz => (G8.out z hz).imp id (fun h => h)))
          have BH := rbehind_any fb sb t lo a2 S8 S m { giveF f s with K := f.K.ready.add1 h (gi : Nat) 0 } vs v (ver + 1) c2 w8 A8.out (by omega)
          clear s0 s1 s2 f0 f2 t0 z0 z2 x0 x2 RD oS oF TX
          go_wp2_with fail
          refine BH.mono ?_
          rintro r w6 ⟨rfl, S6, a6, k6, g6⟩
          have A9 := Lib.hid a6
          have K9 := Lib.hid k6
          have G9 := Lib.hid g6
          clear BH a6 k6 g6
          go_wp2_with fail
          go_ret
          refine ⟨rfl, a2, S8, S6, ?_, ?_, ?_, ?_⟩
          · rw [RA.out]; exact A9.out
          · refine ((KW.out.then k58.out (fun z hz => ?_))).trans (K9.out.mono (fun z hz => by simp at hz ⊢; rcases hz with h | h | h <;> simp [h]))
            rcases List.mem_append.1 hz with h | h
            · right; unfold rfamS; simp [h]
            · right; simp [h]
          · intro z hz
            unfold rfamS at hz
            simp only [List.mem_cons, List.mem_append] at hz
            rcases hz with e | e | e
            · exact .inl (by unfold rfamS; simp [e])
            · exact GW.out z (by unfold rfamS; simp [e])
            · rcases G8.out z e with h9 | h9
              · exact .inl (by unfold rfamS; simp [h9])
              · right
                have := KW.out.size
                have h8 : w5.drew.drew.heap.size = w5.heap.size := rfl
                omega
          · intro z hz
            rcases List.mem_cons.1 hz with e | e
            · exact .inl (by simp [e])
            · rcases G9.out z e with h9 | h9
              · exact .inl (by simp [h9])
              · right
                have := KW.out.size
                have := k58.out.size
                omega
        · have RA := Lib.hid (show NW = (giveF f s, .own (ownAddT f s v (privT f vs vs.length)), ownAddC (privC f vs c1 vs.length).shf (privT f vs vs.length)) from by
            rw [hNW.out]
            exact newW_none (by unfold rowAdd; rw [if_neg (show ¬ vs.length < liveN f.K.E from by rw [LK.out, ← hnE.out, ← hnv.out]; omega), if_pos (show f.most ≤ (vs.length : Int) from by rw [← hnv.out, ← hmo.out]; omega)]))
          have A7 := Lib.hid (A7.out.quiet (Keeps.refl [] w5).drew)
          have KW := Lib.hid KW.out.drew
          have RP := rpriv_any (HG.out.give NNL.out s) A7.out
          unfold RPrivP at RP
          obtain ⟨pT, pC⟩ := priv_give HG.out.fk s hl vs.length (Nat.le_refl _)
          rw [pT, pC] at RP
          have HTI := Lib.hid (show TInv vs.length (privT f vs vs.length) from (privT_ok HG.out.fk hl (by omega) vs.length (Nat.le_refl _)).1.t)
          obtain ⟨TT, hTT⟩ := ex_hid (privT f vs vs.length)
          obtain ⟨cc, hcc⟩ := ex_hid (privC f vs c1 vs.length).shf
          rw [← hTT.out, ← hcc.out] at RP RA
          rw [← hTT.out] at HTI
          have hvl : vs.length ≤ 1000 := by omega
          clear pT pC
          go_upto_region 25 with (go_at_call 58; refine RP.mono ?_; rintro r w6 ⟨rfl, S6, a6, k6, n6⟩; have A8 := Lib.hid a6; have K6 := Lib.hid k6; have N6 := Lib.hid n6; clear a6 k6 n6)
          clear RP s0 s1 f0 s2 f2 t0
          obtain ⟨t2, lo2, b7, v7, l7⟩ := A8.out.s
          have s2 : w6.cell? ⟨sb, 2, none⟩ = some (.pointer (some ⟨t2, 0, none⟩)) := cell_has b7 (i := 2) rfl
          have oS : sb ∉ S6 ++ mS m := fun hy => (List.mem_append.1 hy).elim A8.out.d2 (A8.out.offm _ A8.out.ls)
          have RD := Lib.hid (radd_any vs.length hvl t2 lo2 S6 m cc TT w6.drew (v7.keeps (Keeps.refl [] w6).drew (by simp)) (A8.out.M.keeps (Keeps.refl [] w6).drew (by simp)) (fun b hb => by have := A8.out.hm b hb; omega) HTI.out (txtH s) (gi : Nat) v)
          have B7 := Lib.hid b7
          have L7 := Lib.hid l7
          obtain ⟨h, hh⟩ := ex_hid (txtH s)
          rw [← hh.out] at RD
          simp only [← hh.out] at TX
          clear b7 v7 l7
          go_upto_region 25 with (fail)
          go_region_held3 (fun w' => w'.cell? ⟨sb, 2, none⟩ = some (.pointer (some ⟨t2, 0, none⟩))) (go_keep)
            (first
              | (go_at_call 57; refine (TX _).mono ?_; rintro r u1 ⟨rfl, rfl⟩)
              | (go_at_call 56; refine RD.out.mono ?_; rintro r w8 ⟨S8, rfl, t8, m8, k8, g8⟩; have T8 := Lib.hid t8; have M8 := Lib.hid m8; have K8 := Lib.hid k8; have G8 := Lib.hid g8; have z := k8.cell (w := w6.drew) s2 oS; clear t8 m8 k8 g8))
          have A9 := Lib.hid (A8.out.added B7.out L7.out T8.out M8.out (((Keeps.refl (S6 ++ mS m) w6).drew).trans K8.out) (fun z hz => (G8.out z hz).imp id (fun h => h)))
          clear z s2 TX RD oS
          go_wp2_with fail
          go_ret
          refine ⟨rfl, a2, ST, S8, ?_, ?_, GW.out, ?_⟩
          · rw [RA.out]
            show RAt10 fb sb t lo a2 ST S8 m (giveF f s) (.own (TT.ready.add1 (txtH s) (giveI f.N s : Nat) v)) (ver + 1) (if TT.E.length = TT.room then cc.tab else cc) w8
            rw [← hh.out, ← hgi.out]; exact A9.out
          · refine ((KW.out.trans (K6.out.mono (fun z hz => by simp at hz ⊢; rcases hz with h | h <;> simp [h]))).trans (Keeps.refl _ w6).drew).then K8.out (fun z hz => ?_)
            rcases List.mem_append.1 hz with h | h
            · left; have := N6.out z h; have := KW.out.size; omega
            · right; simp [h]
          · intro z hz
            rcases List.mem_cons.1 hz with e | e
            · exact .inl (by simp [e])
            · right
              have s8 := KW.out.size
              have s9 := K6.out.size
              rcases G8.out z e with h9 | h9
              · have := N6.out z h9; omega
              · have h8 : w6.drew.heap.size = w6.heap.size := rfl
                omega
  | none =>
    have e1 : numI f.N s = -1 := by unfold numI; rw [hq]
    have e2 : gi = f.N.length := by rw [hgi.out]; unfold giveI; rw [hq]
    rw [e1] at NU
    have HQ := Lib.hid hq
    obtain ⟨cM, f3, v3⟩ := A2.out.F.b
    have hlo : lo ≤ w2.heap.size := by have := A2.out.F.l; have := lt_of_block f3; omega
    have kd : Keeps [] w2 (w2.alloc (.cells #[.string s] 9)).drew := ((Keeps.refl [] w2).alloc _).drew
    obtain ⟨ga, cap, w3, run3, r3, k3, q3, l3⟩ := str_app lo a cM f.N.length (strV f.N) s _ w2.heap.size (v3.keeps kd (by simp)) (has_drew (has_new w2 _)) (by have := NNL.out; omega) (by have := kd.size; omega)
    have k23 : Keeps (blk a) w2 w3 := (kd.mono (by simp)).trans k3
    obtain ⟨A3, K3, G3⟩ := A2.out.named hq r3 k23 (by
      rcases q3 with h | h
      · exact .inl h
      · right; rw [h]; have := kd.size; exact this)
    have fbn : fb ∉ blk a := fun h => A2.out.F.d1 (by simp [h])
    have sbn : sb ∉ blk a := fun h => A2.out.d1 sb (by unfold rfamS; simp [h]) (by simp)
    rw [← e2] at run3 f3 A3 K3
    have x3 : w2.cell? ⟨fb, 3, none⟩ = some (.slice a gi cM) := cell_has f3 (i := 3) rfl
    have y0 := kd.cell s0 (by simp)
    have y3 := kd.cell x3 (by simp)
    have z0 := k23.cell s0 sbn
    have z3 := k23.cell x3 fbn
    have zf := free_of_has (k23.has f3 fbn) 3
    have RUN3 := Lib.hid run3
    have W4 : Hid (∃ a2, RAt10 fb sb t lo a2 ST S m (giveF f s) wy ver c1 (w3.setCell ⟨fb, 3, none⟩ (.slice (some ⟨ga, 0, none⟩) (gi + 1) cap)) ∧ Keeps (rfamS fb a ST ++ mS m) w (w3.setCell ⟨fb, 3, none⟩ (.slice (some ⟨ga, 0, none⟩) (gi + 1) cap)) ∧ Grew (rfamS fb a ST) w (rfamS fb a2 ST)) := Lib.hid ⟨_, A3, (K2.out.mono (fun z hz => by simp [hz])).trans (K3.mono (fun z hz => by simp [hz])), fun z hz => (G3 z hz).imp id (fun h => by have := K2.out.size; omega)⟩
    have E2 := Lib.hid e2
    clear hq e1 e2 f3 v3 kd r3 k3 q3 l3 k23 A3 K3 G3 fbn sbn hlo
    go_wp2_with fail
    refine NU.mono ?_
    rintro r w5 ⟨rfl, rfl⟩
    clear NU
    go_upto_region 13 with (fail)
    obtain ⟨w4, hw4⟩ : ∃ y, y = w3.setCell ⟨fb, 3, none⟩ (.slice (some ⟨ga, 0, none⟩) (gi + 1) cap) := ⟨_, rfl⟩
    rw [← hw4] at W4
    have HW4 := Lib.hid hw4
    clear hw4
    go_cut [] from 67 to 82 (fun wx => w4 = wx)
    case first =>
      go_region_law (refine step_append_run (o := ⟨some 80, _, _, _, _, _⟩) rfl (.tmp 77) (.tmp 79) 51 rfl _ _ rfl rfl _ _ run3 ?_)
      all_goals (go_wp2_with fail; go_meet; exact HW4.out)
    case rest =>
    have hcut4 := hcut
    subst hcut4
    clear s0 x3 y0 y3 z0 z3 zf RUN3 run3 HW4 A2 K2
    obtain ⟨a2, X⟩ : ∃ a2, Hid (RAt10 fb sb t lo a2 ST S m (giveF f s) wy ver c1 w4 ∧ Keeps (rfamS fb a ST ++ mS m) w w4 ∧ Grew (rfamS fb a ST) w (rfamS fb a2 ST)) := by
      obtain ⟨a2, h⟩ := W4.out; exact ⟨a2, Lib.hid h⟩
    clear W4
    obtain ⟨A5, K5⟩ := X.out.1.bump (ver + 1)
    obtain ⟨row, own, b4⟩ := X.out.1.block
    have s3 : w4.cell? ⟨sb, 3, none⟩ = some (.int .i64 (ver : Nat)) := cell_has b4 (i := 3) rfl
    have sf := free_of_has b4 3
    have A6 := Lib.hid A5
    have K6 := Lib.hid K5
    clear A5 K5 b4
    go_upto_region 15 with (fail)
    refine wp_gen (fun V => RAt10 fb sb t lo a2 ST S m (giveF f s) wy (ver + 1) c1 V ∧ Keeps [sb] w4 V) ⟨A6.out, K6.out⟩ ?_
    rintro w5 ⟨a5, k5⟩
    have A7 := Lib.hid a5
    have KW := Lib.hid (show Keeps (rfamS fb a ST ++ (sb :: S) ++ mS m) w w5 from (X.out.2.1.mono (fun z hz => by simp at hz ⊢; rcases hz with h | h <;> simp [h])).trans (k5.mono (by simp)))
    have GW := Lib.hid X.out.2.2
    clear A6 K6 s3 sf a5 k5 X
    cases wy with
    | own T =>
      have hw : OwnOk j f.N T := HG.out.w
      have HTI := Lib.hid hw.t
      have hj := HG.out.j9
      clear hw
      obtain ⟨t2, lo2, b7, v7, l7⟩ := A7.out.s
      have s2 : w5.cell? ⟨sb, 2, none⟩ = some (.pointer (some ⟨t2, 0, none⟩)) := cell_has b7 (i := 2) rfl
      have oS : sb ∉ S ++ mS m := fun hy => (List.mem_append.1 hy).elim A7.out.d2 (A7.out.offm _ A7.out.ls)
      have RD := Lib.hid (radd_any j (by omega) t2 lo2 S m c1 T w5.drew (v7.keeps (Keeps.refl [] w5).drew (by simp)) (A7.out.M.keeps (Keeps.refl [] w5).drew (by simp)) (fun b hb => by have := A7.out.hm b hb; omega) HTI.out (txtH s) (gi : Nat) v)
      have B7 := Lib.hid b7
      have L7 := Lib.hid l7
      obtain ⟨h, hh⟩ := ex_hid (txtH s)
      rw [← hh.out] at RD
      simp only [← hh.out] at TX
      clear b7 v7 l7
      go_upto_region 25 with (fail)
      go_region_held3 (fun w' => w'.cell? ⟨sb, 2, none⟩ = some (.pointer (some ⟨t2, 0, none⟩))) (go_keep)
        (first
          | (go_at_call 57; refine (TX _).mono ?_; rintro r u1 ⟨rfl, rfl⟩)
          | (go_at_call 56; refine RD.out.mono ?_; rintro r w8 ⟨S8, rfl, t8, m8, k8, g8⟩; have T8 := Lib.hid t8; have M8 := Lib.hid m8; have K8 := Lib.hid k8; have G8 := Lib.hid g8; have z := k8.cell (w := w5.drew) s2 oS; clear t8 m8 k8 g8))
      have A9 := Lib.hid (A7.out.added B7.out L7.out T8.out M8.out (((Keeps.refl (S ++ mS m) w5).drew).trans K8.out) (fun z hz => (G8.out z hz).imp id (fun h => h)))
      clear z s2 TX RD oS
      go_wp2_with fail
      go_ret
      refine ⟨rfl, a2, ST, S8, ?_, ?_, GW.out, ?_⟩
      · rw [hNW.out]
        show RAt10 fb sb t lo a2 ST S8 m (giveF f s) (.own (T.ready.add1 (txtH s) (giveI f.N s : Nat) v)) (ver + 1) (if T.E.length = T.room then c1.tab else c1) w8
        rw [← hh.out, ← hgi.out]; exact A9.out
      · exact KW.out.trans ((((Keeps.refl (S ++ mS m) w5).drew).trans K8.out).mono (fun z hz => by simp at hz ⊢; rcases hz with h | h <;> simp [h]))
      · intro z hz
        rcases List.mem_cons.1 hz with e | e
        · exact .inl (by simp [e])
        · rcases G8.out z e with h9 | h9
          · exact .inl (by simp [h9])
          · right
            have := KW.out.size
            have h8 : w5.drew.heap.size = w5.heap.size := rfl
            omega
    | row vs =>
      obtain ⟨hl, hvj⟩ : vs.length ≤ ks.length ∧ vs.length ≤ j := HG.out.w
      have hj := HG.out.j9
      have hk := HG.out.k9
      obtain ⟨ar, cr, hS, b5, v5⟩ := A7.out.s
      obtain ⟨cM, f5, _⟩ := A7.out.F.b
      obtain ⟨ta, tc, tcb, g1, g2, _⟩ := A7.out.F.k
      obtain ⟨mo, hmo⟩ := ex_hid f.most
      rw [show (giveF f s).most = mo from hmo.out.symm] at f5
      have LK := Lib.hid (show liveN f.K.E = f.K.E.length from (liveL_all HG.out.fk.lv).2)
      have KL := Lib.hid (show ks.length = f.K.E.length from HG.out.fk.kl)
      have KEY := Lib.hid (show ∀ x, f.K.E[vs.length]? = some x → (atE (entE f.K.E (vs.length : Int))).key = x.key ∧ (x.key = (gi : Int) ↔ x.key = numI f.N s) from fun x hx => by
        refine ⟨by rw [entE_at hx (HG.out.fk.lv _ _ hx)], ?_⟩
        obtain ⟨q, q1, q2, _⟩ := HG.out.fk.ky _ _ hx
        refine ⟨fun e => by have := E2.out; omega, fun e => by rw [show numI f.N s = -1 from by unfold numI; rw [HQ.out]] at e; omega⟩)
      obtain ⟨nv, hnv⟩ := ex_hid vs.length
      obtain ⟨nE, hnE⟩ := ex_hid f.K.E.length
      rw [← hnv.out] at b5
      rw [show (giveF f s).K.E.length = nE from hnE.out.symm] at g1
      have s0 : w5.cell? ⟨sb, 0, none⟩ = some (.pointer (some ⟨fb, 0, none⟩)) := cell_has b5 (i := 0) rfl
      have s1 : w5.cell? ⟨sb, 1, none⟩ = some (.slice ar nv cr) := cell_has b5 (i := 1) rfl
      have s2 : w5.cell? ⟨sb, 2, none⟩ = some (.pointer none) := cell_has b5 (i := 2) rfl
      have f0 : w5.cell? ⟨fb, 0, none⟩ = some (.int .i64 mo) := cell_has f5 (i := 0) rfl
      have f2 : w5.cell? ⟨fb, 2, none⟩ = some (.pointer (some ⟨t, 0, none⟩)) := cell_has f5 (i := 2) rfl
      have t0 : w5.cell? ⟨t, 0, none⟩ = some (.slice ta nE tc) := cell_has g1 (i := 0) rfl
      have hle : nv ≤ nE := by have := hnv.out; have := hnE.out; have := KL.out; omega
      clear b5 v5 f5 g1 hS
      by_cases hlt : nv < nE
      · have i1 : (nv : Int) < (nE : Int) := by omega
        have i0 : (0 : Int) ≤ (nv : Int) := by omega
        have i2 : ((nv : Int) == (nE : Int)) = false := by simp; omega
        obtain ⟨x, hx⟩ : ∃ x, f.K.E[vs.length]? = some x := ⟨_, List.getElem?_eq_getElem (by rw [← hnv.out, ← hnE.out]; exact hlt)⟩
        obtain ⟨key1, key2⟩ := KEY.out x hx
        obtain ⟨ge, rfl⟩ := g2.shape (by show 0 < f.K.E.length; rw [← hnE.out]; omega)
        have t5 : w5.cell? ⟨ge, nv * 5 + 2, none⟩ = some (.int .i64 x.key) := by rw [hnv.out]; exact (EntRow.five g2 hx).2.2.1
        obtain ⟨kx, hkx⟩ := ex_hid x.key
        rw [← hkx.out] at t5 key1 key2
        clear g2 hx
        go_upto_region 17 with (fail)
        by_cases hke : kx = (gi : Int)
        · have kb : (kx == (gi : Int)) = true := by simpa using hke
          have RA := Lib.hid (show NW = (f, .row (vs ++ [v]), c1.val) ∧ giveF f s = f from by
            have e5 : kx = numI f.N s := key2.1 hke
            refine ⟨?_, ?_⟩
            · rw [hNW.out]
              exact newW_some (by unfold rowAdd; rw [if_pos (show vs.length < liveN f.K.E from by rw [LK.out, ← hnE.out, ← hnv.out]; exact hlt), key1, if_pos e5])
            · have h9 := numI_nat (N := f.N) (s := s) (k := gi) (by rw [← e5, hke])
              unfold giveF giveN numOf
              rw [numFrom_at (i := 0) HG.out.fk.nn h9])
          clear hke key1 key2
          go_region_held3 (fun w' => w'.cell? ⟨sb, 0, none⟩ = some (.pointer (some ⟨fb, 0, none⟩)) ∧ w'.cell? ⟨sb, 1, none⟩ = some (.slice ar nv cr) ∧ w'.cell? ⟨fb, 2, none⟩ = some (.pointer (some ⟨t, 0, none⟩)) ∧ w'.cell? ⟨t, 0, none⟩ = some (.slice (some ⟨ge, 0, none⟩) nE tc) ∧ w'.cell? ⟨ge, nv * 5 + 2, none⟩ = some (.int .i64 kx)) (go_keep) (fail)
          have A8 := Lib.hid (show RAt10 fb sb t lo a2 ST S m f (.row vs) (ver + 1) c1 w5.drew from by have h9 := A7.out.quiet (Keeps.refl [] w5).drew; rw [RA.out.2] at h9; exact h9)
          have BH := rbehind_any fb sb t lo a2 ST S m f vs v (ver + 1) c1 w5.drew A8.out (by omega)
          clear s0 s1 s2 f0 f2 t0 t5
          go_wp2_with fail
          refine BH.mono ?_
          rintro r w6 ⟨rfl, S6, a6, k6, g6⟩
          have A9 := Lib.hid a6
          have K9 := Lib.hid k6
          have G9 := Lib.hid g6
          clear BH a6 k6 g6
          go_wp2_with fail
          go_ret
          refine ⟨rfl, a2, ST, S6, ?_, ?_, GW.out, ?_⟩
          · rw [RA.out.1]; exact A9.out
          · exact KW.out.drew.trans (K9.out.mono (fun z hz => by simp at hz ⊢; rcases hz with h | h | h <;> simp [h]))
          · intro z hz
            rcases List.mem_cons.1 hz with e | e
            · exact .inl (by simp [e])
            · rcases G9.out z e with h9 | h9
              · exact .inl (by simp [h9])
              · right
                have := KW.out.size
                have h8 : w5.drew.heap.size = w5.heap.size := rfl
                omega
        · have kb : (kx == (gi : Int)) = false := by simpa using hke
          have RA := Lib.hid (show NW = (giveF f s, .own (ownAddT f s v (privT f vs vs.length)), ownAddC (privC f vs c1 vs.length).shf (privT f vs vs.length)) from by
            rw [hNW.out]
            exact newW_none (by unfold rowAdd; rw [if_pos (show vs.length < liveN f.K.E from by rw [LK.out, ← hnE.out, ← hnv.out]; exact hlt), key1, if_neg (fun e => hke (key2.2 e))]))
          clear hke key1 key2
          go_region_held3 (fun w' => w'.cell? ⟨sb, 0, none⟩ = some (.pointer (some ⟨fb, 0, none⟩)) ∧ w'.cell? ⟨sb, 1, none⟩ = some (.slice ar nv cr) ∧ w'.cell? ⟨fb, 2, none⟩ = some (.pointer (some ⟨t, 0, none⟩)) ∧ w'.cell? ⟨t, 0, none⟩ = some (.slice (some ⟨ge, 0, none⟩) nE tc) ∧ w'.cell? ⟨ge, nv * 5 + 2, none⟩ = some (.int .i64 kx)) (go_keep) (fail)
          have A7 := Lib.hid (A7.out.quiet (Keeps.refl [] w5).drew)
          have KW := Lib.hid KW.out.drew
          have s0 := (Keeps.refl [] w5).drew.cell s0 (by simp)
          have s1 := (Keeps.refl [] w5).drew.cell s1 (by simp)
          have f0 := (Keeps.refl [] w5).drew.cell f0 (by simp)
          have RP := rpriv_any (HG.out.give NNL.out s) A7.out
          unfold RPrivP at RP
          obtain ⟨pT, pC⟩ := priv_give HG.out.fk s hl vs.length (Nat.le_refl _)
          rw [pT, pC] at RP
          have HTI := Lib.hid (show TInv vs.length (privT f vs vs.length) from (privT_ok HG.out.fk hl (by omega) vs.length (Nat.le_refl _)).1.t)
          obtain ⟨TT, hTT⟩ := ex_hid (privT f vs vs.length)
          obtain ⟨cc, hcc⟩ := ex_hid (privC f vs c1 vs.length).shf
          rw [← hTT.out, ← hcc.out] at RP RA
          rw [← hTT.out] at HTI
          have hvl : vs.length ≤ 1000 := by omega
          clear pT pC
          go_upto_region 25 with (go_at_call 58; refine RP.mono ?_; rintro r w6 ⟨rfl, S6, a6, k6, n6⟩; have A8 := Lib.hid a6; have K6 := Lib.hid k6; have N6 := Lib.hid n6; clear a6 k6 n6)
          clear RP s0 s1 f0 s2 f2 t0 t5
          obtain ⟨t2, lo2, b7, v7, l7⟩ := A8.out.s
          have s2 : w6.cell? ⟨sb, 2, none⟩ = some (.pointer (some ⟨t2, 0, none⟩)) := cell_has b7 (i := 2) rfl
          have oS : sb ∉ S6 ++ mS m := fun hy => (List.mem_append.1 hy).elim A8.out.d2 (A8.out.offm _ A8.out.ls)
          have RD := Lib.hid (radd_any vs.length hvl t2 lo2 S6 m cc TT w6.drew (v7.keeps (Keeps.refl [] w6).drew (by simp)) (A8.out.M.keeps (Keeps.refl [] w6).drew (by simp)) (fun b hb => by have := A8.out.hm b hb; omega) HTI.out (txtH s) (gi : Nat) v)
          have B7 := Lib.hid b7
          have L7 := Lib.hid l7
          obtain ⟨h, hh⟩ := ex_hid (txtH s)
          rw [← hh.out] at RD
          simp only [← hh.out] at TX
          clear b7 v7 l7
          go_upto_region 25 with (fail)
          go_region_held3 (fun w' => w'.cell? ⟨sb, 2, none⟩ = some (.pointer (some ⟨t2, 0, none⟩))) (go_keep)
            (first
              | (go_at_call 57; refine (TX _).mono ?_; rintro r u1 ⟨rfl, rfl⟩)
              | (go_at_call 56; refine RD.out.mono ?_; rintro r w8 ⟨S8, rfl, t8, m8, k8, g8⟩; have T8 := Lib.hid t8; have M8 := Lib.hid m8; have K8 := Lib.hid k8; have G8 := Lib.hid g8; have z := k8.cell (w := w6.drew) s2 oS; clear t8 m8 k8 g8))
          have A9 := Lib.hid (A8.out.added B7.out L7.out T8.out M8.out (((Keeps.refl (S6 ++ mS m) w6).drew).trans K8.out) (fun z hz => (G8.out z hz).imp id (fun h => h)))
          clear z s2 TX RD oS
          go_wp2_with fail
          go_ret
          refine ⟨rfl, a2, ST, S8, ?_, ?_, GW.out, ?_⟩
          · rw [RA.out]
            show RAt10 fb sb t lo a2 ST S8 m (giveF f s) (.own (TT.ready.add1 (txtH s) (giveI f.N s : Nat) v)) (ver + 1) (if TT.E.length = TT.room then cc.tab else cc) w8
            rw [← hh.out, ← hgi.out]; exact A9.out
          · refine ((KW.out.trans (K6.out.mono (fun z hz => by simp at hz ⊢; rcases hz with h | h <;> simp [h]))).trans (Keeps.refl _ w6).drew).then K8.out (fun z hz => ?_)
            rcases List.mem_append.1 hz with h | h
            · left; have := N6.out z h; have := KW.out.size; omega
            · right; simp [h]
          · intro z hz
            rcases List.mem_cons.1 hz with e | e
            · exact .inl (by simp [e])
            · right
              have s8 := KW.out.size
              have s9 := K6.out.size
              rcases G8.out z e with h9 | h9
              · have := N6.out z h9; omega
              · have h8 : w6.drew.heap.size = w6.heap.size := rfl
                omega
      · obtain rfl : nv = nE := by omega
        have i1 : ¬ (nv : Int) < (nv : Int) := by omega
        have i2 : ((nv : Int) == (nv : Int)) = true := by simp
        clear g2 KEY
        go_upto_region 17 with (fail)
        refine wp_regionG (fun w' => w'.cell? ⟨sb, 1, none⟩ = some (.slice ar nv cr)) 29 (by kernel_rfl) s1 (fun hF => ?_)
        refine wpAnyG_takeY (i := 0) (v := ?_) rfl (by kernel_rfl) (by decide +kernel) (by decide +kernel) (by decide +kernel) (fun _ _ _ h => h) (by kernel_rfl) ?_ (by assumption) ?_
        rotate_left
        · (intro wz; go_simp; with_reducible rfl)
        try simp only [Act.put, List.setIfInBounds_toArray, List.set_cons_zero, List.set_cons_succ]
        refine wpAnyG_takeY (i := 1) (v := ?_) rfl (by kernel_rfl) (by decide +kernel) (by decide +kernel) (by decide +kernel) (fun _ _ _ h => h) (by kernel_rfl) ?_ (by assumption) ?_
        rotate_left
        · (intro wz; go_simp; with_reducible rfl)
        try simp only [Act.put, List.setIfInBounds_toArray, List.set_cons_zero, List.set_cons_succ]
        refine wpAnyG_takeY (i := 2) (v := ?_) rfl (by kernel_rfl) (by decide +kernel) (by decide +kernel) (by decide +kernel) (fun _ _ _ h => h) (by kernel_rfl) ?_ (by assumption) ?_
        rotate_left
        · (intro wz; go_simp; with_reducible rfl)
        try simp only [Act.put, List.setIfInBounds_toArray, List.set_cons_zero, List.set_cons_succ]
        refine wpAnyG_take (i := 3) (v := ?_) rfl (by kernel_rfl) (by decide +kernel) (by decide +kernel) (by decide +kernel) (by decide +kernel) (by rfl) (fun _ _ _ h => h) (by kernel_rfl) ?_ (by assumption) ?_
        rotate_left
        · (intro wz hSw; (try dsimp only at hSw); go_simp; with_reducible rfl)
        try simp only [Act.put, List.setIfInBounds_toArray, List.set_cons_zero, List.set_cons_succ]
        refine wpAnyG_takeY (i := 4) (v := ?_) rfl (by kernel_rfl) (by decide +kernel) (by decide +kernel) (by decide +kernel) (fun _ _ _ h => h) (by kernel_rfl) ?_ (by assumption) ?_
        rotate_left
        · (intro wz; go_simp; with_reducible rfl)
        try simp only [Act.put, List.setIfInBounds_toArray, List.set_cons_zero, List.set_cons_succ]
        refine wpAnyG_takeY (i := 5) (v := ?_) rfl (by kernel_rfl) (by decide +kernel) (by decide +kernel) (by decide +kernel) (fun _ _ _ h => h) (by kernel_rfl) ?_ (by assumption) ?_
        rotate_left
        · (intro wz; go_simp; with_reducible rfl)
        try simp only [Act.put, List.setIfInBounds_toArray, List.set_cons_zero, List.set_cons_succ]
        refine wpAnyG_takeY (i := 6) (v := ?_) rfl (by kernel_rfl) (by decide +kernel) (by decide +kernel) (by decide +kernel) (fun _ _ _ h => h) (by kernel_rfl) ?_ (by assumption) ?_
        rotate_left
        · (intro wz; go_simp; with_reducible rfl)
        try simp only [Act.put, List.setIfInBounds_toArray, List.set_cons_zero, List.set_cons_succ]
        refine wpAnyG_takeY (i := 7) (v := ?_) rfl (by kernel_rfl) (by decide +kernel) (by decide +kernel) (by decide +kernel) (fun _ _ _ h => h) (by kernel_rfl) ?_ (by assumption) ?_
        rotate_left
        · (intro wz; go_simp; with_reducible rfl)
        try simp only [Act.put, List.setIfInBounds_toArray, List.set_cons_zero, List.set_cons_succ]
        refine wpAnyG_takeU (i := 8) rfl (by kernel_rfl) (by decide +kernel) (by decide +kernel) (by decide +kernel) (fun _ _ _ h => h) (by kernel_rfl) (by assumption) ?_
        try simp only [Act.put, List.setIfInBounds_toArray, List.set_cons_zero, List.set_cons_succ]
        refine wpAnyG_takeU (i := 9) rfl (by kernel_rfl) (by decide +kernel) (by decide +kernel) (by decide +kernel) (fun _ _ _ h => h) (by kernel_rfl) (by assumption) ?_
        try simp only [Act.put, List.setIfInBounds_toArray, List.set_cons_zero, List.set_cons_succ]
        refine wpAnyG_takeU (i := 10) rfl (by kernel_rfl) (by decide +kernel) (by decide +kernel) (by decide +kernel) (fun _ _ _ h => h) (by kernel_rfl) (by assumption) ?_
        try simp only [Act.put, List.setIfInBounds_toArray, List.set_cons_zero, List.set_cons_succ]
        refine wpAnyG_takeU (i := 11) rfl (by kernel_rfl) (by decide +kernel) (by decide +kernel) (by decide +kernel) (fun _ _ _ h => h) (by kernel_rfl) (by assumption) ?_
        try simp only [Act.put, List.setIfInBounds_toArray, List.set_cons_zero, List.set_cons_succ]
        refine wpAnyG_takeU (i := 12) rfl (by kernel_rfl) (by decide +kernel) (by decide +kernel) (by decide +kernel) (fun _ _ _ h => h) (by kernel_rfl) (by assumption) ?_
        try simp only [Act.put, List.setIfInBounds_toArray, List.set_cons_zero, List.set_cons_succ]
        refine wpAnyG_takeU (i := 13) rfl (by kernel_rfl) (by decide +kernel) (by decide +kernel) (by decide +kernel) (fun _ _ _ h => h) (by kernel_rfl) (by assumption) ?_
        try simp only [Act.put, List.setIfInBounds_toArray, List.set_cons_zero, List.set_cons_succ]
        refine wpAnyG_takeU (i := 14) rfl (by kernel_rfl) (by decide +kernel) (by decide +kernel) (by decide +kernel) (fun _ _ _ h => h) (by kernel_rfl) (by assumption) ?_
        try simp only [Act.put, List.setIfInBounds_toArray, List.set_cons_zero, List.set_cons_succ]
        refine wpAnyG_takeU (i := 15) rfl (by kernel_rfl) (by decide +kernel) (by decide +kernel) (by decide +kernel) (fun _ _ _ h => h) (by kernel_rfl) (by assumption) ?_
        try simp only [Act.put, List.setIfInBounds_toArray, List.set_cons_zero, List.set_cons_succ]
        refine wpAnyG_takeU (i := 16) rfl (by kernel_rfl) (by decide +kernel) (by decide +kernel) (by decide +kernel) (fun _ _ _ h => h) (by kernel_rfl) (by assumption) ?_
        try simp only [Act.put, List.setIfInBounds_toArray, List.set_cons_zero, List.set_cons_succ]
        refine wpAnyG_takeU (i := 17) rfl (by kernel_rfl) (by decide +kernel) (by decide +kernel) (by decide +kernel) (fun _ _ _ h => h) (by kernel_rfl) (by assumption) ?_
        try simp only [Act.put, List.setIfInBounds_toArray, List.set_cons_zero, List.set_cons_succ]
        refine wpAnyG_takeU (i := 18) rfl (by kernel_rfl) (by decide +kernel) (by decide +kernel) (by decide +kernel) (fun _ _ _ h => h) (by kernel_rfl) (by assumption) ?_
        try simp only [Act.put, List.setIfInBounds_toArray, List.set_cons_zero, List.set_cons_succ]
        refine wpAnyG_takeU (i := 19) rfl (by kernel_rfl) (by decide +kernel) (by decide +kernel) (by decide +kernel) (fun _ _ _ h => h) (by kernel_rfl) (by assumption) ?_
        try simp only [Act.put, List.setIfInBounds_toArray, List.set_cons_zero, List.set_cons_succ]
        refine wpAnyG_takeU (i := 20) rfl (by kernel_rfl) (by decide +kernel) (by decide +kernel) (by decide +kernel) (fun _ _ _ h => h) (by kernel_rfl) (by assumption) ?_
        try simp only [Act.put, List.setIfInBounds_toArray, List.set_cons_zero, List.set_cons_succ]
        refine wpAnyG_takeU (i := 21) rfl (by kernel_rfl) (by decide +kernel) (by decide +kernel) (by decide +kernel) (fun _ _ _ h => h) (by kernel_rfl) (by assumption) ?_
        try simp only [Act.put, List.setIfInBounds_toArray, List.set_cons_zero, List.set_cons_succ]
        refine wpAnyG_takeU (i := 22) rfl (by kernel_rfl) (by decide +kernel) (by decide +kernel) (by decide +kernel) (fun _ _ _ h => h) (by kernel_rfl) (by assumption) ?_
        try simp only [Act.put, List.setIfInBounds_toArray, List.set_cons_zero, List.set_cons_succ]
        refine wpAnyG_takeU (i := 23) rfl (by kernel_rfl) (by decide +kernel) (by decide +kernel) (by decide +kernel) (fun _ _ _ h => h) (by kernel_rfl) (by assumption) ?_
        try simp only [Act.put, List.setIfInBounds_toArray, List.set_cons_zero, List.set_cons_succ]
        refine wpAnyG_takeU (i := 24) rfl (by kernel_rfl) (by decide +kernel) (by decide +kernel) (by decide +kernel) (fun _ _ _ h => h) (by kernel_rfl) (by assumption) ?_
        try simp only [Act.put, List.setIfInBounds_toArray, List.set_cons_zero, List.set_cons_succ]
        refine wpAnyG_takeU (i := 25) rfl (by kernel_rfl) (by decide +kernel) (by decide +kernel) (by decide +kernel) (fun _ _ _ h => h) (by kernel_rfl) (by assumption) ?_
        try simp only [Act.put, List.setIfInBounds_toArray, List.set_cons_zero, List.set_cons_succ]
        refine wpAnyG_takeU (i := 26) rfl (by kernel_rfl) (by decide +kernel) (by decide +kernel) (by decide +kernel) (fun _ _ _ h => h) (by kernel_rfl) (by assumption) ?_
        try simp only [Act.put, List.setIfInBounds_toArray, List.set_cons_zero, List.set_cons_succ]
        refine wpAnyG_takeU (i := 27) rfl (by kernel_rfl) (by decide +kernel) (by decide +kernel) (by decide +kernel) (fun _ _ _ h => h) (by kernel_rfl) (by assumption) ?_
        try simp only [Act.put, List.setIfInBounds_toArray, List.set_cons_zero, List.set_cons_succ]
        refine wpAnyG_takeY (i := 28) (v := ?_) rfl (by kernel_rfl) (by decide +kernel) (by decide +kernel) (by decide +kernel) (fun _ _ _ h => h) (by kernel_rfl) ?_ (by assumption) ?_
        rotate_left
        · (intro wz; go_simp; with_reducible rfl)
        try simp only [Act.put, List.setIfInBounds_toArray, List.set_cons_zero, List.set_cons_succ]
        refine wpAnyG_done (by kernel_rfl) ?_ _
        go_simp
        have s0 := (Keeps.refl [] w5).drew.cell s0 (by simp)
        have s1 := (Keeps.refl [] w5).drew.cell s1 (by simp)
        have f0 := (Keeps.refl [] w5).drew.cell f0 (by simp)
        have f2 := (Keeps.refl [] w5).drew.cell f2 (by simp)
        by_cases hmt : (nv : Int) < mo
        · have RD := Lib.hid (radd_any k (by omega) t lo ST m c1 f.K w5.drew.drew (show RTabAt t lo ST m f.K w5.drew.drew from A7.out.F.k.keeps ((Keeps.refl [] w5).drew.drew) (by simp)) (A7.out.M.keeps ((Keeps.refl [] w5).drew.drew) (by simp)) A7.out.hm HG.out.fk.t (txtH s) (gi : Nat) 0)
          have RA := Lib.hid (show NW = ({ giveF f s with K := f.K.ready.add1 (txtH s) (gi : Nat) 0 }, .row (vs ++ [v]), (if f.K.E.length = f.K.room then c1.tab else c1).val) from by
            rw [hNW.out]
            rw [hgi.out]
            exact newW_some (by unfold rowAdd; rw [if_neg (show ¬ vs.length < liveN f.K.E from by rw [LK.out, ← hnE.out, ← hnv.out]; omega), if_neg (show ¬ f.most ≤ (vs.length : Int) from by rw [← hnv.out, ← hmo.out]; omega)]; rfl))
          have oS : sb ∉ ST ++ mS m := fun hy => (List.mem_append.1 hy).elim (fun h => A7.out.d1 sb (by unfold rfamS; simp [h]) (by simp)) (A7.out.offm _ A7.out.ls)
          have oF : fb ∉ ST ++ mS m := fun hy => (List.mem_append.1 hy).elim (fun h => A7.out.F.d1 (by simp [h])) (A7.out.offm _ A7.out.F.l)
          obtain ⟨h, hh⟩ := ex_hid (txtH s)
          rw [← hh.out] at RD RA
          simp only [← hh.out] at TX
          obtain ⟨c2, hc2⟩ := ex_hid (if f.K.E.length = f.K.room then c1.tab else c1)
          rw [← hc2.out] at RD RA
          go_upto_region 21 with (fail)
          have x0 : w5.drew.drew.cell? ⟨sb, 0, none⟩ = some (.pointer (some ⟨fb, 0, none⟩)) := s0
          have x2 : w5.drew.drew.cell? ⟨fb, 2, none⟩ = some (.pointer (some ⟨t, 0, none⟩)) := f2
          go_region_held3 (fun w' => w'.cell? ⟨sb, 0, none⟩ = some (.pointer (some ⟨fb, 0, none⟩)) ∧ w'.cell? ⟨fb, 2, none⟩ = some (.pointer (some ⟨t, 0, none⟩))) (go_keep)
            (first
              | (go_at_call 57; refine (TX _).mono ?_; rintro r u1 ⟨rfl, rfl⟩)
              | (go_at_call 56; refine RD.out.mono ?_; rintro r w8 ⟨S8, rfl, t8, m8, k8, g8⟩; have T8 := Lib.hid t8; have M8 := Lib.hid m8; have K8 := Lib.hid k8; have G8 := Lib.hid g8; have z0 := k8.cell (w := w5.drew.drew) x0 oS; have z2 := k8.cell (w := w5.drew.drew) x2 oF; clear t8 m8 k8 g8))
          have k58 := Lib.hid (show Keeps (ST ++ mS m) w5 w8 from ((Keeps.refl (ST ++ mS m) w5).drew.drew).trans K8.out)
          have A8 := Lib.hid (A7.out.keyed T8.out M8.out k58.out (fun z hz => (G8.out z hz).imp id (fun h => h)))
          have BH := rbehind_any fb sb t lo a2 S8 S m { giveF f s with K := f.K.ready.add1 h (gi : Nat) 0 } vs v (ver + 1) c2 w8 A8.out (by omega)
          clear s0 s1 s2 f0 f2 t0 z0 z2 x0 x2 RD oS oF TX
          go_wp2_with fail
          refine BH.mono ?_
          rintro r w6 ⟨rfl, S6, a6, k6, g6⟩
          have A9 := Lib.hid a6
          have K9 := Lib.hid k6
          have G9 := Lib.hid g6
          clear BH a6 k6 g6
          go_wp2_with fail
          go_ret
          refine ⟨rfl, a2, S8, S6, ?_, ?_, ?_, ?_⟩
          · rw [RA.out]; exact A9.out
          · refine ((KW.out.then k58.out (fun z hz => ?_))).trans (K9.out.mono (fun z hz => by simp at hz ⊢; rcases hz with h | h | h <;> simp [h]))
            rcases List.mem_append.1 hz with h | h
            · right; unfold rfamS; simp [h]
            · right; simp [h]
          · intro z hz
            unfold rfamS at hz
            simp only [List.mem_cons, List.mem_append] at hz
            rcases hz with e | e | e
            · exact .inl (by unfold rfamS; simp [e])
            · exact GW.out z (by unfold rfamS; simp [e])
            · rcases G8.out z e with h9 | h9
              · exact .inl (by unfold rfamS; simp [h9])
              · right
                have := KW.out.size
                have h8 : w5.drew.drew.heap.size = w5.heap.size := rfl
                omega
          · intro z hz
            rcases List.mem_cons.1 hz with e | e
            · exact .inl (by simp [e])
            · rcases G9.out z e with h9 | h9
              · exact .inl (by simp [h9])
              · right
                have := KW.out.size
                have := k58.out.size
                omega
        · have RA := Lib.hid (show NW = (giveF f s, .own (ownAddT f s v (privT f vs vs.length)), ownAddC (privC f vs c1 vs.length).shf (privT f vs vs.length)) from by
            rw [hNW.out]
            exact newW_none (by unfold rowAdd; rw [if_neg (show ¬ vs.length < liveN f.K.E from by rw [LK.out, ← hnE.out, ← hnv.out]; omega), if_pos (show f.most ≤ (vs.length : Int) from by rw [← hnv.out, ← hmo.out]; omega)]))
          have A7 := Lib.hid (A7.out.quiet (Keeps.refl [] w5).drew)
          have KW := Lib.hid KW.out.drew
          have RP := rpriv_any (HG.out.give NNL.out s) A7.out
          unfold RPrivP at RP
          obtain ⟨pT, pC⟩ := priv_give HG.out.fk s hl vs.length (Nat.le_refl _)
          rw [pT, pC] at RP
          have HTI := Lib.hid (show TInv vs.length (privT f vs vs.length) from (privT_ok HG.out.fk hl (by omega) vs.length (Nat.le_refl _)).1.t)
          obtain ⟨TT, hTT⟩ := ex_hid (privT f vs vs.length)
          obtain ⟨cc, hcc⟩ := ex_hid (privC f vs c1 vs.length).shf
          rw [← hTT.out, ← hcc.out] at RP RA
          rw [← hTT.out] at HTI
          have hvl : vs.length ≤ 1000 := by omega
          clear pT pC
          go_upto_region 25 with (go_at_call 58; refine RP.mono ?_; rintro r w6 ⟨rfl, S6, a6, k6, n6⟩; have A8 := Lib.hid a6; have K6 := Lib.hid k6; have N6 := Lib.hid n6; clear a6 k6 n6)
          clear RP s0 s1 f0 s2 f2 t0
          obtain ⟨t2, lo2, b7, v7, l7⟩ := A8.out.s
          have s2 : w6.cell? ⟨sb, 2, none⟩ = some (.pointer (some ⟨t2, 0, none⟩)) := cell_has b7 (i := 2) rfl
          have oS : sb ∉ S6 ++ mS m := fun hy => (List.mem_append.1 hy).elim A8.out.d2 (A8.out.offm _ A8.out.ls)
          have RD := Lib.hid (radd_any vs.length hvl t2 lo2 S6 m cc TT w6.drew (v7.keeps (Keeps.refl [] w6).drew (by simp)) (A8.out.M.keeps (Keeps.refl [] w6).drew (by simp)) (fun b hb => by have := A8.out.hm b hb; omega) HTI.out (txtH s) (gi : Nat) v)
          have B7 := Lib.hid b7
          have L7 := Lib.hid l7
          obtain ⟨h, hh⟩ := ex_hid (txtH s)
          rw [← hh.out] at RD
          simp only [← hh.out] at TX
          clear b7 v7 l7
          go_upto_region 25 with (fail)
          go_region_held3 (fun w' => w'.cell? ⟨sb, 2, none⟩ = some (.pointer (some ⟨t2, 0, none⟩))) (go_keep)
            (first
              | (go_at_call 57; refine (TX _).mono ?_; rintro r u1 ⟨rfl, rfl⟩)
              | (go_at_call 56; refine RD.out.mono ?_; rintro r w8 ⟨S8, rfl, t8, m8, k8, g8⟩; have T8 := Lib.hid t8; have M8 := Lib.hid m8; have K8 := Lib.hid k8; have G8 := Lib.hid g8; have z := k8.cell (w := w6.drew) s2 oS; clear t8 m8 k8 g8))
          have A9 := Lib.hid (A8.out.added B7.out L7.out T8.out M8.out (((Keeps.refl (S6 ++ mS m) w6).drew).trans K8.out) (fun z hz => (G8.out z hz).imp id (fun h => h)))
          clear z s2 TX RD oS
          go_wp2_with fail
          go_ret
          refine ⟨rfl, a2, ST, S8, ?_, ?_, GW.out, ?_⟩
          · rw [RA.out]
            show RAt10 fb sb t lo a2 ST S8 m (giveF f s) (.own (TT.ready.add1 (txtH s) (giveI f.N s : Nat) v)) (ver + 1) (if TT.E.length = TT.room then cc.tab else cc) w8
            rw [← hh.out, ← hgi.out]; exact A9.out
          · refine ((KW.out.trans (K6.out.mono (fun z hz => by simp at hz ⊢; rcases hz with h | h <;> simp [h]))).trans (Keeps.refl _ w6).drew).then K8.out (fun z hz => ?_)
            rcases List.mem_append.1 hz with h | h
            · left; have := N6.out z h; have := KW.out.size; omega
            · right; simp [h]
          · intro z hz
            rcases List.mem_cons.1 hz with e | e
            · exact .inl (by simp [e])
            · right
              have s8 := KW.out.size
              have s9 := K6.out.size
              rcases G8.out z e with h9 | h9
              · have := N6.out z h9; omega
              · have h8 : w6.drew.heap.size = w6.heap.size := rfl
                omega
end Go.Proofs.YtajmfenfajbakaaGreat
