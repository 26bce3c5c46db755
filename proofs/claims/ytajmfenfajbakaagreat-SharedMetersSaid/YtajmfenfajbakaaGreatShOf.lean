/- A namespace, either way: each call in one form; who owns which block (chapter 10). -/
import Derived.Test.YtajmfenfajbakaaGreatShOe
import Derived.Test.YtajmfenfajbakaaGreatShW
namespace Go.Proofs.YtajmfenfajbakaaGreat
open Go.RowKit
set_option linter.unusedVariables false
set_option linter.unusedSimpArgs false

/-- A family in memory; its blocks. -/
def FA10 (fb lo : Nat) (S : List Nat) (m : Option Nat) (f : Fam) (W : World) : Prop := ∃ t mb a ST, S = famS fb mb a ST ∧ FamAt fb t mb lo a ST m f W
/-- A namespace in memory; its blocks. -/
def SA10 (fb sb lo : Nat) (S : List Nat) (m : Option Nat) (wy : Way10) (ver : Nat) (W : World) : Prop :=
  lo ≤ sb ∧ match wy with
  | .row vs => ∃ rb ar, S = sb :: rb :: blk ar ∧ RowAt rb lo ar vs W ∧ W.heap[sb]? = some (spO fb (wayR rb) (ver : Nat)) ∧ sb ∉ rb :: blk ar
  | .own T => ∃ ob t2 lo2 S2, S = sb :: ob :: S2 ∧ OwnAt ob t2 lo2 S2 m T W ∧ lo ≤ lo2 ∧ W.heap[sb]? = some (spO fb (wayO ob) (ver : Nat)) ∧ sb ∉ ob :: S2
section
variable {fb sb lo : Nat} {S R : List Nat} {m : Option Nat} {f : Fam} {wy : Way10} {ver : Nat} {W W' : World}
theorem FA10.keeps (h : FA10 fb lo S m f W) (k : Keeps R W W') (hd : ∀ z, z ∈ S → z ∉ R) : FA10 fb lo S m f W' := by
  obtain ⟨t, mb, a, ST, rfl, h⟩ := h
  exact ⟨t, mb, a, ST, rfl, h.keeps k hd⟩
theorem FA10.foot (h : FA10 fb lo S m f W) : ∀ z, z ∈ S → lo ≤ z ∧ z < W.heap.size := by
  obtain ⟨t, mb, a, ST, rfl, h⟩ := h
  exact h.foot
theorem SA10.keeps (h : SA10 fb sb lo S m wy ver W) (k : Keeps R W W') (hd : ∀ z, z ∈ S → z ∉ R) : SA10 fb sb lo S m wy ver W' := by
  obtain ⟨hl, h⟩ := h
  refine ⟨hl, ?_⟩
  cases wy with
  | row vs =>
    obtain ⟨rb, ar, rfl, h1, h2, h3⟩ := h
    exact ⟨rb, ar, rfl, h1.keeps k (fun z hz => hd z (List.mem_cons_of_mem _ hz)), k.has h2 (hd _ (by simp)), h3⟩
  | own T =>
    obtain ⟨ob, t2, lo2, S2, rfl, h1, h0, h2, h3⟩ := h
    exact ⟨ob, t2, lo2, S2, rfl, h1.keeps k (fun z hz => hd z (List.mem_cons_of_mem _ hz)), h0, k.has h2 (hd _ (by simp)), h3⟩
theorem SA10.foot (h : SA10 fb sb lo S m wy ver W) : ∀ z, z ∈ S → lo ≤ z ∧ z < W.heap.size := by
  obtain ⟨hl, h⟩ := h
  intro z hz
  cases wy with
  | row vs =>
    obtain ⟨rb, ar, rfl, h1, h2, h3⟩ := h
    rcases List.mem_cons.1 hz with rfl | hz
    · exact ⟨hl, lt_of_block h2⟩
    · exact h1.foot z hz
  | own T =>
    obtain ⟨ob, t2, lo2, S2, rfl, h1, h0, h2, h3⟩ := h
    rcases List.mem_cons.1 hz with rfl | hz
    · exact ⟨hl, lt_of_block h2⟩
    · have := h1.foot z hz; omega
end
/-- What is true of a family and one of its namespaces. -/
structure Good10 (k j : Nat) (f : Fam) (ks : List ByteArray) (wy : Way10) : Prop where
  fk : FamOk k f ks
  w : SpOk j f ks wy
  k9 : k ≤ 900
  j9 : j ≤ 900
  n : f.N.length ≤ 100000
  z : ∀ s, s ∈ ks → s.size ≤ 1000000
theorem Good10.row {k j : Nat} {f : Fam} {ks : List ByteArray} {vs : List Int} (h : Good10 k j f ks (.row vs)) : RowGood k f vs := by
  obtain ⟨hl, hv⟩ : vs.length ≤ ks.length ∧ vs.length ≤ j := h.w
  have hj := h.j9
  refine ⟨h.fk.t, fun i hi => ?_, fun i hi => (privT_ok h.fk hl (by omega) i hi).1.t, fun i hi => ?_, fun i hi => ?_, h.n, by omega⟩
  · obtain ⟨_, x, n, r2, r3, r4, r5, _⟩ := rowP_at h.fk vs (List.getElem?_eq_getElem (l := ks) (i := i) (by omega))
    exact ⟨n, (List.getElem?_eq_some_iff.1 r5).1, by rw [entE_at r2 r3, r4]⟩
  · have hk := List.getElem?_eq_getElem (l := ks) (i := i) (by omega)
    rw [(rowP_at h.fk vs hk).1]
    exact h.z _ (List.mem_of_getElem? hk)
  · have hk := List.getElem?_eq_getElem (l := ks) (i := i) (by omega)
    obtain ⟨r1, x, n, r2, r3, r4, r5, _⟩ := rowP_at h.fk vs hk
    rw [r1]
    unfold giveN
    have := numFrom_at (i := 0) h.fk.nn r5
    unfold numOf
    rw [this]
/-- The parts that a call on one namespace is about. -/
structure At10 (fb sb lo : Nat) (SF SS : List Nat) (m : Option Nat) (f : Fam) (wy : Way10) (ver : Nat) (c : C4) (W : World) : Prop where
  F : FA10 fb lo SF m f W
  s : SA10 fb sb lo SS m wy ver W
  M : MtrAt m c W
  d : ∀ z, z ∈ SF → z ∉ SS
  hm : ∀ b, m = some b → b < lo
theorem At10.sp {fb sb lo : Nat} {SF SS : List Nat} {m : Option Nat} {f : Fam} {wy : Way10} {ver : Nat} {c : C4} {W : World} (h : At10 fb sb lo SF SS m f wy ver c W) :
    ∃ t mb a ST S, SF = famS fb mb a ST ∧ SS = sb :: S ∧ SpAt fb t mb lo a ST m f sb S wy ver c W := by
  obtain ⟨t, mb, a, ST, hS, hF⟩ := h.F
  obtain ⟨hl, h2⟩ := h.s
  have hd := h.d
  subst hS
  cases wy with
  | row vs =>
    obtain ⟨rb, ar, hS2, h3, h4, h5⟩ := h2
    subst hS2
    exact ⟨t, mb, a, ST, _, rfl, rfl, rb, ar, rfl, hF, h3, h.M, h4, fun z hz hy => hd z hz (List.mem_cons_of_mem _ hy), ⟨fun hx => hd _ hx (by simp), h5⟩, hl, h.hm⟩
  | own T =>
    obtain ⟨ob, t2, lo2, S2, hS2, h3, h0, h4, h5⟩ := h2
    subst hS2
    exact ⟨t, mb, a, ST, _, rfl, rfl, ob, t2, lo2, S2, rfl, hF, h3, h.M, h4, fun z hz hy => hd z hz (List.mem_cons_of_mem _ hy), ⟨fun hx => hd _ hx (by simp), h5⟩, hl, h.hm, h0⟩
theorem SpAt.at10 {fb sb lo t mb : Nat} {a : Option Addr} {ST S : List Nat} {m : Option Nat} {f : Fam} {wy : Way10} {ver : Nat} {c : C4} {W : World} (h : SpAt fb t mb lo a ST m f sb S wy ver c W) : At10 fb sb lo (famS fb mb a ST) (sb :: S) m f wy ver c W := by
  cases wy with
  | row vs =>
    obtain ⟨rb, ar, rfl, h⟩ := h
    exact ⟨⟨t, mb, a, ST, rfl, h.F⟩, ⟨h.ls, rb, ar, rfl, h.R, h.s, h.d2.2⟩, h.M, fun z hz hy => by
      rcases List.mem_cons.1 hy with rfl | hy
      · exact h.d2.1 hz
      · exact h.d1 z hz hy, h.hm⟩
  | own T =>
    obtain ⟨ob, t2, lo2, S2, rfl, h⟩ := h
    exact ⟨⟨t, mb, a, ST, rfl, h.F⟩, ⟨h.ls, ob, t2, lo2, S2, rfl, h.O, h.ll, h.s, h.d2.2⟩, h.M, fun z hz hy => by
      rcases List.mem_cons.1 hy with rfl | hy
      · exact h.d2.1 hz
      · exact h.d1 z hz hy, h.hm⟩
/-- Behind a call that may change the namespace and its family. -/
def Did10 (fb sb lo : Nat) (SF SS : List Nat) (m : Option Nat) (e : Int) (f' : Fam) (wy' : Way10) (ver' : Nat) (c' : C4) (w : World) (r : Ending) (w' : World) : Prop :=
  ∃ SF' SS', r = .returned (.int .i64 e) ∧ At10 fb sb lo SF' SS' m f' wy' ver' c' w' ∧ Keeps (SF ++ SS ++ mS m) w w' ∧ Grew SF w SF' ∧ Grew SS w SS'
theorem SetP.did {fb t mb lo : Nat} {a : Option Addr} {ST : List Nat} {m : Option Nat} {sb : Nat} {S : List Nat} {e : Int} {f' : Fam} {wy' : Way10} {ver' : Nat} {c' : C4} {w w' : World} {r : Ending} (h : SetP fb t mb lo a ST m sb S e f' wy' ver' c' w r w') : Did10 fb sb lo (famS fb mb a ST) (sb :: S) m e f' wy' ver' c' w r w' := by
  obtain ⟨a', ST', S', h1, h2, h3, h4, h5⟩ := h
  refine ⟨_, sb :: S', h1, h2.at10, h3.mono (fun z hz => by simp only [List.mem_cons, List.mem_append] at hz ⊢; rcases hz with h | (h | h) | h <;> simp [h]), h4, fun z hz => ?_⟩
  rcases List.mem_cons.1 hz with h | h
  · left; simp [h]
  · rcases h5 z h with h | h
    · left; simp [h]
    · exact .inr h
theorem set10_any {k j : Nat} {fb sb lo : Nat} {SF SS : List Nat} {m : Option Nat} {f : Fam} {ks : List ByteArray} {wy : Way10} {ver : Nat} {c : C4} {w : World} (G : Good10 k j f ks wy) (H : At10 fb sb lo SF SS m f wy ver c w) (s : ByteArray) (v : Int) (hs : s.size ≤ 1000000) (hver : ver ≤ 100000) :
    Calls Tryz.prog 21 #[.pointer (some ⟨sb, 0, none⟩), .string s, .int .i64 v] w (Did10 fb sb lo SF SS m (setW f wy c s v).1 (setW f wy c s v).2.1 (setW f wy c s v).2.2.1 (if (setW f wy c s v).1 = 0 then ver + 1 else ver) (setW f wy c s v).2.2.2 w) := by
  obtain ⟨t, mb, a, ST, S, rfl, rfl, hS⟩ := H.sp
  have hk := G.k9
  have hj := G.j9
  cases wy with
  | row vs =>
    obtain ⟨rb, ar, rfl, h⟩ := hS
    have hI := G.fk.t
    have hvv : vs.length ≤ 100000 := by obtain ⟨_, hv⟩ : vs.length ≤ ks.length ∧ vs.length ≤ j := G.w; omega
    have conv : ∀ (e0 : Int) (f0 : Fam) (vs0 : List Int) (c0 : C4), rowSet f vs c s v = some (e0, f0, vs0, c0) → setW f (.row vs) c s v = (e0, f0, .row vs0, c0) → ∀ r w', SetRowP fb t mb lo a ST m f sb rb ar vs ver c s v w r w' → Did10 fb sb lo (famS fb mb a ST) (sb :: rb :: blk ar) m (setW f (.row vs) c s v).1 (setW f (.row vs) c s v).2.1 (setW f (.row vs) c s v).2.2.1 (if (setW f (.row vs) c s v).1 = 0 then ver + 1 else ver) (setW f (.row vs) c s v).2.2.2 w r w' := by
      intro e0 f0 vs0 c0 hr hw r w' hp
      obtain ⟨e, f', vs', c', a', ST', ar', he, h1, h2, h3, h4, h5⟩ := hp
      rw [hr] at he
      simp only [Option.some.injEq, Prod.mk.injEq] at he
      obtain ⟨rfl, rfl, rfl, rfl⟩ := he
      rw [hw]
      refine SetP.did ⟨a', ST', rb :: blk ar', h1, ⟨rb, ar', rfl, h2⟩, ?_, h4, h5⟩
      exact h3
    by_cases h1 : 0 ≤ (findW f s c (.row vs)).1
    · have hw : setW f (.row vs) c s v = (0, f, putW (findW f s c (.row vs)).1 v (.row vs), (findW f s c (.row vs)).2) := by unfold setW; rw [if_pos h1]
      refine (sset_old k (by omega) fb t mb lo a ST m f sb rb ar vs ver c s v w h hI hs hver h1).mono (conv _ _ _ _ ?_ hw)
      have h1' : 0 ≤ rowFindI vs (seekR f.K (numI f.N s) (txtH s) c).1 := h1
      unfold rowSet
      rw [if_pos h1']
      rfl
    · by_cases h2 : f.pairs ≤ ((Way10.row vs).len : Int)
      · have hw : setW f (.row vs) c s v = (6, f, .row vs, (findW f s c (.row vs)).2) := by unfold setW; rw [if_neg h1, if_pos h2]
        refine (sset_full k (by omega) fb t mb lo a ST m f sb rb ar vs ver c s v w h hI hs hver h1 h2).mono (conv _ _ _ _ ?_ hw)
        have h1' : ¬ 0 ≤ rowFindI vs (seekR f.K (numI f.N s) (txtH s) c).1 := h1
        unfold rowSet
        have h2' : f.pairs ≤ (vs.length : Int) := h2
        rw [if_neg h1', if_pos h2']
        rfl
      · cases h3 : rowAdd f vs.length s (findW f s c (.row vs)).2 with
        | some p =>
          obtain ⟨f5, c5⟩ := p
          have hw : setW f (.row vs) c s v = (0, f5, .row (vs ++ [v]), c5.val) := by unfold setW; rw [if_neg h1, if_neg h2]; simp only; rw [h3]
          refine (sset_add k (by omega) fb t mb lo a ST m f sb rb ar vs ver c s v w h hI hs hver h1 h2 f5 c5 h3 G.n hvv).mono (conv _ _ _ _ ?_ hw)
          have h1' : ¬ 0 ≤ rowFindI vs (seekR f.K (numI f.N s) (txtH s) c).1 := h1
          unfold rowSet
          have h2' : ¬ f.pairs ≤ (vs.length : Int) := h2
          rw [if_neg h1', if_neg h2', show rowAdd f vs.length s (seekR f.K (numI f.N s) (txtH s) c).2 = some (f5, c5) from h3]
        | none =>
          have hw : setW f (.row vs) c s v = (0, giveF f s, .own (ownAddT f s v (turnT f (findW f s c (.row vs)).2 (.row vs)).1), ownAddC (turnT f (findW f s c (.row vs)).2 (.row vs)).2 (turnT f (findW f s c (.row vs)).2 (.row vs)).1) := by
            unfold setW; rw [if_neg h1, if_neg h2]; simp only; rw [h3]
          rw [hw]
          exact (sset_turn k (by omega) fb t mb lo a ST m f sb rb ar vs ver c s v w h G.row hs hver h1 h2 h3).mono fun r w' hp => SetP.did hp
  | own T =>
    obtain ⟨ob, t2, lo2, S2, rfl, h⟩ := hS
    have hI : TInv j T := (show OwnOk j f.N T from G.w).t
    have conv : ∀ (e0 : Int) (f0 : Fam) (T0 : Tab) (ver0 : Nat) (c0 : C4), setW f (.own T) c s v = (e0, f0, .own T0, c0) → ver0 = (if e0 = 0 then ver + 1 else ver) → ∀ r w', SetOwnP fb t mb lo a ST m sb ob t2 lo2 S2 e0 f0 T0 ver0 c0 w r w' → Did10 fb sb lo (famS fb mb a ST) (sb :: ob :: S2) m (setW f (.own T) c s v).1 (setW f (.own T) c s v).2.1 (setW f (.own T) c s v).2.2.1 (if (setW f (.own T) c s v).1 = 0 then ver + 1 else ver) (setW f (.own T) c s v).2.2.2 w r w' := by
      intro e0 f0 T0 ver0 c0 hw hv0 r w' hp
      obtain ⟨a', S2', h1, h2, h3, h4, h5⟩ := hp
      rw [hw]
      subst hv0
      exact SetP.did ⟨a', ST, ob :: S2', h1, ⟨ob, t2, lo2, S2', rfl, h2⟩, h3, h4, h5⟩
    by_cases h1 : 0 ≤ (findW f s c (.own T)).1
    · have hw : setW f (.own T) c s v = (0, f, putW (findW f s c (.own T)).1 v (.own T), (findW f s c (.own T)).2) := by unfold setW; rw [if_pos h1]
      exact (sset_oold j (by omega) fb t mb lo a ST m f sb ob t2 lo2 S2 T ver c s v w h hI hs hver h1).mono (conv _ _ _ _ _ hw rfl)
    · by_cases h2 : f.pairs ≤ ((Way10.own T).len : Int)
      · have hw : setW f (.own T) c s v = (6, f, .own T, (findW f s c (.own T)).2) := by unfold setW; rw [if_neg h1, if_pos h2]
        exact (sset_ofull j (by omega) fb t mb lo a ST m f sb ob t2 lo2 S2 T ver c s v w h hI hs h1 h2).mono (conv _ _ _ _ _ hw rfl)
      · have hw : setW f (.own T) c s v = (0, giveF f s, .own (ownAddT f s v T), ownAddC (findW f s c (.own T)).2 T) := by unfold setW; rw [if_neg h1, if_neg h2]
        exact (sset_oadd j (by omega) fb t mb lo a ST m f sb ob t2 lo2 S2 T ver c s v w h hI hs hver h1 h2 G.n).mono (conv _ _ _ _ _ hw rfl)
theorem del10_any {k j : Nat} {fb sb lo : Nat} {SF SS : List Nat} {m : Option Nat} {f : Fam} {ks : List ByteArray} {wy : Way10} {ver : Nat} {c : C4} {w : World} (G : Good10 k j f ks wy) (H : At10 fb sb lo SF SS m f wy ver c w) (s : ByteArray) (hs : s.size ≤ 1000000) (hver : ver ≤ 100000) :
    Calls Tryz.prog 31 #[.pointer (some ⟨sb, 0, none⟩), .string s] w (Did10 fb sb lo SF SS m (delW f wy c s).1 f (delW f wy c s).2.1 (if (delW f wy c s).1 = 0 then ver + 1 else ver) (delW f wy c s).2.2 w) := by
  obtain ⟨t, mb, a, ST, S, rfl, rfl, hS⟩ := H.sp
  have hk := G.k9
  have hj := G.j9
  cases wy with
  | row vs =>
    obtain ⟨rb, ar, rfl, h⟩ := hS
    by_cases h1 : 0 ≤ (findW f s c (.row vs)).1
    · have hw : delW f (.row vs) c s = (0, .own ((turnT f (findW f s c (.row vs)).2 (.row vs)).1.kill (findW f s c (.row vs)).1), (turnT f (findW f s c (.row vs)).2 (.row vs)).2) := by unfold delW; rw [if_pos h1]
      rw [hw]
      exact (sdel_row k (by omega) fb t mb lo a ST m f sb rb ar vs ver c s w h G.row hs hver h1).mono fun r w' hp => SetP.did hp
    · have hw : delW f (.row vs) c s = (7, .row vs, (findW f s c (.row vs)).2) := by unfold delW; rw [if_neg h1]
      rw [hw]
      exact (sdel_rno k (by omega) fb t mb lo a ST m f sb rb ar vs ver c s w h G.fk.t hs h1).mono fun r w' hp => SetP.did hp
  | own T =>
    obtain ⟨ob, t2, lo2, S2, rfl, h⟩ := hS
    have hI : TInv j T := (show OwnOk j f.N T from G.w).t
    by_cases h1 : 0 ≤ (findW f s c (.own T)).1
    · have hw : delW f (.own T) c s = (0, .own (T.kill (findW f s c (.own T)).1), (findW f s c (.own T)).2) := by unfold delW; rw [if_pos h1]; rfl
      rw [hw]
      exact (sdel_own j (by omega) fb t mb lo a ST m f sb ob t2 lo2 S2 T ver c s w h hI hs hver h1).mono fun r w' hp => SetP.did hp
    · have hw : delW f (.own T) c s = (7, .own T, (findW f s c (.own T)).2) := by unfold delW; rw [if_neg h1]
      rw [hw]
      exact (sdel_ono j (by omega) fb t mb lo a ST m f sb ob t2 lo2 S2 T ver c s w h hI hs h1).mono fun r w' hp => SetP.did hp
theorem get10_any {k j : Nat} {fb sb lo : Nat} {SF SS : List Nat} {m : Option Nat} {f : Fam} {ks : List ByteArray} {wy : Way10} {ver : Nat} {c : C4} {w : World} (G : Good10 k j f ks wy) (H : At10 fb sb lo SF SS m f wy ver c w) (s : ByteArray) (hs : s.size ≤ 1000000) :
    Calls Tryz.prog 22 #[.pointer (some ⟨sb, 0, none⟩), .string s] w fun r w' => r = .returned (.tuple #[.int .i64 (if 0 ≤ (findW f s c wy).1 then valW (findW f s c wy).1 wy else 0), .bool (decide (0 ≤ (findW f s c wy).1))]) ∧ At10 fb sb lo SF SS m f wy ver (findW f s c wy).2 w' ∧ Keeps (mS m) w w' := by
  obtain ⟨t, mb, a, ST, S, rfl, rfl, hS⟩ := H.sp
  have hk := G.k9
  have hj := G.j9
  cases wy with
  | row vs =>
    obtain ⟨rb, ar, rfl, h⟩ := hS
    refine (sget_row k (by omega) fb t mb lo a ST m f sb rb ar vs ver c s w h G.fk.t hs).mono ?_
    rintro r w' ⟨h1, h2, h3⟩
    exact ⟨h1, SpAt.at10 (wy := .row vs) ⟨rb, ar, rfl, h2⟩, h3⟩
  | own T =>
    obtain ⟨ob, t2, lo2, S2, rfl, h⟩ := hS
    have hI : TInv j T := (show OwnOk j f.N T from G.w).t
    refine (sget_own j (by omega) fb t mb lo a ST m f sb ob t2 lo2 S2 T ver c s w h hI hs).mono ?_
    rintro r w' ⟨h1, h2, h3⟩
    exact ⟨h1, SpAt.at10 (wy := .own T) ⟨ob, t2, lo2, S2, rfl, h2⟩, h3⟩
theorem pairs10_any {k j : Nat} {fb sb lo : Nat} {SF SS : List Nat} {m : Option Nat} {f : Fam} {ks : List ByteArray} {wy : Way10} {ver : Nat} {c : C4} {w : World} (G : Good10 k j f ks wy) (H : At10 fb sb lo SF SS m f wy ver c w) :
    Calls Tryz.prog 37 #[.pointer (some ⟨sb, 0, none⟩)] w (Pairs10 (pairsW f wy) w) := by
  obtain ⟨t, mb, a, ST, S, rfl, rfl, hS⟩ := H.sp
  have hk := G.k9
  have hj := G.j9
  cases wy with
  | row vs =>
    obtain ⟨rb, ar, rfl, h⟩ := hS
    have hvv : vs.length ≤ 100000 := by obtain ⟨_, hv⟩ : vs.length ≤ ks.length ∧ vs.length ≤ j := G.w; omega
    exact spairs_row sb fb rb _ _ w h.s fun W kW => rpairs_any k (by omega) fb t mb lo a ST m f rb lo ar vs W (h.F.keeps kW (by simp)) (h.R.keeps kW (by simp)) G.fk.t hvv G.row.k
  | own T =>
    obtain ⟨ob, t2, lo2, S2, rfl, h⟩ := hS
    exact spairs_own sb fb ob _ _ w h.s fun W kW => opairs_any j (by omega) fb t mb lo a ST m f ob t2 lo2 S2 T W (h.F.keeps kW (by simp)) (h.O.keeps kW (by simp)) G.w
theorem len10_any {fb sb lo : Nat} {SF SS : List Nat} {m : Option Nat} {f : Fam} {wy : Way10} {ver : Nat} {c : C4} {w : World} (H : At10 fb sb lo SF SS m f wy ver c w) :
    Calls Tryz.prog 33 #[.pointer (some ⟨sb, 0, none⟩)] w fun r w' => r = .returned (.int .i64 (wy.len : Nat)) ∧ w = w' := by
  obtain ⟨t, mb, a, ST, S, rfl, rfl, hS⟩ := H.sp
  cases wy with
  | row vs =>
    obtain ⟨rb, ar, rfl, h⟩ := hS
    exact slen_row sb fb rb lo ar vs _ w h.s h.R
  | own T =>
    obtain ⟨ob, t2, lo2, S2, rfl, h⟩ := hS
    exact slen_own sb fb ob t2 lo2 S2 m T _ w h.s h.O
theorem ver10_any {fb sb lo : Nat} {SF SS : List Nat} {m : Option Nat} {f : Fam} {wy : Way10} {ver : Nat} {c : C4} {w : World} (H : At10 fb sb lo SF SS m f wy ver c w) (hver : ver ≤ 100000) :
    Calls Tryz.prog 35 #[.pointer (some ⟨sb, 0, none⟩)] w fun r w' => r = .returned (.int .i64 (ver : Nat)) ∧ w = w' := by
  obtain ⟨t, mb, a, ST, S, rfl, rfl, hS⟩ := H.sp
  have e : wrap64 (ver : Int) = (ver : Int) := IntWalk.wrap64_in _ (by omega)
  cases wy with
  | row vs =>
    obtain ⟨rb, ar, rfl, h⟩ := hS
    have := sver_any sb fb _ _ w h.s
    rw [e] at this; exact this
  | own T =>
    obtain ⟨ob, t2, lo2, S2, rfl, h⟩ := hS
    have := sver_any sb fb _ _ w h.s
    rw [e] at this; exact this
def Way10.isRow : Way10 → Bool
  | .row _ => true
  | .own _ => false
theorem shared10_any {fb sb lo : Nat} {SF SS : List Nat} {m : Option Nat} {f : Fam} {wy : Way10} {ver : Nat} {c : C4} {w : World} (H : At10 fb sb lo SF SS m f wy ver c w) :
    Calls Tryz.prog 23 #[.pointer (some ⟨sb, 0, none⟩)] w fun r w' => r = .returned (.bool wy.isRow) ∧ w = w' := by
  obtain ⟨t, mb, a, ST, S, rfl, rfl, hS⟩ := H.sp
  cases wy with
  | row vs =>
    obtain ⟨rb, ar, rfl, h⟩ := hS
    exact sshared_row sb fb rb _ w h.s
  | own T =>
    obtain ⟨ob, t2, lo2, S2, rfl, h⟩ := hS
    exact sshared_own sb fb ob _ w h.s
def SeenP (wy : Way10) (w : World) (r : Ending) (w' : World) : Prop :=
  match wy with
  | .row _ => r = .returned noSight ∧ Keeps [] w w'
  | .own T => SightP T w r w'
theorem sight10_any {k j : Nat} {fb sb lo : Nat} {SF SS : List Nat} {m : Option Nat} {f : Fam} {ks : List ByteArray} {wy : Way10} {ver : Nat} {c : C4} {w : World} (G : Good10 k j f ks wy) (H : At10 fb sb lo SF SS m f wy ver c w) :
    Calls Tryz.prog 39 #[.pointer (some ⟨sb, 0, none⟩)] w (SeenP wy w) := by
  obtain ⟨t, mb, a, ST, S, rfl, rfl, hS⟩ := H.sp
  cases wy with
  | row vs =>
    obtain ⟨rb, ar, rfl, h⟩ := hS
    exact ssight_row sb fb rb _ w h.s
  | own T =>
    obtain ⟨ob, t2, lo2, S2, rfl, h⟩ := hS
    have hI : TInv j T := (show OwnOk j f.N T from G.w).t
    have hj := G.j9
    exact ssight_own sb fb ob t2 lo2 S2 m T _ w h.s h.O (by have := hI.l12; omega) hI.ft (by have := hI.ek; omega)
end Go.Proofs.YtajmfenfajbakaaGreat
