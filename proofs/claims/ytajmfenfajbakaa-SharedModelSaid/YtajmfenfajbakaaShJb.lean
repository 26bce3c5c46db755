/- The program's namespaces: each call, beside all the others (chapter 10). -/
import Derived.Test.YtajmfenfajbakaaShJa
import Derived.Test.YtajmfenfajbakaaShQ
namespace Go.Proofs.Ytajmfenfajbakaa
open Go.RowKit
set_option linter.unusedVariables false
set_option linter.unusedSimpArgs false

/-- What a namespace is, without where it lies. -/
def PS10.pure (x : PS10) : Way10 × Nat := (x.wy, x.ver)
section
variable {m : Option Nat} {lo fb : Nat} {f : Fam} {c : C4} {o o' : Nat → Tg10} {L : List PS10} {W W' : World} {k : Nat} {ks : List ByteArray} {i : Nat} {x : PS10}
theorem pure_at (hx : L[i]? = some x) : (L.map PS10.pure)[i]? = some (x.wy, x.ver) := by rw [List.getElem?_map, hx]; rfl
theorem SJ.at10 (h : SJ sideP10 m lo fb f c o L W) (hx : L[i]? = some x) : ∃ SF SS, At10 fb x.sb lo SF SS m f x.wy x.ver c W ∧ (∀ z, z ∈ SF → o z = .fam true) ∧ (∀ z, z ∈ SS → o z = .sp true i) ∧ (∀ z, z ∈ SF → z < W.heap.size) ∧ ∀ z, z ∈ SS → z < W.heap.size := by
  obtain ⟨SF, h1, h2⟩ := h.fm
  obtain ⟨SS, h3, h4⟩ := h.sp i x hx
  exact ⟨SF, SS, ⟨h1, h3, h.ct, fun z hz hy => by have := h2 z hz; rw [h4 z hy] at this; simp at this, fun b hb => (h.mt b hb).1⟩, h2, h4, fun z hz => (FA10.foot h1 z hz).2, fun z hz => (SA10.foot h3 z hz).2⟩
/-- Behind a call that may have changed one namespace and the family. -/
def JDid (m : Option Nat) (lo fb : Nat) (o : Nat → Tg10) (L : List PS10) (i : Nat) (x : PS10) (e : Int) (f' : Fam) (wy' : Way10) (ver' : Nat) (c' : C4) (W : World) (r : Ending) (W' : World) : Prop :=
  r = .returned (.int .i64 e) ∧ ∃ o', SJ sideP10 m lo fb f' c' o' (L.set i { x with wy := wy', ver := ver' }) W' ∧ MvT (Tg10.side true) o W o' W' ∧ FreeT o' W' ∧ NewT10 o o' W
theorem jdid (h : SJ sideP10 m lo fb f c o L W) (fr : FreeT o W) (hx : L[i]? = some x) {SF SS : List Nat} (h2 : ∀ z, z ∈ SF → o z = .fam true) (h3 : ∀ z, z ∈ SS → o z = .sp true i) (h4 : ∀ z, z ∈ SF → z < W.heap.size) (h5 : ∀ z, z ∈ SS → z < W.heap.size)
    {e : Int} {f' : Fam} {wy' : Way10} {ver' : Nat} {c' : C4} {r : Ending} (hd : Did10 fb x.sb lo SF SS m e f' wy' ver' c' W r W') : JDid m lo fb o L i x e f' wy' ver' c' W r W' := by
  obtain ⟨SF', SS', h6, h7, h8, h9, h10⟩ := hd
  exact ⟨h6, h.did fr hx h2 h4 h3 h5 h7.F h7.s h7.M h8 h9 h10 h7.d⟩
theorem jset_any (h : SJ sideP10 m lo fb f c o L W) (fr : FreeT o W) (P : PJ k f ks (L.map PS10.pure)) (hk : k ≤ 900) (hx : L[i]? = some x) (s : ByteArray) (v : Int) (hs : s.size ≤ 200) :
    Calls Try.prog 11 #[.pointer (some ⟨x.sb, 0, none⟩), .string s, .int .i64 v] W (JDid m lo fb o L i x (setW f x.wy c s v).1 (setW f x.wy c s v).2.1 (setW f x.wy c s v).2.2.1 (if (setW f x.wy c s v).1 = 0 then x.ver + 1 else x.ver) (setW f x.wy c s v).2.2.2 W) := by
  obtain ⟨SF, SS, h1, h2, h3, h4, h5⟩ := h.at10 hx
  have hv := (P.sp i _ (pure_at hx)).2
  exact (set10_any (P.good hk (pure_at hx)) h1 s v (by omega) (by simp only at hv; omega)).mono fun r W' hd => jdid h fr hx h2 h3 h4 h5 hd
theorem jdel_any (h : SJ sideP10 m lo fb f c o L W) (fr : FreeT o W) (P : PJ k f ks (L.map PS10.pure)) (hk : k ≤ 900) (hx : L[i]? = some x) (s : ByteArray) (hs : s.size ≤ 200) :
    Calls Try.prog 24 #[.pointer (some ⟨x.sb, 0, none⟩), .string s] W (JDid m lo fb o L i x (delW f x.wy c s).1 f (delW f x.wy c s).2.1 (if (delW f x.wy c s).1 = 0 then x.ver + 1 else x.ver) (delW f x.wy c s).2.2 W) := by
  obtain ⟨SF, SS, h1, h2, h3, h4, h5⟩ := h.at10 hx
  have hv := (P.sp i _ (pure_at hx)).2
  exact (del10_any (P.good hk (pure_at hx)) h1 s (by omega) (by simp only at hv; omega)).mono fun r W' hd => jdid h fr hx h2 h3 h4 h5 hd
theorem jget_any (h : SJ sideP10 m lo fb f c o L W) (P : PJ k f ks (L.map PS10.pure)) (hk : k ≤ 900) (hx : L[i]? = some x) (s : ByteArray) (hs : s.size ≤ 200) :
    Calls Try.prog 26 #[.pointer (some ⟨x.sb, 0, none⟩), .string s] W fun r W' => r = .returned (.tuple #[.int .i64 (if 0 ≤ (findW f s c x.wy).1 then valW (findW f s c x.wy).1 x.wy else 0), .bool (decide (0 ≤ (findW f s c x.wy).1))]) ∧ SJ sideP10 m lo fb f (findW f s c x.wy).2 o L W' ∧ MvT (Tg10.side true) o W o W' ∧ Keeps (mS m) W W' := by
  obtain ⟨SF, SS, h1, h2, h3, h4, h5⟩ := h.at10 hx
  refine (get10_any (P.good hk (pure_at hx)) h1 s (by omega)).mono ?_
  rintro r W' ⟨g1, g2, g3⟩
  obtain ⟨q1, q2⟩ := h.met g3 g2.M
  exact ⟨g1, q1, q2, g3⟩
theorem jpairs_any (h : SJ sideP10 m lo fb f c o L W) (P : PJ k f ks (L.map PS10.pure)) (hk : k ≤ 900) (hx : L[i]? = some x) :
    Calls Try.prog 17 #[.pointer (some ⟨x.sb, 0, none⟩)] W (Pairs10 (pairsW f x.wy) W) := by
  obtain ⟨SF, SS, h1, _⟩ := h.at10 hx
  exact pairs10_any (P.good hk (pure_at hx)) h1
theorem jlen_any (h : SJ sideP10 m lo fb f c o L W) (hx : L[i]? = some x) :
    Calls Try.prog 16 #[.pointer (some ⟨x.sb, 0, none⟩)] W fun r w' => r = .returned (.int .i64 (x.wy.len : Nat)) ∧ W = w' := by
  obtain ⟨SF, SS, h1, _⟩ := h.at10 hx
  exact len10_any h1
theorem jver_any (h : SJ sideP10 m lo fb f c o L W) (P : PJ k f ks (L.map PS10.pure)) (hk : k ≤ 900) (hx : L[i]? = some x) :
    Calls Try.prog 25 #[.pointer (some ⟨x.sb, 0, none⟩)] W fun r w' => r = .returned (.int .i64 (x.ver : Nat)) ∧ W = w' := by
  obtain ⟨SF, SS, h1, _⟩ := h.at10 hx
  have hv := (P.sp i _ (pure_at hx)).2
  exact ver10_any h1 (by simp only at hv; omega)
theorem jshared_any (h : SJ sideP10 m lo fb f c o L W) (hx : L[i]? = some x) :
    Calls Try.prog 12 #[.pointer (some ⟨x.sb, 0, none⟩)] W fun r w' => r = .returned (.bool x.wy.isRow) ∧ W = w' := by
  obtain ⟨SF, SS, h1, _⟩ := h.at10 hx
  exact shared10_any h1
theorem jsight_any (h : SJ sideP10 m lo fb f c o L W) (P : PJ k f ks (L.map PS10.pure)) (hk : k ≤ 900) (hx : L[i]? = some x) :
    Calls Try.prog 27 #[.pointer (some ⟨x.sb, 0, none⟩)] W (SeenP x.wy W) := by
  obtain ⟨SF, SS, h1, _⟩ := h.at10 hx
  exact sight10_any (P.good hk (pure_at hx)) h1
theorem jnames_any (h : SJ sideP10 m lo fb f c o L W) (P : PJ k f ks (L.map PS10.pure)) (hk : k ≤ 900) :
    Calls Try.prog 15 #[.pointer (some ⟨fb, 0, none⟩)] W (Names10 ks W) := by
  obtain ⟨SF, ⟨t, mb, a, ST, rfl, h1⟩, h2⟩ := h.fm
  exact names_any k (by omega) fb t mb lo a ST m f ks W h1 P.fk
theorem jfsight_any (h : SJ sideP10 m lo fb f c o L W) (P : PJ k f ks (L.map PS10.pure)) (hk : k ≤ 900) :
    Calls Try.prog 18 #[.pointer (some ⟨fb, 0, none⟩)] W (SightP f.K W) := by
  obtain ⟨SF, ⟨t, mb, a, ST, rfl, h1⟩, h2⟩ := h.fm
  have hI := P.fk.t
  exact fsight_any fb t mb lo a ST m f W h1 (by have := hI.l12; omega) hI.ft (by have := hI.ek; omega)
theorem jmake_any (h : SJ sideP10 m lo fb f c o L W) (fr : FreeT o W) :
    Calls Try.prog 10 #[.pointer (some ⟨fb, 0, none⟩)] W fun r W' => ∃ sb, r = .returned (.pointer (some ⟨sb, 0, none⟩)) ∧ W.heap.size ≤ sb ∧ Keeps [] W W' ∧ ∃ o', SJ sideP10 m lo fb f c o' (L ++ [⟨sb, .row [], 0⟩]) W' ∧ MvT (Tg10.side true) o W o' W' ∧ FreeT o' W' ∧ NewT10 o o' W := by
  obtain ⟨SF, ⟨t, mb, a, ST, rfl, h1⟩, h2⟩ := h.fm
  refine (fmake_any fb t mb lo a ST m f c W h1 h.ct (fun b hb => (h.mt b hb).1)).mono ?_
  rintro r W' ⟨sb, rb, rfl, g1, g2, g3, g4⟩
  refine ⟨sb, rfl, g3, g2, h.make fr (x := ⟨sb, .row [], 0⟩) (SS := [sb, rb]) (show SA10 fb sb lo [sb, rb] m (.row []) 0 W' from ⟨g1.ls, rb, none, rfl, g1.R, g1.s, g1.d2.2⟩) g2 (fun z hz => by simp at hz; omega)⟩
theorem jnew_any (most pairs : Int) (m : Option Nat) (c : C4) (W : World) (hM : MtrAt m c W) (h0 : 0 ≤ most) (h1 : most ≤ 256) (h2 : 0 ≤ pairs) (h3 : pairs ≤ 65536) :
    Calls Try.prog 9 #[.int .i64 most, .int .i64 pairs, mV m] W fun r W' => ∃ fb, r = .returned (.tuple #[.pointer (some ⟨fb, 0, none⟩), .int .i64 0]) ∧ W.heap.size ≤ fb ∧ Keeps (mS m) W W' ∧ MtrAt m c.tab W' ∧ ∃ S, FA10 fb W.heap.size S m ⟨most, pairs, newT, []⟩ W' := by
  refine (fnew_any most pairs m c W hM h0 h1 h2 h3).mono ?_
  rintro r W' ⟨fb, t, mb, ST, rfl, f1, m1, k1⟩
  exact ⟨fb, rfl, (f1.foot fb (by unfold famS; simp)).1, k1, m1, _, t, mb, none, ST, rfl, f1⟩
end
theorem PJ.new (most pairs : Int) : PJ 0 ⟨most, pairs, newT, []⟩ [] [] := ⟨FamOk.new most pairs, by simp, by simp, fun i x hx => by simp at hx⟩
end Go.Proofs.Ytajmfenfajbakaa
