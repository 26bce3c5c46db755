/- Namespaces as sequences, beside one another (chapter 10's SharedModel). No program in sight. What the law keeps of each namespace: how it goes on (chapter 10's SharedModel). No program in sight. The lists of SharedModel while they are made (chapter 10). A drawn region behind its named store: what still comes up, one by one. No program in sight. A round of SharedModel: a call on a namespace, and what the round's tail asks behind it (chapter 10). What SharedModel's rounds and its end want besides (chapter 10): the law's set and del in one form, and names that are short. -/
import Derived.Test.YtajmfenfajbakaaShJb
import Derived.Test.YtajmfenfajbakaaShKb
import Derived.Test.YtajmfenfajbakaaPast
import Derived.Test.YtajmfenfajbakaaShOn
section
namespace Go.Proofs.Ytajmfenfajbakaa
open Go.RowKit
set_option linter.unusedVariables false
set_option linter.unusedSimpArgs false

theorem PJ.del {k : Nat} {f : Fam} {ks : List ByteArray} {L : List (Way10 × Nat)} (h : PJ k f ks L) (hk : k ≤ 900) {i : Nat} {x : Way10 × Nat} (hx : L[i]? = some x) (c : C4) (s : ByteArray) :
    PJ (k + 1) f ks (L.set i ((delW f x.1 c s).2.1, if (delW f x.1 c s).1 = 0 then x.2 + 1 else x.2)) ∧
      (((delW f x.1 c s).1 = 7 ∧ delLw (pairsW f x.1) s = none ∧ (delW f x.1 c s).2.1 = x.1) ∨ ((delW f x.1 c s).1 = 0 ∧ delLw (pairsW f x.1) s = some (pairsW f (delW f x.1 c s).2.1))) := by
  rcases delW_ok hk h.fk (h.sp i x hx).1 c s with ⟨e1, e2, e3⟩ | ⟨e1, e2, e3, _⟩
  · refine ⟨?_, .inl ⟨e1, e2, e3⟩⟩
    rw [e3, e1]
    have : L.set i (x.1, if (7 : Int) = 0 then x.2 + 1 else x.2) = L := by
      rw [if_neg (by decide)]
      refine List.ext_getElem? fun q => ?_
      rw [List.getElem?_set]
      split
      · rename_i hq; subst hq; rw [hx]; simp [(List.getElem?_eq_some_iff.1 hx).1]
      · rfl
    rw [this]
    exact h.mono (by omega)
  · refine ⟨⟨h.fk.mono (by omega), by have := h.n; omega, h.z, fun j y hy => ?_⟩, .inr ⟨e1, e2⟩⟩
    rw [e1, if_pos rfl] at hy
    rcases set_get10 hx hy with ⟨rfl, rfl⟩ | ⟨hne, h9⟩
    · exact ⟨e3, by have := (h.sp i x hx).2; show x.2 + 1 ≤ k + 1; omega⟩
    · exact ⟨(h.sp j y h9).1.mono (by omega), by have := (h.sp j y h9).2; omega⟩
theorem pairsW_nodup {k j : Nat} {f : Fam} {ks : List ByteArray} {w : Way10} (h : FamOk k f ks) (hw : SpOk j f ks w) : ((pairsW f w).map (·.1)).Nodup := by
  cases w with
  | row vs =>
    obtain ⟨hl, _⟩ : vs.length ≤ ks.length ∧ vs.length ≤ j := hw
    show ((rowPs f vs vs.length).map (·.1)).Nodup
    rw [rowPs_eq h hl, rowL_names hl]
    exact h.kn.sublist (List.take_sublist _ _)
  | own T =>
    have hw' : OwnOk j f.N T := hw
    show (((liveL T.E).map (ownP f.N)).map (·.1)).Nodup
    rw [List.map_map]
    have hu := hw'.u
    unfold List.Nodup at hu ⊢
    rw [List.pairwise_map] at hu ⊢
    refine hu.imp_of_mem fun {a b} ha hb hab he => hab ?_
    obtain ⟨n, t, h1, h2, _⟩ := hw'.e a ha
    obtain ⟨n', t', g1, g2, _⟩ := hw'.e b hb
    simp only [Function.comp_apply] at he
    rw [ownP_of h1 h2, ownP_of g1 g2] at he
    simp only at he
    subst he
    have a1 := numI_at h.nn h1
    have a2 := numI_at h.nn g1
    omega
/-- Get of a name that is there. -/
theorem getW_at {k j : Nat} {f : Fam} {ks : List ByteArray} {w : Way10} (h : FamOk k f ks) (hw : SpOk j f ks w) (c : C4) {i : Nat} {p : Pr10} (hp : (pairsW f w)[i]? = some p) :
    0 ≤ (findW f p.1 c w).1 ∧ valW (findW f p.1 c w).1 w = p.2 := by
  have hn : numI ((pairsW f w).map (·.1)) p.1 = (i : Int) := numI_at (pairsW_nodup h hw) (by rw [List.getElem?_map, hp]; rfl)
  rcases getW_ok h hw c p.1 with ⟨h1, h2⟩ | ⟨h1, h2⟩
  · unfold getLw at h2; rw [hn, if_pos (by omega)] at h2; cases h2
  · refine ⟨h1, ?_⟩
    unfold getLw at h2; rw [hn, if_pos (by omega)] at h2
    simp only [Int.toNat_natCast, Option.some.injEq] at h2
    rw [← h2, List.getD_eq_getElem?_getD, hp]; rfl
/-- A private one stays private. -/
theorem setW_own (f : Fam) (T : Tab) (c : C4) (s : ByteArray) (v : Int) : (setW f (.own T) c s v).2.2.1.isRow = false := by
  unfold setW
  split
  · rfl
  · split <;> rfl
theorem delW_own (f : Fam) (T : Tab) (c : C4) (s : ByteArray) : (delW f (.own T) c s).2.1.isRow = false := by
  unfold delW
  split <;> rfl
theorem setW_row {f : Fam} {w : Way10} {c : C4} {s : ByteArray} {v : Int} (h : (setW f w c s v).2.2.1.isRow = true) : w.isRow = true := by
  cases w with
  | row vs => rfl
  | own T => rw [setW_own] at h; cases h
theorem delW_row {f : Fam} {w : Way10} {c : C4} {s : ByteArray} (h : (delW f w c s).2.1.isRow = true) : w.isRow = true := by
  cases w with
  | row vs => rfl
  | own T => rw [delW_own] at h; cases h
/-- The law's own lists: what their cells hold. -/
def ptrV10 (L : List PS10) (i : Nat) : Value := match L[i]? with | some x => .pointer (some ⟨x.sb, 0, none⟩) | none => .pointer none
def sliV10 (P : Nat → List Pr10) (ra : Nat → Option Addr) (rc : Nat → Nat) (i : Nat) : Value := .slice (ra i) (P i).length (rc i)
def intV10 (ve : Nat → Nat) (i : Nat) : Value := .int .i64 (ve i : Nat)
/-- The namespaces, and what the law keeps of each. -/
structure MdS (lo fb : Nat) (all : Int) (k n : Nat) (sa wa va : Option Addr) (sc wc vc : Nat) (f : Fam) (ks : List ByteArray) (c : C4) (o : Nat → Tg10) (L : List PS10) (P : Nat → List Pr10) (ve : Nat → Nat) (ra : Nat → Option Addr) (rc : Nat → Nat) (W : World) : Prop where
  j : SJ sideP10 none lo fb f c o L W
  fr : FreeT o W
  ln : L.length = n
  p : PJ k f ks (L.map PS10.pure)
  pr : f.pairs = all
  s : ValRow 39 lo sa n sc (ptrV10 L) W
  so : ∀ z, z ∈ blk sa → o z = .two 0
  w : ValRow 49 lo wa n wc (sliV10 P ra rc) W
  wo : ∀ z, z ∈ blk wa → o z = .two 1
  r : ∀ i, i < n → PairRow lo (ra i) (rc i) (P i) W ∧ ∀ z, z ∈ blk (ra i) → o z = .row i
  v : ValRow 3 lo va n vc (intV10 ve) W
  vo : ∀ z, z ∈ blk va → o z = .two 2
  low : ∀ z, o z ≠ .free → lo ≤ z
/-- The lists are the namespaces. -/
def Rel10 (f : Fam) (L : List PS10) (P : Nat → List Pr10) (ve : Nat → Nat) : Prop := ∀ (i : Nat) (x : PS10), L[i]? = some x → P i = pairsW f x.wy ∧ ve i = x.ver
end Go.Proofs.Ytajmfenfajbakaa
end

section
namespace Go.Proofs.Ytajmfenfajbakaa
open Go.RowKit
set_option linter.unusedVariables false
set_option linter.unusedSimpArgs false

def upd10 {α : Type} (F : Nat → α) (i : Nat) (a : α) (j : Nat) : α := if j = i then a else F j
theorem upd10_same {α : Type} (F : Nat → α) (i : Nat) (a : α) : upd10 F i a i = a := by unfold upd10; rw [if_pos rfl]
theorem upd10_ne {α : Type} (F : Nat → α) {i j : Nat} (a : α) (h : j ≠ i) : upd10 F i a j = F j := by unfold upd10; rw [if_neg h]
theorem ptrV10_set {L : List PS10} {i : Nat} {x x' : PS10} (hx : L[i]? = some x) (hs : x'.sb = x.sb) (j : Nat) : ptrV10 (L.set i x') j = ptrV10 L j := by
  unfold ptrV10
  rw [List.getElem?_set]
  by_cases e : i = j
  · subst e
    rw [hx, if_pos rfl, if_pos (List.getElem?_eq_some_iff.1 hx).1]; simp only; rw [hs]
  · rw [if_neg e]
section
variable {lo fb k k' n : Nat} {all : Int} {sa wa va : Option Addr} {sc wc vc : Nat} {f f' : Fam} {ks ks' : List ByteArray} {c c' : C4} {o o' : Nat → Tg10} {L : List PS10} {P : Nat → List Pr10} {ve : Nat → Nat} {ra : Nat → Option Addr} {rc : Nat → Nat} {W W1 W' : World} {i : Nat} {x x' : PS10}
theorem MdS.mono (h : MdS lo fb all k n sa wa va sc wc vc f ks c o L P ve ra rc W) (hk : k ≤ k') : MdS lo fb all k' n sa wa va sc wc vc f ks c o L P ve ra rc W :=
  ⟨h.j, h.fr, h.ln, h.p.mono hk, h.pr, h.s, h.so, h.w, h.wo, h.r, h.v, h.vo, h.low⟩
theorem MdS.lolt (h : MdS lo fb all k n sa wa va sc wc vc f ks c o L P ve ra rc W) : lo ≤ W.heap.size := by
  obtain ⟨S, ⟨t, mb, a, ST, rfl, hF⟩, _⟩ := h.j.fm
  have := hF.foot fb (by unfold famS; simp); omega
theorem MdS.quiet (h : MdS lo fb all k n sa wa va sc wc vc f ks c o L P ve ra rc W) (q : Keeps [] W W') : MdS lo fb all k n sa wa va sc wc vc f ks c o L P ve ra rc W' :=
  ⟨h.j.quiet q, h.fr.quiet q.size, h.ln, h.p, h.pr, h.s.keeps q (by simp), h.so, h.w.keeps q (by simp), h.wo, fun i hi => ⟨PairRow.keeps (h.r i hi).1 q (by simp), (h.r i hi).2⟩, h.v.keeps q (by simp), h.vo, h.low⟩
/-- A call on a namespace. -/
theorem MdS.did (h : MdS lo fb all k n sa wa va sc wc vc f ks c o L P ve ra rc W) (hx : L[i]? = some x) (hp : PJ k' f' ks' ((L.set i x').map PS10.pure)) (hs : x'.sb = x.sb) (hpr : f'.pairs = all)
    (j' : SJ sideP10 none lo fb f' c' o' (L.set i x') W') (mv : MvT (Tg10.side true) o W o' W') (fr' : FreeT o' W') (nw : NewT10 o o' W) : MdS lo fb all k' n sa wa va sc wc vc f' ks' c' o' (L.set i x') P ve ra rc W' := by
  have kk := mv.keeps
  have off : ∀ z, (Tg10.side true) (o z) = false → z ∉ FrT (Tg10.side true) o W := fun z hz => not_frT hz
  refine ⟨j', fr', by rw [List.length_set]; exact h.ln, hp, hpr, (h.s.keeps kk (fun z hz => off z (by rw [h.so z hz]; rfl))).congr (fun q hq => (ptrV10_set hx hs q).symm), fun z hz => (mv.old z (h.s.blk_lt z hz).2).trans (h.so z hz),
    h.w.keeps kk (fun z hz => off z (by rw [h.wo z hz]; rfl)), fun z hz => (mv.old z (h.w.blk_lt z hz).2).trans (h.wo z hz), fun q hq => ?_, h.v.keeps kk (fun z hz => off z (by rw [h.vo z hz]; rfl)), fun z hz => (mv.old z (h.v.blk_lt z hz).2).trans (h.vo z hz), fun z hz => ?_⟩
  · obtain ⟨r1, r2⟩ := h.r q hq
    exact ⟨PairRow.keeps r1 kk (fun z hz => off z (by rw [r2 z hz]; rfl)), fun z hz => (mv.old z (PairRow.blk_lt r1 z hz).2).trans (r2 z hz)⟩
  · rcases nw z hz with h9 | h9
    · exact h.low z h9
    · have := h.lolt; omega
/-- One of the lists laid anew, and stored. -/
theorem MdS.wrote {gw : Nat} (h : MdS lo fb all k n sa (some ⟨gw, 0, none⟩) va sc wc vc f ks c o L P ve ra rc W) (hi : i < n) {a' : Option Addr} {c9 : Nat} {P' : List Pr10} (r1 : PairRow lo a' c9 P' W1) (k1 : Keeps (blk (ra i)) W W1) (g : ∀ z, z ∈ blk a' → z ∈ blk (ra i) ∨ W.heap.size ≤ z) :
    ∃ o', MdS lo fb all k n sa (some ⟨gw, 0, none⟩) va sc wc vc f ks c o' L (upd10 P i P') ve (upd10 ra i a') (upd10 rc i c9) (W1.setCell ⟨gw, i, none⟩ (.slice a' P'.length c9)) ∧ (∀ z, z < W.heap.size → o' z = o z) ∧ Keeps (gw :: blk (ra i)) W (W1.setCell ⟨gw, i, none⟩ (.slice a' P'.length c9)) := by
  obtain ⟨r0, t0⟩ := h.r i hi
  have kS : Keeps [gw] W1 (W1.setCell ⟨gw, i, none⟩ (.slice a' P'.length c9)) := (Keeps.refl _ _).setCell (.inr (by simp)) _
  have kk : Keeps (gw :: blk (ra i)) W (W1.setCell ⟨gw, i, none⟩ (.slice a' P'.length c9)) := (k1.mono (fun z hz => List.mem_cons_of_mem _ hz)).trans (kS.mono (by simp))
  have gwl := h.w.blk_lt gw (by simp [blk])
  have tw := h.wo gw (by simp [blk])
  have hR : ∀ z, z ∈ gw :: blk (ra i) → o z = .two 1 ∨ o z = .row i := fun z hz => by
    rcases List.mem_cons.1 hz with rfl | hz
    · exact .inl tw
    · exact .inr (t0 z hz)
  have off : ∀ z, o z ≠ .two 1 → o z ≠ .row i → z ∉ gw :: blk (ra i) := fun z h1 h2 hz => (hR z hz).elim h1 h2
  obtain ⟨o', ho'⟩ : ∃ o' : Nat → Tg10, o' = fun z => if z < W.heap.size then o z else if z ∈ blk a' then .row i else .free := ⟨_, rfl⟩
  have old : ∀ z, z < W.heap.size → o' z = o z := fun z hz => by rw [ho']; simp [hz]
  have ra' : ∀ z, z ∈ blk a' → o' z = .row i := fun z hz => by
    rcases g z hz with h9 | h9
    · rw [old z (PairRow.blk_lt r0 z h9).2]; exact t0 z h9
    · rw [ho']; simp only [if_neg (show ¬ z < W.heap.size by omega), if_pos hz]
  have mv : MvT (fun t => decide (t = .two 1 ∨ t = .row i)) o W o' (W1.setCell ⟨gw, i, none⟩ (.slice a' P'.length c9)) := ⟨kk.os, kk.tape, kk.output, kk.size, old, fun z hz hp => kk.block z hz (fun hy => by have := hR z hy; simp at hp; exact this.elim hp.1 hp.2)⟩
  have wsz := kk.size
  refine ⟨o', ⟨h.j.mv mv (fun t ht => ?_), fun z hz => ?_, h.ln, h.p, h.pr, h.s.keeps kk (fun z hz => off z (by rw [h.so z hz]; simp) (by rw [h.so z hz]; simp)), fun z hz => (old z (h.s.blk_lt z hz).2).trans (h.so z hz), ?_, fun z hz => ?_, fun q hq => ?_, h.v.keeps kk (fun z hz => off z (by rw [h.vo z hz]; simp) (by rw [h.vo z hz]; simp)), fun z hz => (old z (h.v.blk_lt z hz).2).trans (h.vo z hz), fun z hz => ?_⟩, old, kk⟩
  · cases t <;> simp [Tg10.side] at ht ⊢
  · have hl : ¬ z < W.heap.size := by omega
    have hb : z ∉ blk a' := fun hy => by have := (PairRow.blk_lt r1 z hy).2; have := kS.size; omega
    rw [ho']; simp only [if_neg hl, if_neg hb]
  · have w1 := h.w.keeps k1 (fun z hz hy => by have := h.wo z hz; rw [t0 z hy] at this; simp at this)
    refine (w1.put i (.slice a' P'.length c9)).congr (fun q hq => ?_)
    unfold putV sliV10 upd10
    split
    · rfl
    · rfl
  · simp [blk] at hz; subst hz; rw [old _ gwl.2]; exact tw
  · unfold upd10
    split
    · rename_i e; subst e
      refine ⟨PairRow.keeps r1 kS (fun z hz hy => ?_), ra'⟩
      simp at hy; subst hy
      have h8 := ra' _ hz
      rw [old _ gwl.2, tw] at h8; simp at h8
    · rename_i e
      obtain ⟨q1, q2⟩ := h.r q hq
      exact ⟨PairRow.keeps q1 kk (fun z hz => off z (by rw [q2 z hz]; simp) (by rw [q2 z hz]; simp; exact e)), fun z hz => (old z (PairRow.blk_lt q1 z hz).2).trans (q2 z hz)⟩
  · by_cases hl : z < W.heap.size
    · rw [old z hl] at hz; exact h.low z hz
    · have := h.lolt; omega
/-- A version more. -/
theorem MdS.count {gv : Nat} (h : MdS lo fb all k n sa wa (some ⟨gv, 0, none⟩) sc wc vc f ks c o L P ve ra rc W) (hi : i < n) (u : Nat) :
    MdS lo fb all k n sa wa (some ⟨gv, 0, none⟩) sc wc vc f ks c o L P (upd10 ve i u) ra rc (W.setCell ⟨gv, i, none⟩ (.int .i64 (u : Nat))) ∧ Keeps [gv] W (W.setCell ⟨gv, i, none⟩ (.int .i64 (u : Nat))) := by
  have kS : Keeps [gv] W (W.setCell ⟨gv, i, none⟩ (.int .i64 (u : Nat))) := (Keeps.refl _ _).setCell (.inr (by simp)) _
  have tv := h.vo gv (by simp [blk])
  have off : ∀ z, o z ≠ .two 2 → z ∉ [gv] := fun z h1 hz => by simp at hz; subst hz; exact h1 tv
  have mv : MvT (fun t => decide (t = .two 2)) o W o (W.setCell ⟨gv, i, none⟩ (.int .i64 (u : Nat))) := MvT.of_keeps kS (fun z hz => by simp at hz; subst hz; simp [tv])
  refine ⟨⟨h.j.mv mv (fun t ht => ?_), h.fr.quiet kS.size, h.ln, h.p, h.pr, h.s.keeps kS (fun z hz => off z (by rw [h.so z hz]; simp)), h.so, h.w.keeps kS (fun z hz => off z (by rw [h.wo z hz]; simp)), h.wo, fun q hq => ?_, ?_, h.vo, h.low⟩, kS⟩
  · cases t <;> simp [Tg10.side] at ht ⊢
  · obtain ⟨q1, q2⟩ := h.r q hq
    exact ⟨PairRow.keeps q1 kS (fun z hz => off z (by rw [q2 z hz]; simp)), q2⟩
  · refine (h.v.put i (.int .i64 (u : Nat))).congr (fun q hq => ?_)
    unfold putV intV10 upd10
    split
    · rfl
    · rfl
end
end Go.Proofs.Ytajmfenfajbakaa
end

section
namespace Go.Proofs.Ytajmfenfajbakaa
open Go.RowKit
set_option linter.unusedVariables false
set_option linter.unusedSimpArgs false

/-- One value of one cell is appended to a row of such. -/
theorem val_app10 {T E TY : TypeId} {z : Value} {by8 : Nat} (hT : Try.prog.underlying T = some (.slice E)) (hE : (Try.prog.info? E).map (fun i => (i.zero, i.size, i.bytes)) = some (some z, 1, by8)) (hz : z.cells.size = 1) (h8 : by8 ≤ 24)
    (lo : Nat) (a : Option Addr) (c m : Nat) (V : Nat → Value) (x : Value) (hx : x.oneCell' = true) (W : World) (B : Nat) (h : ValRow E lo a m c V W) (hB : W.heap[B]? = some (.cells #[x] TY (0, 0))) (hm : m ≤ 1000000) (hlo : lo ≤ W.heap.size) :
    ∃ g cap w', (Builtin.append_ #[T, T] T #[.slice a m c, .slice (some ⟨B, 0, none⟩) 1 1]).run Try.prog W = .ok (.slice (some ⟨g, 0, none⟩) (m + 1) cap) w' ∧ ValRow E lo (some ⟨g, 0, none⟩) (m + 1) cap (putV V m x) w' ∧ Keeps (blk a) W w' ∧ (g ∈ blk a ∨ g = W.heap.size) ∧ g < w'.heap.size := by
  obtain ⟨j0, hi, hz0, hz1, hz2⟩ := info_parts hE
  obtain ⟨g, cap, w', r1, r2, r3, r4, r5⟩ := run_append_lies (P := Try.prog) W T T lo E j0 z 1 by8 hT hi hz0 hz1 hz2 hz (by decide) _ m (valR m V) h ⟨B, 0, none⟩ 1 1 [x] rfl
    (fun j u hj => by
      have hlt : j < 1 := by have := (List.getElem?_eq_some_iff.1 hj).1; simpa using this
      obtain rfl : j = 0 := by omega
      rw [show (⟨B, 0, none⟩ : Addr).add 0 = ⟨B, 0, none⟩ by unfold Addr.add; split <;> simp_all, cell_of_has hB]
      simpa using hj) (by intro u hu; simp at hu; subst hu; exact hx) (by decide) (by unfold maxLen; omega) (Nat.le_trans (Nat.mul_le_mul_left _ h8) (by omega)) hlo _ rfl
  refine ⟨g, cap, w', r1, ValRow.of_append r2, ?_, ?_, r5⟩
  · exact ⟨r3.os, r3.tape, r3.output, r3.size, fun k hk hn => r3.block k hk (fun e => hn (blk_own a _ _ k e.symm))⟩
  · rcases r4 with r4 | r4
    · exact .inl (blk_own a _ _ g r4)
    · exact .inr r4
theorem infoSp10 : (Try.prog.info? 39).map (fun i => (i.zero, i.size, i.bytes)) = some (some (.pointer none), 1, 8) := by kernel_rfl
theorem infoSl10 : (Try.prog.info? 49).map (fun i => (i.zero, i.size, i.bytes)) = some (some (.slice none 0 0), 1, 24) := by kernel_rfl
/-- Blocks of one owner change, and some come to it. -/
theorem own_app10 {t : Tg10} {S S' : List Nat} {o : Nat → Tg10} {W W' : World} (hS : ∀ z, z ∈ S → o z = t) (hSl : ∀ z, z ∈ S → z < W.heap.size) (k : Keeps S W W') (g : ∀ z, z ∈ S' → z ∈ S ∨ W.heap.size ≤ z) (fr : FreeT o W) (hl : ∀ z, z ∈ S' → z < W'.heap.size) :
    ∃ o', (∀ z, z ∈ S' → o' z = t) ∧ MvT (fun q => decide (q = t)) o W o' W' ∧ FreeT o' W' ∧ NewT10 o o' W := by
  obtain ⟨o', ho'⟩ : ∃ o' : Nat → Tg10, o' = fun z => if z < W.heap.size then o z else if z ∈ S' then t else .free := ⟨_, rfl⟩
  have old : ∀ z, z < W.heap.size → o' z = o z := fun z hz => by rw [ho']; simp [hz]
  refine ⟨o', fun z hz => ?_, ⟨k.os, k.tape, k.output, k.size, old, fun z hz hp => k.block z hz (fun hy => by simp at hp; exact hp (hS z hy))⟩, fun z hz => ?_, fun z hz => ?_⟩
  · rcases g z hz with h | h
    · rw [old z (hSl z h)]; exact hS z h
    · rw [ho']; simp only [if_neg (show ¬ z < W.heap.size by omega), if_pos hz]
  · have := k.size
    have hn : z ∉ S' := fun hy => by have := hl z hy; omega
    rw [ho']; simp only [if_neg (show ¬ z < W.heap.size by omega), if_neg hn]
  · by_cases h : z < W.heap.size
    · rw [old z h] at hz; exact .inl hz
    · exact .inr (by omega)
structure MdB (lo fb : Nat) (all : Int) (n ns nw nv : Nat) (sa wa va : Option Addr) (sc wc vc : Nat) (f : Fam) (ks : List ByteArray) (c : C4) (o : Nat → Tg10) (L : List PS10) (W : World) : Prop where
  j : SJ sideP10 none lo fb f c o L W
  fr : FreeT o W
  ln : L.length = n
  p : PJ 0 f ks (L.map PS10.pure)
  pe : ∀ (i : Nat) (x : PS10), L[i]? = some x → x.wy = .row [] ∧ x.ver = 0
  pr : f.pairs = all
  s : ValRow 39 lo sa ns sc (ptrV10 L) W
  so : ∀ z, z ∈ blk sa → o z = .two 0
  w : ValRow 49 lo wa nw wc (fun _ => .slice none 0 0) W
  wo : ∀ z, z ∈ blk wa → o z = .two 1
  v : ValRow 3 lo va nv vc (fun _ => .int .i64 0) W
  vo : ∀ z, z ∈ blk va → o z = .two 2
  low : ∀ z, o z ≠ .free → lo ≤ z
section
variable {lo fb n ns nw nv : Nat} {all : Int} {sa wa va : Option Addr} {sc wc vc : Nat} {f : Fam} {ks : List ByteArray} {c : C4} {o o' : Nat → Tg10} {L : List PS10} {W W' : World}
theorem MdB.lolt (h : MdB lo fb all n ns nw nv sa wa va sc wc vc f ks c o L W) : lo ≤ W.heap.size := by
  obtain ⟨S, ⟨t, mb, a, ST, rfl, hF⟩, _⟩ := h.j.fm
  have := hF.foot fb (by unfold famS; simp); omega
theorem MdB.made (h : MdB lo fb all n ns nw nv sa wa va sc wc vc f ks c o L W) (hns : ns ≤ n) {sb : Nat} (q : Keeps [] W W') (j' : SJ sideP10 none lo fb f c o' (L ++ [⟨sb, .row [], 0⟩]) W') (mv : MvT (Tg10.side true) o W o' W') (fr' : FreeT o' W') (nw' : NewT10 o o' W) :
    MdB lo fb all (n + 1) ns nw nv sa wa va sc wc vc f ks c o' (L ++ [⟨sb, .row [], 0⟩]) W' := by
  refine ⟨j', fr', by simp [h.ln], ?_, fun i x hx => ?_, h.pr, (h.s.keeps q (by simp)).congr (fun i hi => ?_), fun z hz => (mv.old z (h.s.blk_lt z hz).2).trans (h.so z hz), h.w.keeps q (by simp), fun z hz => (mv.old z (h.w.blk_lt z hz).2).trans (h.wo z hz), h.v.keeps q (by simp), fun z hz => (mv.old z (h.v.blk_lt z hz).2).trans (h.vo z hz), fun z hz => ?_⟩
  · rw [List.map_append]; exact h.p.make
  · rw [List.getElem?_append] at hx
    split at hx
    · exact h.pe i x hx
    · have : x = ⟨sb, .row [], 0⟩ := by
        rcases Nat.lt_or_ge (i - L.length) 1 with h9 | h9
        · have : i - L.length = 0 := by omega
          rw [this] at hx; simp at hx; exact hx.symm
        · rw [List.getElem?_eq_none (by simpa using h9)] at hx; cases hx
      subst this; exact ⟨rfl, rfl⟩
  · unfold ptrV10; rw [List.getElem?_append_left (by rw [h.ln]; omega)]
  · rcases nw' z hz with h9 | h9
    · exact h.low z h9
    · have := h.lolt; omega
theorem MdB.grow_s (h : MdB lo fb all n ns nw nv sa wa va sc wc vc f ks c o L W) {g cap : Nat} {V : Nat → Value} (r : ValRow 39 lo (some ⟨g, 0, none⟩) (ns + 1) cap V W') (hV : ∀ q, q < ns + 1 → V q = ptrV10 L q) (k : Keeps (blk sa) W W') (hg : g ∈ blk sa ∨ W.heap.size ≤ g) :
    ∃ o', MdB lo fb all n (ns + 1) nw nv (some ⟨g, 0, none⟩) wa va cap wc vc f ks c o' L W' ∧ ∀ z, z < W.heap.size → o' z = o z := by
  have t0 := h.so
  obtain ⟨o', tg, mv, fr', nw'⟩ := own_app10 (t := .two 0) (S := blk sa) (S' := blk (some (⟨g, 0, none⟩ : Addr))) t0 (fun z hz => (h.s.blk_lt z hz).2) k (fun z hz => by simp [blk] at hz; subst hz; exact hg) h.fr (fun z hz => (r.blk_lt z hz).2)
  have kk := mv.keeps
  have off : ∀ z, o z ≠ .two 0 → z ∉ FrT (fun q => decide (q = .two 0)) o W := fun z hz => not_frT (by simp [hz])
  refine ⟨o', ⟨h.j.mv mv (fun t ht => by cases t <;> simp [Tg10.side] at ht ⊢), fr', h.ln, h.p, h.pe, h.pr, r.congr hV, fun z hz => tg z hz, h.w.keeps kk (fun z hz => off z (by rw [h.wo z hz]; simp)), fun z hz => (mv.old z (h.w.blk_lt z hz).2).trans (h.wo z hz), h.v.keeps kk (fun z hz => off z (by rw [h.vo z hz]; simp)), fun z hz => (mv.old z (h.v.blk_lt z hz).2).trans (h.vo z hz), fun z hz => ?_⟩, mv.old⟩
  rcases nw' z hz with h9 | h9
  · exact h.low z h9
  · have := h.lolt; omega
theorem MdB.grow_w (h : MdB lo fb all n ns nw nv sa wa va sc wc vc f ks c o L W) {g cap : Nat} {V : Nat → Value} (r : ValRow 49 lo (some ⟨g, 0, none⟩) (nw + 1) cap V W') (hV : ∀ q, q < nw + 1 → V q = (fun _ => (.slice none 0 0 : Value)) q) (k : Keeps (blk wa) W W') (hg : g ∈ blk wa ∨ W.heap.size ≤ g) :
    ∃ o', MdB lo fb all n ns (nw + 1) nv sa (some ⟨g, 0, none⟩) va sc cap vc f ks c o' L W' ∧ ∀ z, z < W.heap.size → o' z = o z := by
  have t0 := h.wo
  obtain ⟨o', tg, mv, fr', nw'⟩ := own_app10 (t := .two 1) (S := blk wa) (S' := blk (some (⟨g, 0, none⟩ : Addr))) t0 (fun z hz => (h.w.blk_lt z hz).2) k (fun z hz => by simp [blk] at hz; subst hz; exact hg) h.fr (fun z hz => (r.blk_lt z hz).2)
  have kk := mv.keeps
  have off : ∀ z, o z ≠ .two 1 → z ∉ FrT (fun q => decide (q = .two 1)) o W := fun z hz => not_frT (by simp [hz])
  refine ⟨o', ⟨h.j.mv mv (fun t ht => by cases t <;> simp [Tg10.side] at ht ⊢), fr', h.ln, h.p, h.pe, h.pr, h.s.keeps kk (fun z hz => off z (by rw [h.so z hz]; simp)), fun z hz => (mv.old z (h.s.blk_lt z hz).2).trans (h.so z hz), r.congr hV, fun z hz => tg z hz, h.v.keeps kk (fun z hz => off z (by rw [h.vo z hz]; simp)), fun z hz => (mv.old z (h.v.blk_lt z hz).2).trans (h.vo z hz), fun z hz => ?_⟩, mv.old⟩
  rcases nw' z hz with h9 | h9
  · exact h.low z h9
  · have := h.lolt; omega
theorem MdB.grow_v (h : MdB lo fb all n ns nw nv sa wa va sc wc vc f ks c o L W) {g cap : Nat} {V : Nat → Value} (r : ValRow 3 lo (some ⟨g, 0, none⟩) (nv + 1) cap V W') (hV : ∀ q, q < nv + 1 → V q = (fun _ => (.int .i64 0 : Value)) q) (k : Keeps (blk va) W W') (hg : g ∈ blk va ∨ W.heap.size ≤ g) :
    ∃ o', MdB lo fb all n ns nw (nv + 1) sa wa (some ⟨g, 0, none⟩) sc wc cap f ks c o' L W' ∧ ∀ z, z < W.heap.size → o' z = o z := by
  have t0 := h.vo
  obtain ⟨o', tg, mv, fr', nw'⟩ := own_app10 (t := .two 2) (S := blk va) (S' := blk (some (⟨g, 0, none⟩ : Addr))) t0 (fun z hz => (h.v.blk_lt z hz).2) k (fun z hz => by simp [blk] at hz; subst hz; exact hg) h.fr (fun z hz => (r.blk_lt z hz).2)
  have kk := mv.keeps
  have off : ∀ z, o z ≠ .two 2 → z ∉ FrT (fun q => decide (q = .two 2)) o W := fun z hz => not_frT (by simp [hz])
  refine ⟨o', ⟨h.j.mv mv (fun t ht => by cases t <;> simp [Tg10.side] at ht ⊢), fr', h.ln, h.p, h.pe, h.pr, h.s.keeps kk (fun z hz => off z (by rw [h.so z hz]; simp)), fun z hz => (mv.old z (h.s.blk_lt z hz).2).trans (h.so z hz), h.w.keeps kk (fun z hz => off z (by rw [h.wo z hz]; simp)), fun z hz => (mv.old z (h.w.blk_lt z hz).2).trans (h.wo z hz), r.congr hV, fun z hz => tg z hz, fun z hz => ?_⟩, mv.old⟩
  rcases nw' z hz with h9 | h9
  · exact h.low z h9
  · have := h.lolt; omega
/-- All is made. -/
theorem MdB.done10 (h : MdB lo fb all n n n n sa wa va sc wc vc f ks c o L W) : MdS lo fb all 0 n sa wa va sc wc vc f ks c o L (fun _ => []) (fun _ => 0) (fun _ => none) (fun _ => 0) W ∧ Rel10 f L (fun _ => []) (fun _ => 0) := by
  refine ⟨⟨h.j, h.fr, h.ln, h.p, h.pr, h.s, h.so, h.w.congr (fun i hi => rfl), h.wo, fun i hi => ⟨PairRow.nil _ _, fun z hz => by simp [blk] at hz⟩, h.v.congr (fun i hi => rfl), h.vo, h.low⟩, fun i x hx => ?_⟩
  obtain ⟨e1, e2⟩ := h.pe i x hx
  rw [e1, e2]
  exact ⟨rfl, rfl⟩
end
end Go.Proofs.Ytajmfenfajbakaa
end

section
section
namespace Go
theorem wpAnyG_lone {P : Program} {md : Region.Mode} {ops : Array Oper} {Q : Exit → Act → World → Prop} {F : World → Prop} {s : Nat} {i : Nat} {oi : Oper} {fuel : Nat} {listed : Array Bool} {a : Act} {w : World} (hi : ops[i]? = some oi) (hr : Region.ready md ops listed = [i]) (hu : listed.getD s false = true) (hw : Region.wanted oi (yielded ops a.tmps) = true)
    (h : ∀ K : Act → World → Prop, (∀ a w, wpAnyG P md ops Q F s fuel (listed.setIfInBounds i true) a w → K a w) → Oper.wp P oi a w K Q) : wpAnyG P md ops Q F s (fuel + 1) listed a w := by
  refine ⟨(fun h0 => by rw [hr] at h0; cases h0), fun j hj => ?_⟩
  rw [hr] at hj
  obtain rfl : j = i := by simpa using hj
  exact wpOp_step hi (fun K' hK => by rw [if_pos hw]; exact h K' (fun a w hW => hK a w ⟨(fun h9 => by rw [getD_stays' hu] at h9; cases h9), hW⟩))
end Go
end
end

section
namespace Go.Proofs.Ytajmfenfajbakaa
open Go.RowKit
set_option linter.unusedVariables false
set_option linter.unusedSimpArgs false

/-- What the round's tail asks. -/
def After10 (lo fb : Nat) (all : Int) (k : Nat) (sa wa va : Option Addr) (sc wc vc : Nat) (P : Nat → List Pr10) (ve : Nat → Nat) (ra : Nat → Option Addr) (rc : Nat → Nat) (p : Nat) (wb : Bool) (up : Nat) (o : Nat → Tg10) (W W' : World) : Prop :=
  ∃ f2 ks2 c2 o2 L2 x2, L2[p]? = some x2 ∧ MdS lo fb all k 3 sa wa va sc wc vc f2 ks2 c2 o2 L2 P ve ra rc W' ∧ (∀ (q : Nat) (y : PS10), L2[q]? = some y → P q = pairsW f2 y.wy ∧ (q = p → y.ver = ve p + up) ∧ (q ≠ p → ve q = y.ver)) ∧ (x2.wy.isRow = true → wb = true) ∧ Below lo W W' ∧ Keeps (FrT (Tg10.side true) o W) W W'
section
variable {lo fb k k' p up : Nat} {all : Int} {sa wa va : Option Addr} {sc wc vc : Nat} {f f' : Fam} {ks ks' : List ByteArray} {c c' : C4} {o o' : Nat → Tg10} {L : List PS10} {P : Nat → List Pr10} {ve : Nat → Nat} {ra : Nat → Option Addr} {rc : Nat → Nat} {W W' : World} {x : PS10} {wy' : Way10} {ver' : Nat} {wb : Bool}
theorem After10.of (h : MdS lo fb all k 3 sa wa va sc wc vc f ks c o L P ve ra rc W) (hx : L[p]? = some x) (hp : PJ k' f' ks' ((L.map PS10.pure).set p (wy', ver'))) (e : Ext10 f ks f' ks')
    (j' : SJ sideP10 none lo fb f' c' o' (L.set p { x with wy := wy', ver := ver' }) W') (mv : MvT (Tg10.side true) o W o' W') (fr' : FreeT o' W') (nw : NewT10 o o' W)
    (hq : ∀ (q : Nat) (y : PS10), L[q]? = some y → q ≠ p → P q = pairsW f y.wy) (hv : ∀ (q : Nat) (y : PS10), L[q]? = some y → ve q = y.ver) (hPp : P p = pairsW f' wy') (hver : ver' = ve p + up) (hrow : wy'.isRow = true → wb = true) :
    After10 lo fb all k' sa wa va sc wc vc P ve ra rc p wb up o W W' := by
  have hp' : PJ k' f' ks' ((L.set p { x with wy := wy', ver := ver' }).map PS10.pure) := by
    rw [List.map_set]; exact hp
  refine ⟨f', ks', c', o', L.set p { x with wy := wy', ver := ver' }, { x with wy := wy', ver := ver' }, ?_, h.did hx hp' rfl (e.p.trans h.pr) j' mv fr' nw, fun q y hy => ?_, hrow, ⟨mv.os, mv.tape, mv.output, mv.size, fun z hz => mv.blk z (by have := h.lolt; omega) ?_⟩, mv.keeps⟩
  · rw [List.getElem?_set, if_pos rfl, if_pos (List.getElem?_eq_some_iff.1 hx).1]
  · rcases set_get10 hx hy with ⟨rfl, rfl⟩ | ⟨hne, h9⟩
    · exact ⟨hPp, fun _ => hver, fun h => absurd rfl h⟩
    · exact ⟨(hq q y h9 (Ne.symm hne)).trans (pairsW_ext (h.p.sp q _ (pure_at h9)).1 h.p.fk hp.fk e).symm, fun h => absurd h.symm hne, fun _ => hv q y h9⟩
  · cases hs : Tg10.side true (o z)
    · rfl
    · exfalso
      have := h.low z (by intro e9; rw [e9] at hs; cases hs)
      omega
theorem mset10 (h : MdS lo fb all k 3 sa wa va sc wc vc f ks c o L P ve ra rc W) (hx : L[p]? = some x) (hk : k ≤ 900) {s : ByteArray} (hs : s.size ≤ 200) (v : Int)
    (hq : ∀ (q : Nat) (y : PS10), L[q]? = some y → q ≠ p → P q = pairsW f y.wy) (hv : ∀ (q : Nat) (y : PS10), L[q]? = some y → ve q = y.ver) (hrow : x.wy.isRow = wb) {e : Int}
    (hl : (e = 6 ∧ up = 0 ∧ setLw (pairsW f x.wy) s v all = none ∧ P p = pairsW f x.wy) ∨ (e = 0 ∧ up = 1 ∧ setLw (pairsW f x.wy) s v all = some (P p))) :
    Calls Try.prog 11 #[.pointer (some ⟨x.sb, 0, none⟩), .string s, .int .i64 v] W (fun r W' => r = .returned (.int .i64 e) ∧ After10 lo fb all (k + 1) sa wa va sc wc vc P ve ra rc p wb up o W W') := by
  refine (jset_any h.j h.fr h.p hk hx s v hs).mono ?_
  rintro r W' ⟨rfl, o', j', mv, fr', nw⟩
  obtain ⟨ks', g1, g2, g3⟩ := h.p.set hk (pure_at hx) c s v hs
  have hr : (setW f x.wy c s v).2.2.1.isRow = true → wb = true := fun h9 => by rw [← hrow]; exact setW_row h9
  have hvp := hv p x hx
  simp only at g1 g2 g3
  rw [h.pr] at g3
  rcases g3 with ⟨a1, a2, a3⟩ | ⟨a1, a2⟩ <;> rcases hl with ⟨rfl, rfl, b1, b2⟩ | ⟨rfl, rfl, b1⟩
  · exact ⟨by rw [a1], After10.of h hx g1 g2 j' mv fr' nw hq hv (b2.trans a3.symm) (by rw [a1, if_neg (by decide)]; exact hvp.symm) hr⟩
  · rw [a2] at b1; cases b1
  · rw [a2] at b1; cases b1
  · refine ⟨by rw [a1], After10.of h hx g1 g2 j' mv fr' nw hq hv ?_ (by rw [a1, if_pos rfl, hvp]) hr⟩
    rw [a2] at b1; exact (Option.some.inj b1).symm
theorem mdel10 (h : MdS lo fb all k 3 sa wa va sc wc vc f ks c o L P ve ra rc W) (hx : L[p]? = some x) (hk : k ≤ 900) {s : ByteArray} (hs : s.size ≤ 200)
    (hq : ∀ (q : Nat) (y : PS10), L[q]? = some y → q ≠ p → P q = pairsW f y.wy) (hv : ∀ (q : Nat) (y : PS10), L[q]? = some y → ve q = y.ver) (hrow : x.wy.isRow = wb) {e : Int}
    (hl : (e = 7 ∧ up = 0 ∧ delLw (pairsW f x.wy) s = none ∧ P p = pairsW f x.wy) ∨ (e = 0 ∧ up = 1 ∧ delLw (pairsW f x.wy) s = some (P p))) :
    Calls Try.prog 24 #[.pointer (some ⟨x.sb, 0, none⟩), .string s] W (fun r W' => r = .returned (.int .i64 e) ∧ After10 lo fb all (k + 1) sa wa va sc wc vc P ve ra rc p wb up o W W') := by
  refine (jdel_any h.j h.fr h.p hk hx s hs).mono ?_
  rintro r W' ⟨rfl, o', j', mv, fr', nw⟩
  obtain ⟨g1, g3⟩ := h.p.del hk (pure_at hx) c s
  have hr : (delW f x.wy c s).2.1.isRow = true → wb = true := fun h9 => by rw [← hrow]; exact delW_row h9
  have hvp := hv p x hx
  simp only at g1 g3
  have g2 := Ext10.refl f ks
  rcases g3 with ⟨a1, a2, a3⟩ | ⟨a1, a2⟩ <;> rcases hl with ⟨rfl, rfl, b1, b2⟩ | ⟨rfl, rfl, b1⟩
  · exact ⟨by rw [a1], After10.of h hx g1 g2 j' mv fr' nw hq hv (by rw [b2, a3]) (by rw [a1, if_neg (by decide)]; exact hvp.symm) hr⟩
  · rw [a2] at b1; cases b1
  · rw [a2] at b1; cases b1
  · refine ⟨by rw [a1], After10.of h hx g1 g2 j' mv fr' nw hq hv ?_ (by rw [a1, if_pos rfl, hvp]) hr⟩
    rw [a2] at b1; exact (Option.some.inj b1).symm
/-- A round that calls nothing. -/
theorem mnone10 (h : MdS lo fb all k 3 sa wa va sc wc vc f ks c o L P ve ra rc W) (hx : L[p]? = some x) (hR : Rel10 f L P ve) (hrow : x.wy.isRow = wb) : After10 lo fb all (k + 1) sa wa va sc wc vc P ve ra rc p wb 0 o W W :=
  ⟨f, ks, c, o, L, x, hx, h.mono (Nat.le_succ _), fun q y hy => ⟨(hR q y hy).1, fun e => by subst e; exact (hR q y hy).2.symm, fun _ => (hR q y hy).2⟩, fun h9 => by rw [← hrow]; exact h9, Below.refl _ _, Keeps.refl _ _⟩
/-- The law's lists other than one. -/
theorem Rel10.other (hR : Rel10 f L P ve) (P' : List Pr10) : ∀ (q : Nat) (y : PS10), L[q]? = some y → q ≠ p → upd10 P p P' q = pairsW f y.wy := fun q y hy hn => by rw [upd10_ne _ _ hn]; exact (hR q y hy).1
end
end Go.Proofs.Ytajmfenfajbakaa
end

section
namespace Go.Proofs.Ytajmfenfajbakaa
open Go.RowKit
set_option linter.unusedVariables false
set_option linter.unusedSimpArgs false

/-- A list laid anew, or left. -/
def Uni10 (lo : Nat) (a : Option Addr) (P : List Pr10) (R : Option (List Pr10)) (w : World) (r : Ending) (w' : World) : Prop :=
  ∃ (okb : Bool) (P' : List Pr10) (a' : Option Addr) (c' : Nat), r = .returned (.tuple #[.slice a' P'.length c', .bool okb]) ∧ PairRow lo a' c' P' w' ∧ Keeps (blk a) w w' ∧ (∀ z, z ∈ blk a' → z ∈ blk a ∨ w.heap.size ≤ z) ∧ ((okb = false ∧ R = none ∧ P' = P) ∨ (okb = true ∧ R = some P'))
theorem lset_uni (lo : Nat) (a : Option Addr) (c : Nat) (P : List Pr10) (s : ByteArray) (v most : Int) (w : World) (H : PairRow lo a c P w) (hl : P.length ≤ 100000) (hlo : lo ≤ w.heap.size) :
    Calls Try.prog 22 #[.slice a P.length c, .string s, .int .i64 v, .int .i64 most] w (Uni10 lo a P (setLw P s v most) w) := by
  refine (lset_any lo a c P s v most w H hl hlo).mono ?_
  intro r w' h
  unfold LSetP at h
  cases hs : setLw P s v most with
  | none =>
    rw [hs] at h
    obtain ⟨h1, h2⟩ := h
    exact ⟨false, P, a, c, h1, PairRow.keeps H h2 (by simp), h2.mono (by simp), fun z hz => .inl hz, .inl ⟨rfl, rfl, rfl⟩⟩
  | some P' =>
    rw [hs] at h
    obtain ⟨a', c', h1, h2, h3, h4⟩ := h
    exact ⟨true, P', a', c', h1, h2, h3, h4, .inr ⟨rfl, rfl⟩⟩
theorem ldel_uni (lo : Nat) (a : Option Addr) (c : Nat) (P : List Pr10) (s : ByteArray) (w : World) (H : PairRow lo a c P w) (hl : P.length ≤ 100000) (hlo : lo ≤ w.heap.size) :
    Calls Try.prog 23 #[.slice a P.length c, .string s] w (Uni10 lo a P (delLw P s) w) := by
  refine (ldel_any lo a c P s w H hl hlo).mono ?_
  intro r w' h
  unfold LDelP at h
  cases hs : delLw P s with
  | none =>
    rw [hs] at h
    obtain ⟨h1, h2⟩ := h
    exact ⟨false, P, a, c, h1, PairRow.keeps H h2 (by simp), h2.mono (by simp), fun z hz => .inl hz, .inl ⟨rfl, rfl, rfl⟩⟩
  | some P' =>
    rw [hs] at h
    obtain ⟨a', c', h1, h2, h3, h4⟩ := h
    exact ⟨true, P', a', c', h1, h2, h3.mono (by simp), fun z hz => .inr (h4 z hz), .inr ⟨rfl, rfl⟩⟩
/-- All names are short. -/
def Sml10 (P : Nat → List Pr10) : Prop := ∀ q y, y ∈ P q → y.1.size ≤ 200
theorem Sml10.nil : Sml10 (fun _ => []) := fun q y hy => by simp at hy
theorem Sml10.upd {P : Nat → List Pr10} (h : Sml10 P) {p : Nat} {P' : List Pr10} (h' : ∀ y, y ∈ P' → y.1.size ≤ 200) : Sml10 (upd10 P p P') := fun q y hy => by
  unfold upd10 at hy
  split at hy
  · exact h' y hy
  · exact h q y hy
theorem Sml10.set {P : Nat → List Pr10} (h : Sml10 P) {p : Nat} {s : ByteArray} {v most : Int} (hs : s.size ≤ 200) {okb : Bool} {P' : List Pr10} (e : (okb = false ∧ setLw (P p) s v most = none ∧ P' = P p) ∨ (okb = true ∧ setLw (P p) s v most = some P')) : Sml10 (upd10 P p P') := by
  refine h.upd fun y hy => ?_
  rcases e with ⟨_, _, rfl⟩ | ⟨_, e⟩
  · exact h p y hy
  · unfold setLw at e
    split at e
    · cases e
      rcases List.mem_or_eq_of_mem_set hy with h9 | rfl
      · exact h p y h9
      · exact hs
    · split at e
      · cases e
      · cases e
        rcases List.mem_append.1 hy with h9 | h9
        · exact h p y h9
        · simp at h9; subst h9; exact hs
theorem Sml10.del {P : Nat → List Pr10} (h : Sml10 P) {p : Nat} {s : ByteArray} {okb : Bool} {P' : List Pr10} (e : (okb = false ∧ delLw (P p) s = none ∧ P' = P p) ∨ (okb = true ∧ delLw (P p) s = some P')) : Sml10 (upd10 P p P') := by
  refine h.upd fun y hy => ?_
  rcases e with ⟨_, _, rfl⟩ | ⟨_, e⟩
  · exact h p y hy
  · unfold delLw at e
    split at e
    · cases e
      exact h p y (List.mem_of_mem_eraseIdx hy)
    · cases e
end Go.Proofs.Ytajmfenfajbakaa
end
