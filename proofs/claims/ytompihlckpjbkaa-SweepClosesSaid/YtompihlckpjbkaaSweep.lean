/- Sweep: what can't be reached is freed (chapter 12). -/
import Derived.Test.YtompihlckpjbkaaSweepMath
import Derived.Deep.DeepMust
namespace Go.Proofs.Ytompihlckpjbkaa
open Go.RowKit Go.Shelf
set_option linter.unusedVariables false
attribute [local go_sem] Oper.semAt_some

/-- In the midst of the loop: the kept ones' list, what is out. -/
structure SwSt (w1 : World) (D m : Nat) (T R : Nat → Bool) (i : Nat) (W : World) : Prop where
  kp : Keeps [] w1 W
  kb : ∃ a c, W.heap[w1.heap.size]? = some (.cells #[.slice a (keptL T R m i).length c] 22 (0, 0)) ∧ RowN w1 a (keptL T R m i) ∧ (keptL T R m i).length ≤ c ∧ c ≤ maxLen
  ob : ∃ a c, W.heap[w1.heap.size + 1]? = some (.cells #[.slice a (outL T R m i).length c] 22 (0, 0)) ∧ W.ownsRow (D + 2) 3 1 (.slice a (outL T R m i).length c) (outL T R m i).length (intsL (outL T R m i))
theorem SwSt.keeps {w1 : World} {D m : Nat} {T R : Nat → Bool} {i : Nat} {W W' : World} (h : SwSt w1 D m T R i W) (hD : w1.heap.size + 1 < D) (k : Keeps [D, D + 1] W W') : SwSt w1 D m T R i W' := by
  obtain ⟨a, c, h1, h2⟩ := h.kb
  obtain ⟨a', c', h3, h4⟩ := h.ob
  refine ⟨h.kp.then k (by intro x hx; simp at hx; left; omega), ⟨a, c, k.has h1 (by simp; omega), h2⟩, a', c', k.has h3 (by simp; omega), own_keeps' h4 k ?_⟩
  intro x hx
  have := (h4.lt x hx).1
  simp; omega

theorem own_lo {E : TypeId} {lo size n c : Nat} {a : Option Addr} {xs : List Value} {w : World} (h : w.ownsRow lo E size (.slice a n c) n xs) : ∀ x, x ∈ blk a → lo ≤ x := by
  intro x hx
  rcases h.2 with ⟨q, _⟩ | ⟨g1, cap, cur, a1, a2, _⟩
  · simp at q; rw [q.1] at hx; simp [blk] at hx
  · simp at a1; rw [a1.1] at hx; simp [blk] at hx; omega
theorem SwSt.hit {w1 : World} {D m : Nat} {T R : Nat → Bool} {i : Nat} {W : World} (h : SwSt w1 D m T R i W) (hD : w1.heap.size + 1 < D) (a : Option Addr) (n c : Nat) (hn : n = (keptL T R m (i + 1)).length) (hr : RowN w1 a (keptL T R m (i + 1))) (hc : n ≤ c) (hc2 : c ≤ maxLen) (ho : outL T R m (i + 1) = outL T R m i) :
    SwSt w1 D m T R (i + 1) (W.setCell ⟨w1.heap.size, 0, none⟩ (.slice a n c)) := by
  subst hn
  obtain ⟨a1, c1, h1, _⟩ := h.kb
  obtain ⟨a2, c2, h3, h4⟩ := h.ob
  have kz : Keeps [w1.heap.size] W (W.setCell ⟨w1.heap.size, 0, none⟩ (.slice a (keptL T R m (i + 1)).length c)) := (Keeps.refl _ _).setCell (.inr (by simp)) _
  refine ⟨h.kp.then kz (by intro x hx; simp at hx; left; omega), ⟨a, c, has_setCell h1 0 _, hr, hc, hc2⟩, ?_⟩
  rw [ho]
  refine ⟨a2, c2, kz.has h3 (by simp), own_keeps' h4 kz (fun x hx => ?_)⟩
  have := (h4.lt x hx).1
  simp; omega
theorem SwSt.miss {w1 : World} {D m : Nat} {T R : Nat → Bool} {i t : Nat} {W W2 : World} (h : SwSt w1 D m T R i W) (hD : w1.heap.size + 1 < D) {a : Option Addr} {g cap : Nat} (hs : W2.heap.size = W2.heap.size) (k2 : Keeps (blk a) W W2) (hlo : ∀ x, x ∈ blk a → D + 2 ≤ x)
    (hown : W2.ownsRow (D + 2) 3 1 (.slice (some ⟨g, 0, none⟩) ((outL T R m i).length + 1) cap) ((outL T R m i).length + 1) (intsL (outL T R m i) ++ [.int .i64 (t : Int)])) (ob : ∃ a0 c0, W.heap[w1.heap.size + 1]? = some (.cells #[.slice a0 (outL T R m i).length c0] 22 (0, 0)))
    (hk : keptL T R m i = keptL T R m (i + 1)) (ho : outL T R m (i + 1) = outL T R m i ++ [t]) :
    SwSt w1 D m T R (i + 1) (W2.setCell ⟨w1.heap.size + 1, 0, none⟩ (.slice (some ⟨g, 0, none⟩) ((outL T R m i).length + 1) cap)) := by
  obtain ⟨a1, c1, h1, h2⟩ := h.kb
  obtain ⟨a0, c0, h0⟩ := ob
  have kz : Keeps [w1.heap.size + 1] W2 (W2.setCell ⟨w1.heap.size + 1, 0, none⟩ (.slice (some ⟨g, 0, none⟩) ((outL T R m i).length + 1) cap)) := (Keeps.refl _ _).setCell (.inr (by simp)) _
  have hno : ∀ x, x < D + 2 → x ∉ blk a := fun x hx hy => by have := hlo x hy; omega
  refine ⟨(h.kp.then k2 (fun x hx => by left; have := hlo x hx; omega)).then kz (by intro x hx; simp at hx; left; omega), ⟨a1, c1, ?_, ?_⟩, some ⟨g, 0, none⟩, cap, ?_, ?_⟩
  · rw [← hk]; exact kz.has (k2.has h1 (hno _ (by omega))) (by simp)
  · rw [← hk]; exact h2
  · rw [ho, List.length_append]; exact has_setCell (k2.has h0 (hno _ (by omega))) 0 _
  · rw [ho, List.length_append, intsL_snoc]
    refine own_keeps' hown kz (fun x hx => ?_)
    have := (hown.lt x hx).1
    simp; omega

/-- In the midst of the freeing. -/
structure FrSt (sb lo m : Nat) (S : List Nat) (V : Nat → Value) (T R : Nat → Bool) (W : World) (k : Nat) (wr : World) : Prop where
  st : ∃ S' V' T', SL.SlotSt sb lo S' m V' T' wr ∧ (∀ i, i < m → T' i = (T i && !decide (i ∈ (idxL (freed T R) m).take k))) ∧ (∀ i, i < m → T' i = true → V' i = V i) ∧ ∀ x, x ∈ S' → x ∈ S ∨ W.heap.size ≤ x
  kp : Keeps S W wr
theorem FrSt.step {sb lo m : Nat} {S : List Nat} {V : Nat → Value} {T R : Nat → Bool} {W : World} {k : Nat} {wr : World} (h : FrSt sb lo m S V T R W k wr) (hm : m ≤ 200) (hk : k < cntT (freed T R) m) :
    Calls Try.prog 51 #[.pointer (some ⟨sb, 0, none⟩), .int .i64 (SL.ixN (freed T R) m k : Int)] wr fun e w' => e = .returned (.bool true) ∧ FrSt sb lo m S V T R W (k + 1) w' := by
  obtain ⟨S', V', T', h1, h2, h3, h4⟩ := h.st
  obtain ⟨y1, y2, y3⟩ := SL.ixN_is _ m k hk
  have y4 := ix_notin _ m k hk
  have hTy : T' (SL.ixN (freed T R) m k) = true := by
    rw [h2 _ y1]; simp [freed] at y2; simp [y4, y2.1]
  refine (SL.free_st_in sb lo S' m V' T' (SL.ixN (freed T R) m k) _ rfl wr h1 (by simp [isB, hTy]; exact y1) (by omega)).mono ?_
  rintro e w' ⟨rfl, S2, g1, g2, g3⟩
  have hsz := h.kp.size
  refine ⟨rfl, ⟨S2, _, _, g1, fun i hi => ?_, fun i hi ht => ?_, fun x hx => ?_⟩, h.kp.then g2 (fun x hx => (h4 x hx).elim .inr .inl)⟩
  · rw [take_ix hk]
    unfold putB
    by_cases e : i = SL.ixN (freed T R) m k
    · subst e; simp
    · rw [if_neg e, h2 i hi]; simp [e]
  · unfold putB at ht
    unfold putV
    split at ht
    · simp at ht
    · rename_i e; rw [if_neg e]; exact h3 i hi ht
  · rcases g3 x hx with h5 | h5
    · exact h4 x h5
    · exact .inr (by omega)

/-- Behind Sweep. -/
def SweepC (sb lo m : Nat) (S : List Nat) (V : Nat → Value) (T R : Nat → Bool) (w : World) (e : Ending) (w' : World) : Prop :=
  ∃ a c S' V', e = .returned (.slice a (cntT (freed T R) m) c) ∧ w'.ownsRow w.heap.size 3 1 (.slice a (cntT (freed T R) m) c) (cntT (freed T R) m) (intsL (idxL (freed T R) m)) ∧ SL.SlotSt sb lo S' m V' R w' ∧ (∀ i, i < m → R i = true → V' i = V i) ∧ Keeps S w w' ∧ ∀ x, x ∈ S' → x ∈ S ∨ w.heap.size ≤ x

set_option maxRecDepth 100000 in
set_option maxHeartbeats 4000000 in
theorem sweep_any (LL : Nat → List Int) (sb lo m : Nat) (S : List Nat) (V : Nat → Value) (T : Nat → Bool) (rs : List Int) (ra : Option Addr) (rc : Nat) (R : Nat → Bool) (hR : ∀ i, R i = true ↔ Rch m T LL rs i)
    (w : World) (hst : SL.SlotSt sb lo S m V T w) (hm : m ≤ 200) (hL : LeadsAt m V T LL w) (hr : RowL w (.slice ra rs.length rc) rs) (hrs : rs.length ≤ 100000) :
    Calls Try.prog 32 #[.pointer (some ⟨sb, 0, none⟩), .slice ra rs.length rc, .func (.func 28) #[] #[]] w (SweepC sb lo m S V T R w) := by
  obtain ⟨j0, hi, hz0, hz1, hz2⟩ := info_parts infoI
  have HJ := Lib.hid (And.intro hi (And.intro hz0 (And.intro hz1 hz2)))
  clear hi hz0 hz1 hz2
  have HST := Lib.hid hst
  have HL := Lib.hid hL
  have HR := Lib.hid hr
  have HRR := Lib.hid hR
  have hRT : ∀ i, R i = true → i < m ∧ T i = true := fun i hi => ((hR i).1 hi).lt
  have HRT := Lib.hid hRT
  clear hst hL hr hR hRT
  refine calls_of_wp_ranges Try.func32 rfl ?_
  simp only [Try.ntmps32, List.size_toArray, List.length_cons, List.length_nil, Nat.reduceAdd, Nat.reduceSub, Array.replicate_succ, Array.replicate_zero, List.push_toArray, List.append_toArray, List.nil_append, List.cons_append]
  go_wp2_with fail
  refine (mark_any _ LL LL (.inl ⟨rfl, rfl⟩) sb lo m S V T rs ra rc R HRR.out w HST.out hm HL.out HR.out hrs).mono ?_
  rintro e w1 ⟨a, cap, rfl, hown, k1⟩
  have OW := Lib.hid hown
  have K1 := Lib.hid k1
  clear hown k1
  go_wp2_with fail
  have hV : ∀ i, i < m → T i = true → ∃ a n c, V i = .slice a n c := fun i hi hT => by obtain ⟨⟨a, c, h, _⟩, _⟩ := HL.out i hi hT; exact ⟨a, _, c, h⟩
  have HV := Lib.hid hV
  have st1 := Lib.hid (HST.out.keeps ((K1.out.alloc (.cells #[.slice a (cntT R m) cap] 22)).alloc (.cells #[.slice none 0 0] 22)) (by simp))
  clear hV
  refine (SL.sAll_any sb lo S m V T _ st1.out (by omega) HV.out).mono ?_
  rintro e w2 ⟨ab, capb, rfl, hP, hb2⟩
  have P2 := Lib.hid hP
  have B2 := Lib.hid hb2
  have kb2 := Below.keeps hb2 []
  have z2 : w1.heap.size + 1 + 1 < w2.heap.size := by
    have h := hP.1
    have := World.block_lt_of_cell? _ _ h
    simpa using this
  have q1 : w2.heap[w1.heap.size]? = some (.cells #[.slice a (cntT R m) cap] 22 (0, 0)) := kb2.has (has_alloc (has_new _ _) _) (by simp)
  have q2 : w2.heap[w1.heap.size + 1]? = some (.cells #[.slice none 0 0] 22 (0, 0)) := kb2.has (has_new' _ _ (by simp)) (by simp)
  have q3 : Keeps [] w1 w2 := (((Keeps.refl _ _).alloc _).alloc _).trans kb2
  have hks : keptL T R m 0 = idxL R m := kept_start (fun i hi => (HRT.out i hi).2) m
  have hcap : cntT R m ≤ cap ∧ cap ≤ maxLen := ValRow.cap_le (V := fun k => .int .i64 ((idxL R m).getD k 0 : Int)) (E := 3) (lo := w.heap.size) (a := a) (w := w1) (by
    have h := OW.out
    unfold ValRow
    rw [show valR (cntT R m) (fun k => Value.int .i64 ((idxL R m).getD k 0 : Int)) = intsL (idxL R m) from by
      apply List.ext_getElem
      · simp [valR, intsL, idxL_len]
      · intro i h1 h2; simp [valR, intsL] at h1 h2 ⊢; simp [List.getElem?_eq_getElem h2]]
    exact h)
  have SW0 : Hid (SwSt w1 w2.heap.size m T R 0 w2) := Lib.hid ⟨q3, ⟨a, cap, by rw [hks, idxL_len]; exact q1, by rw [hks]; exact rowN_of OW.out (idxL_len R m), by rw [hks, idxL_len]; exact hcap.1, hcap.2⟩, none, 0, by simpa [outL] using q2, by simpa [outL, intsL] using World.ownsRow_nil _ _ _ _⟩
  have Q12 := Lib.hid (And.intro q1 q2)
  simp only [World.size_alloc] at P2 B2 ⊢
  clear hP hb2 kb2 q1 q2 q3 hks hcap st1
  go_wp2_with fail
  refine wp_rangeN (gf := 61) (lb := #[.pointer (some ⟨w1.heap.size + 1 + 1, 0, none⟩)]) rfl (enters_of Try.func61 (by kernel_rfl) rfl) (SL.sIter (w1.heap.size + 1 + 1) m capb ab V T (by omega) HV.out) (fun _ => rfl)
    (fun i W => SwSt w1 w2.heap.size m T R i W ∧ Keeps [w1.heap.size, w1.heap.size + 1] w2 W) (fun _ _ _ => False) (fun i A B h k => ⟨h.1.keeps (by omega) k, h.2.then k (by intro x hx; simp at hx; left; omega)⟩) (fun _ _ _ _ h _ => h) ?priv ⟨SW0.out, Keeps.refl _ _⟩ ?round ?done ?stop
  case priv =>
    intro i A h
    obtain ⟨p1, p2⟩ := P2.out
    refine ⟨h.2.cell p1 (by simp <;> omega), fun k hk => ?_⟩
    obtain ⟨g, e1, e2, e3⟩ := p2 k hk
    have hg : g ∉ [w1.heap.size, w1.heap.size + 1] := by
      intro hg
      simp at hg
      rcases hg with rfl | rfl
      · rw [cell_of_has Q12.out.1] at e3; simp at e3
      · rw [cell_of_has Q12.out.2] at e3; simp at e3
    exact ⟨g, e1, h.2.cell e2 hg, h.2.cell e3 hg⟩
  case stop => intro c i W _ h; exact h.elim
  case round =>
    intro l i W K hi hW hsz hK
    gi_wp2
    refine hK _ _ (fun _ => True) (fun _ _ h _ => h) trivial (Keeps.refl _ _) ?_
    clear hK hW hsz
    intro W hW _ hsz
    obtain ⟨hS, hk2⟩ := hW
    have tR := SL.ixN_is T m i hi
    obtain ⟨a1, c1, b1, b2, b3, b4⟩ := hS.kb
    obtain ⟨a2, c2, d1, d2⟩ := hS.ob
    have HS := Lib.hid hS
    have HK2 := Lib.hid hk2
    have HD2 := Lib.hid d2
    have LO2 := Lib.hid (own_lo d2)
    have olen := out_len T R m i
    obtain ⟨t, ht⟩ := ex_hid (SL.ixN T m i)
    have e1 := cell_has b1 (i := 0) rfl
    have e2 := cell_has d1 (i := 0) rfl
    have f1 := free_of_has b1 0
    have f2 := free_of_has d1 0
    have x1 := lt_of_block b1
    have x2 := lt_of_block d1
    have X1 := Lib.hid b1
    have X2 := Lib.hid d1
    unfold maxLen at b4
    rw [← ht.out] at tR ⊢
    clear hS hk2 d2 b1 d1
    by_cases hRt : R t = true
    · obtain ⟨h1, h2⟩ := kept_hit (R := R) hi (by rw [← ht.out]; exact hRt)
      rw [← ht.out] at h1
      obtain ⟨rest, hrest⟩ := ex_hid (keptL T R m (i + 1))
      rw [← hrest.out] at h1
      rw [h1] at b2 b3 e1 X1
      obtain ⟨b, off, rfl, g1⟩ := b2 0 (by simp)
      have hbt := RowN.tail b2
      have HBT := Lib.hid hbt
      have H12 := Lib.hid (And.intro h1 h2)
      have g2 := HS.out.kp.cell g1 (by simp)
      simp only [List.getD_cons_zero, Nat.add_zero] at g2
      simp only [List.length_cons] at e1 b3
      clear b2 hbt h1 h2 g1
      by_cases hc : c1 = 1
      · subst hc
        have hr0 : Hid (rest = []) := Lib.hid (by cases rest with | nil => rfl | cons => simp at b3)
        gi_wp2
        have hh := HS.out.hit (by omega) (some ⟨b, off, none⟩) 0 0 (by rw [← hrest.out, hr0.out]; rfl) (by rw [← hrest.out, hr0.out]; intro k hk; simp at hk) (by omega) (by unfold maxLen; omega) H12.out.2
        have kz : Keeps [w1.heap.size] W (W.setCell ⟨w1.heap.size, 0, none⟩ (.slice (some ⟨b, off, none⟩) 0 0)) := (Keeps.refl _ _).setCell (.inr (by simp)) _
        exact ⟨⟨hh, HK2.out.then kz (by simp)⟩, kz.block _ (by omega) (by simp <;> omega), kz.block _ (by omega) (by simp <;> omega)⟩
      · gi_wp2
        have hh := HS.out.hit (by omega) (some ⟨b, off + 1, none⟩) rest.length (c1 - 1) (by rw [← hrest.out]) (by rw [← hrest.out]; exact HBT.out) (by omega) (by unfold maxLen; omega) H12.out.2
        have kz : Keeps [w1.heap.size] W (W.setCell ⟨w1.heap.size, 0, none⟩ (.slice (some ⟨b, off + 1, none⟩) rest.length (c1 - 1))) := (Keeps.refl _ _).setCell (.inr (by simp)) _
        exact ⟨⟨hh, HK2.out.then kz (by simp)⟩, kz.block _ (by omega) (by simp <;> omega), kz.block _ (by omega) (by simp <;> omega)⟩
    · have hRf : R t = false := by simpa using hRt
      obtain ⟨h1, h2⟩ := kept_miss (R := R) hi (by rw [← ht.out]; exact hRf)
      rw [← ht.out] at h2
      have H12 := Lib.hid (And.intro h1 h2)
      have HRF := Lib.hid hRf
      have q3 : (outL T R m i).length + 1 ≤ maxLen := by unfold maxLen; omega
      have q4 : ((outL T R m i).length + 1) * 8 ≤ 140737488355328 := by omega
      have G := Lib.hid (And.intro q3 q4)
      clear hRt hRf h1 h2 q3 q4
      by_cases hz : (keptL T R m i).length = 0
      · rw [hz] at e1
        clear hz b2 b3
        gi_wp2_with (gi_at_builtin; go_must (refine wpListIn_append_lies _ rfl _ _ 22 rfl (w2.heap.size + 2) 3 j0 (.int .i64 0) 1 8 Try.underlying22 HJ.out.1 HJ.out.2.1 HJ.out.2.2.1 HJ.out.2.2.2 rfl (by decide) _ (outL T R m i).length (intsL (outL T R m i)) rfl (HD2.out.alloc _) ⟨W.heap.size, 0, none⟩ 1 1 [_] rfl rfl (cell_one_new _ _ _) (by intro u hu; simp at hu; subst hu; rfl) (by decide) G.out.1 G.out.2 (by simp <;> omega) (W.heap.size + 1) (by simp) ?_); go_must (intro g cap1 w3 hown hgrow hat hlt1; have K3 := grown_keeps hgrow; have B3 := K3.has X2.out (fun hz => by have := LO2.out _ hz; omega); have f3 := free_of_has B3 0; have e3 := cell_has B3 (i := 0) rfl; have z3 := lt_of_block B3; have P1 := Lib.hid K3; have P2 := Lib.hid hown; clear hgrow hown hat K3 B3))
        have kz : Keeps [w1.heap.size + 1] w3 (w3.setCell ⟨w1.heap.size + 1, 0, none⟩ (.slice (some ⟨g, 0, none⟩) ((outL T R m i).length + 1) cap1)) := (Keeps.refl _ _).setCell (.inr (by simp)) _
        have hh := HS.out.miss (by omega) rfl P1.out LO2.out P2.out ⟨_, _, X2.out⟩ H12.out.1 H12.out.2
        have hs3 := P1.out.size
        have hno : ∀ x, x < w2.heap.size + 2 → x ∉ blk a2 := fun x hx hy => by have := LO2.out x hy; omega
        exact ⟨⟨hh, (HK2.out.then P1.out (fun x hx => by left; have := LO2.out x hx; omega)).then kz (by simp)⟩, (kz.block _ (by omega) (by simp <;> omega)).trans (P1.out.block _ (by omega) (hno _ (by omega))), (kz.block _ (by omega) (by simp <;> omega)).trans (P1.out.block _ (by omega) (hno _ (by omega)))⟩
      · obtain ⟨y, rest, hyr⟩ : ∃ y rest, keptL T R m i = y :: rest := by
          cases h : keptL T R m i with
          | nil => rw [h] at hz; simp at hz
          | cons y rest => exact ⟨y, rest, rfl⟩
        have hy1 : R y = true := kept_mem (T := T) (m := m) (i := i) (by rw [hyr]; simp)
        have hyt : y ≠ t := by rintro rfl; rw [HRF.out] at hy1; simp at hy1
        have hq : ((y : Int) == (t : Int)) = false := beq_false_of_ne (by omega)
        rw [hyr] at b2 e1
        obtain ⟨b, off, rfl, g1⟩ := b2 0 (by simp)
        have g2 := HS.out.kp.cell g1 (by simp)
        simp only [List.getD_cons_zero, Nat.add_zero] at g2
        simp only [List.length_cons] at e1
        clear b2 b3 g1 hz hyr hy1 hyt
        gi_wp2_with (gi_at_builtin; go_must (refine wpListIn_append_lies _ rfl _ _ 22 rfl (w2.heap.size + 2) 3 j0 (.int .i64 0) 1 8 Try.underlying22 HJ.out.1 HJ.out.2.1 HJ.out.2.2.1 HJ.out.2.2.2 rfl (by decide) _ (outL T R m i).length (intsL (outL T R m i)) rfl (HD2.out.alloc _) ⟨W.heap.size, 0, none⟩ 1 1 [_] rfl rfl (cell_one_new _ _ _) (by intro u hu; simp at hu; subst hu; rfl) (by decide) G.out.1 G.out.2 (by simp <;> omega) (W.heap.size + 1) (by simp) ?_); go_must (intro g cap1 w3 hown hgrow hat hlt1; have K3 := grown_keeps hgrow; have B3 := K3.has X2.out (fun hz => by have := LO2.out _ hz; omega); have f3 := free_of_has B3 0; have e3 := cell_has B3 (i := 0) rfl; have z3 := lt_of_block B3; have P1 := Lib.hid K3; have P2 := Lib.hid hown; clear hgrow hown hat K3 B3))
        have kz : Keeps [w1.heap.size + 1] w3 (w3.setCell ⟨w1.heap.size + 1, 0, none⟩ (.slice (some ⟨g, 0, none⟩) ((outL T R m i).length + 1) cap1)) := (Keeps.refl _ _).setCell (.inr (by simp)) _
        have hh := HS.out.miss (by omega) rfl P1.out LO2.out P2.out ⟨_, _, X2.out⟩ H12.out.1 H12.out.2
        have hs3 := P1.out.size
        have hno : ∀ x, x < w2.heap.size + 2 → x ∉ blk a2 := fun x hx hy => by have := LO2.out x hy; omega
        exact ⟨⟨hh, (HK2.out.then P1.out (fun x hx => by left; have := LO2.out x hx; omega)).then kz (by simp)⟩, (kz.block _ (by omega) (by simp <;> omega)).trans (P1.out.block _ (by omega) (hno _ (by omega))), (kz.block _ (by omega) (by simp <;> omega)).trans (P1.out.block _ (by omega) (hno _ (by omega)))⟩
  case done =>
    intro W hW hD
    obtain ⟨hS, hk2⟩ := hW
    obtain ⟨a2, c2, d1, d2⟩ := hS.ob
    rw [out_end, idxL_len] at d1 d2
    have e1 := cell_has d1 (i := 0) rfl
    have KW : Hid (Keeps [] w W) := Lib.hid (K1.out.trans hS.kp)
    have st2 := Lib.hid (HST.out.keeps KW.out (by simp))
    have HD := Lib.hid hD
    have X1 := Lib.hid d1
    have X2 := Lib.hid d2
    obtain ⟨N, hN⟩ := ex_hid (cntT (freed T R) m)
    have hNm : N ≤ m := by rw [hN.out]; exact cntT_le _ _
    rw [← hN.out] at e1
    clear hS hk2 d1 d2 hD
    have z1 := K1.out.size
    have hDS : ∀ x, w.heap.size ≤ x → x ∉ S := fun x hx hy => by have := (HST.out.foot x hy).2; omega
    have HDS := Lib.hid hDS
    have zW := lt_of_block X1.out
    have zD := lt_of_block HD.out
    have FR0 : Hid (FrSt sb lo m S V T R W 0 W) := Lib.hid ⟨⟨S, V, T, st2.out, fun i _ => by simp, fun _ _ _ => rfl, fun x hx => .inl hx⟩, Keeps.refl _ _⟩
    clear hDS
    go_wp2_with fail
    go_loopw [38] (fun j wr => ∃ k, k ≤ N ∧ j = .int .i64 k ∧ FrSt sb lo m S V T R W k wr) (fun j _ => N - (intOf j).toNat)
    case atStart => exact ⟨0, by omega, rfl, FR0.out⟩
    case round =>
      obtain ⟨k, hk, rfl, hF⟩ := hrel
      have k0 : (0 : Int) ≤ (k : Int) := by omega
      have HF := Lib.hid hF
      clear hF
      by_cases hlt : k < N
      · have hlt' : (k : Int) < (N : Int) := by omega
        have hkN : k < cntT (freed T R) m := by rw [← hN.out]; exact hlt
        obtain ⟨g, c', hv, hg1, hg2⟩ := X2.out.form (by omega)
        simp at hv
        obtain ⟨rfl, rfl⟩ := hv
        have hc := X2.out.cellAt k (by omega)
        have hc2 : wr.cell? ⟨g, k, none⟩ = some (.int .i64 (SL.ixN (freed T R) m k : Int)) := by
          refine HF.out.kp.cell ?_ (HDS.out g (by omega))
          rw [hc]
          simp [intsL, (SL.ixN_is _ m k hkN).2.2]
        have ST := Lib.hid (HF.out.step hm hkN)
        obtain ⟨y, hy⟩ := ex_hid (SL.ixN (freed T R) m k)
        rw [← hy.out] at hc2 ST
        clear hc hkN
        go_wp2_with fail
        refine ST.out.mono ?_
        rintro e w5 ⟨rfl, hF5⟩
        have HF5 := Lib.hid hF5
        clear hF5
        go_wp2_with fail
        go_roundw
        case rel => exact ⟨k + 1, by omega, by go_num, HF5.out⟩
        case measure => simp [intOf]; omega
      · obtain rfl : k = N := by omega
        have hge : ¬ (k : Int) < (k : Int) := by omega
        have e5 := HF.out.kp.cell e1 (HDS.out (w1.heap.size + 1) (by omega))
        have hD5 := Lib.hid (HF.out.kp.has HD.out (HDS.out _ (by omega)))
        clear e1
        go_wp2_with fail
        refine bodyPostR_ret1 (fun w => results_tmp rfl _ _ _) rfl hD5.out fun w' kD => ?_
        obtain ⟨S', V', T', h1, h2, h3, h4⟩ := HF.out.st
        have h1' := h1.keeps kD (fun x hx hx2 => by
          simp at hx2; subst hx2
          rcases h4 _ hx with h5 | h5
          · exact HDS.out _ (by omega) h5
          · omega)
        have hTR : ∀ i, i < m → T' i = R i := fun i hi => by
          rw [h2 i hi, List.take_of_length_le (by rw [idxL_len, ← hN.out]; omega), Bool.eq_iff_iff]
          have hm1 := SL.idxL_mem (freed T R) m i
          by_cases hR : R i = true
          · simp [hR, hm1, freed, (HRT.out i hR).2]
          · simp [hR, hm1, freed, hi]
        refine ⟨a2, c2, S', V', by rw [hN.out]; rfl, ?_, h1'.congr hTR, fun i hi hr => h3 i hi (by rw [hTR i hi]; exact hr), ?_, fun x hx => (h4 x hx).elim .inl (fun h => .inr (by omega))⟩
        · have r1 := own_keeps' X2.out HF.out.kp (fun x hx => HDS.out x (by have := (X2.out.lt x hx).1; omega))
          have r2 := own_keeps' r1 kD (fun x hx => by have := (X2.out.lt x hx).1; simp; omega)
          exact ownsRow_base r2 (by omega)
        · exact ((KW.out.mono (by simp)).trans HF.out.kp).then kD (by intro x hx; simp at hx; left; omega)
end Go.Proofs.Ytompihlckpjbkaa
