/- The document's Sweep (chapter 12). -/
import Derived.Test.YtompihlckpjbkaaSweep
import Derived.Deep.DeepMust
namespace Go.Proofs.Ytompihlckpjbkaa
open Go.RowKit
set_option linter.unusedVariables false

theorem idxL_at {R : Nat → Bool} {i : Nat} (hR : R i = true) : ∀ m, i < m → cntT R i < cntT R m ∧ (idxL R m)[cntT R i]? = some i := by
  intro m
  induction m with
  | zero => intro h; omega
  | succ m ih =>
    intro h
    by_cases e : i = m
    · subst e
      simp only [idxL, cntT, hR, if_true]
      refine ⟨by omega, ?_⟩
      rw [List.getElem?_append_right (by rw [idxL_len]; omega), idxL_len]
      simp
    · obtain ⟨h1, h2⟩ := ih (by omega)
      simp only [idxL, cntT]
      refine ⟨by split <;> omega, ?_⟩
      rw [List.getElem?_append_left (by rw [idxL_len]; exact h1)]
      exact h2

theorem cntT_up (R : Nat → Bool) {k m : Nat} (h : k ≤ m) : cntT R k ≤ cntT R m := by
  induction m with
  | zero => obtain rfl : k = 0 := by omega
            omega
  | succ m ih =>
    by_cases e : k = m + 1
    · subst e; omega
    · have := ih (by omega); simp only [cntT]; split <;> omega

/-- In the midst of the document's freeing. -/
structure RfSt (wb lo m : Nat) (S : List Nat) (V : Nat → Value) (T R : Nat → Bool) (W : World) (oa : Option Addr) (i : Nat) (wr : World) : Prop where
  st : ∃ S' V' T', RefS wb lo S' m V' T' wr ∧ (∀ j, j < m → T' j = (T j && (decide (i ≤ j) || R j))) ∧ (∀ j, j < m → T' j = true → V' j = V j) ∧ (∀ x, x ∈ S' → x ∈ S ∨ W.heap.size ≤ x) ∧ ∀ x, x ∈ blk oa → x ∉ S'
  kp : Keeps S W wr
section
variable {wb lo m : Nat} {S : List Nat} {V : Nat → Value} {T R : Nat → Bool} {W : World} {oa : Option Addr} {i : Nat} {wr : World}
theorem RfSt.next (h : RfSt wb lo m S V T R W oa i wr) (hi : R i = true ∨ T i = false) : RfSt wb lo m S V T R W oa (i + 1) wr := by
  obtain ⟨S', V', T', h1, h2, h3⟩ := h.st
  refine ⟨⟨S', V', T', h1, fun j hj => ?_, h3⟩, h.kp⟩
  rw [h2 j hj]
  by_cases e : j = i
  · subst e; rcases hi with hi | hi <;> simp [hi]
  · have : decide (i ≤ j) = decide (i + 1 ≤ j) := by rw [Bool.eq_iff_iff]; simp; omega
    rw [this]
theorem RfSt.grow (h : RfSt wb lo m S V T R W oa i wr) {w2 : World} {g : Nat} (k : Keeps (blk oa) wr w2) (hl : ∀ x, x ∈ blk oa → W.heap.size ≤ x) (hg : g ∈ blk oa ∨ wr.heap.size ≤ g) : RfSt wb lo m S V T R W (some ⟨g, 0, none⟩) i w2 := by
  obtain ⟨S', V', T', h1, h2, h3, h4, h5⟩ := h.st
  refine ⟨⟨S', V', T', h1.keeps k (fun x hx hy => h5 x hy hx), h2, h3, h4, fun x hx hy => ?_⟩, h.kp.then k (fun x hx => .inl (hl x hx))⟩
  simp [blk] at hx
  subst hx
  rcases hg with hg | hg
  · exact h5 x hg hy
  · have := (h1.foot x hy).2; omega
theorem RfSt.free {base n c : Nat} {xs : List Value} (h : RfSt wb lo m S V T R W oa i wr) (hi : i < m) (hR : R i = false) (hT : T i = true) (ho : wr.ownsRow base 3 1 (.slice oa n c) n xs) :
    Calls Try.prog 46 #[.pointer (some ⟨wb, 0, none⟩), .int .i64 (i : Int)] wr fun e w' => e = .returned (.bool true) ∧ RfSt wb lo m S V T R W oa (i + 1) w' ∧ w'.ownsRow base 3 1 (.slice oa n c) n xs := by
  obtain ⟨S', V', T', h1, h2, h3, h4, h5⟩ := h.st
  have hTy : T' i = true := by rw [h2 _ hi]; simp [hT]
  refine (refFree_in wb lo S' m V' T' (i : Int) wr h1 (by simp [isB, hTy]; exact hi)).mono ?_
  rintro e w' ⟨rfl, S2, g1, g2, g3⟩
  have hsz := h.kp.size
  simp only [Int.toNat_natCast] at g1
  refine ⟨rfl, ⟨⟨S2, _, _, g1, fun j hj => ?_, fun j hj ht => ?_, fun x hx => ?_, fun x hx hy => ?_⟩, h.kp.then g2 (fun x hx => (h4 x hx).elim .inr .inl)⟩, own_keeps' ho g2 (fun x hx => h5 x (blk_own _ _ _ _ hx))⟩
  · unfold putB
    by_cases e : j = i
    · subst e; simp [hR]
    · rw [if_neg e, h2 j hj]
      have : decide (i ≤ j) = decide (i + 1 ≤ j) := by rw [Bool.eq_iff_iff]; simp; omega
      rw [this]
  · unfold putB at ht
    unfold putV
    split at ht
    · simp at ht
    · rename_i e; rw [if_neg e]; exact h3 j hj ht
  · rcases g3 x hx with h6 | h6
    · exact h4 x h6
    · exact .inr (by omega)
  · rcases g3 x hy with h6 | h6
    · exact h5 x hx h6
    · have hx' : (Value.slice oa n c).ownBlock = some x ∨ True := .inr trivial
      have : x < wr.heap.size := by
        rcases ho.2 with ⟨q, _⟩ | ⟨g, cap, cur, a1, a2, a3, _⟩
        · simp at q; rw [q.1] at hx; simp [blk] at hx
        · simp at a1; rw [a1.1] at hx; simp [blk] at hx; subst hx; exact lt_of_block a3
      omega
theorem RfSt.free_no {base n c : Nat} {xs : List Value} (h : RfSt wb lo m S V T R W oa i wr) (hi : i < m) (hT : T i = false) (ho : wr.ownsRow base 3 1 (.slice oa n c) n xs) :
    Calls Try.prog 46 #[.pointer (some ⟨wb, 0, none⟩), .int .i64 (i : Int)] wr fun e w' => e = .returned (.bool false) ∧ RfSt wb lo m S V T R W oa (i + 1) w' ∧ w'.ownsRow base 3 1 (.slice oa n c) n xs := by
  obtain ⟨S', V', T', h1, h2, h3, h4, h5⟩ := h.st
  have hTy : T' i = false := by rw [h2 _ hi]; simp [hT]
  refine (refFree_out wb lo S' m V' T' (i : Int) wr h1 (by simp [isB, hTy])).mono ?_
  rintro e w' ⟨rfl, S2, g1, g2, g3⟩
  have hsz := h.kp.size
  have hlt : ∀ x, x ∈ blk oa → x < wr.heap.size := fun x hx => by
    rcases ho.2 with ⟨q, _⟩ | ⟨g, cap, cur, a1, a2, a3, _⟩
    · simp at q; rw [q.1] at hx; simp [blk] at hx
    · simp at a1; rw [a1.1] at hx; simp [blk] at hx; subst hx; exact lt_of_block a3
  have k : RfSt wb lo m S V T R W oa i w' := ⟨⟨S2, V', T', g1, h2, h3, fun x hx => (g3 x hx).elim (h4 x) (fun h => .inr (by omega)), fun x hx hy => (g3 x hy).elim (h5 x hx) (fun h6 => by have := hlt x hx; omega)⟩, h.kp.then g2 (fun x hx => (h4 x hx).elim .inr .inl)⟩
  exact ⟨rfl, k.next (.inr hT), own_keeps' ho g2 (fun x hx => h5 x (blk_own _ _ _ _ hx))⟩
end

/-- Behind the document's Sweep. -/
def RSweepC (wb lo m : Nat) (S : List Nat) (V : Nat → Value) (T R : Nat → Bool) (w : World) (e : Ending) (w' : World) : Prop :=
  ∃ a c S' V', e = .returned (.slice a (cntT (freed T R) m) c) ∧ w'.ownsRow w.heap.size 3 1 (.slice a (cntT (freed T R) m) c) (cntT (freed T R) m) (intsL (idxL (freed T R) m)) ∧ RefS wb lo S' m V' R w' ∧ (∀ i, i < m → R i = true → V' i = V i) ∧ Keeps S w w' ∧ ∀ x, x ∈ S' → x ∈ S ∨ w.heap.size ≤ x
theorem RefS.congr {wb lo : Nat} {S : List Nat} {m : Nat} {V : Nat → Value} {T U : Nat → Bool} {w : World} (h : RefS wb lo S m V T w) (hT : ∀ i, i < m → T i = U i) : RefS wb lo S m V U w := by
  obtain ⟨La, Lc, Ta, Tc, h1, h2, h3, h4⟩ := h
  exact ⟨La, Lc, Ta, Tc, h1, h2, h3.congr (fun k hk => by simp [flagV, hT k hk]), h4⟩

set_option maxRecDepth 100000 in
set_option maxHeartbeats 4000000 in
theorem refSweep_any (LL : Nat → List Int) (wb lo m : Nat) (S : List Nat) (V : Nat → Value) (T : Nat → Bool) (rs : List Int) (ra : Option Addr) (rc : Nat) (R : Nat → Bool) (hR : ∀ i, R i = true ↔ Rch m T LL rs i)
    (w : World) (hst : RefS wb lo S m V T w) (hm : m ≤ 200) (hL : LeadsAt m V T LL w) (hr : RowL w (.slice ra rs.length rc) rs) (hrs : rs.length ≤ 100000) :
    Calls Try.prog 33 #[.pointer (some ⟨wb, 0, none⟩), .slice ra rs.length rc] w (RSweepC wb lo m S V T R w) := by
  obtain ⟨j0, hi, hz0, hz1, hz2⟩ := info_parts infoI
  have HJ := Lib.hid (And.intro hi (And.intro hz0 (And.intro hz1 hz2)))
  clear hi hz0 hz1 hz2
  have HST := Lib.hid hst
  have HL := Lib.hid hL
  have HR := Lib.hid hr
  have HRR := Lib.hid hR
  have hRT : ∀ i, R i = true → i < m ∧ T i = true := fun i hi => ((hR i).1 hi).lt
  have HRT := Lib.hid hRT
  have hm' : (m : Int) ≤ 200 := by omega
  clear hst hL hr hR hRT
  go_enter Try.func33, Try.ntmps33
  go_wp2_with fail
  refine (refMark_any LL wb lo m S V T rs ra rc R HRR.out w HST.out hm HL.out HR.out hrs).mono ?_
  rintro e w1 ⟨a, cap, rfl, hown, k1⟩
  have OW := Lib.hid hown
  have K1 := Lib.hid k1
  have F0 : Hid (RfSt wb lo m S V T R w1 none 0 w1) := Lib.hid ⟨⟨S, V, T, HST.out.keeps k1 (by simp), fun j _ => by simp, fun _ _ _ => rfl, fun x hx => .inl hx, by simp [blk]⟩, Keeps.refl _ _⟩
  have hDS : ∀ x, w.heap.size ≤ x → x ∉ S := fun x hx hy => by have := (HST.out.foot x hy).2; omega
  have HDS := Lib.hid hDS
  have z1 := k1.size
  obtain ⟨N, hN⟩ := ex_hid (cntT R m)
  have hNm : N ≤ 200 := by rw [hN.out]; have := cntT_le R m; omega
  rw [← hN.out]
  clear hown k1 hDS
  go_wp2_with fail
  go_loopw [6, 7, 8] (fun out kk i wr => ∃ (k : Nat) (oa : Option Addr) (oc : Nat), k ≤ m ∧ i = .int .i64 k ∧ kk = .int .i64 (cntT R k : Int) ∧ out = .slice oa (cntT (freed T R) k) oc ∧ wr.ownsRow w1.heap.size 3 1 (.slice oa (cntT (freed T R) k) oc) (cntT (freed T R) k) (intsL (idxL (freed T R) k)) ∧ RfSt wb lo m S V T R w1 oa k wr) (fun _ _ i _ => m - (intOf i).toNat)
  case atStart => exact ⟨0, none, 0, by omega, rfl, rfl, rfl, World.ownsRow_nil _ _ _ _, F0.out⟩
  case round =>
    obtain ⟨k, oa, oc, hk, rfl, rfl, rfl, hO, hF⟩ := hrel
    have HO := Lib.hid hO
    have HF := Lib.hid hF
    have k0 : (0 : Int) ≤ (k : Int) := by omega
    have c0 : ∃ La Lc, wr.cell? ⟨wb, 0, none⟩ = some (.slice La m Lc) := by
      obtain ⟨S', V', T', ⟨La, Lc, Ta, Tc, h1, _⟩, _⟩ := hF.st
      exact ⟨La, Lc, cell_has h1 rfl⟩
    obtain ⟨La, Lc, c0⟩ := c0
    have hcR := cntT_le R k
    have hcU := cntT_le (freed T R) k
    clear hO hF
    by_cases hlt : k < m
    · have hlt' : (k : Int) < (m : Int) := by omega
      obtain ⟨q, hq⟩ := ex_hid (cntT R k)
      rw [← hq.out] at hcR ⊢
      have q0 : (0 : Int) ≤ (q : Int) := by omega
      by_cases hRk : R k = true
      · obtain ⟨p1, p2⟩ := idxL_at hRk m hlt
        rw [← hq.out] at p1 p2
        have p1' : (q : Int) < (N : Int) := by rw [hN.out]; omega
        obtain ⟨g, c', hv, hg1, hg2⟩ := OW.out.form (by omega)
        simp at hv
        obtain ⟨rfl, rfl⟩ := hv
        have hc := OW.out.cellAt q (by omega)
        have hc2 : wr.cell? ⟨g, q, none⟩ = some (.int .i64 (k : Int)) := HF.out.kp.cell (by rw [hc]; simp [intsL, p2]) (HDS.out g (by omega))
        have HRK := Lib.hid hRk
        clear hc p2 hRk p1
        go_wp2_with fail
        go_roundw
        case rel => exact ⟨k + 1, oa, oc, by omega, by go_num, by simp only [cntT, HRK.out, if_true]; rw [← hq.out]; go_num, by simp [cntT, freed, HRK.out], by have h := HO.out; simp only [cntT, idxL, freed, HRK.out]; simpa using h, HF.out.next (.inl HRK.out)⟩
        case measure => simp [intOf]; omega
      · have hRf : R k = false := by simpa using hRk
        have HRK := Lib.hid hRf
        clear hRk hRf
        have way : (q = N) ∨ (∃ g y, a = some ⟨g, 0, none⟩ ∧ q < N ∧ wr.cell? ⟨g, q, none⟩ = some (.int .i64 (y : Int)) ∧ ((y : Int) == (k : Int)) = false) := by
          have hle : cntT R k ≤ cntT R m := cntT_up R (by omega)
          rw [← hq.out, ← hN.out] at hle
          rcases Nat.lt_or_ge q N with hqn | hqn
          · right
            obtain ⟨g, c', hv, hg1, hg2⟩ := OW.out.form (by rw [← hN.out]; omega)
            simp at hv
            obtain ⟨rfl, rfl⟩ := hv
            have hqn' : q < cntT R m := by rw [← hN.out]; exact hqn
            have hc := OW.out.cellAt q (by omega)
            obtain ⟨y1, y2, y3⟩ := SL.ixN_is R m q hqn'
            refine ⟨g, SL.ixN R m q, rfl, hqn, HF.out.kp.cell (by rw [hc]; simp [intsL, y3]) (HDS.out g (by omega)), beq_false_of_ne ?_⟩
            intro e
            have e' : SL.ixN R m q = k := by omega
            rw [e', HRK.out] at y2
            simp at y2
          · left; omega
        by_cases hTk : T k = true
        · have HTK := Lib.hid hTk
          have FR := Lib.hid (HF.out.free hlt HRK.out hTk HO.out)
          have hfd : Hid (freed T R k = true) := Lib.hid (by simp [freed, hTk, HRK.out])
          have q3 : cntT (freed T R) k + 1 ≤ maxLen := by unfold maxLen; omega
          have q4 : (cntT (freed T R) k + 1) * 8 ≤ 140737488355328 := by omega
          have G := Lib.hid (And.intro q3 q4)
          clear hTk q3 q4
          rcases way with hqN | ⟨g, y, rfl, hqN, hcell, hyk⟩
          · subst hqN
            have hge : ¬ (q : Int) < (q : Int) := by omega
            go_wp2_with fail
            refine FR.out.mono ?_
            rintro e w2 ⟨rfl, hF2, hO2⟩
            have F2 := Lib.hid hF2
            have O2 := Lib.hid hO2
            clear hF2 hO2
            go_wp2_with (at_builtin; go_must (refine wpList_append_lies _ rfl _ _ 22 rfl w1.heap.size 3 j0 (.int .i64 0) 1 8 Try.underlying22 HJ.out.1 HJ.out.2.1 HJ.out.2.2.1 HJ.out.2.2.2 rfl (by decide) _ (cntT (freed T R) k) (intsL (idxL (freed T R) k)) rfl (O2.out.alloc _) ⟨w2.heap.size, 0, none⟩ 1 1 [_] rfl rfl (cell_one_new _ _ _) (by intro u hu; simp at hu; subst hu; rfl) (by decide) G.out.1 G.out.2 (by have := F2.out.kp.size; simp; omega) (w2.heap.size + 1) (by simp) ?_); go_must (intro g2 cap2 w3 hown hgrow hat _; have P3 := Lib.hid (F2.out.grow (grown_keeps hgrow) (own_lo O2.out) (lies_in hat (by omega))); have P4 := Lib.hid hown; clear hgrow hown hat))
            go_roundw
            case rel => exact ⟨k + 1, some ⟨g2, 0, none⟩, cap2, by omega, by go_num, by simp only [cntT, HRK.out]; rw [← hq.out]; rfl, by simp [cntT, hfd.out], by have h := P4.out; simp only [cntT, idxL, hfd.out, if_true]; simpa [intsL] using h, P3.out⟩
            case measure => simp [intOf]; omega
          · have hqN' : (q : Int) < (N : Int) := by omega
            go_wp2_with fail
            refine FR.out.mono ?_
            rintro e w2 ⟨rfl, hF2, hO2⟩
            have F2 := Lib.hid hF2
            have O2 := Lib.hid hO2
            clear hF2 hO2
            go_wp2_with (at_builtin; go_must (refine wpList_append_lies _ rfl _ _ 22 rfl w1.heap.size 3 j0 (.int .i64 0) 1 8 Try.underlying22 HJ.out.1 HJ.out.2.1 HJ.out.2.2.1 HJ.out.2.2.2 rfl (by decide) _ (cntT (freed T R) k) (intsL (idxL (freed T R) k)) rfl (O2.out.alloc _) ⟨w2.heap.size, 0, none⟩ 1 1 [_] rfl rfl (cell_one_new _ _ _) (by intro u hu; simp at hu; subst hu; rfl) (by decide) G.out.1 G.out.2 (by have := F2.out.kp.size; simp; omega) (w2.heap.size + 1) (by simp) ?_); go_must (intro g2 cap2 w3 hown hgrow hat _; have P3 := Lib.hid (F2.out.grow (grown_keeps hgrow) (own_lo O2.out) (lies_in hat (by omega))); have P4 := Lib.hid hown; clear hgrow hown hat))
            go_roundw
            case rel => exact ⟨k + 1, some ⟨g2, 0, none⟩, cap2, by omega, by go_num, by simp only [cntT, HRK.out]; rw [← hq.out]; rfl, by simp [cntT, hfd.out], by have h := P4.out; simp only [cntT, idxL, hfd.out, if_true]; simpa [intsL] using h, P3.out⟩
            case measure => simp [intOf]; omega
        · have hTf : T k = false := by simpa using hTk
          have HTK := Lib.hid hTf
          have FR := Lib.hid (HF.out.free_no hlt hTf HO.out)
          have hfd : Hid (freed T R k = false) := Lib.hid (by simp [freed, hTf])
          clear hTk hTf
          rcases way with hqN | ⟨g, y, rfl, hqN, hcell, hyk⟩
          · subst hqN
            have hge : ¬ (q : Int) < (q : Int) := by omega
            go_wp2_with fail
            refine FR.out.mono ?_
            rintro e w2 ⟨rfl, hF2, hO2⟩
            have F2 := Lib.hid hF2
            have O2 := Lib.hid hO2
            clear hF2 hO2
            go_wp2_with fail
            go_roundw
            case rel => exact ⟨k + 1, oa, oc, by omega, by go_num, by simp only [cntT, HRK.out]; rw [← hq.out]; rfl, by simp [cntT, hfd.out], by have h := O2.out; simp only [cntT, idxL, hfd.out]; simpa using h, F2.out⟩
            case measure => simp [intOf]; omega
          · have hqN' : (q : Int) < (N : Int) := by omega
            go_wp2_with fail
            refine FR.out.mono ?_
            rintro e w2 ⟨rfl, hF2, hO2⟩
            have F2 := Lib.hid hF2
            have O2 := Lib.hid hO2
            clear hF2 hO2
            go_wp2_with fail
            go_roundw
            case rel => exact ⟨k + 1, oa, oc, by omega, by go_num, by simp only [cntT, HRK.out]; rw [← hq.out]; rfl, by simp [cntT, hfd.out], by have h := O2.out; simp only [cntT, idxL, hfd.out]; simpa using h, F2.out⟩
            case measure => simp [intOf]; omega
    · obtain rfl : k = m := by omega
      have hge : ¬ (k : Int) < (k : Int) := by omega
      go_wp2_with fail
      go_ret
      obtain ⟨S', V', T', h1, h2, h3, h4, _⟩ := HF.out.st
      have hTR : ∀ i, i < k → T' i = R i := fun i hi => by
        rw [h2 i hi, Bool.eq_iff_iff]
        by_cases hR : R i = true
        · simp [hR, (HRT.out i hR).2]
        · simp [hR]; intro _; omega
      exact ⟨oa, oc, S', V', rfl, ownsRow_base HO.out z1, h1.congr hTR, fun i hi hr => h3 i hi (by rw [hTR i hi]; exact hr), (K1.out.mono (by simp)).trans HF.out.kp, fun x hx => (h4 x hx).elim .inl (fun h => .inr (by omega))⟩
end Go.Proofs.Ytompihlckpjbkaa
