/- A namespace is a sequence of names, shared or private: Set and Del (chapter 10). No program in sight. -/
import Derived.Test.YtajmfenfajbakaaGreatShV
namespace Go.Proofs.YtajmfenfajbakaaGreat
open Go.RowKit
set_option linter.unusedVariables false
set_option linter.unusedSimpArgs false

def setLw (P : List Pr10) (s : ByteArray) (v : Int) (most : Int) : Option (List Pr10) :=
  if 0 ≤ numI (P.map (·.1)) s then some (P.set (numI (P.map (·.1)) s).toNat (s, v)) else if most ≤ (P.length : Int) then none else some (P ++ [(s, v)])
def delLw (P : List Pr10) (s : ByteArray) : Option (List Pr10) :=
  if 0 ≤ numI (P.map (·.1)) s then some (P.eraseIdx (numI (P.map (·.1)) s).toNat) else none
def getLw (P : List Pr10) (s : ByteArray) : Option Int :=
  if 0 ≤ numI (P.map (·.1)) s then some (P.getD (numI (P.map (·.1)) s).toNat (.empty, 0)).2 else none
theorem rowL_len {ks : List ByteArray} {vs : List Int} (h : vs.length ≤ ks.length) : (rowL ks vs).length = vs.length := by unfold rowL; simp; omega
theorem rowL_names {ks : List ByteArray} {vs : List Int} (h : vs.length ≤ ks.length) : (rowL ks vs).map (·.1) = ks.take vs.length := by
  unfold rowL; exact List.map_fst_zip (by simp; omega)
theorem rowP_at {k : Nat} {f : Fam} {ks : List ByteArray} (h : FamOk k f ks) (vs : List Int) {i : Nat} {s : ByteArray} (hi : ks[i]? = some s) :
    rowP f vs i = (s, vs.getD i 0) ∧ ∃ (x : Ent) (n : Nat), f.K.E[i]? = some x ∧ x.live = true ∧ x.key = (n : Int) ∧ f.N[n]? = some s ∧ x.hash = txtH s := by
  have hlt := (List.getElem?_eq_some_iff.1 hi).1
  have hx := List.getElem?_eq_getElem (l := f.K.E) (i := i) (by rw [← h.kl]; exact hlt)
  obtain ⟨n, h1, h2, h3, h4⟩ := h.ky i _ hx
  rw [hi] at h4
  have h5 : f.N.getD n .empty = s := by simpa using h4.symm
  refine ⟨?_, _, n, hx, h.lv i _ hx, h2, by rw [← h5]; exact getD_at10 h1, by rw [h3, h5]⟩
  unfold rowP
  rw [entE_at hx (h.lv i _ hx), h2]
  simp only [Int.toNat_natCast]
  rw [h5]
theorem rowPs_eq {k : Nat} {f : Fam} {ks : List ByteArray} (h : FamOk k f ks) {vs : List Int} (hl : vs.length ≤ ks.length) : rowPs f vs vs.length = rowL ks vs := by
  refine List.ext_getElem (by rw [rowPs_len, rowL_len hl]) fun i h1 h2 => ?_
  rw [rowPs_len] at h1
  have hi := List.getElem?_eq_getElem (l := ks) (i := i) (by omega)
  have h3 : (rowPs f vs vs.length)[i]'(by rw [rowPs_len]; exact h1) = rowP f vs i := by simp [rowPs]
  have h4 : (rowL ks vs)[i]'h2 = (ks[i]'(by omega), vs[i]'h1) := by simp [rowL]
  rw [h3, h4, (rowP_at h vs hi).1]
  simp [List.getD, List.getElem?_eq_getElem h1]
theorem numI_take {ks : List ByteArray} (hn : ks.Nodup) (vs : List Int) (hl : vs.length ≤ ks.length) (s : ByteArray) : numI (ks.take vs.length) s = rowFindI vs (numI ks s) := by
  by_cases h : s ∈ ks.take vs.length
  · obtain ⟨i, hi⟩ := List.mem_iff_getElem?.1 h
    have hlt : i < vs.length := by have := (List.getElem?_eq_some_iff.1 hi).1; simp at this; omega
    have hk : ks[i]? = some s := by rw [List.getElem?_take, if_pos hlt] at hi; exact hi
    rw [rowFindI_yes hn hk hlt, numI_at (hn.sublist (List.take_sublist _ _)) hi]
  · rw [rowFindI_no hn h, numI_none h]
theorem row_find {k : Nat} {f : Fam} {ks : List ByteArray} (h : FamOk k f ks) {vs : List Int} (hl : vs.length ≤ ks.length) (s : ByteArray) (c : C4) : (findW f s c (.row vs)).1 = numI ((pairsW f (.row vs)).map (·.1)) s := by
  show rowFindI vs (seekR f.K (numI f.N s) (txtH s) c).1 = _
  rw [h.seek s c]
  show _ = numI ((rowPs f vs vs.length).map (·.1)) s
  rw [rowPs_eq h hl, rowL_names hl, numI_take h.kn vs hl]
/-- What a row that is turned private comes to. -/
theorem privT_ok {k : Nat} {f : Fam} {ks : List ByteArray} (h : FamOk k f ks) {vs : List Int} (hl : vs.length ≤ ks.length) (hv : vs.length ≤ 1000) : ∀ n, n ≤ vs.length →
    OwnOk n f.N (privT f vs n) ∧ (liveL (privT f vs n).E).map (ownP f.N) = rowPs f vs n ∧ ∀ (i : Nat) x, (privT f vs n).E[i]? = some x → x.live = true := by
  intro n
  induction n with
  | zero => intro _; exact ⟨OwnOk.new _, by simp [privT, newT, liveL, rowPs], fun i x hx => by simp [privT, newT] at hx⟩
  | succ n ih =>
    intro hn
    obtain ⟨i1, i2, i3⟩ := ih (by omega)
    have hi := List.getElem?_eq_getElem (l := ks) (i := n) (by omega)
    obtain ⟨r1, x, j, r2, r3, r4, r5, r6⟩ := rowP_at h vs hi
    have hg : giveN f.N ks[n] = f.N := by
      unfold giveN
      have := numFrom_at (i := 0) h.nn r5
      unfold numOf
      rw [this]
    have hs : ∀ y, y ∈ liveL (privT f vs n).E → (ownP f.N y).1 ≠ ks[n] := by
      intro y hy he
      have hm : ownP f.N y ∈ rowPs f vs n := by rw [← i2]; exact List.mem_map.2 ⟨y, hy, rfl⟩
      unfold rowPs at hm
      obtain ⟨q, hq, hq2⟩ := List.mem_map.1 hm
      have hq' := List.mem_range.1 hq
      have hqk := List.getElem?_eq_getElem (l := ks) (i := q) (by omega)
      rw [(rowP_at h vs hqk).1] at hq2
      rw [← hq2] at he
      simp only at he
      have a1 := numI_at h.kn hqk
      have a2 := numI_at h.kn hi
      rw [he] at a1
      omega
    obtain ⟨a1, a2⟩ := i1.add (by omega) h.nn ks[n] (vs.getD n 0) hs
    have hp : privT f vs (n + 1) = ownAddT f ks[n] (vs.getD n 0) (privT f vs n) := by
      show ownAddT f (rowP f vs n).1 (rowP f vs n).2 (privT f vs n) = _
      rw [r1]
    rw [hg] at a1 a2
    rw [hp]
    refine ⟨a1, by rw [a2, i2, rowPs_succ, r1], fun i y hy => ?_⟩
    obtain ⟨b, hb⟩ := add_E i3 (txtH ks[n]) (giveI f.N ks[n] : Nat) (vs.getD n 0)
    unfold ownAddT at hy
    rw [hb] at hy
    rcases Nat.lt_or_ge i (privT f vs n).E.length with h9 | h9
    · rw [List.getElem?_append_left h9] at hy; exact i3 i y hy
    · rw [List.getElem?_append_right h9] at hy
      have : i - (privT f vs n).E.length = 0 := by
        have := (List.getElem?_eq_some_iff.1 hy).1; simp at this; omega
      rw [this] at hy; simp at hy; subst hy; rfl
theorem rowAdd_cases {k : Nat} {f : Fam} {ks : List ByteArray} (h : FamOk k f ks) {n : Nat} (hl : n ≤ ks.length) {s : ByteArray} (hs : s ∉ ks.take n) (c : C4) : rowAdd f n s c = none ∨ (ks[n]? = some s ∨ (n = ks.length ∧ s ∉ ks ∧ ¬ f.most ≤ (n : Int))) := by
  have hlv := (liveL_all h.lv).2
  unfold rowAdd
  rw [hlv, ← h.kl]
  by_cases h1 : n < ks.length
  · rw [if_pos h1]
    have hi := List.getElem?_eq_getElem (l := ks) (i := n) h1
    obtain ⟨_, x, j, r2, r3, r4, r5, r6⟩ := rowP_at h [] hi
    rw [entE_at r2 r3, r4]
    by_cases h2 : (j : Int) = numI f.N s
    · have h5 := numI_nat h2.symm
      rw [r5] at h5
      exact .inr (.inl (by rw [hi]; exact h5))
    · rw [if_neg h2]; exact .inl rfl
  · rw [if_neg h1]
    by_cases h2 : f.most ≤ (n : Int)
    · rw [if_pos h2]; exact .inl rfl
    · have : n = ks.length := by omega
      exact .inr (.inr ⟨this, fun hm => hs (by rw [this, List.take_length]; exact hm), h2⟩)
theorem giveN_len (N : List ByteArray) (s : ByteArray) : (giveN N s).length ≤ N.length + 1 := by unfold giveN; split <;> simp
theorem giveF_ext {k : Nat} {f : Fam} {ks : List ByteArray} (h : FamOk k f ks) (s : ByteArray) : FamOk k (giveF f s) ks ∧ Ext10 f ks (giveF f s) ks := by
  obtain ⟨g1, g2, g3, g4⟩ := giveN_at f.N s h.nn
  refine ⟨⟨h.t, h.lv, g1, fun i x hx => ?_, h.kl, h.kn⟩, ⟨fun _ _ h => h, g4, rfl, rfl⟩⟩
  obtain ⟨n, a1, a2, a3, a4⟩ := h.ky i x hx
  have a5 := g4 n _ (getD_at10 a1)
  have a6 : (giveN f.N s).getD n .empty = f.N.getD n .empty := getD_of10 a5
  exact ⟨n, (List.getElem?_eq_some_iff.1 a5).1, a2, by rw [a3]; exact congrArg txtH a6.symm, by rw [a4]; exact congrArg some a6.symm⟩
theorem FamOk.mono {k k' : Nat} {f : Fam} {ks : List ByteArray} (h : FamOk k f ks) (hk : k ≤ k') : FamOk k' f ks := ⟨h.t.mono hk, h.lv, h.nn, h.ky, h.kl, h.kn⟩
theorem SpOk.mono {k k' : Nat} {f : Fam} {ks : List ByteArray} {w : Way10} (h : SpOk k f ks w) (hk : k ≤ k') : SpOk k' f ks w := by
  cases w with
  | row vs => exact ⟨h.1, Nat.le_trans h.2 hk⟩
  | own T => exact OwnOk.mono h hk
/-- Others give names: nothing changes here. -/
theorem SpOk.ext {k : Nat} {f f' : Fam} {ks ks' : List ByteArray} {w : Way10} (h : SpOk k f ks w) (e : Ext10 f ks f' ks') : SpOk k f' ks' w := by
  cases w with
  | row vs => exact ⟨Nat.le_trans h.1 e.len, h.2⟩
  | own T => exact OwnOk.ext h e.n
theorem pairsW_ext {k k' k2 : Nat} {f f' : Fam} {ks ks' : List ByteArray} {w : Way10} (h : SpOk k f ks w) (hf : FamOk k' f ks) (hf' : FamOk k2 f' ks') (e : Ext10 f ks f' ks') : pairsW f' w = pairsW f w := by
  cases w with
  | row vs =>
    show rowPs f' vs vs.length = rowPs f vs vs.length
    have h1 : vs.length ≤ ks.length := h.1
    have h2 := e.len
    rw [rowPs_eq hf h1, rowPs_eq hf' (by omega)]
    unfold rowL
    congr 1
    refine List.ext_getElem (by simp; omega) fun i a b => ?_
    simp only [List.length_take] at a b
    rw [List.getElem_take, List.getElem_take]
    have := e.k i _ (List.getElem?_eq_getElem (by omega))
    rw [List.getElem?_eq_getElem (by omega)] at this
    simpa using this
  | own T => exact OwnOk.pairs_ext h e.n
theorem pairsW_len (f : Fam) (w : Way10) : (pairsW f w).length = w.len := by
  cases w with
  | row vs => exact rowPs_len _ _ _
  | own T => show (List.map _ _).length = liveN T.E; rw [List.length_map, liveL_len]
theorem no_name {P : List Pr10} {s : ByteArray} (h : numI (P.map (·.1)) s = -1) : ∀ p, p ∈ P → p.1 ≠ s := by
  intro p hp he
  have hm : s ∈ P.map (·.1) := List.mem_map.2 ⟨p, hp, he⟩
  unfold numI at h
  cases hq : numOf (P.map (·.1)) s with
  | none => exact numFrom_none hq hm
  | some i => rw [hq] at h; simp only at h; omega
/-- Set. -/
theorem setW_ok {k j : Nat} {f : Fam} {ks : List ByteArray} {w : Way10} (hk : k ≤ 900) (hj : j ≤ 900) (h : FamOk k f ks) (hw : SpOk j f ks w) (c : C4) (s : ByteArray) (v : Int) :
    ((setW f w c s v).1 = 6 ∧ setLw (pairsW f w) s v f.pairs = none ∧ (setW f w c s v).2.1 = f ∧ (setW f w c s v).2.2.1 = w) ∨
    ((setW f w c s v).1 = 0 ∧ setLw (pairsW f w) s v f.pairs = some (pairsW (setW f w c s v).2.1 (setW f w c s v).2.2.1) ∧ ∃ ks', FamOk (k + 1) (setW f w c s v).2.1 ks' ∧ Ext10 f ks (setW f w c s v).2.1 ks' ∧ SpOk (j + 1) (setW f w c s v).2.1 ks' (setW f w c s v).2.2.1 ∧ (setW f w c s v).2.1.N.length ≤ f.N.length + 1 ∧ ∀ x, x ∈ ks' → x ∈ ks ∨ x = s) := by
  have hlen := pairsW_len f w
  cases w with
  | row vs =>
    obtain ⟨hl, hv⟩ : vs.length ≤ ks.length ∧ vs.length ≤ j := hw
    have hfi := row_find h hl s c
    have hpe : pairsW f (.row vs) = rowL ks vs := rowPs_eq h hl
    by_cases h1 : 0 ≤ (findW f s c (.row vs)).1
    · right
      have hs : setW f (.row vs) c s v = (0, f, putW (findW f s c (.row vs)).1 v (.row vs), (findW f s c (.row vs)).2) := by unfold setW; rw [if_pos h1]
      rw [hs]
      have h2 := h1
      rw [hfi] at h2
      refine ⟨rfl, ?_, ks, h.mono (by omega), Ext10.refl _ _, ⟨by show (vs.set _ v).length ≤ _; simp; exact hl, by show (vs.set _ v).length ≤ _; simp; omega⟩, by simp, fun x hx => .inl hx⟩
      unfold setLw
      rw [if_pos h2, ← hfi]
      obtain ⟨i, hi⟩ : ∃ i : Nat, (findW f s c (.row vs)).1 = (i : Int) := ⟨(findW f s c (.row vs)).1.toNat, by omega⟩
      rw [hi]
      show some ((pairsW f (.row vs)).set i (s, v)) = some (rowPs f (vs.set i v) (vs.set i v).length)
      have hki : (ks.take vs.length)[i]? = some s := by
        rw [← rowL_names hl, ← hpe]
        exact numI_nat (by rw [← hfi, hi])
      rw [hpe, rowPs_eq h (by simp; exact hl)]
      unfold rowL
      simp only [List.length_set]
      congr 1
      refine List.ext_getElem? fun q => ?_
      rw [List.getElem?_set]
      by_cases hq : i = q
      · subst hq
        have hlt := (List.getElem?_eq_some_iff.1 hki).1
        simp only [List.length_take] at hlt
        rw [if_pos rfl, if_pos (by simp; omega)]
        exact (List.getElem?_zip_eq_some (z := (s, v)) |>.2 ⟨hki, by rw [List.getElem?_set, if_pos rfl, if_pos (by omega)]⟩).symm
      · rw [if_neg hq]
        simp only [List.zip, List.getElem?_zipWith, List.getElem?_set, if_neg hq]
    · have hn1 : numI ((pairsW f (.row vs)).map (·.1)) s = -1 := by
        have h9 : ¬ 0 ≤ numI ((pairsW f (.row vs)).map (·.1)) s := by rw [← hfi]; exact h1
        unfold numI at h9 ⊢
        split
        · rename_i i hq; rw [hq] at h9; simp only at h9; omega
        · rfl
      have hno : s ∉ ks.take vs.length := fun hm => by
        rw [← rowL_names hl, ← hpe] at hm
        obtain ⟨p, hp, he⟩ := List.mem_map.1 hm
        exact no_name hn1 p hp he
      have hsl : setLw (pairsW f (.row vs)) s v f.pairs = if f.pairs ≤ ((pairsW f (.row vs)).length : Int) then none else some (pairsW f (.row vs) ++ [(s, v)]) := by unfold setLw; rw [if_neg (by rw [hn1]; omega)]
      rw [hsl, hlen]
      by_cases h2 : f.pairs ≤ ((Way10.row vs).len : Int)
      · left
        have hs : setW f (.row vs) c s v = (6, f, .row vs, (findW f s c (.row vs)).2) := by unfold setW; rw [if_neg h1, if_pos h2]
        rw [hs, if_pos h2]
        exact ⟨rfl, rfl, rfl, rfl⟩
      · right
        rw [if_neg h2]
        rcases rowAdd_cases h hl hno (findW f s c (.row vs)).2 with h3 | h3
        · have hs : setW f (.row vs) c s v = (0, giveF f s, .own (ownAddT f s v (turnT f (findW f s c (.row vs)).2 (.row vs)).1), ownAddC (turnT f (findW f s c (.row vs)).2 (.row vs)).2 (turnT f (findW f s c (.row vs)).2 (.row vs)).1) := by
            unfold setW; rw [if_neg h1, if_neg h2]; simp only; rw [h3]
          rw [hs]
          obtain ⟨p1, p2, p3⟩ := privT_ok h hl (by omega) vs.length (Nat.le_refl _)
          obtain ⟨a1, a2⟩ := p1.add (by omega) h.nn s v (fun x hx he => by
            have hm : ownP f.N x ∈ pairsW f (.row vs) := by
              show _ ∈ rowPs f vs vs.length
              rw [← p2]; exact List.mem_map.2 ⟨x, hx, rfl⟩
            exact no_name hn1 _ hm he)
          obtain ⟨e1, e2⟩ := giveF_ext h s
          refine ⟨rfl, ?_, ks, e1.mono (by omega), e2, ?_, giveN_len _ _, fun x hx => .inl hx⟩
          · show some (rowPs f vs vs.length ++ [(s, v)]) = some ((liveL (ownAddT f s v (privT f vs vs.length)).E).map (ownP (giveN f.N s)))
            rw [a2, p2]
          · exact OwnOk.mono a1 (by omega)
        · obtain ⟨f5, c5, h4, h5, h6, h7, _, _, h8, h9⟩ := rowAdd_ok (by omega) h (findW f s c (.row vs)).2 h3
          have hs : setW f (.row vs) c s v = (0, f5, .row (vs ++ [v]), c5.val) := by
            unfold setW; rw [if_neg h1, if_neg h2]; simp only; rw [h4]
          rw [hs]
          have hks : (if vs.length < ks.length then ks else ks ++ [s])[vs.length]? = some s := by
            rcases h3 with h3 | ⟨h3, _, _⟩
            · rw [if_pos (List.getElem?_eq_some_iff.1 h3).1]; exact h3
            · rw [if_neg (by omega), h3]; simp
          have hex : ∀ (i : Nat) x, ks[i]? = some x → (if vs.length < ks.length then ks else ks ++ [s])[i]? = some x := fun i x hx => by
            split
            · exact hx
            · rw [List.getElem?_append_left (List.getElem?_eq_some_iff.1 hx).1]; exact hx
          have hnx : ∀ (i : Nat) x, f.N[i]? = some x → f5.N[i]? = some x := fun i x hx => by
            unfold rowAdd at h4
            split at h4
            · split at h4
              · simp at h4; rw [← h4.1]; exact hx
              · cases h4
            · split at h4
              · cases h4
              · simp at h4; rw [← h4.1]; exact (giveN_at f.N s h.nn).2.2.2 i x hx
          have hlt := (List.getElem?_eq_some_iff.1 hks).1
          refine ⟨rfl, ?_, _, h5, ⟨hex, hnx, h6, h7⟩, ⟨by simp; omega, by simp; omega⟩, h9, fun x hx => by
            split at hx
            · exact .inl hx
            · simpa using hx⟩
          show some (rowPs f vs vs.length ++ [(s, v)]) = some (rowPs f5 (vs ++ [v]) (vs ++ [v]).length)
          rw [rowPs_eq h hl, rowPs_eq h5 (by simp; omega)]
          unfold rowL
          congr 1
          generalize (if vs.length < ks.length then ks else ks ++ [s]) = ks' at *
          have ht : ks'.take (vs ++ [v]).length = ks.take vs.length ++ [s] := by
            rw [List.length_append, List.length_singleton, List.take_add_one, hks]
            congr 1
            refine List.ext_getElem? fun q => ?_
            rw [List.getElem?_take, List.getElem?_take]
            split
            · rename_i hq
              rw [List.getElem?_eq_getElem (l := ks) (i := q) (by omega)]
              exact hex q _ (List.getElem?_eq_getElem (by omega))
            · rfl
          rw [ht, List.zip_append (by simp; omega)]
          rfl
  | own T =>
    have hw' : OwnOk j f.N T := hw
    rcases hw'.find h.nn s c with ⟨g, y, g1, g2, g3, g4, g5⟩ | ⟨g1, g5⟩
    · right
      have h1 : 0 ≤ (findW f s c (.own T)).1 := by show 0 ≤ (seekR _ _ _ _).1; rw [g1]; omega
      have hs : setW f (.own T) c s v = (0, f, putW (findW f s c (.own T)).1 v (.own T), (findW f s c (.own T)).2) := by unfold setW; rw [if_pos h1]
      rw [hs]
      obtain ⟨a1, a2⟩ := hw'.put g2 g3 v
      refine ⟨rfl, ?_, ks, h.mono (by omega), Ext10.refl _ _, ?_, by simp, fun x hx => .inl hx⟩
      · unfold setLw
        have e5 : numI ((pairsW f (.own T)).map (·.1)) s = ((liveL (T.E.take g)).length : Nat) := g5
        rw [if_pos (by rw [e5]; omega), e5]
        show some (((liveL T.E).map (ownP f.N)).set (liveL (T.E.take g)).length (s, v)) = some ((liveL (T.put (seekR T (numI f.N s) (txtH s) c).1 v).E).map (ownP f.N))
        rw [g1, a2, g4]
      · show OwnOk (j + 1) f.N (T.put (seekR T (numI f.N s) (txtH s) c).1 v)
        rw [g1]; exact a1.mono (by omega)
    · have h1 : ¬ 0 ≤ (findW f s c (.own T)).1 := by show ¬ 0 ≤ (seekR _ _ _ _).1; rw [g1]; omega
      have e5 : numI ((pairsW f (.own T)).map (·.1)) s = -1 := g5
      have hsl : setLw (pairsW f (.own T)) s v f.pairs = if f.pairs ≤ ((pairsW f (.own T)).length : Int) then none else some (pairsW f (.own T) ++ [(s, v)]) := by unfold setLw; rw [if_neg (by rw [e5]; omega)]
      rw [hsl, hlen]
      by_cases h2 : f.pairs ≤ ((Way10.own T).len : Int)
      · left
        have hs : setW f (.own T) c s v = (6, f, .own T, (findW f s c (.own T)).2) := by unfold setW; rw [if_neg h1, if_pos h2]
        rw [hs, if_pos h2]
        exact ⟨rfl, rfl, rfl, rfl⟩
      · right
        have hs : setW f (.own T) c s v = (0, giveF f s, .own (ownAddT f s v T), ownAddC (findW f s c (.own T)).2 T) := by unfold setW; rw [if_neg h1, if_neg h2]
        rw [hs, if_neg h2]
        obtain ⟨a1, a2⟩ := hw'.add (by omega) h.nn s v (fun x hx => no_name e5 _ (List.mem_map.2 ⟨x, hx, rfl⟩))
        obtain ⟨e1, e2⟩ := giveF_ext h s
        refine ⟨rfl, ?_, ks, e1.mono (by omega), e2, a1, giveN_len _ _, fun x hx => .inl hx⟩
        show some ((liveL T.E).map (ownP f.N) ++ [(s, v)]) = some ((liveL (ownAddT f s v T).E).map (ownP (giveN f.N s)))
        rw [a2]
/-- Del. -/
theorem delW_ok {k j : Nat} {f : Fam} {ks : List ByteArray} {w : Way10} (hj : j ≤ 900) (h : FamOk k f ks) (hw : SpOk j f ks w) (c : C4) (s : ByteArray) :
    ((delW f w c s).1 = 7 ∧ delLw (pairsW f w) s = none ∧ (delW f w c s).2.1 = w) ∨
    ((delW f w c s).1 = 0 ∧ delLw (pairsW f w) s = some (pairsW f (delW f w c s).2.1) ∧ SpOk (j + 1) f ks (delW f w c s).2.1 ∧ ∃ (g : Nat) (y : Ent), (findW f s c w).1 = (g : Int) ∧ (turnT f (findW f s c w).2 w).1.E[g]? = some y ∧ y.live = true) := by
  cases w with
  | row vs =>
    obtain ⟨hl, hv⟩ : vs.length ≤ ks.length ∧ vs.length ≤ j := hw
    have hfi := row_find h hl s c
    by_cases h1 : 0 ≤ (findW f s c (.row vs)).1
    · right
      have hs : delW f (.row vs) c s = (0, .own ((turnT f (findW f s c (.row vs)).2 (.row vs)).1.kill (findW f s c (.row vs)).1), (turnT f (findW f s c (.row vs)).2 (.row vs)).2) := by unfold delW; rw [if_pos h1]
      rw [hs]
      obtain ⟨i, hi⟩ : ∃ i : Nat, (findW f s c (.row vs)).1 = (i : Int) := ⟨(findW f s c (.row vs)).1.toNat, by omega⟩
      obtain ⟨p1, p2, p3⟩ := privT_ok h hl (by omega) vs.length (Nat.le_refl _)
      have hlive := (liveL_all p3).1
      have hE : (privT f vs vs.length).E.length = vs.length := by
        have := congrArg List.length p2
        rw [List.length_map, hlive, rowPs_len] at this; exact this
      have hilt : i < vs.length := by
        have := numI_nat (N := (pairsW f (.row vs)).map (·.1)) (s := s) (k := i) (by rw [← hfi, hi])
        have := (List.getElem?_eq_some_iff.1 this).1
        rw [List.length_map, pairsW_len] at this
        exact this
      have hx := List.getElem?_eq_getElem (l := (privT f vs vs.length).E) (i := i) (by omega)
      obtain ⟨a1, a2⟩ := p1.kill hx (p3 _ _ hx)
      have htk : (liveL ((privT f vs vs.length).E.take i)).length = i := by
        have : liveL ((privT f vs vs.length).E.take i) = (privT f vs vs.length).E.take i := List.filter_eq_self.2 fun z hz => by
          obtain ⟨q, hq⟩ := List.mem_iff_getElem?.1 (List.mem_of_mem_take hz)
          exact p3 q z hq
        rw [this, List.length_take]; omega
      refine ⟨rfl, ?_, ?_, i, _, hi, hx, p3 _ _ hx⟩
      · unfold delLw
        rw [← hfi, if_pos h1, hi]
        show some ((rowPs f vs vs.length).eraseIdx i) = some ((liveL ((privT f vs vs.length).kill i).E).map (ownP f.N))
        rw [a2, p2, htk]
      · show OwnOk (j + 1) f.N ((privT f vs vs.length).kill (findW f s c (.row vs)).1)
        rw [hi]; exact a1.mono (by omega)
    · left
      have hs : delW f (.row vs) c s = (7, .row vs, (findW f s c (.row vs)).2) := by unfold delW; rw [if_neg h1]
      rw [hs]
      refine ⟨rfl, ?_, rfl⟩
      unfold delLw
      rw [← hfi, if_neg h1]
  | own T =>
    have hw' : OwnOk j f.N T := hw
    rcases hw'.find h.nn s c with ⟨g, y, g1, g2, g3, g4, g5⟩ | ⟨g1, g5⟩
    · right
      have h1 : 0 ≤ (findW f s c (.own T)).1 := by show 0 ≤ (seekR _ _ _ _).1; rw [g1]; omega
      have hs : delW f (.own T) c s = (0, .own (T.kill (findW f s c (.own T)).1), (findW f s c (.own T)).2) := by unfold delW; rw [if_pos h1]; rfl
      rw [hs]
      obtain ⟨a1, a2⟩ := hw'.kill g2 g3
      have e5 : numI ((pairsW f (.own T)).map (·.1)) s = ((liveL (T.E.take g)).length : Nat) := g5
      refine ⟨rfl, ?_, ?_, g, y, g1, g2, g3⟩
      · unfold delLw
        rw [if_pos (by rw [e5]; omega), e5]
        show some (((liveL T.E).map (ownP f.N)).eraseIdx (liveL (T.E.take g)).length) = some ((liveL (T.kill (seekR T (numI f.N s) (txtH s) c).1).E).map (ownP f.N))
        rw [g1, a2]
      · show OwnOk (j + 1) f.N (T.kill (seekR T (numI f.N s) (txtH s) c).1)
        rw [g1]; exact a1
    · left
      have h1 : ¬ 0 ≤ (findW f s c (.own T)).1 := by show ¬ 0 ≤ (seekR _ _ _ _).1; rw [g1]; omega
      have hs : delW f (.own T) c s = (7, .own T, (findW f s c (.own T)).2) := by unfold delW; rw [if_neg h1]
      rw [hs]
      have e5 : numI ((pairsW f (.own T)).map (·.1)) s = -1 := g5
      refine ⟨rfl, ?_, rfl⟩
      unfold delLw
      rw [if_neg (by rw [e5]; omega)]
/-- Get. -/
theorem getW_ok {k j : Nat} {f : Fam} {ks : List ByteArray} {w : Way10} (h : FamOk k f ks) (hw : SpOk j f ks w) (c : C4) (s : ByteArray) :
    ((findW f s c w).1 < 0 ∧ getLw (pairsW f w) s = none) ∨ (0 ≤ (findW f s c w).1 ∧ getLw (pairsW f w) s = some (valW (findW f s c w).1 w)) := by
  cases w with
  | row vs =>
    obtain ⟨hl, hv⟩ : vs.length ≤ ks.length ∧ vs.length ≤ j := hw
    have hfi := row_find h hl s c
    unfold getLw
    rw [← hfi]
    by_cases h1 : 0 ≤ (findW f s c (.row vs)).1
    · right
      rw [if_pos h1]
      refine ⟨h1, ?_⟩
      obtain ⟨i, hi⟩ : ∃ i : Nat, (findW f s c (.row vs)).1 = (i : Int) := ⟨(findW f s c (.row vs)).1.toNat, by omega⟩
      have hilt : i < vs.length := by
        have := numI_nat (N := (pairsW f (.row vs)).map (·.1)) (s := s) (k := i) (by rw [← hfi, hi])
        have := (List.getElem?_eq_some_iff.1 this).1
        rw [List.length_map, pairsW_len] at this
        exact this
      rw [hi]
      show some ((rowPs f vs vs.length).getD i (.empty, 0)).2 = some (vs.getD i 0)
      unfold rowPs
      simp only [List.getD, List.getElem?_map, List.getElem?_range hilt, Option.map_some, Option.getD_some]
      simp [rowP]
    · rw [if_neg h1]; exact .inl ⟨by omega, rfl⟩
  | own T =>
    have hw' : OwnOk j f.N T := hw
    rcases hw'.find h.nn s c with ⟨g, y, g1, g2, g3, g4, g5⟩ | ⟨g1, g5⟩
    · right
      have e5 : numI ((pairsW f (.own T)).map (·.1)) s = ((liveL (T.E.take g)).length : Nat) := g5
      have e1 : (findW f s c (.own T)).1 = (g : Int) := g1
      unfold getLw
      rw [if_pos (by rw [e5]; omega), e5, e1]
      refine ⟨by omega, ?_⟩
      show some (((liveL T.E).map (ownP f.N)).getD (liveL (T.E.take g)).length (.empty, 0)).2 = some (atE (entE T.E g)).val
      rw [entE_at g2 g3, live_split g2 g3]
      simp [List.getD, ownP]
    · left
      have e5 : numI ((pairsW f (.own T)).map (·.1)) s = -1 := g5
      have e1 : (findW f s c (.own T)).1 = -1 := g1
      unfold getLw
      rw [if_neg (by rw [e5]; omega), e1]
      exact ⟨by omega, rfl⟩
end Go.Proofs.YtajmfenfajbakaaGreat
