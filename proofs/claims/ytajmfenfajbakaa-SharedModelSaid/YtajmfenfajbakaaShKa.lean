/- Rows of pairs, more of them; the laws' own set and del (chapter 10). -/
import Derived.Test.YtajmfenfajbakaaShI
import Derived.Test.YtajmfenfajbakaaShW
namespace Go.Proofs.Ytajmfenfajbakaa
open Go.RowKit
set_option linter.unusedVariables false
set_option linter.unusedSimpArgs false

theorem pr10_one (x : Pr10) : ∀ v ∈ Pr10.cs x, v.oneCell' = true := by intro v hv; simp [Pr10.cs] at hv; rcases hv with rfl | rfl <;> rfl
theorem flatP_app (E F : List Pr10) : flatP (E ++ F) = flatP E ++ flatP F := by simp [flatP]
theorem flatP_take (E : List Pr10) : ∀ n, (flatP E).take (n * 2) = flatP (E.take n) := by
  induction E with
  | nil => intro n; simp [flatP]
  | cons x E ih =>
    intro n
    cases n with
    | zero => simp [flatP]
    | succ n =>
      rw [List.take_succ_cons, flatP_cons, flatP_cons, ← ih n, List.take_append, List.take_of_length_le (by simp [Pr10.cs] <;> omega)]
      congr 2
      simp [Pr10.cs] <;> omega
theorem flatP_drop (E : List Pr10) (n : Nat) : (flatP E).drop (n * 2) = flatP (E.drop n) := by
  have h : flatP E = flatP (E.take n) ++ flatP (E.drop n) := by rw [← flatP_app, List.take_append_drop]
  by_cases hn : n ≤ E.length
  · rw [h, List.drop_append_of_le_length (by rw [flatP_len]; simp; omega), List.drop_eq_nil_of_le (by rw [flatP_len]; simp; omega)]; simp
  · rw [List.drop_eq_nil_of_le (by rw [flatP_len]; omega), List.drop_eq_nil_of_le (by omega)]; rfl

theorem flatP_set1 (P : List Pr10) : ∀ (n : Nat) (x : Pr10) (v : Int), P[n]? = some x → (flatP P).set (n * 2 + 1) (.int .i64 v) = flatP (P.set n (x.1, v)) := by
  induction P with
  | nil => intro n x v h; simp at h
  | cons y P ih =>
    intro n x v h
    cases n with
    | zero => simp at h; subst h; simp [flatP_cons, Pr10.cs]
    | succ n =>
      rw [flatP_cons, List.set_cons_succ, flatP_cons, ← ih n x v (by simpa using h), List.set_append_right _ _ (by simp [Pr10.cs]; omega)]
      congr 2
      simp [Pr10.cs]; omega
section
variable {lo : Nat} {a : Option Addr} {c g : Nat} {P : List Pr10} {w w' : World}
theorem PairRow.cap_le (h : PairRow lo a c P w) : P.length ≤ c ∧ c ≤ maxLen := by
  rcases h.2 with ⟨h1, h2⟩ | ⟨g, cap, cur, a1, a2, a3, a4, a5, _⟩
  · simp at h1; unfold maxLen; omega
  · simp at a1
    obtain ⟨_, rfl⟩ := a1
    exact ⟨a4, a5⟩
theorem PairRow.lift {lo' : Nat} (h : PairRow lo a c P w) (hl : ∀ x, x ∈ blk a → lo' ≤ x) : PairRow lo' a c P w := by
  obtain ⟨h1, h2⟩ := h
  refine ⟨h1, ?_⟩
  rcases h2 with h2 | ⟨g, cap, cur, a1, a2, a3⟩
  · exact .inl h2
  · refine .inr ⟨g, cap, cur, a1, hl g ?_, a3⟩
    simp at a1; simp [a1.1, blk]
theorem PairRow.put (h : PairRow lo (some ⟨g, 0, none⟩) c P w) {n : Nat} {x : Pr10} (hx : P[n]? = some x) (v : Int) : PairRow lo (some ⟨g, 0, none⟩) c (P.set n (x.1, v)) (w.setCell ⟨g, n * 2 + 1, none⟩ (.int .i64 v)) := by
  have h1 := (World.ownsRow.stored h (n * 2 + 1) (.int .i64 v)).1
  rw [flatP_set1 P n x v hx] at h1
  unfold PairRow; rw [List.length_set]; exact h1
end
theorem pair_append_src (lo c cc : Nat) (a : Option Addr) (E F : List Pr10) (ad : Option Addr) (W : World) (h : PairRow lo a c E W) (hs : F = [] ∨ ∃ p, ad = some p ∧ ∀ (j : Nat) u, (flatP F)[j]? = some u → W.cell? (p.add j) = some u) (hl : E.length + F.length ≤ 1000000) (hlo : lo ≤ W.heap.size) :
    ∃ a' c' w', (Builtin.append_ #[49, 49] 49 #[.slice a E.length c, .slice ad F.length cc]).run Try.prog W = .ok (.slice a' (E.length + F.length) c') w' ∧ PairRow lo a' c' (E ++ F) w' ∧ Keeps (blk a) W w' ∧ (∀ x, x ∈ blk a' → x ∈ blk a ∨ x = W.heap.size) := by
  obtain ⟨j0, hi, hz0, hz1, hz2⟩ := info_parts infoPair
  by_cases hF : F = []
  · subst hF
    have hc := h.cap_le.1
    refine ⟨a, c, W, ?_, by simpa using h, Keeps.refl _ _, fun x hx => .inl hx⟩
    simp only [List.length_nil, Nat.add_zero]
    have hl0 : ∀ p : Addr, (loadCells p 0).run Try.prog W = .ok #[] W := fun p => by
      have := run_loadCells_list (P := Try.prog) W p [] (fun j v hv => by simp at hv)
      simpa using this
    cases ad with
    | none => cases a with
      | none => simp [Builtin.append_, run_underlying Try.underlying49, sizeOf, typeInfo, hi, Builtin.lenOf, Builtin.firstCells, hc, storeCells]
      | some q => simp [Builtin.append_, run_underlying Try.underlying49, sizeOf, typeInfo, hi, Builtin.lenOf, Builtin.firstCells, hc, storeCells]
    | some p => cases a with
      | none => simp [Builtin.append_, run_underlying Try.underlying49, sizeOf, typeInfo, hi, Builtin.lenOf, Builtin.firstCells, hc, hl0, storeCells]
      | some q => simp [Builtin.append_, run_underlying Try.underlying49, sizeOf, typeInfo, hi, Builtin.lenOf, Builtin.firstCells, hc, hl0, storeCells]
  · obtain ⟨p, rfl, hp⟩ := hs.resolve_left hF
    have hFl : 0 < F.length := by cases F with | nil => exact absurd rfl hF | cons x F => simp
    obtain ⟨g, cap, w', r1, r2, r3, r4, r5⟩ := run_append_lies (P := Try.prog) W 49 49 lo 56 j0 (.agg #[.string .empty, .int .i64 0]) 2 24 Try.underlying49 hi hz0 hz1 hz2 rfl (by decide) _ E.length (flatP E) h p F.length cc (flatP F) (flatP_len F) hp
      (by intro v hv; simp only [flatP, List.mem_flatMap] at hv; obtain ⟨y, _, hy⟩ := hv; exact pr10_one y v hy) hFl (by unfold maxLen; omega) (by omega) hlo _ rfl
    refine ⟨some ⟨g, 0, none⟩, cap, w', r1, ?_, ?_, fun x hx => ?_⟩
    · unfold PairRow
      rw [flatP_app, List.length_append]
      exact r2
    · exact ⟨r3.os, r3.tape, r3.output, r3.size, fun k hk hn => r3.block k hk (fun e => hn (blk_own a _ _ k e.symm))⟩
    · simp [blk] at hx
      subst hx
      rcases r4 with r4 | r4
      · exact .inl (blk_own a _ _ _ r4)
      · exact .inr r4
theorem PairRow.part {lo g c : Nat} {E : List Pr10} {W : World} (h : PairRow lo (some ⟨g, 0, none⟩) c E W) (o : Nat) : ∀ (j : Nat) u, (flatP (E.drop o))[j]? = some u → W.cell? ((⟨g, o * 2, none⟩ : Addr).add j) = some u := by
  intro j u hj
  rw [show (⟨g, o * 2, none⟩ : Addr).add j = ⟨g, o * 2 + j, none⟩ by unfold Addr.add; split <;> simp_all]
  rw [← flatP_drop, List.getElem?_drop] at hj
  have hlt := (List.getElem?_eq_some_iff.1 hj).1
  rw [flatP_len] at hlt
  rw [World.ownsRow.cellAt h (o * 2 + j) hlt]
  exact hj
theorem PairRow.front {lo g c : Nat} {E : List Pr10} {W : World} (h : PairRow lo (some ⟨g, 0, none⟩) c E W) (n : Nat) : ∀ (j : Nat) u, (flatP (E.take n))[j]? = some u → W.cell? ((⟨g, 0, none⟩ : Addr).add j) = some u := by
  intro j u hj
  rw [show (⟨g, 0, none⟩ : Addr).add j = ⟨g, j, none⟩ by unfold Addr.add; split <;> simp_all]
  rw [← flatP_take] at hj
  have hj2 : (flatP E)[j]? = some u := by
    rw [List.getElem?_take] at hj
    split at hj
    · exact hj
    · cases hj
  have hlt := (List.getElem?_eq_some_iff.1 hj2).1
  rw [flatP_len] at hlt
  rw [World.ownsRow.cellAt h j hlt]
  exact hj2
theorem numFrom_first {s : ByteArray} : ∀ {l : List ByteArray} {i k : Nat}, l[k]? = some s → (∀ j, j < k → l[j]? ≠ some s) → numFrom i l s = some (i + k) := by
  intro l
  induction l with
  | nil => intro i k h; simp at h
  | cons x l ih =>
    intro i k h hn
    unfold numFrom
    cases k with
    | zero => simp at h; subst h; simp
    | succ k =>
      have hx : ¬ s = x := fun e => hn 0 (by omega) (by simp [e])
      have h9 := ih (i := i + 1) (k := k) (by simpa using h) (fun j hj => by have := hn (j + 1) (by omega); simpa using this)
      rw [if_neg hx, h9]
      congr 1; omega
theorem numI_first {s : ByteArray} {l : List ByteArray} {k : Nat} (h : l[k]? = some s) (hn : ∀ j, j < k → l[j]? ≠ some s) : numI l s = (k : Int) := by
  unfold numI numOf
  rw [numFrom_first h hn]; simp
def LSetP (lo : Nat) (a : Option Addr) (c : Nat) (P : List Pr10) (s : ByteArray) (v most : Int) (w : World) (r : Ending) (w' : World) : Prop :=
  match setLw P s v most with
  | some P' => ∃ a' c', r = .returned (.tuple #[.slice a' P'.length c', .bool true]) ∧ PairRow lo a' c' P' w' ∧ Keeps (blk a) w w' ∧ ∀ z, z ∈ blk a' → z ∈ blk a ∨ w.heap.size ≤ z
  | none => r = .returned (.tuple #[.slice a P.length c, .bool false]) ∧ Keeps [] w w'
set_option maxRecDepth 100000 in
set_option maxHeartbeats 4000000 in
theorem lset_any (lo : Nat) (a : Option Addr) (c : Nat) (P : List Pr10) (s : ByteArray) (v most : Int) (w : World) (H : PairRow lo a c P w) (hl : P.length ≤ 100000) (hlo : lo ≤ w.heap.size) :
    Calls Try.prog 22 #[.slice a P.length c, .string s, .int .i64 v, .int .i64 most] w (LSetP lo a c P s v most w) := by
  have HH := Lib.hid H
  obtain ⟨n, hn⟩ := ex_hid P.length
  rw [← hn.out] at hl ⊢
  have CAP := H.cap_le
  clear H
  go_enter Try.func22, Try.ntmps22
  go_wp2_with fail
  go_loopw [10] (fun z10 wr => ∃ i : Nat, i ≤ n ∧ z10 = .int .i64 i ∧ w = wr ∧ Hid (∀ j, j < i → (P.map (·.1))[j]? ≠ some s)) (fun z10 _ => n - (intOf z10).toNat)
  case atStart => exact ⟨0, Nat.zero_le _, rfl, rfl, Lib.hid (fun j hj => absurd hj (by omega))⟩
  case round =>
    obtain ⟨i, hi, rfl, rfl, I⟩ := hrel
    by_cases hlt : i < n
    · have i1 : (i : Int) < (n : Int) := by omega
      have i0 : (0 : Int) ≤ (i : Int) := by omega
      obtain ⟨g, rfl⟩ := PairRow.shape HH.out (by rw [← hn.out]; omega)
      obtain ⟨x, hx⟩ : ∃ x, P[i]? = some x := ⟨_, List.getElem?_eq_getElem (by rw [← hn.out]; exact hlt)⟩
      have p0 : w.cell? ⟨g, i * 2, none⟩ = some (.string x.1) := HH.out.cell hx 0 (by omega)
      have p1 : w.cell? ⟨g, i * 2 + 1, none⟩ = some (.int .i64 x.2) := HH.out.cell hx 1 (by omega)
      have pf := HH.out.free (i * 2 + 1)
      have HX := Lib.hid hx
      have hnm : (P.map (·.1))[i]? = some x.1 := by rw [List.getElem?_map, hx]; rfl
      have HNM := Lib.hid hnm
      obtain ⟨t, ht⟩ := ex_hid x.1
      rw [← ht.out] at p0
      clear hx hnm
      by_cases he : t = s
      · have hb : (t.toList == s.toList) = true := by rw [bytes_list10]; simpa using he
        have HE := Lib.hid he
        clear he
        go_wp2_with fail
        go_ret2
        have h9 : numI (P.map (·.1)) s = (i : Int) := numI_first (by rw [HNM.out, ← ht.out, HE.out]) I.out
        unfold LSetP setLw
        rw [h9, if_pos (by omega)]
        simp only [Int.toNat_natCast]
        have kg : Keeps (blk (some (⟨g, 0, none⟩ : Addr))) w (w.setCell ⟨g, i * 2 + 1, none⟩ (.int .i64 v)) := (Keeps.refl _ _).setCell (.inr (by simp [blk])) _
        have h8 := HH.out.put HX.out v
        rw [← ht.out, HE.out] at h8
        exact ⟨some ⟨g, 0, none⟩, c, by rw [List.length_set, ← hn.out]; rfl, h8, kg, fun z hz => .inl hz⟩
      · have hb : (t.toList == s.toList) = false := by rw [bytes_list10]; simpa using he
        have HE := Lib.hid he
        clear he
        go_wp2_with fail
        go_roundw
        case rel =>
          refine ⟨i + 1, by omega, by go_num, trivial, Lib.hid (fun j hj => ?_)⟩
          rcases Nat.lt_or_ge j i with h | h
          · exact I.out j h
          · obtain rfl : j = i := by omega
            rw [HNM.out, ← ht.out]
            simpa using HE.out
        case measure => simp [intOf]; omega
    · obtain rfl : i = n := by omega
      have hge : ¬ (i : Int) < (i : Int) := by omega
      have NO := Lib.hid (show numI (P.map (·.1)) s = -1 from numI_none (fun hm => by
        obtain ⟨j, hj⟩ := List.mem_iff_getElem?.1 hm
        have hjl := (List.getElem?_eq_some_iff.1 hj).1
        rw [List.length_map, ← hn.out] at hjl
        exact I.out j hjl hj))
      by_cases hm : most ≤ (i : Int)
      · have bm : decide (most ≤ (i : Int)) = true := by simpa using hm
        go_wp2_with fail
        go_ret2
        unfold LSetP setLw
        rw [NO.out, if_neg (by omega), if_pos (by rw [← hn.out]; exact hm)]
        exact ⟨by rw [← hn.out]; rfl, Keeps.refl _ _⟩
      · have bm : decide (most ≤ (i : Int)) = false := by simpa using hm
        have HM := Lib.hid hm
        obtain ⟨g, cap, W6, run6, v6, k6, g6, l6⟩ := pair_append lo a c P (s, v) (w.alloc (.cells #[.string s, .int .i64 v] 56)) w.heap.size (PairRow.keeps HH.out ((Keeps.refl [] w).alloc _) (by simp)) (has_new _ _) (by rw [← hn.out]; omega) (by simp; omega)
        rw [← hn.out] at run6
        have RUN := Lib.hid run6
        have k56 : Keeps (blk a) w W6 := ((Keeps.refl (blk a) w).alloc _).trans k6
        have FIN := Lib.hid (And.intro v6 (And.intro g6 (And.intro l6 k56)))
        clear run6 v6 k6 g6 l6 k56 hm
        go_wp2_with (at_builtin; refine wpList_append_run rfl _ _ 49 rfl _ _ rfl rfl _ _ RUN.out ?_)
        go_ret2
        unfold LSetP setLw
        rw [NO.out, if_neg (by omega), if_neg (by rw [← hn.out]; have := HM.out; omega)]
        refine ⟨some ⟨g, 0, none⟩, cap, by rw [List.length_append, ← hn.out]; rfl, FIN.out.1, FIN.out.2.2.2, fun z hz => ?_⟩
        simp [blk] at hz
        subst hz
        rcases FIN.out.2.1 with h | h
        · exact .inl h
        · right; rw [h]; simp
end Go.Proofs.Ytajmfenfajbakaa
