/- What becomes of a shared namespace that is given names in the common order (chapter 10). -/
import Derived.Test.YtajmfenfajbakaaGreatShO
namespace Go.Proofs.YtajmfenfajbakaaGreat
open Go.RowKit
set_option linter.unusedVariables false
set_option linter.unusedSimpArgs false

/-- Alike but for the visits. -/
def Alk (c c' : C4) : Prop := c'.a = c.a ∧ c'.c = c.c ∧ c'.d = c.d
theorem visN_alk (c : C4) : ∀ n, Alk c (c.visN n) := by
  intro n
  induction n with
  | zero => exact ⟨rfl, rfl, rfl⟩
  | succ n ih => exact ih
theorem seekG_c (T : Tab) (n : Int) : ∀ (k : Nat) (s : Sk) (c : C4), Alk c (seekG T n k s c).2 := by
  intro k
  induction k with
  | zero => intro s c; exact ⟨rfl, rfl, rfl⟩
  | succ k ih =>
    intro s c
    unfold seekG
    have h1 := visN_alk c (T.walks s)
    split
    · exact h1
    · split
      · exact h1
      · have h2 := ih (T.next s) (c.visN (T.walks s))
        exact ⟨h2.1.trans h1.1, h2.2.1.trans h1.2.1, h2.2.2.trans h1.2.2⟩
theorem seekR_c (T : Tab) (n h : Int) (c : C4) : Alk c (seekR T n h c).2 := seekG_c T n _ _ c
theorem rowFindI_no {ks : List ByteArray} {vs : List Int} {s : ByteArray} (hn : ks.Nodup) (h : s ∉ ks.take vs.length) : rowFindI vs (numI ks s) = -1 := by
  by_cases hs : s ∈ ks
  · obtain ⟨i, hi⟩ := List.mem_iff_getElem?.1 hs
    rw [numI_at hn hi]
    have : ¬ i < vs.length := fun hlt => h (by
      apply List.mem_of_getElem? (i := i)
      rw [List.getElem?_take_of_lt hlt]; exact hi)
    unfold rowFindI; rw [if_neg (by omega)]
  · rw [numI_none hs]; unfold rowFindI
    split <;> rfl
theorem rowFindI_yes {ks : List ByteArray} {vs : List Int} {s : ByteArray} {i : Nat} (hn : ks.Nodup) (hi : ks[i]? = some s) (hlt : i < vs.length) : rowFindI vs (numI ks s) = (i : Int) := by
  rw [numI_at hn hi]; unfold rowFindI; rw [if_pos (by omega)]
/-- What is laid behind: the common order goes on, or it is made longer. -/
theorem rowAdd_ok {k : Nat} {f : Fam} {ks : List ByteArray} (hk : k ≤ 1000) (h : FamOk k f ks) {n : Nat} {s : ByteArray} (c : C4) (hs : ks[n]? = some s ∨ (n = ks.length ∧ s ∉ ks ∧ ¬ f.most ≤ (n : Int))) :
    ∃ f5 c5, rowAdd f n s c = some (f5, c5) ∧ FamOk (k + 1) f5 (if n < ks.length then ks else ks ++ [s]) ∧ f5.most = f.most ∧ f5.pairs = f.pairs ∧ c5.c = c.c ∧ c5.d = c.d ∧ (n < ks.length → c5.a = c.a ∧ f5 = f) ∧ f5.N.length ≤ f.N.length + 1 := by
  have hl := (liveL_all h.lv).2
  rcases hs with hs | ⟨rfl, hs, hm⟩
  · have hlt := (List.getElem?_eq_some_iff.1 hs).1
    have hx := List.getElem?_eq_getElem (l := f.K.E) (i := n) (by rw [← h.kl]; exact hlt)
    obtain ⟨j, h1, h2, h3, h4⟩ := h.ky n _ hx
    rw [hs] at h4
    have h5 : f.N.getD j .empty = s := by simpa using h4.symm
    have h6 : numI f.N s = (j : Int) := numI_at h.nn (by rw [← h5]; exact getD_at10 h1)
    refine ⟨f, c, ?_, ?_, rfl, rfl, rfl, rfl, fun _ => ⟨rfl, rfl⟩, by omega⟩
    · unfold rowAdd
      rw [hl, ← h.kl, if_pos hlt, entE_at hx (h.lv n _ hx), h2, h6, if_pos rfl]
    · rw [if_pos hlt]
      exact ⟨h.t.mono (by omega), h.lv, h.nn, h.ky, h.kl, h.kn⟩
  · refine ⟨{ f with N := giveN f.N s, K := f.K.add (txtH s) (giveI f.N s : Nat) 0 }, if f.K.E.length = f.K.room then c.tab else c, ?_, ?_, rfl, rfl, ?_, ?_, fun h => absurd h (by omega), ?_⟩
    · unfold rowAdd
      rw [hl, ← h.kl, if_neg (by omega), if_neg hm]
    · rw [if_neg (by omega)]
      exact h.add hk s hs
    · split <;> rfl
    · split <;> rfl
    · show (giveN f.N s).length ≤ _
      unfold giveN; split <;> simp
/-- Behind a Set that was answered with OK. -/
def GaveP (fb t mb lo : Nat) (a : Option Addr) (ST : List Nat) (m : Option Nat) (sb rb : Nat) (ar : Option Addr) (C : Fam → C4 → Prop) (vs' : List Int) (ver' : Nat) (w : World) (r : Ending) (w' : World) : Prop :=
  r = .returned (.int .i64 0) ∧ ∃ f' c' a' ST' ar', C f' c' ∧ SRow fb t mb lo a' ST' m f' sb rb ar' vs' ver' c' w' ∧ Keeps (spFeet fb mb a ST m sb rb ar) w w' ∧ Grew (famS fb mb a ST) w (famS fb mb a' ST') ∧ Grew (rb :: blk ar) w (rb :: blk ar')
theorem SetRowP.gave {fb t mb lo : Nat} {a : Option Addr} {ST : List Nat} {m : Option Nat} {f : Fam} {sb rb : Nat} {ar : Option Addr} {vs : List Int} {ver : Nat} {c : C4} {s : ByteArray} {v : Int} {w w' : World} {r : Ending} {f5 : Fam} {vs5 : List Int} {c5 : C4} {C : Fam → C4 → Prop} (h : SetRowP fb t mb lo a ST m f sb rb ar vs ver c s v w r w') (hr : rowSet f vs c s v = some (0, f5, vs5, c5)) (hC : C f5 c5) : GaveP fb t mb lo a ST m sb rb ar C vs5 (ver + 1) w r w' := by
  obtain ⟨e, f', vs', c', a', ST', ar', he, rfl, hS, hK, g1, g2⟩ := h
  rw [hr] at he
  simp only [Option.some.injEq, Prod.mk.injEq] at he
  obtain ⟨rfl, rfl, rfl, rfl⟩ := he
  exact ⟨rfl, f5, c5, a', ST', ar', hC, by simpa using hS, hK, g1, g2⟩
/-- Set of a name that the namespace has. -/
theorem sset_has (k : Nat) (hk : k ≤ 1000) (fb t mb lo : Nat) (a : Option Addr) (ST : List Nat) (m : Option Nat) (f : Fam) (ks : List ByteArray) (sb rb : Nat) (ar : Option Addr) (vs : List Int) (ver : Nat) (c : C4) (s : ByteArray) (v : Int) (w : World) (H : SRow fb t mb lo a ST m f sb rb ar vs ver c w) (hI : FamOk k f ks) (hs : s.size ≤ 1000000) (hver : ver ≤ 100000) (i : Nat) (hi : ks[i]? = some s) (hlt : i < vs.length) :
    Calls Tryz.prog 21 #[.pointer (some ⟨sb, 0, none⟩), .string s, .int .i64 v] w (GaveP fb t mb lo a ST m sb rb ar (fun f' c' => f' = f ∧ Alk c c') (vs.set i v) (ver + 1) w) := by
  have hf : rowFindI vs (seekR f.K (numI f.N s) (txtH s) c).1 = (i : Int) := by rw [hI.seek s c, rowFindI_yes hI.kn hi hlt]
  have hold : 0 ≤ rowFindI vs (seekR f.K (numI f.N s) (txtH s) c).1 := by rw [hf]; omega
  have hr : rowSet f vs c s v = some (0, f, vs.set i v, (seekR f.K (numI f.N s) (txtH s) c).2) := by
    unfold rowSet; rw [if_pos hold, hf]; rfl
  refine (sset_old k hk fb t mb lo a ST m f sb rb ar vs ver c s v w H hI.t hs hver hold).mono ?_
  intro r w' h
  exact h.gave hr ⟨rfl, seekR_c _ _ _ _⟩
/-- What is charged when a name is laid behind. -/
def Chg (c c' : C4) : Prop := c'.c = wrap64 (c.c + 1) ∧ c'.d = c.d
/-- Set of the next name of the common order, or of one that makes it longer. -/
theorem sset_next (k : Nat) (hk : k ≤ 1000) (fb t mb lo : Nat) (a : Option Addr) (ST : List Nat) (m : Option Nat) (f : Fam) (ks : List ByteArray) (sb rb : Nat) (ar : Option Addr) (vs : List Int) (ver : Nat) (c : C4) (s : ByteArray) (v : Int) (w : World) (H : SRow fb t mb lo a ST m f sb rb ar vs ver c w) (hI : FamOk k f ks) (hs : s.size ≤ 1000000) (hver : ver ≤ 100000) (hN : f.N.length ≤ 100000) (hv : vs.length ≤ 100000) (hno : s ∉ ks.take vs.length) (hp : ¬ f.pairs ≤ (vs.length : Int))
    (hx : ks[vs.length]? = some s ∨ (vs.length = ks.length ∧ s ∉ ks ∧ ¬ f.most ≤ (vs.length : Int))) :
    Calls Tryz.prog 21 #[.pointer (some ⟨sb, 0, none⟩), .string s, .int .i64 v] w (GaveP fb t mb lo a ST m sb rb ar (fun f' c' => FamOk (k + 1) f' (if vs.length < ks.length then ks else ks ++ [s]) ∧ f'.most = f.most ∧ f'.pairs = f.pairs ∧ f'.N.length ≤ f.N.length + 1 ∧ Chg c c' ∧ (vs.length < ks.length → c'.a = c.a ∧ f' = f)) (vs ++ [v]) (ver + 1) w) := by
  have hf : rowFindI vs (seekR f.K (numI f.N s) (txtH s) c).1 = -1 := by rw [hI.seek s c, rowFindI_no hI.kn hno]
  have hold : ¬ 0 ≤ rowFindI vs (seekR f.K (numI f.N s) (txtH s) c).1 := by rw [hf]; omega
  have hc := seekR_c f.K (numI f.N s) (txtH s) c
  obtain ⟨f5, c5, h1, h2, h3, h4, h5, h6, h7, h8⟩ := rowAdd_ok hk hI (seekR f.K (numI f.N s) (txtH s) c).2 hx
  have hr : rowSet f vs c s v = some (0, f5, vs ++ [v], c5.val) := by
    unfold rowSet; rw [if_neg hold, if_neg hp, h1]
  refine (sset_add k hk fb t mb lo a ST m f sb rb ar vs ver c s v w H hI.t hs hver hold hp f5 c5 h1 hN hv).mono ?_
  intro r w' h
  exact h.gave hr ⟨h2, h3, h4, h8, ⟨by show wrap64 (c5.c + 1) = _; rw [h5, hc.2.1], by show c5.d = _; rw [h6, hc.2.2]⟩, fun hl => ⟨by show c5.a = _; rw [(h7 hl).1, hc.1], (h7 hl).2⟩⟩
/-- Get of a name that the namespace has. -/
theorem sget_has (k : Nat) (hk : k ≤ 1000) (fb t mb lo : Nat) (a : Option Addr) (ST : List Nat) (m : Option Nat) (f : Fam) (ks : List ByteArray) (sb rb : Nat) (ar : Option Addr) (vs : List Int) (ver : Nat) (c : C4) (s : ByteArray) (w : World) (H : SRow fb t mb lo a ST m f sb rb ar vs ver c w) (hI : FamOk k f ks) (hs : s.size ≤ 1000000) (i : Nat) (hi : ks[i]? = some s) (hlt : i < vs.length) :
    Calls Tryz.prog 22 #[.pointer (some ⟨sb, 0, none⟩), .string s] w fun r w' => r = .returned (.tuple #[.int .i64 (vs.getD i 0), .bool true]) ∧ ∃ c', Alk c c' ∧ SRow fb t mb lo a ST m f sb rb ar vs ver c' w' ∧ Keeps (mS m) w w' := by
  have hf : rowFindI vs (seekR f.K (numI f.N s) (txtH s) c).1 = (i : Int) := by rw [hI.seek s c, rowFindI_yes hI.kn hi hlt]
  refine (sget_row k hk fb t mb lo a ST m f sb rb ar vs ver c s w H hI.t hs).mono ?_
  rintro r w' ⟨h1, h2, h3⟩
  refine ⟨?_, _, seekR_c _ _ _ _, h2, h3⟩
  rw [h1, hf]; simp
theorem bytes_list10 (x y : ByteArray) : (x.toList == y.toList) = decide (x = y) := by
  by_cases h : x = y
  · subst h; simp
  · rw [decide_eq_false h]
    cases hb : (x.toList == y.toList)
    · rfl
    · have h1 : x.toList = y.toList := by simpa using hb
      rw [ByteArray.toList_eq, ByteArray.toList_eq] at h1
      refine absurd ?_ h
      cases x with
      | mk dx => cases y with
        | mk dy => congr 1; exact Array.ext' h1
/-- Two lists of names are looked at. -/
theorem names_cmp (lo lo' : Nat) (a a' : Option Addr) (c c' : Nat) (N M : List ByteArray) (w : World) (H : ValRow 9 lo a N.length c (strV N) w) (H' : ValRow 9 lo' a' M.length c' (strV M) w) (hN : N.length ≤ 1000000) :
    Calls Tryz.prog 13 #[.slice a N.length c, .slice a' M.length c'] w fun r w' => r = .returned (.bool (decide (N = M))) ∧ Keeps [] w w' := by
  have HN := Lib.hid H
  have HM := Lib.hid H'
  by_cases hl : N.length = M.length
  · obtain ⟨n, hn⟩ := ex_hid N.length
    have hm := hl.symm
    rw [← hn.out] at hm hN ⊢
    rw [hm]
    have HL := Lib.hid hm
    have hq : ((n : Int) != (n : Int)) = false := by simp
    clear H H' hl hm
    go_enter Tryz.func13, Tryz.ntmps13
    go_wp2_with fail
    go_loopw [5] (fun z5 wr => ∃ i : Nat, i ≤ n ∧ z5 = .int .i64 i ∧ Hid (Keeps [] w wr ∧ ∀ j, j < i → N[j]? = M[j]?)) (fun z5 _ => n - (intOf z5).toNat)
    case atStart => exact ⟨0, Nat.zero_le _, rfl, Lib.hid ⟨Keeps.refl _ _, fun j hj => absurd hj (by omega)⟩⟩
    case round =>
      obtain ⟨i, hi, rfl, I⟩ := hrel
      by_cases hlt : i < n
      · have i1 : (i : Int) < (n : Int) := by omega
        have i0 : (0 : Int) ≤ (i : Int) := by omega
        obtain ⟨g, rfl⟩ := HN.out.shape (by rw [← hn.out]; omega)
        obtain ⟨g', rfl⟩ := HM.out.shape (by rw [HL.out]; omega)
        have s1 : wr.cell? ⟨g, i, none⟩ = some (.string (N.getD i .empty)) := (HN.out.keeps I.out.1 (by simp)).cell (by rw [← hn.out]; exact hlt)
        have s2 : wr.cell? ⟨g', i, none⟩ = some (.string (M.getD i .empty)) := (HM.out.keeps I.out.1 (by simp)).cell (by rw [HL.out]; exact hlt)
        have e1 := Lib.hid (getD_at10 (N := N) (n := i) (by rw [← hn.out]; exact hlt))
        have e2 := Lib.hid (getD_at10 (N := M) (n := i) (by rw [HL.out]; exact hlt))
        obtain ⟨x, hx⟩ := ex_hid (N.getD i .empty)
        obtain ⟨y, hy⟩ := ex_hid (M.getD i .empty)
        rw [← hx.out] at s1
        rw [← hy.out] at s2
        by_cases he : x = y
        · have HE := Lib.hid he
          have hb : (x.toList == y.toList) = true := by rw [bytes_list10]; simp [he]
          clear he
          go_wp2_with fail
          go_region_held3 (fun w' => w'.cell? ⟨g, i, none⟩ = some (.string x) ∧ w'.cell? ⟨g', i, none⟩ = some (.string y)) (go_keep) (fail)
          go_wp2_with fail
          go_roundw
          case rel =>
            refine ⟨i + 1, by omega, by go_num, Lib.hid ⟨I.out.1.drew, fun j hj => ?_⟩⟩
            rcases Nat.lt_or_ge j i with h | h
            · exact I.out.2 j h
            · obtain rfl : j = i := by omega
              rw [e1.out, e2.out, ← hx.out, ← hy.out, HE.out]
          case measure => simp [intOf]; omega
        · have HE := Lib.hid he
          have hb : (x.toList == y.toList) = false := by rw [bytes_list10]; simp [he]
          clear he
          go_wp2_with fail
          go_region_held3 (fun w' => w'.cell? ⟨g, i, none⟩ = some (.string x) ∧ w'.cell? ⟨g', i, none⟩ = some (.string y)) (go_keep) (fail)
          go_wp2_with fail
          go_ret
          refine ⟨?_, I.out.1.drew⟩
          have : ¬ N = M := fun e => HE.out (by rw [hx.out, hy.out, e])
          rw [decide_eq_false this]; rfl
      · obtain rfl : i = n := by omega
        go_wp2_with fail
        go_ret
        refine ⟨?_, I.out.1⟩
        have : N = M := List.ext_getElem? (fun j => by
          rcases Nat.lt_or_ge j i with h | h
          · exact I.out.2 j h
          · rw [List.getElem?_eq_none (by rw [← hn.out]; exact h), List.getElem?_eq_none (by rw [HL.out]; exact h)])
        rw [decide_eq_true this]; rfl
  · have hne : ¬ N = M := fun e => hl (by rw [e])
    obtain ⟨n, hn⟩ := ex_hid N.length
    obtain ⟨m, hm⟩ := ex_hid M.length
    rw [← hn.out, ← hm.out] at hl ⊢
    have hq : ((n : Int) != (m : Int)) = true := by simp; omega
    rw [decide_eq_false hne]
    clear H H' hne
    go_enter Tryz.func13, Tryz.ntmps13
    go_wp2_with fail
    go_ret
    exact ⟨rfl, Keeps.refl _ _⟩
end Go.Proofs.YtajmfenfajbakaaGreat
