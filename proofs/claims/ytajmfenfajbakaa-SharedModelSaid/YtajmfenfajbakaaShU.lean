/- Namespaces given names in the common order (chapter 10's SharedFresh): one step. -/
import Derived.Test.YtajmfenfajbakaaShS
namespace Go.Proofs.Ytajmfenfajbakaa
open Go.RowKit
set_option linter.unusedVariables false
set_option linter.unusedSimpArgs false

/-- Where a family lies. -/
structure FrL where
  fb : Nat
  t : Nat
  mb : Nat
  lo : Nat
  B : Nat
/-- A family whose common order is the first mo names of L. -/
def FrF (x : FrL) (L : List ByteArray) (mo : Nat) (c : C4) (w3 W : World) : Prop :=
  ∃ a ST f, FamAt x.fb x.t x.mb x.lo a ST (some x.B) f W ∧ FamOk mo f (L.take mo) ∧ f.most = (L.length : Nat) ∧ f.pairs = 1000 ∧ f.N.length ≤ mo ∧ mo ≤ L.length ∧ MtrAt (some x.B) c W ∧ Keeps [x.B] w3 W ∧ w3.heap.size = x.lo ∧ x.B < x.lo
/-- And a namespace that has the first k of them. -/
def FrS (x : FrL) (L : List ByteArray) (mo : Nat) (c : C4) (sb rb k ver : Nat) (w3 W : World) : Prop :=
  ∃ a ST f ar vs, SRow x.fb x.t x.mb x.lo a ST (some x.B) f sb rb ar vs ver c W ∧ FamOk mo f (L.take mo) ∧ f.most = (L.length : Nat) ∧ f.pairs = 1000 ∧ f.N.length ≤ mo ∧ mo ≤ L.length ∧ vs.length = k ∧ k ≤ mo ∧ Keeps [x.B] w3 W ∧ w3.heap.size = x.lo ∧ x.B < x.lo
theorem FrS.fam {x : FrL} {L : List ByteArray} {mo : Nat} {c : C4} {sb rb k ver : Nat} {w3 W : World} (h : FrS x L mo c sb rb k ver w3 W) : FrF x L mo c w3 W := by
  obtain ⟨a, ST, f, ar, vs, h1, h2, h3, h4, h5, h6, h7, h8, h9, h10, h11⟩ := h
  exact ⟨a, ST, f, h1.F, h2, h3, h4, h5, h6, h1.M, h9, h10, h11⟩
theorem FrF.quiet {x : FrL} {L : List ByteArray} {mo : Nat} {c : C4} {w3 W W' : World} (h : FrF x L mo c w3 W) (k : Keeps [] W W') : FrF x L mo c w3 W' := by
  obtain ⟨a, ST, f, h1, h2, h3, h4, h5, h6, h7, h9, h10, h11⟩ := h
  exact ⟨a, ST, f, h1.keeps k (by simp), h2, h3, h4, h5, h6, h7.keeps k (by simp), h9.trans (k.mono (by simp)), h10, h11⟩
theorem SRow.quiet {fb t mb lo : Nat} {a : Option Addr} {ST : List Nat} {m : Option Nat} {f : Fam} {sb rb : Nat} {ar : Option Addr} {vs : List Int} {ver : Nat} {c : C4} {W W' : World} (h : SRow fb t mb lo a ST m f sb rb ar vs ver c W) (k : Keeps [] W W') : SRow fb t mb lo a ST m f sb rb ar vs ver c W' :=
  ⟨h.F.keeps k (by simp), h.R.keeps k (by simp), h.M.keeps k (by simp), k.has h.s (by simp), h.d1, h.d2, h.ls, h.hm⟩
theorem FrS.quiet {x : FrL} {L : List ByteArray} {mo : Nat} {c : C4} {sb rb k ver : Nat} {w3 W W' : World} (h : FrS x L mo c sb rb k ver w3 W) (k' : Keeps [] W W') : FrS x L mo c sb rb k ver w3 W' := by
  obtain ⟨a, ST, f, ar, vs, h1, h2, h3, h4, h5, h6, h7, h8, h9, h10, h11⟩ := h
  exact ⟨a, ST, f, ar, vs, h1.quiet k', h2, h3, h4, h5, h6, h7, h8, h9.trans (k'.mono (by simp)), h10, h11⟩
theorem fr_make (x : FrL) (L : List ByteArray) (mo : Nat) (c : C4) (w3 w : World) (H : FrF x L mo c w3 w) :
    Calls Try.prog 10 #[.pointer (some ⟨x.fb, 0, none⟩)] w fun r w' => ∃ sb rb, r = .returned (.pointer (some ⟨sb, 0, none⟩)) ∧ FrS x L mo c sb rb 0 0 w3 w' := by
  obtain ⟨a, ST, f, h1, h2, h3, h4, h5, h6, h7, h9, h10, h11⟩ := H
  refine (fmake_any x.fb x.t x.mb x.lo a ST (some x.B) f c w h1 h7 (fun b hb => by cases hb; exact h11)).mono ?_
  rintro r w' ⟨sb, rb, rfl, s, k, _, _⟩
  exact ⟨sb, rb, rfl, a, ST, f, none, [], s, h2, h3, h4, h5, h6, rfl, Nat.zero_le _, h9.trans (k.mono (by simp)), h10, h11⟩
/-- The next name. -/
theorem fr_next (x : FrL) (L : List ByteArray) (mo : Nat) (c : C4) (sb rb k ver : Nat) (v : Int) (s : ByteArray) (w3 w : World) (H : FrS x L mo c sb rb k ver w3 w) (hn : L.Nodup) (hL : L.length ≤ 60) (hs : L[k]? = some s) (hz : s.size ≤ 200) (hver : ver ≤ 1000) :
    Calls Try.prog 11 #[.pointer (some ⟨sb, 0, none⟩), .string s, .int .i64 v] w fun r w' => r = .returned (.int .i64 0) ∧ ∃ c', Chg c c' ∧ (k < mo → c'.a = c.a) ∧ FrS x L (if k < mo then mo else k + 1) c' sb rb (k + 1) (ver + 1) w3 w' := by
  obtain ⟨a, ST, f, ar, vs, h1, h2, h3, h4, h5, h6, h7, h8, h9, h10, h11⟩ := H
  have hkl := (List.getElem?_eq_some_iff.1 hs).1
  have hlen : (L.take mo).length = mo := by rw [List.length_take]; omega
  have hnt : ∀ j, j ≤ k → s ∉ L.take j := fun j hj hm => by
    obtain ⟨q, hq⟩ := List.mem_iff_getElem?.1 hm
    have hql := (List.getElem?_eq_some_iff.1 hq).1
    rw [List.length_take] at hql
    rw [List.getElem?_take_of_lt (by omega)] at hq
    have e1 := numI_at hn hq
    have e2 := numI_at hn hs
    omega
  refine (sset_next mo (by omega) x.fb x.t x.mb x.lo a ST (some x.B) f (L.take mo) sb rb ar vs ver c s v w h1 h2 (by omega) (by omega) (by omega) (by omega) ?_ (by rw [h4, h7]; omega) ?_).mono ?_
  · rw [h7, List.take_take]; exact hnt _ (by omega)
  · rw [h7]
    by_cases hk : k < mo
    · left; rw [List.getElem?_take_of_lt hk]; exact hs
    · right
      refine ⟨by rw [hlen]; omega, hnt _ (by omega), by rw [h3]; omega⟩
  · rintro r w' ⟨rfl, f', c', a', ST', ar', ⟨o1, o2, o3, o4, o5, o6⟩, s1, k1, _, _⟩
    rw [hlen, h7] at o1 o6
    have kk : Keeps [x.B] w3 w' := h9.then k1 (fun z hz => by
      rcases h1.low z hz with h | h
      · left; omega
      · right; simpa [mS] using h)
    refine ⟨rfl, c', o5, fun hk => (o6 hk).1, a', ST', f', ar', vs ++ [v], s1, ?_, by rw [o2, h3], by rw [o3, h4], ?_, ?_, by simp [h7], ?_, kk, h10, h11⟩
    · by_cases hk : k < mo
      · rw [if_pos hk, (o6 hk).2]; exact h2
      · have hkm : k = mo := by omega
        subst hkm
        rw [if_neg (by omega)] at o1 ⊢
        rw [List.take_succ_eq_append_getElem hkl]
        rw [(List.getElem?_eq_some_iff.1 hs).2]
        exact o1
    · by_cases hk : k < mo
      · rw [if_pos hk, (o6 hk).2]; exact h5
      · rw [if_neg hk]; omega
    · split <;> omega
    · split <;> omega
/-- A name anew. -/
theorem fr_anew (x : FrL) (L : List ByteArray) (mo : Nat) (c : C4) (sb rb k ver : Nat) (v : Int) (j : Nat) (s : ByteArray) (w3 w : World) (H : FrS x L mo c sb rb k ver w3 w) (hL : L.length ≤ 60) (hj : j < k) (hs : L[j]? = some s) (hz : s.size ≤ 200) (hver : ver ≤ 1000) :
    Calls Try.prog 11 #[.pointer (some ⟨sb, 0, none⟩), .string s, .int .i64 v] w fun r w' => r = .returned (.int .i64 0) ∧ ∃ c', Alk c c' ∧ FrS x L mo c' sb rb k (ver + 1) w3 w' := by
  obtain ⟨a, ST, f, ar, vs, h1, h2, h3, h4, h5, h6, h7, h8, h9, h10, h11⟩ := H
  refine (sset_has mo (by omega) x.fb x.t x.mb x.lo a ST (some x.B) f (L.take mo) sb rb ar vs ver c s v w h1 h2 (by omega) (by omega) j (by rw [List.getElem?_take_of_lt (by omega)]; exact hs) (by omega)).mono ?_
  rintro r w' ⟨rfl, f', c', a', ST', ar', ⟨rfl, o5⟩, s1, k1, _, _⟩
  have kk : Keeps [x.B] w3 w' := h9.then k1 (fun z hz => by
    rcases h1.low z hz with h | h
    · left; omega
    · right; simpa [mS] using h)
  exact ⟨rfl, c', o5, a', ST', f', ar', _, s1, h2, h3, h4, h5, h6, by simp [h7], h8, kk, h10, h11⟩
theorem fr_shared (x : FrL) (L : List ByteArray) (mo : Nat) (c : C4) (sb rb k ver : Nat) (w3 w : World) (H : FrS x L mo c sb rb k ver w3 w) :
    Calls Try.prog 12 #[.pointer (some ⟨sb, 0, none⟩)] w fun r w' => r = .returned (.bool true) ∧ w = w' := by
  obtain ⟨a, ST, f, ar, vs, h1, _⟩ := H
  exact sshared_row sb x.fb rb ver w h1.s
theorem fr_len (x : FrL) (L : List ByteArray) (mo : Nat) (c : C4) (sb rb k ver : Nat) (w3 w : World) (H : FrS x L mo c sb rb k ver w3 w) :
    Calls Try.prog 16 #[.pointer (some ⟨sb, 0, none⟩)] w fun r w' => r = .returned (.int .i64 k) ∧ w = w' := by
  obtain ⟨a, ST, f, ar, vs, h1, _, _, _, _, _, h7, _⟩ := H
  rw [← h7]
  exact slen_row sb x.fb rb x.lo ar vs ver w h1.s h1.R
theorem fr_names (x : FrL) (L : List ByteArray) (mo : Nat) (c : C4) (w3 w : World) (H : FrF x L mo c w3 w) (hL : L.length ≤ 60) :
    Calls Try.prog 15 #[.pointer (some ⟨x.fb, 0, none⟩)] w (Names10 (L.take mo) w) := by
  obtain ⟨a, ST, f, h1, h2, h3, h4, h5, h6, h7, h9, h10, h11⟩ := H
  exact names_any mo (by omega) x.fb x.t x.mb x.lo a ST (some x.B) f (L.take mo) w h1 h2
theorem fr_met {x : FrL} {L : List ByteArray} {mo : Nat} {c : C4} {w3 W : World} (H : FrF x L mo c w3 W) : W.heap[x.B]? = some (mtr c) := by
  obtain ⟨a, ST, f, _, _, _, _, _, _, h7, _⟩ := H
  exact h7 x.B rfl
end Go.Proofs.Ytajmfenfajbakaa
