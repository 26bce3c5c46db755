/- Namespaces given names in the common order: a block of somebody else's stays as it is (chapter 10's SharedFresh). -/
import Derived.Test.YtajmfenfajbakaaShU
namespace Go.Proofs.Ytajmfenfajbakaa
open Go.RowKit
set_option linter.unusedVariables false
set_option linter.unusedSimpArgs false

/-- A family with a namespace that has the first k of the names, beside a block of somebody else's. -/
def FrH (x : FrL) (L : List ByteArray) (mo : Nat) (c : C4) (sb rb k ver : Nat) (w3 : World) (hb : Nat) (o : Obj) (W : World) : Prop :=
  ∃ a ST f ar vs, SRow x.fb x.t x.mb x.lo a ST (some x.B) f sb rb ar vs ver c W ∧ FamOk mo f (L.take mo) ∧ f.most = (L.length : Nat) ∧ f.pairs = 1000 ∧ f.N.length ≤ mo ∧ mo ≤ L.length ∧ vs.length = k ∧ k ≤ mo ∧ Keeps [x.B] w3 W ∧ w3.heap.size = x.lo ∧ x.B < x.lo ∧ hb ∉ spFeet x.fb x.mb a ST (some x.B) sb rb ar ∧ W.heap[hb]? = some o
theorem FrH.to {x : FrL} {L : List ByteArray} {mo : Nat} {c : C4} {sb rb k ver : Nat} {w3 W : World} {hb : Nat} {o : Obj} (h : FrH x L mo c sb rb k ver w3 hb o W) : FrS x L mo c sb rb k ver w3 W := by
  obtain ⟨a, ST, f, ar, vs, h1, h2, h3, h4, h5, h6, h7, h8, h9, h10, h11, h12, h13⟩ := h
  exact ⟨a, ST, f, ar, vs, h1, h2, h3, h4, h5, h6, h7, h8, h9, h10, h11⟩
theorem FrH.has {x : FrL} {L : List ByteArray} {mo : Nat} {c : C4} {sb rb k ver : Nat} {w3 W : World} {hb : Nat} {o : Obj} (h : FrH x L mo c sb rb k ver w3 hb o W) : W.heap[hb]? = some o := by
  obtain ⟨a, ST, f, ar, vs, h1, h2, h3, h4, h5, h6, h7, h8, h9, h10, h11, h12, h13⟩ := h
  exact h13
theorem frh_make (x : FrL) (L : List ByteArray) (mo : Nat) (c : C4) (w3 w0 w : World) (hb : Nat) (o : Obj) (H0 : FrF x L mo c w3 w0) (k0 : Keeps [] w0 w) (hn : w0.heap.size ≤ hb) (ho : w.heap[hb]? = some o) :
    Calls Try.prog 10 #[.pointer (some ⟨x.fb, 0, none⟩)] w fun r w' => ∃ sb rb, r = .returned (.pointer (some ⟨sb, 0, none⟩)) ∧ FrH x L mo c sb rb 0 0 w3 hb o w' := by
  obtain ⟨a, ST, f, h1, h2, h3, h4, h5, h6, h7, h9, h10, h11⟩ := H0
  have h1' := h1.keeps k0 (by simp)
  have h7' := h7.keeps k0 (by simp)
  have hlt := lt_of_block ho
  refine (fmake_any x.fb x.t x.mb x.lo a ST (some x.B) f c w h1' h7' (fun b hb => by cases hb; exact h11)).mono ?_
  rintro r w' ⟨sb, rb, rfl, s, k, g1, g2⟩
  refine ⟨sb, rb, rfl, a, ST, f, none, [], s, h2, h3, h4, h5, h6, rfl, Nat.zero_le _, (h9.trans (k0.mono (by simp))).trans (k.mono (by simp)), h10, h11, fun hm => ?_, k.has ho (by simp)⟩
  unfold spFeet at hm
  simp only [List.mem_cons, List.mem_append, blk, mS, List.not_mem_nil, or_false] at hm
  rcases hm with h | (h | h) | h
  · omega
  · have := (h1.foot _ h).2; omega
  · omega
  · have := lt_of_block (h7 x.B rfl); omega
theorem frh_next (x : FrL) (L : List ByteArray) (mo : Nat) (c : C4) (sb rb k ver : Nat) (v : Int) (s : ByteArray) (w3 w : World) (hb : Nat) (o : Obj) (H : FrH x L mo c sb rb k ver w3 hb o w) (hn : L.Nodup) (hL : L.length ≤ 60) (hs : L[k]? = some s) (hk : k < mo) (hz : s.size ≤ 200) (hver : ver ≤ 1000) :
    Calls Try.prog 11 #[.pointer (some ⟨sb, 0, none⟩), .string s, .int .i64 v] w fun r w' => r = .returned (.int .i64 0) ∧ ∃ c', Chg c c' ∧ c'.a = c.a ∧ FrH x L mo c' sb rb (k + 1) (ver + 1) w3 hb o w' := by
  obtain ⟨a, ST, f, ar, vs, h1, h2, h3, h4, h5, h6, h7, h8, h9, h10, h11, h12, h13⟩ := H
  have hkl := (List.getElem?_eq_some_iff.1 hs).1
  have hlt := lt_of_block h13
  have hlen : (L.take mo).length = mo := by rw [List.length_take]; omega
  have hnt : ∀ j, j ≤ k → s ∉ L.take j := fun j hj hm => by
    obtain ⟨q, hq⟩ := List.mem_iff_getElem?.1 hm
    have hql := (List.getElem?_eq_some_iff.1 hq).1
    rw [List.length_take] at hql
    rw [List.getElem?_take_of_lt (by omega)] at hq
    have e1 := numI_at hn hq
    have e2 := numI_at hn hs
    omega
  refine (sset_next mo (by omega) x.fb x.t x.mb x.lo a ST (some x.B) f (L.take mo) sb rb ar vs ver c s v w h1 h2 (by omega) (by omega) (by omega) (by omega) ?_ (by rw [h4, h7]; omega) ?_).mono ?_
  · rw [h7, List.take_take]; exact hnt _ (by omega)
  · rw [h7]; left; rw [List.getElem?_take_of_lt hk]; exact hs
  · rintro r w' ⟨rfl, f', c', a', ST', ar', ⟨o1, o2, o3, o4, o5, o6⟩, s1, k1, g1, g2⟩
    rw [hlen, h7] at o1 o6
    have kk : Keeps [x.B] w3 w' := h9.then k1 (fun z hz => by
      rcases h1.low z hz with h | h
      · left; omega
      · right; simpa [mS] using h)
    refine ⟨rfl, c', o5, (o6 hk).1, a', ST', f', ar', vs ++ [v], s1, ?_, by rw [o2, h3], by rw [o3, h4], ?_, h6, by simp [h7], by omega, kk, h10, h11, fun hm => ?_, k1.has h13 h12⟩
    · rw [(o6 hk).2]; exact h2
    · rw [(o6 hk).2]; exact h5
    · unfold spFeet at hm h12
      simp only [List.mem_cons, List.mem_append] at hm h12
      rcases hm with h | (h | h | h) | h
      · exact h12 (.inl h)
      · rcases g1 _ h with h | h
        · exact h12 (.inr (.inl (.inl h)))
        · omega
      · exact h12 (.inr (.inl (.inr (.inl h))))
      · rcases g2 hb (List.mem_cons_of_mem _ h) with h | h
        · exact h12 (.inr (.inl (.inr (by simpa using h))))
        · omega
      · exact h12 (.inr (.inr h))
end Go.Proofs.Ytajmfenfajbakaa
