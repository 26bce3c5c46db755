/- A namespace, shared or private: what each call comes to, and that it is a sequence of names (chapter 10). No program in sight. -/
import Derived.Test.YtajmfenfajbakaaGreatShI
import Derived.Test.YtajmfenfajbakaaGreatShP
namespace Go.Proofs.YtajmfenfajbakaaGreat
open Go.RowKit
set_option linter.unusedVariables false
set_option linter.unusedSimpArgs false

/-- How a namespace is kept. -/
inductive Way10 where
  | row (vs : List Int)
  | own (T : Tab)
def Way10.len : Way10 → Nat
  | .row vs => vs.length
  | .own T => liveN T.E
def findW (f : Fam) (s : ByteArray) (c : C4) : Way10 → Int × C4
  | .row vs => (rowFindI vs (seekR f.K (numI f.N s) (txtH s) c).1, (seekR f.K (numI f.N s) (txtH s) c).2)
  | .own T => seekR T (numI f.N s) (txtH s) c
def valW (i : Int) : Way10 → Int
  | .row vs => vs.getD i.toNat 0
  | .own T => (atE (T.ent i)).val
def putW (i v : Int) : Way10 → Way10
  | .row vs => .row (vs.set i.toNat v)
  | .own T => .own (T.put i v)
def ownAddT (f : Fam) (s : ByteArray) (v : Int) (T : Tab) : Tab := T.add (txtH s) (giveI f.N s : Nat) v
def ownAddC (c : C4) (T : Tab) : C4 := if T.E.length = T.room then c.tab else c
/-- The table of one that is turned private, and what is counted, behind the first n. -/
def privT (f : Fam) (vs : List Int) : Nat → Tab
  | 0 => newT
  | n + 1 => ownAddT f (rowP f vs n).1 (rowP f vs n).2 (privT f vs n)
def privC (f : Fam) (vs : List Int) (c : C4) : Nat → C4
  | 0 => c.tab
  | n + 1 => ownAddC (privC f vs c n) (privT f vs n)
def giveF (f : Fam) (s : ByteArray) : Fam := { f with N := giveN f.N s }
/-- A private one, and the counts, behind its turning. -/
def turnT (f : Fam) (c : C4) : Way10 → Tab × C4
  | .row vs => (privT f vs vs.length, (privC f vs c vs.length).shf)
  | .own T => (T, c)
def setW (f : Fam) (w : Way10) (c : C4) (s : ByteArray) (v : Int) : Int × Fam × Way10 × C4 :=
  if 0 ≤ (findW f s c w).1 then (0, f, putW (findW f s c w).1 v w, (findW f s c w).2)
  else if f.pairs ≤ (w.len : Int) then (6, f, w, (findW f s c w).2)
  else match w with
    | .row vs => match rowAdd f vs.length s (findW f s c w).2 with
      | some (f', c') => (0, f', .row (vs ++ [v]), c'.val)
      | none => (0, giveF f s, .own (ownAddT f s v (turnT f (findW f s c w).2 w).1), ownAddC (turnT f (findW f s c w).2 w).2 (turnT f (findW f s c w).2 w).1)
    | .own T => (0, giveF f s, .own (ownAddT f s v T), ownAddC (findW f s c w).2 T)
def delW (f : Fam) (w : Way10) (c : C4) (s : ByteArray) : Int × Way10 × C4 :=
  if 0 ≤ (findW f s c w).1 then (0, .own ((turnT f (findW f s c w).2 w).1.kill (findW f s c w).1), (turnT f (findW f s c w).2 w).2)
  else (7, w, (findW f s c w).2)
def ownP (N : List ByteArray) (x : Ent) : Pr10 := (N.getD x.key.toNat .empty, x.val)
def pairsW (f : Fam) : Way10 → List Pr10
  | .row vs => rowPs f vs vs.length
  | .own T => (liveL T.E).map (ownP f.N)
def rowL (ks : List ByteArray) (vs : List Int) : List Pr10 := (ks.take vs.length).zip vs
structure OwnOk (k : Nat) (N : List ByteArray) (T : Tab) : Prop where
  t : TInv k T
  e : ∀ x, x ∈ liveL T.E → ∃ (n : Nat) (s : ByteArray), N[n]? = some s ∧ x.key = (n : Int) ∧ x.hash = txtH s
  u : ((liveL T.E).map (·.key)).Nodup
def SpOk (k : Nat) (f : Fam) (ks : List ByteArray) : Way10 → Prop
  | .row vs => vs.length ≤ ks.length ∧ vs.length ≤ k
  | .own T => OwnOk k f.N T
/-- A family that has got more names. -/
structure Ext10 (f : Fam) (ks : List ByteArray) (f' : Fam) (ks' : List ByteArray) : Prop where
  k : ∀ (i : Nat) x, ks[i]? = some x → ks'[i]? = some x
  n : ∀ (i : Nat) x, f.N[i]? = some x → f'.N[i]? = some x
  m : f'.most = f.most
  p : f'.pairs = f.pairs
theorem Ext10.refl (f : Fam) (ks : List ByteArray) : Ext10 f ks f ks := ⟨fun _ _ h => h, fun _ _ h => h, rfl, rfl⟩
theorem Ext10.len {f f' : Fam} {ks ks' : List ByteArray} (h : Ext10 f ks f' ks') : ks.length ≤ ks'.length := by
  rcases Nat.eq_zero_or_pos ks.length with h0 | h0
  · omega
  · have := h.k (ks.length - 1) _ (List.getElem?_eq_getElem (by omega))
    have := (List.getElem?_eq_some_iff.1 this).1
    omega
theorem live_split {E : List Ent} {g : Nat} {y : Ent} (h : E[g]? = some y) (hl : y.live = true) : liveL E = liveL (E.take g) ++ y :: liveL (E.drop (g + 1)) := by
  obtain ⟨hg, rfl⟩ := List.getElem?_eq_some_iff.1 h
  have h1 : E = E.take g ++ E[g] :: E.drop (g + 1) := by rw [← List.drop_eq_getElem_cons hg, List.take_append_drop]
  have h2 : liveL E = liveL (E.take g ++ E[g] :: E.drop (g + 1)) := congrArg liveL h1
  rw [h2]
  unfold liveL
  rw [List.filter_append, List.filter_cons_of_pos hl]
theorem live_set {E : List Ent} {g : Nat} {y z : Ent} (h : E[g]? = some y) : liveL (E.set g z) = liveL (E.take g) ++ ((if z.live = true then [z] else []) ++ liveL (E.drop (g + 1))) := by
  obtain ⟨hg, rfl⟩ := List.getElem?_eq_some_iff.1 h
  rw [List.set_eq_take_append_cons_drop, if_pos hg]
  unfold liveL
  rw [List.filter_append]
  split
  · rename_i hz; rw [List.filter_cons_of_pos hz]; rfl
  · rename_i hz; rw [List.filter_cons_of_neg hz]; rfl
theorem getD_of10 {N : List ByteArray} {n : Nat} {s : ByteArray} (h : N[n]? = some s) : N.getD n .empty = s := by simp [List.getD, h]
theorem ownP_of {N : List ByteArray} {x : Ent} {n : Nat} {s : ByteArray} (h : N[n]? = some s) (hk : x.key = (n : Int)) : ownP N x = (s, x.val) := by
  unfold ownP; rw [hk]; simp only [Int.toNat_natCast]; rw [getD_of10 h]
theorem OwnOk.mono {k k' : Nat} {N : List ByteArray} {T : Tab} (h : OwnOk k N T) (hk : k ≤ k') : OwnOk k' N T := ⟨h.t.mono hk, h.e, h.u⟩
theorem OwnOk.ext {k : Nat} {N N' : List ByteArray} {T : Tab} (h : OwnOk k N T) (hN : ∀ (i : Nat) x, N[i]? = some x → N'[i]? = some x) : OwnOk k N' T :=
  ⟨h.t, fun x hx => by obtain ⟨n, s, h1, h2⟩ := h.e x hx; exact ⟨n, s, hN _ _ h1, h2⟩, h.u⟩
theorem OwnOk.pairs_ext {k : Nat} {N N' : List ByteArray} {T : Tab} (h : OwnOk k N T) (hN : ∀ (i : Nat) x, N[i]? = some x → N'[i]? = some x) : (liveL T.E).map (ownP N') = (liveL T.E).map (ownP N) := by
  refine List.map_congr_left fun x hx => ?_
  obtain ⟨n, s, h1, h2, _⟩ := h.e x hx
  rw [ownP_of h1 h2, ownP_of (hN _ _ h1) h2]
theorem mem_liveL {E : List Ent} {x : Ent} : x ∈ liveL E ↔ x ∈ E ∧ x.live = true := by unfold liveL; rw [List.mem_filter]
/-- Where the search for a name in a private namespace comes to. -/
theorem OwnOk.find {k : Nat} {N : List ByteArray} {T : Tab} (h : OwnOk k N T) (hn : N.Nodup) (s : ByteArray) (c : C4) :
    (∃ (g : Nat) (y : Ent), (seekR T (numI N s) (txtH s) c).1 = (g : Int) ∧ T.E[g]? = some y ∧ y.live = true ∧ ownP N y = (s, y.val) ∧ numI (((liveL T.E).map (ownP N)).map (·.1)) s = ((liveL (T.E.take g)).length : Nat)) ∨
    ((seekR T (numI N s) (txtH s) c).1 = -1 ∧ numI (((liveL T.E).map (ownP N)).map (·.1)) s = -1) := by
  have nms : ∀ x, x ∈ liveL T.E → ∀ y, y ∈ liveL T.E → (ownP N x).1 = (ownP N y).1 → x.key = y.key := by
    intro x hx y hy he
    obtain ⟨n, t, h1, h2, _⟩ := h.e x hx
    obtain ⟨n', t', g1, g2, _⟩ := h.e y hy
    rw [ownP_of h1 h2, ownP_of g1 g2] at he
    simp only at he
    subst he
    have a1 := numI_at hn h1
    have a2 := numI_at hn g1
    omega
  have nd : (((liveL T.E).map (ownP N)).map (·.1)).Nodup := by
    rw [List.map_map]
    have hu := h.u
    unfold List.Nodup at hu ⊢
    rw [List.pairwise_map] at hu ⊢
    exact hu.imp_of_mem fun {a b} ha hb hab he => hab (nms a ha b hb he)
  by_cases hs : ∃ y, y ∈ liveL T.E ∧ (ownP N y).1 = s
  · obtain ⟨y, hy, hys⟩ := hs
    obtain ⟨n, t, h1, h2, h3⟩ := h.e y hy
    have ho := ownP_of h1 h2
    rw [ho] at hys
    simp only at hys
    subst hys
    obtain ⟨hy1, hy2⟩ := mem_liveL.1 hy
    obtain ⟨g, hg⟩ := List.mem_iff_getElem?.1 hy1
    have sp := live_split hg hy2
    have h6 : numI N t = (n : Int) := numI_at hn h1
    refine .inl ⟨g, y, ?_, hg, hy2, ho, ?_⟩
    · refine seekR_some h.t hg hy2 h3 (by rw [h2, h6]) (fun g' z hlt hz hl _ hk => ?_)
      have hz1 : z ∈ liveL (T.E.take g) := mem_liveL.2 ⟨List.mem_of_getElem? (by rw [List.getElem?_take, if_pos hlt]; exact hz), hl⟩
      have hu := h.u
      rw [sp, List.map_append, List.nodup_append] at hu
      exact hu.2.2 z.key (List.mem_map.2 ⟨z, hz1, rfl⟩) y.key (by simp) (by rw [hk, h6, h2])
    · refine numI_at nd ?_
      rw [List.getElem?_map, List.getElem?_map, sp]
      simp [ho]
  · refine .inr ⟨seekR_none h.t (fun g z hz hl _ hk => ?_), numI_none (fun hm => ?_)⟩
    · have hz1 : z ∈ liveL T.E := mem_liveL.2 ⟨List.mem_of_getElem? hz, hl⟩
      obtain ⟨n, t, h1, h2, h3⟩ := h.e z hz1
      have := numI_nat (hk.symm.trans h2)
      rw [h1] at this
      exact hs ⟨z, hz1, by rw [ownP_of h1 h2]; simpa using this⟩
    · obtain ⟨p, hp, rfl⟩ := List.mem_map.1 hm
      obtain ⟨x, hx, rfl⟩ := List.mem_map.1 hp
      exact hs ⟨x, hx, rfl⟩
theorem OwnOk.new (N : List ByteArray) : OwnOk 0 N newT := ⟨TInv.new, fun x hx => by simp [newT, liveL] at hx, by simp [newT, liveL]⟩
/-- A name more. -/
theorem OwnOk.add {k : Nat} {f : Fam} {T : Tab} (h : OwnOk k f.N T) (hk : k ≤ 1000) (hn : f.N.Nodup) (s : ByteArray) (v : Int) (hs : ∀ x, x ∈ liveL T.E → (ownP f.N x).1 ≠ s) :
    OwnOk (k + 1) (giveN f.N s) (ownAddT f s v T) ∧ (liveL (ownAddT f s v T).E).map (ownP (giveN f.N s)) = (liveL T.E).map (ownP f.N) ++ [(s, v)] := by
  obtain ⟨g1, g2, g3, g4⟩ := giveN_at f.N s hn
  have hl : liveL (ownAddT f s v T).E = liveL T.E ++ [⟨true, txtH s, (giveI f.N s : Nat), v, T.births⟩] := add_live T _ _ _
  have h' := h.ext g4
  refine ⟨⟨h.t.add hk _ _ _, fun x hx => ?_, ?_⟩, ?_⟩
  · rw [hl] at hx
    rcases List.mem_append.1 hx with hx | hx
    · exact h'.e x hx
    · simp at hx; subst hx
      exact ⟨giveI f.N s, s, g3, rfl, rfl⟩
  · rw [hl, List.map_append, List.nodup_append]
    refine ⟨h.u, by simp, fun a ha b hb => ?_⟩
    simp at hb; subst hb
    obtain ⟨x, hx, rfl⟩ := List.mem_map.1 ha
    intro he
    obtain ⟨n, t, h1, h2, h3⟩ := h.e x hx
    have h9 := g4 _ _ h1
    have : n = giveI f.N s := by rw [h2] at he; have he2 : (n : Int) = ((giveI f.N s : Nat) : Int) := he; omega
    rw [this, g3] at h9
    exact hs x hx (by rw [ownP_of h1 h2]; simpa using h9.symm)
  · rw [hl, List.map_append, h.pairs_ext g4]
    simp only [List.map_cons, List.map_nil]
    rw [ownP_of g3 rfl]
theorem OwnOk.put {k : Nat} {N : List ByteArray} {T : Tab} (h : OwnOk k N T) {g : Nat} {y : Ent} (hg : T.E[g]? = some y) (hl : y.live = true) (v : Int) :
    OwnOk k N (T.put g v) ∧ (liveL (T.put g v).E).map (ownP N) = ((liveL T.E).map (ownP N)).set (liveL (T.E.take g)).length ((ownP N y).1, v) := by
  have he : T.ent (g : Int) = some y := by unfold Tab.ent; simp [hg, hl]
  have hE : (T.put g v).E = T.E.set g { y with val := v } := by unfold Tab.put; rw [he]; simp
  have s1 := live_split hg hl
  have s2 := live_set (z := { y with val := v }) hg
  rw [if_pos hl] at s2
  refine ⟨⟨h.t.put _ _, fun x hx => ?_, ?_⟩, ?_⟩
  · rw [hE, s2] at hx
    have hm : x ∈ liveL T.E ∨ x = { y with val := v } := by
      rw [s1]
      simp only [List.mem_append, List.mem_cons, List.mem_singleton] at hx ⊢
      rcases hx with hx | hx | hx
      · exact .inl (.inl hx)
      · simp at hx; exact .inr hx
      · exact .inl (.inr (.inr hx))
    rcases hm with hm | rfl
    · exact h.e x hm
    · exact h.e y (by rw [s1]; simp)
  · rw [hE, s2]
    have hu := h.u
    rw [s1] at hu
    simpa using hu
  · rw [hE, s2, s1]
    simp [List.set_append, ownP]
theorem OwnOk.kill {k : Nat} {N : List ByteArray} {T : Tab} (h : OwnOk k N T) {g : Nat} {y : Ent} (hg : T.E[g]? = some y) (hl : y.live = true) :
    OwnOk (k + 1) N (T.kill g) ∧ (liveL (T.kill g).E).map (ownP N) = ((liveL T.E).map (ownP N)).eraseIdx (liveL (T.E.take g)).length := by
  have he : T.ent (g : Int) = some y := by unfold Tab.ent; simp [hg, hl]
  have hE : (T.kill g).E = T.E.set g noE := by unfold Tab.kill; rw [he]; simp
  have s1 := live_split hg hl
  have s2 := live_set (z := noE) hg
  rw [if_neg (by decide)] at s2
  refine ⟨⟨h.t.kill _, fun x hx => ?_, ?_⟩, ?_⟩
  · rw [hE, s2] at hx
    refine h.e x ?_
    rw [s1]
    simp only [List.mem_append, List.mem_cons, List.nil_append] at hx ⊢
    rcases hx with hx | hx
    · exact .inl hx
    · exact .inr (.inr hx)
  · rw [hE, s2]
    have hu := h.u
    rw [s1] at hu
    refine List.Nodup.sublist ?_ hu
    simp
  · rw [hE, s2, s1]
    simp [List.eraseIdx_append_of_length_le]
end Go.Proofs.YtajmfenfajbakaaGreat
