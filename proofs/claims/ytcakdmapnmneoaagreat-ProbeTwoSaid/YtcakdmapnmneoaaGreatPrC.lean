/- Both sides and the Twos that name them: the joint state of chapter 8. -/
import Derived.Test.YtcakdmapnmneoaaGreatPrB
namespace Go.Proofs.YtcakdmapnmneoaaGreat
open Go.RowKit
set_option linter.unusedVariables false
set_option linter.unusedSimpArgs false

def two8O (db wb : Nat) (sv kv : Value) : Obj := .cells #[.pointer (some ⟨db, 0, none⟩), .pointer (some ⟨wb, 0, none⟩), sv, kv] 48 (0, 0)
/-- A machine of both sides, as a Two has it. -/
structure Mr8 where
  mb : Nat
  rb : Nat
  j : Nat
/-- A Two: its place, the number of its dictionary, its rows of machines. -/
structure Tw8 where
  xb : Nat
  cur : Nat
  a : Option Addr
  c : Nat
  a' : Option Addr
  c' : Nat
  ms : List Mr8
def ptr8 (f : Mr8 → Nat) (l : List Mr8) (i : Nat) : Value := .pointer (some ⟨(l.map f).getD i 0, 0, none⟩)
theorem ptr8_at {f : Mr8 → Nat} {l : List Mr8} {p : Nat} {it : Mr8} (h : l[p]? = some it) : ptr8 f l p = .pointer (some ⟨f it, 0, none⟩) := by
  unfold ptr8; simp [List.getD, h]
theorem ptr8_push (f : Mr8 → Nat) (l : List Mr8) (it : Mr8) : ∀ k, k < l.length + 1 → putV (ptr8 f l) l.length (.pointer (some ⟨f it, 0, none⟩)) k = ptr8 f (l ++ [it]) k := by
  intro k hk
  unfold putV ptr8
  by_cases e : k = l.length
  · subst e; simp [List.getD]
  · have : k < l.length := by omega
    simp [e, List.getD, List.getElem?_append_left, this]
def Tag.twos : Tag → Bool
  | .two _ => true
  | .rowA _ => true
  | .rowB _ => true
  | _ => false
theorem Tag.twos_side {t : Tag} (h : t.twos = true) (s : Bool) : t.side s = false := by cases t <;> simp_all [Tag.twos, Tag.side]
theorem Tag.side_other {t : Tag} {s : Bool} (h : t.side s = true) : t.side (!s) = false := by cases t <;> cases s <;> simp_all [Tag.side]
theorem Tag.side_twos {t : Tag} {s : Bool} (h : t.side s = true) : t.twos = false := by cases t <;> simp_all [Tag.side, Tag.twos]
structure TWk (B : Nat) (o : Nat → Tag) (k : Nat) (u : Tw8) (D E : List PD) (M L : List PM) (W : World) : Prop where
  row : ∃ x y : PD, D[u.cur]? = some x ∧ E[u.cur]? = some y ∧ W.heap[u.xb]? = some (two8O x.db y.db (.slice u.a u.ms.length u.c) (.slice u.a' u.ms.length u.c'))
  pa : ValRow 70 B u.a u.ms.length u.c (ptr8 Mr8.mb u.ms) W
  pb : ValRow 98 B u.a' u.ms.length u.c' (ptr8 Mr8.rb u.ms) W
  ox : o u.xb = .two k
  oa : ∀ z, z ∈ blk u.a → o z = .rowA k
  ob : ∀ z, z ∈ blk u.a' → o z = .rowB k
  m40 : u.ms.length ≤ 40
  mem : ∀ r, r ∈ u.ms → ∃ y y2 : PM, M[r.j]? = some y ∧ y.mb = r.mb ∧ L[r.j]? = some y2 ∧ y2.mb = r.rb
/-- The same dictionaries and machines, or more, stand at the same numbers. -/
def HeadD (D D' : List PD) : Prop := ∀ (i : Nat) (x : PD), D[i]? = some x → ∃ x' : PD, D'[i]? = some x' ∧ x'.db = x.db
def HeadM (M M' : List PM) : Prop := ∀ (j : Nat) (y : PM), M[j]? = some y → ∃ y' : PM, M'[j]? = some y' ∧ y'.mb = y.mb
theorem HeadD.refl (D : List PD) : HeadD D D := fun _ x h => ⟨x, h, rfl⟩
theorem HeadM.refl (M : List PM) : HeadM M M := fun _ x h => ⟨x, h, rfl⟩
theorem HeadD.set {D : List PD} {i : Nat} {x x' : PD} (hx : D[i]? = some x) (h : x'.db = x.db) : HeadD D (D.set i x') := fun i2 x2 h2 => by
  by_cases e : i = i2
  · subst e; rw [hx] at h2; cases h2; exact ⟨x', get_set hx, h⟩
  · exact ⟨x2, (get_set_ne e).trans h2, rfl⟩
theorem HeadM.set {M : List PM} {i : Nat} {x x' : PM} (hx : M[i]? = some x) (h : x'.mb = x.mb) : HeadM M (M.set i x') := fun i2 x2 h2 => by
  by_cases e : i = i2
  · subst e; rw [hx] at h2; cases h2; exact ⟨x', get_set hx, h⟩
  · exact ⟨x2, (get_set_ne e).trans h2, rfl⟩
theorem HeadD.app (D l : List PD) : HeadD D (D ++ l) := fun i x h => ⟨x, by rw [List.getElem?_append_left (List.getElem?_eq_some_iff.1 h).1]; exact h, rfl⟩
theorem HeadM.app (D l : List PM) : HeadM D (D ++ l) := fun i x h => ⟨x, by rw [List.getElem?_append_left (List.getElem?_eq_some_iff.1 h).1]; exact h, rfl⟩
section
variable {B : Nat} {p : Tag → Bool} {o o' : Nat → Tag} {k : Nat} {u : Tw8} {D E D' E' : List PD} {M L M' L' : List PM} {W W' : World}
theorem TWk.lt (h : TWk B o k u D E M L W) : u.xb < W.heap.size ∧ (∀ z, z ∈ blk u.a → z < W.heap.size) ∧ (∀ z, z ∈ blk u.a' → z < W.heap.size) := by
  obtain ⟨x, y, _, _, h3⟩ := h.row
  exact ⟨lt_of_block h3, fun z hz => (h.pa.blk_lt z hz).2, fun z hz => (h.pb.blk_lt z hz).2⟩
theorem TWk.mv (h : TWk B o k u D E M L W) (q : Mv p o W o' W') (hp : ∀ t : Tag, t = .two k ∨ t = .rowA k ∨ t = .rowB k → p t = false) (hD : HeadD D D') (hE : HeadD E E') (hM : HeadM M M') (hL : HeadM L L') : TWk B o' k u D' E' M' L' W' := by
  have kk := q.keeps
  obtain ⟨l1, l2, l3⟩ := h.lt
  obtain ⟨x, y, h1, h2, h3⟩ := h.row
  obtain ⟨x', h4, h5⟩ := hD _ _ h1
  obtain ⟨y', h6, h7⟩ := hE _ _ h2
  refine ⟨⟨x', y', h4, h6, ?_⟩, h.pa.keeps kk (fun z hz => not_frL (hp _ (by rw [h.oa z hz]; simp))), h.pb.keeps kk (fun z hz => not_frL (hp _ (by rw [h.ob z hz]; simp))), (q.old _ l1).trans h.ox, fun z hz => (q.old _ (l2 z hz)).trans (h.oa z hz), fun z hz => (q.old _ (l3 z hz)).trans (h.ob z hz), h.m40, fun r hr => ?_⟩
  · rw [h5, h7]; exact kk.has h3 (not_frL (hp _ (by rw [h.ox]; simp)))
  · obtain ⟨y1, y2, g1, g2, g3, g4⟩ := h.mem r hr
    obtain ⟨y1', i1, i2⟩ := hM _ _ g1
    obtain ⟨y2', i3, i4⟩ := hL _ _ g3
    exact ⟨y1', y2', i1, i2.trans g2, i3, i4.trans g4⟩
end
def msum (T : List Tw8) : Nat := (T.map fun u => u.ms.length).sum
theorem msum_set {T : List Tw8} {k : Nat} {u u' : Tw8} (h : T[k]? = some u) : msum (T.set k u') + u.ms.length = msum T + u'.ms.length := by
  induction T generalizing k with
  | nil => simp at h
  | cons v T ih =>
    cases k with
    | zero => simp at h; subst h; unfold msum; simp; omega
    | succ k => simp at h; have := ih h; simp only [msum, List.set_cons_succ, List.map_cons, List.sum_cons] at this ⊢; omega
theorem msum_le {T : List Tw8} (h : ∀ u, u ∈ T → u.ms.length ≤ 40) : msum T ≤ 40 * T.length := by
  induction T with
  | nil => simp [msum]
  | cons v T ih =>
    have h1 := ih (fun u hu => h u (List.mem_cons_of_mem _ hu))
    have h2 := h v (by simp)
    unfold msum at h1 ⊢
    simp only [List.map_cons, List.sum_cons, List.length_cons]; omega
/-- Both sides, each for itself, and the Twos. -/
structure G8 (B : Nat) (m1 m2 : Option Nat) (c1 c2 : C4) (K1 K2 Z1 Z2 : Nat) (o : Nat → Tag) (T : List Tw8) (D E : List PD) (M L : List PM) (W : World) : Prop where
  fr : FreeUp o W
  lo : ∀ z, o z ≠ .free → B ≤ z
  bw : B ≤ W.heap.size
  p : SP sideP m1 c1 K1 Z1 o D M W
  r : SP sideR m2 c2 K2 Z2 o E L W
  tw : ∀ (k : Nat) (u : Tw8), T[k]? = some u → TWk B o k u D E M L W
section
variable {B : Nat} {m1 m2 : Option Nat} {c1 c2 c1' c2' : C4} {K1 K2 Z1 Z2 K1' K2' Z1' Z2' : Nat} {o o' : Nat → Tag} {T : List Tw8} {D E D' E' : List PD} {M L M' L' : List PM} {W W' : World}
theorem NewUp.lo (h : NewUp o o' W) (l : ∀ z, o z ≠ .free → B ≤ z) (b : B ≤ W.heap.size) : ∀ z, o' z ≠ .free → B ≤ z := fun z hz => by
  rcases h z hz with h1 | h1
  · exact l z h1
  · omega
/-- The program's side has gone on. -/
theorem G8.gop (h : G8 B m1 m2 c1 c2 K1 K2 Z1 Z2 o T D E M L W) (hs : SP sideP m1 c1' K1' Z1' o' D' M' W') (q : Mv (Tag.side true) o W o' W') (f : FreeUp o' W') (n : NewUp o o' W) (hD : HeadD D D') (hM : HeadM M M') : G8 B m1 m2 c1' c2 K1' K2 Z1' Z2 o' T D' E M' L W' :=
  ⟨f, n.lo h.lo h.bw, Nat.le_trans h.bw q.size, hs, h.r.mv q (fun t ht => Tag.side_other (s := false) ht), fun k u hk => (h.tw k u hk).mv q (fun t ht => Tag.twos_side (by rcases ht with rfl | rfl | rfl <;> rfl) true) hD (HeadD.refl _) hM (HeadM.refl _)⟩
/-- The document's side has gone on. -/
theorem G8.gor (h : G8 B m1 m2 c1 c2 K1 K2 Z1 Z2 o T D E M L W) (hs : SP sideR m2 c2' K2' Z2' o' E' L' W') (q : Mv (Tag.side false) o W o' W') (f : FreeUp o' W') (n : NewUp o o' W) (hD : HeadD E E') (hM : HeadM L L') : G8 B m1 m2 c1 c2' K1 K2' Z1 Z2' o' T D E' M L' W' :=
  ⟨f, n.lo h.lo h.bw, Nat.le_trans h.bw q.size, h.p.mv q (fun t ht => Tag.side_other (s := true) ht), hs, fun k u hk => (h.tw k u hk).mv q (fun t ht => Tag.twos_side (by rcases ht with rfl | rfl | rfl <;> rfl) false) (HeadD.refl _) hD (HeadM.refl _) hM⟩
theorem G8.kept (h : G8 B m1 m2 c1 c2 K1 K2 Z1 Z2 o T D E M L W) {S : List Nat} (k : Keeps S W W') (hS : ∀ z, z ∈ S → o z = .free) : G8 B m1 m2 c1 c2 K1 K2 Z1 Z2 o T D E M L W' := by
  have q : Mv (fun t => t == .free) o W o W' := Mv.of_keeps k (fun z hz => by simp [hS z hz])
  have hp : ∀ t : Tag, t ≠ .free → (fun t : Tag => t == .free) t = false := fun t ht => by simp [ht]
  exact ⟨fun z hz => h.fr z (by have := k.size; omega), h.lo, Nat.le_trans h.bw k.size, h.p.mv q (fun t ht => hp t (by rintro rfl; simp [Tag.side] at ht)), h.r.mv q (fun t ht => hp t (by rintro rfl; simp [Tag.side] at ht)),
    fun k u hk => (h.tw k u hk).mv q (fun t ht => hp t (by rcases ht with rfl | rfl | rfl <;> simp)) (HeadD.refl _) (HeadD.refl _) (HeadM.refl _) (HeadM.refl _)⟩
/-- A Two itself has changed. -/
theorem G8.two (h : G8 B m1 m2 c1 c2 K1 K2 Z1 Z2 o T D E M L W) {k : Nat} {u u' : Tw8} (hk : T[k]? = some u) (q : Mv (fun t => t == .two k || t == .rowA k || t == .rowB k) o W o' W') (f : FreeUp o' W') (n : NewUp o o' W) (hu : TWk B o' k u' D E M L W') : G8 B m1 m2 c1 c2 K1 K2 Z1 Z2 o' (T.set k u') D E M L W' := by
  refine ⟨f, n.lo h.lo h.bw, Nat.le_trans h.bw q.size, h.p.mv q (fun t ht => ?_), h.r.mv q (fun t ht => ?_), fun k2 u2 hk2 => ?_⟩
  · cases t <;> simp_all [Tag.side]
  · cases t <;> simp_all [Tag.side]
  · rcases set_get hk hk2 with ⟨rfl, rfl⟩ | ⟨hne, h9⟩
    · exact hu
    · refine (h.tw k2 u2 h9).mv q (fun t ht => ?_) (HeadD.refl _) (HeadD.refl _) (HeadM.refl _) (HeadM.refl _)
      have hn : k2 ≠ k := fun e => hne e.symm
      rcases ht with rfl | rfl | rfl <;> simp [hn]
theorem G8.mono {K1' K2' Z1' Z2' : Nat} (h : G8 B m1 m2 c1 c2 K1 K2 Z1 Z2 o T D E M L W) (a : K1 ≤ K1') (b : K2 ≤ K2') (c : Z1 ≤ Z1') (d : Z2 ≤ Z2') : G8 B m1 m2 c1 c2 K1' K2' Z1' Z2' o T D E M L W := ⟨h.fr, h.lo, h.bw, h.p.mono a c, h.r.mono b d, h.tw⟩
end
/-- Both sides are alike. -/
structure Alk (D E : List PD) (M L : List PM) : Prop where
  dd : D.map PD.d = E.map PD.d
  mm : (M.map fun y => (y.q, y.i)) = L.map fun y => (y.q, y.i)
section
variable {D E : List PD} {M L : List PM}
theorem Alk.d (h : Alk D E M L) {i : Nat} {x y : PD} (hx : D[i]? = some x) (hy : E[i]? = some y) : y.d = x.d := by
  have h1 := congrArg (fun l => l[i]?) h.dd
  simp [hx, hy] at h1; exact h1.symm
theorem Alk.m (h : Alk D E M L) {j : Nat} {x y : PM} (hx : M[j]? = some x) (hy : L[j]? = some y) : y.q = x.q ∧ y.i = x.i := by
  have h1 := congrArg (fun l => l[j]?) h.mm
  simp [hx, hy] at h1; exact ⟨h1.1.symm, h1.2.symm⟩
theorem Alk.len (h : Alk D E M L) : D.length = E.length ∧ M.length = L.length :=
  ⟨by have := congrArg List.length h.dd; simpa using this, by have := congrArg List.length h.mm; simpa using this⟩
theorem Alk.setD (h : Alk D E M L) {i : Nat} {x y : PD} (hd : y.d = x.d) : Alk (D.set i x) (E.set i y) M L := ⟨by rw [List.map_set, List.map_set, h.dd, hd], h.mm⟩
theorem Alk.setM (h : Alk D E M L) {j : Nat} {x y : PM} (hd : y.q = x.q ∧ y.i = x.i) : Alk D E (M.set j x) (L.set j y) := ⟨h.dd, by rw [List.map_set, List.map_set, h.mm, hd.1, hd.2]⟩
theorem Alk.appD (h : Alk D E M L) {x y : PD} (hd : y.d = x.d) : Alk (D ++ [x]) (E ++ [y]) M L := ⟨by simp [h.dd, hd], h.mm⟩
theorem Alk.appM (h : Alk D E M L) {x y : PM} (hd : y.q = x.q ∧ y.i = x.i) : Alk D E (M ++ [x]) (L ++ [y]) := ⟨h.dd, by simp [h.mm, hd.1, hd.2]⟩
end
/-- The joint state. -/
structure J8 (B : Nat) (m1 m2 : Option Nat) (c : C4) (N Z : Nat) (o : Nat → Tag) (T : List Tw8) (D E : List PD) (M L : List PM) (W : World) : Prop where
  g : G8 B m1 m2 c c N N Z Z o T D E M L W
  a : Alk D E M L
  n : M.length = msum T
  t : T.length ≤ 2
theorem J8.m80 {B : Nat} {m1 m2 : Option Nat} {c : C4} {N Z : Nat} {o : Nat → Tag} {T : List Tw8} {D E : List PD} {M L : List PM} {W : World} (h : J8 B m1 m2 c N Z o T D E M L W) : M.length ≤ 80 := by
  have h1 := msum_le (T := T) (fun u hu => by obtain ⟨k, hk⟩ := List.getElem?_of_mem hu; exact (h.g.tw k u hk).m40)
  have := h.n; have := h.t; omega
end Go.Proofs.YtcakdmapnmneoaaGreat
