/- One side goes on: a machine's Step, a Tell, a dictionary that changes, a machine more, a dictionary more (chapter 8's Two). -/
import Derived.Test.YtcakdmapnmneoaaGreatPrA
namespace Go.Proofs.YtcakdmapnmneoaaGreat
open Go.RowKit
set_option linter.unusedVariables false
set_option linter.unusedSimpArgs false

theorem set_get {α : Type} {l : List α} {i j : Nat} {a b x : α} (hx : l[i]? = some x) (h : (l.set i a)[j]? = some b) : (i = j ∧ b = a) ∨ (i ≠ j ∧ l[j]? = some b) := by
  rw [List.getElem?_set] at h
  split at h
  · rename_i e
    split at h
    · simp at h; exact .inl ⟨e, h.symm⟩
    · cases h
  · rename_i e; exact .inr ⟨e, h⟩
theorem get_set {α : Type} {l : List α} {i : Nat} {a x : α} (hx : l[i]? = some x) : (l.set i a)[i]? = some a := by
  rw [List.getElem?_set]; simp [(List.getElem?_eq_some_iff.1 hx).1]
theorem get_set_ne {α : Type} {l : List α} {i j : Nat} {a : α} (h : i ≠ j) : (l.set i a)[j]? = l[j]? := by
  rw [List.getElem?_set, if_neg h]
section
variable {σ : Side} {m : Option Nat} {c : C4} {K Z : Nat} {o : Nat → Tag} {D : List PD} {M : List PM} {W W' : World}
def FreeUp (o : Nat → Tag) (W : World) : Prop := ∀ z, W.heap.size ≤ z → o z = .free
def NewUp (o o' : Nat → Tag) (W : World) : Prop := ∀ z, o' z ≠ .free → o z ≠ .free ∨ W.heap.size ≤ z
theorem SP.step (h : SP σ m c K Z o D M W) (fr : FreeUp o W) {j : Nat} {y : PM} {x : PD} (hy : M[j]? = some y) (hx : D[y.i]? = some x) (hk : K + M.length ≤ 990) {S' : List Nat} {sb' : Nat} {c' : C4}
    (a1 : σ.DA x.db x.t x.lo S' m (stepD x.d y.q) W') (a2 : σ.CA m c' W') (a3 : σ.MA y.mb sb' x.db x.t (stepM x.d y.q) W') (k : Keeps (y.mb :: x.db :: (skS y.q.st y.sb ++ x.S ++ mS m)) W W') (g : Grew x.S W S')
    (l : (sb' = y.sb ∧ y.q.st ≠ 0) ∨ W.heap.size ≤ sb') (n : (stepM x.d y.q).st ≠ 0 → sb' ∉ S' ∧ sb' ≠ x.db) :
    ∃ o', SP σ m c' K (Z + 1) o' (D.set y.i { x with S := S', d := stepD x.d y.q }) (M.set j { y with sb := sb', q := stepM x.d y.q }) W' ∧ Mv (Tag.side σ.tag) o W o' W' ∧ FreeUp o' W' ∧ NewUp o o' W := by
  obtain ⟨x0, hx0, m1, m2, m3, m4, m5, m6⟩ := h.mc j y hy
  rw [hx] at hx0; cases hx0
  obtain ⟨d1, d2, d3, d4⟩ := h.dc _ x hx
  obtain ⟨e1, e2⟩ := σ.dl _ _ _ _ _ _ _ d1
  obtain ⟨e3, e4⟩ := σ.dl _ _ _ _ _ _ _ a1
  obtain ⟨f1, f2⟩ := σ.ml _ _ _ _ _ _ m1
  obtain ⟨f3, f4⟩ := σ.ml _ _ _ _ _ _ a3
  have hR : ∀ z, z ∈ y.mb :: x.db :: (skS y.q.st y.sb ++ x.S ++ mS m) → o z = .mac σ.tag j ∨ o z = .dic σ.tag y.i ∨ o z = .skr σ.tag j ∨ o z = .met σ.tag := by
    intro z hz
    simp only [List.mem_cons, List.mem_append] at hz
    rcases hz with rfl | rfl | (hz | hz) | hz
    · exact .inl m4
    · exact .inr (.inl (d3 _ (by simp)))
    · unfold skS at hz
      split at hz
      · simp at hz
      · rename_i hs; simp at hz; subst hz; exact .inr (.inr (.inl (m5 hs)))
    · exact .inr (.inl (d3 z (by simp [hz])))
    · cases hm : m with
      | none => rw [hm] at hz; simp [mS] at hz
      | some b => rw [hm] at hz; simp [mS] at hz; subst hz; exact .inr (.inr (.inr (h.mt _ hm)))
  have hn : ∀ z, o z ≠ .mac σ.tag j → o z ≠ .dic σ.tag y.i → o z ≠ .skr σ.tag j → o z ≠ .met σ.tag → z ∉ y.mb :: x.db :: (skS y.q.st y.sb ++ x.S ++ mS m) := by
    intro z h1 h2 h3 h4 hz
    rcases hR z hz with h9 | h9 | h9 | h9
    · exact h1 h9
    · exact h2 h9
    · exact h3 h9
    · exact h4 h9
  obtain ⟨o', ho'⟩ : ∃ o' : Nat → Tag, o' = fun z => if z < W.heap.size then o z else if z ∈ S' then .dic σ.tag y.i else if z = sb' ∧ (stepM x.d y.q).st ≠ 0 then .skr σ.tag j else .free := ⟨_, rfl⟩
  have old : ∀ z, z < W.heap.size → o' z = o z := fun z hz => by rw [ho']; simp [hz]
  have nD : ∀ z, z ∈ S' → o' z = .dic σ.tag y.i := fun z hz => by
    rcases g z hz with h9 | h9
    · have := d3 z (by simp [h9])
      rw [old z (e1 z (by simp [h9])).2]; exact this
    · rw [ho']; simp only [if_neg (show ¬ z < W.heap.size by omega), if_pos hz]
  have nS : (stepM x.d y.q).st ≠ 0 → o' sb' = .skr σ.tag j := fun hs => by
    rcases l with ⟨h9, h8⟩ | h9
    · rw [h9, old _ (f2 h8)]; exact m5 h8
    · have h8 : ¬ sb' < W.heap.size := by omega
      simp [ho', h8, (n hs).1, hs]
  have en := endN_set (y' := { y with sb := sb', q := stepM x.d y.q }) hy
  have enm : endN M ≤ endN (M.set j { y with sb := sb', q := stepM x.d y.q }) := by
    by_cases h4 : y.q.st = 4
    · have h5 := (step_over x.d y.q h4).1
      simp only [h5, h4] at en ⊢
      simp at en; omega
    · rw [if_neg h4] at en; omega
  have el := endN_le M
  refine ⟨o', ⟨a2, fun b hb => (old b (σ.cl _ _ _ h.ct b hb)).trans (h.mt b hb), fun i x2 hx2 => ?_, fun j2 y2 hy2 => ?_⟩, ⟨k.os, k.tape, k.output, k.size, old, fun z hz hp => k.block z hz (fun hq => ?_)⟩, fun z hz => ?_, fun z hz => ?_⟩
  · rcases set_get hx hx2 with ⟨rfl, rfl⟩ | ⟨hne, h9⟩
    · refine ⟨a1, ?_, fun z hz => ?_, d4⟩
      · rcases step_end x.d y.q with h9 | ⟨h9, h8⟩
        · show DicOk _ (stepD x.d y.q); rw [h9]; exact d2.mono (by omega)
        · rw [if_neg h9] at en
          simp only [h8, if_true] at en
          exact (d2.step (by omega) y.q).mono (by omega)
      · rcases List.mem_cons.1 hz with rfl | hz
        · exact (old _ (e1 _ (by simp)).2).trans (d3 _ (by simp))
        · exact nD z hz
    · obtain ⟨b1, b2, b3, b4⟩ := h.dc i x2 h9
      obtain ⟨b5, _⟩ := σ.dl _ _ _ _ _ _ _ b1
      have off : ∀ z, z ∈ x2.db :: x2.S → z ∉ y.mb :: x.db :: (skS y.q.st y.sb ++ x.S ++ mS m) := fun z hz => by
        have := b3 z hz
        exact hn z (by rw [this]; simp) (by rw [this]; simp; exact fun e => hne e.symm) (by rw [this]; simp) (by rw [this]; simp)
      exact ⟨σ.dk _ _ _ _ _ _ _ _ _ b1 k (off _ (by simp)) (fun z hz => off z (by simp [hz])), b2.mono (by omega), fun z hz => (old z (b5 z hz).2).trans (b3 z hz), b4⟩
  · rcases set_get hy hy2 with ⟨rfl, rfl⟩ | ⟨hne, h9⟩
    · refine ⟨_, get_set hx, a3, m2.step d2, by have := step_sc8 x.d y.q; show (stepM x.d y.q).scans ≤ _; omega, (old _ f1).trans m4, nS, m6⟩
    · obtain ⟨x2, b1, b2, b3, b4, b5, b6, b7⟩ := h.mc j2 y2 h9
      obtain ⟨c1, c2⟩ := σ.ml _ _ _ _ _ _ b2
      have o1 : y2.mb ∉ y.mb :: x.db :: (skS y.q.st y.sb ++ x.S ++ mS m) := hn _ (by rw [b5]; simp; exact fun e => hne e.symm) (by rw [b5]; simp) (by rw [b5]; simp) (by rw [b5]; simp)
      have o2 : y2.q.st ≠ 0 → y2.sb ∉ y.mb :: x.db :: (skS y.q.st y.sb ++ x.S ++ mS m) := fun hs => hn _ (by rw [b6 hs]; simp) (by rw [b6 hs]; simp) (by rw [b6 hs]; simp; exact fun e => hne e.symm) (by rw [b6 hs]; simp)
      have b8 := σ.mkp _ _ _ _ _ _ _ _ b2 k o1 o2
      by_cases he : y.i = y2.i
      · rw [← he, hx] at b1; cases b1
        rw [← he]
        exact ⟨_, get_set hx, b8, b3.other, by omega, (old _ c1).trans b5, fun hs => (old _ (c2 hs)).trans (b6 hs), b7⟩
      · exact ⟨x2, (get_set_ne he).trans b1, b8, b3, by omega, (old _ c1).trans b5, fun hs => (old _ (c2 hs)).trans (b6 hs), b7⟩
  · rcases hR z hq with h9 | h9 | h9 | h9 <;> rw [h9] at hp <;> simp [Tag.side] at hp
  · have hs := k.size
    rw [ho']
    simp only [if_neg (show ¬ z < W.heap.size by omega)]
    rw [if_neg (fun hz' => by have := (e3 z (by simp [hz'])).2; omega), if_neg (fun hz' => by have := f4 hz'.2; rw [← hz'.1] at this; omega)]
  · by_cases hz' : z < W.heap.size
    · rw [old z hz'] at hz; exact .inl hz
    · exact .inr (by omega)
/-- A machine is told. -/
theorem SP.tell (h : SP σ m c K Z o D M W) {j : Nat} {y : PM} (hy : M[j]? = some y) (b : Bool) (a3 : ∀ x : PD, D[y.i]? = some x → σ.MA y.mb y.sb x.db x.t (tellM y.q b) W') (k : Keeps [y.mb] W W') (fr : FreeUp o W) :
    SP σ m c K Z o D (M.set j { y with q := tellM y.q b }) W' ∧ Mv (Tag.side σ.tag) o W o W' ∧ FreeUp o W' := by
  obtain ⟨x, hx, m1, m2, m3, m4, m5, m6⟩ := h.mc j y hy
  obtain ⟨f1, f2⟩ := σ.ml _ _ _ _ _ _ m1
  have hn : ∀ z, o z ≠ .mac σ.tag j → z ∉ [y.mb] := fun z h1 hz => by simp at hz; subst hz; exact h1 m4
  have en := endN_set (y' := { y with q := tellM y.q b }) hy
  have e4 : (tellM y.q b).st = 4 ↔ y.q.st = 4 := by
    unfold tellM
    split
    · rename_i h2; cases b <;> simp [h2]
    · rfl
  have enm : endN (M.set j { y with q := tellM y.q b }) = endN M := by
    simp only [e4] at en; omega
  refine ⟨⟨σ.ck _ _ _ _ _ h.ct k (fun b hb => hn b (by rw [h.mt b hb]; simp)), h.mt, fun i x2 hx2 => ?_, fun j2 y2 hy2 => ?_⟩, Mv.of_keeps k (fun z hz => by simp at hz; subst hz; rw [m4]; simp [Tag.side]), fun z hz => fr z (by have := k.size; omega)⟩
  · obtain ⟨b1, b2, b3, b4⟩ := h.dc i x2 hx2
    have off : ∀ z, z ∈ x2.db :: x2.S → z ∉ [y.mb] := fun z hz => hn z (by rw [b3 z hz]; simp)
    exact ⟨σ.dk _ _ _ _ _ _ _ _ _ b1 k (off _ (by simp)) (fun z hz => off z (by simp [hz])), by rw [enm]; exact b2, b3, b4⟩
  · rcases set_get hy hy2 with ⟨rfl, rfl⟩ | ⟨hne, h9⟩
    · exact ⟨x, hx, a3 x hx, m2.tell b, by show (tellM y.q b).scans ≤ Z; rw [tell_sc8]; exact m3, m4, fun hs => m5 (tell_st8 hs), m6⟩
    · obtain ⟨x2, b1, b2, b3, b4, b5, b6, b7⟩ := h.mc j2 y2 h9
      exact ⟨x2, b1, σ.mkp _ _ _ _ _ _ _ _ b2 k (hn _ (by rw [b5]; simp; exact fun e => hne e.symm)) (fun hs => hn _ (by rw [b6 hs]; simp)), b3, b4, b5, b6, b7⟩
/-- A dictionary has changed. -/
theorem SP.dict (h : SP σ m c K Z o D M W) (fr : FreeUp o W) {i : Nat} {x : PD} (hx : D[i]? = some x) {S' : List Nat} {d' : Dic} {c' : C4}
    (a1 : σ.DA x.db x.t x.lo S' m d' W') (a2 : σ.CA m c' W') (k : Keeps (x.db :: (x.S ++ mS m)) W W') (g : Grew x.S W S') (hd : DicOk (K + endN M + 1) d') (hq : ∀ q, MacOk x.d q → MacOk d' q) :
    ∃ o', SP σ m c' (K + 1) Z o' (D.set i { x with S := S', d := d' }) M W' ∧ Mv (Tag.side σ.tag) o W o' W' ∧ FreeUp o' W' ∧ NewUp o o' W := by
  obtain ⟨d1, d2, d3, d4⟩ := h.dc _ x hx
  obtain ⟨e1, e2⟩ := σ.dl _ _ _ _ _ _ _ d1
  obtain ⟨e3, e4⟩ := σ.dl _ _ _ _ _ _ _ a1
  have hR : ∀ z, z ∈ x.db :: (x.S ++ mS m) → o z = .dic σ.tag i ∨ o z = .met σ.tag := by
    intro z hz
    simp only [List.mem_cons, List.mem_append] at hz
    rcases hz with rfl | hz | hz
    · exact .inl (d3 _ (by simp))
    · exact .inl (d3 z (by simp [hz]))
    · cases hm : m with
      | none => rw [hm] at hz; simp [mS] at hz
      | some b => rw [hm] at hz; simp [mS] at hz; subst hz; exact .inr (h.mt _ hm)
  have hn : ∀ z, o z ≠ .dic σ.tag i → o z ≠ .met σ.tag → z ∉ x.db :: (x.S ++ mS m) := by
    intro z h1 h2 hz
    rcases hR z hz with h9 | h9
    · exact h1 h9
    · exact h2 h9
  obtain ⟨o', ho'⟩ : ∃ o' : Nat → Tag, o' = fun z => if z < W.heap.size then o z else if z ∈ S' then .dic σ.tag i else .free := ⟨_, rfl⟩
  have old : ∀ z, z < W.heap.size → o' z = o z := fun z hz => by rw [ho']; simp [hz]
  have nD : ∀ z, z ∈ S' → o' z = .dic σ.tag i := fun z hz => by
    rcases g z hz with h9 | h9
    · have := d3 z (by simp [h9])
      rw [old z (e1 z (by simp [h9])).2]; exact this
    · rw [ho']; simp only [if_neg (show ¬ z < W.heap.size by omega), if_pos hz]
  refine ⟨o', ⟨a2, fun b hb => (old b (σ.cl _ _ _ h.ct b hb)).trans (h.mt b hb), fun i2 x2 hx2 => ?_, fun j2 y2 hy2 => ?_⟩, ⟨k.os, k.tape, k.output, k.size, old, fun z hz hp => k.block z hz (fun hq => ?_)⟩, fun z hz => ?_, fun z hz => ?_⟩
  · rcases set_get hx hx2 with ⟨rfl, rfl⟩ | ⟨hne, h9⟩
    · refine ⟨a1, hd.mono (by omega), fun z hz => ?_, d4⟩
      rcases List.mem_cons.1 hz with rfl | hz
      · exact (old _ (e1 _ (by simp)).2).trans (d3 _ (by simp))
      · exact nD z hz
    · obtain ⟨b1, b2, b3, b4⟩ := h.dc i2 x2 h9
      obtain ⟨b5, _⟩ := σ.dl _ _ _ _ _ _ _ b1
      have off : ∀ z, z ∈ x2.db :: x2.S → z ∉ x.db :: (x.S ++ mS m) := fun z hz => by
        have := b3 z hz
        exact hn z (by rw [this]; simp; exact fun e => hne e.symm) (by rw [this]; simp)
      exact ⟨σ.dk _ _ _ _ _ _ _ _ _ b1 k (off _ (by simp)) (fun z hz => off z (by simp [hz])), b2.mono (by omega), fun z hz => (old z (b5 z hz).2).trans (b3 z hz), b4⟩
  · obtain ⟨x2, b1, b2, b3, b4, b5, b6, b7⟩ := h.mc j2 y2 hy2
    obtain ⟨c1, c2⟩ := σ.ml _ _ _ _ _ _ b2
    have b8 := σ.mkp _ _ _ _ _ _ _ _ b2 k (hn _ (by rw [b5]; simp) (by rw [b5]; simp)) (fun hs => hn _ (by rw [b6 hs]; simp) (by rw [b6 hs]; simp))
    by_cases he : i = y2.i
    · rw [← he, hx] at b1; cases b1
      rw [← he]
      exact ⟨_, get_set hx, b8, hq _ b3, b4, (old _ c1).trans b5, fun hs => (old _ (c2 hs)).trans (b6 hs), b7⟩
    · exact ⟨x2, (get_set_ne he).trans b1, b8, b3, b4, (old _ c1).trans b5, fun hs => (old _ (c2 hs)).trans (b6 hs), b7⟩
  · rcases hR z hq with h9 | h9 <;> rw [h9] at hp <;> simp [Tag.side] at hp
  · have hs := k.size
    rw [ho']
    simp only [if_neg (show ¬ z < W.heap.size by omega)]
    rw [if_neg (fun hz' => by have := (e3 z (by simp [hz'])).2; omega)]
  · by_cases hz' : z < W.heap.size
    · rw [old z hz'] at hz; exact .inl hz
    · exact .inr (by omega)
/-- A machine more. -/
theorem SP.begin (h : SP σ m c K Z o D M W) (fr : FreeUp o W) {i : Nat} {x : PD} (hx : D[i]? = some x) {mb : Nat} {q : Mac} (hmb : W.heap.size ≤ mb) (a3 : ∀ sb, σ.MA mb sb x.db x.t q W') (hq : MacOk x.d q) (h0 : q.st = 0) (hs : q.scans = 0) (k : Keeps [] W W') :
    ∃ o', SP σ m c K Z o' D (M ++ [⟨mb, 0, q, i⟩]) W' ∧ Mv (Tag.side σ.tag) o W o' W' ∧ FreeUp o' W' ∧ NewUp o o' W := by
  obtain ⟨d1, d2, d3, d4⟩ := h.dc _ x hx
  obtain ⟨e1, e2⟩ := σ.dl _ _ _ _ _ _ _ d1
  obtain ⟨f3, f4⟩ := σ.ml _ _ _ _ _ _ (a3 0)
  obtain ⟨o', ho'⟩ : ∃ o' : Nat → Tag, o' = fun z => if z = mb then .mac σ.tag M.length else o z := ⟨_, rfl⟩
  have old : ∀ z, z < W.heap.size → o' z = o z := fun z hz => by rw [ho']; simp only [if_neg (show ¬ z = mb by omega)]
  have en : endN (M ++ [⟨mb, 0, q, i⟩]) = endN M := by unfold endN; simp [List.countP_append, h0]
  refine ⟨o', ⟨σ.ck _ _ _ _ _ h.ct k (by simp), fun b hb => (old b (σ.cl _ _ _ h.ct b hb)).trans (h.mt b hb), fun i2 x2 hx2 => ?_, fun j2 y2 hy2 => ?_⟩, ⟨k.os, k.tape, k.output, k.size, old, fun z hz hp => k.block z hz (by simp)⟩, fun z hz => ?_, fun z hz => ?_⟩
  · obtain ⟨b1, b2, b3, b4⟩ := h.dc i2 x2 hx2
    obtain ⟨b5, _⟩ := σ.dl _ _ _ _ _ _ _ b1
    exact ⟨σ.dk _ _ _ _ _ _ _ _ _ b1 k (by simp) (by simp), by rw [en]; exact b2, fun z hz => (old z (b5 z hz).2).trans (b3 z hz), b4⟩
  · rw [List.getElem?_append] at hy2
    split at hy2
    · obtain ⟨x2, b1, b2, b3, b4, b5, b6, b7⟩ := h.mc j2 y2 hy2
      obtain ⟨c1, c2⟩ := σ.ml _ _ _ _ _ _ b2
      exact ⟨x2, b1, σ.mkp _ _ _ _ _ _ _ _ b2 k (by simp) (by simp), b3, b4, (old _ c1).trans b5, fun hs => (old _ (c2 hs)).trans (b6 hs), b7⟩
    · rename_i hge
      have hj : j2 = M.length := by
        rcases Nat.lt_or_ge (j2 - M.length) 1 with h9 | h9
        · omega
        · rw [List.getElem?_eq_none (by simpa using h9)] at hy2; cases hy2
      subst hj
      simp at hy2
      subst hy2
      refine ⟨x, hx, a3 0, hq, by show q.scans ≤ Z; omega, by rw [ho']; simp, fun hs => absurd h0 hs, ?_⟩
      have := e1 x.db (by simp)
      show x.lo ≤ mb; omega
  · rw [ho']; simp only [if_neg (show ¬ z = mb by omega)]; exact fr z (by have := k.size; omega)
  · by_cases he : z = mb
    · exact .inr (by omega)
    · rw [ho'] at hz; simp only [if_neg he] at hz; exact .inl hz
/-- A dictionary more. -/
theorem SP.copy (h : SP σ m c K Z o D M W) (fr : FreeUp o W) {db t lo : Nat} {S : List Nat} {d : Dic} {c' : C4} (a1 : σ.DA db t lo S m d W') (hlo : W.heap.size ≤ lo) (a2 : σ.CA m c' W') (k : Keeps (mS m) W W') (hd : DicOk (K + endN M) d) :
    ∃ o', SP σ m c' K Z o' (D ++ [⟨db, t, lo, S, d⟩]) M W' ∧ Mv (Tag.side σ.tag) o W o' W' ∧ FreeUp o' W' ∧ NewUp o o' W := by
  obtain ⟨e1, e2⟩ := σ.dl _ _ _ _ _ _ _ a1
  obtain ⟨o', ho'⟩ : ∃ o' : Nat → Tag, o' = fun z => if z ∈ db :: S then .dic σ.tag D.length else o z := ⟨_, rfl⟩
  have new : ∀ z, z ∈ db :: S → W.heap.size ≤ z := fun z hz => by have := e1 z hz; omega
  have old : ∀ z, z < W.heap.size → o' z = o z := fun z hz => by rw [ho']; simp only [if_neg (show ¬ z ∈ db :: S from fun h9 => by have := new z h9; omega)]
  have hR : ∀ z, z ∈ mS m → o z = .met σ.tag := by
    intro z hz
    cases hm : m with
    | none => rw [hm] at hz; simp [mS] at hz
    | some b => rw [hm] at hz; simp [mS] at hz; subst hz; exact h.mt _ hm
  have hn : ∀ z, o z ≠ .met σ.tag → z ∉ mS m := fun z h1 h2 => h1 (hR z h2)
  refine ⟨o', ⟨a2, fun b hb => (old b (σ.cl _ _ _ h.ct b hb)).trans (h.mt b hb), fun i2 x2 hx2 => ?_, fun j2 y2 hy2 => ?_⟩, ⟨k.os, k.tape, k.output, k.size, old, fun z hz hp => k.block z hz (fun hq => by rw [hR z hq] at hp; simp [Tag.side] at hp)⟩, fun z hz => ?_, fun z hz => ?_⟩
  · rw [List.getElem?_append] at hx2
    split at hx2
    · obtain ⟨b1, b2, b3, b4⟩ := h.dc i2 x2 hx2
      obtain ⟨b5, _⟩ := σ.dl _ _ _ _ _ _ _ b1
      have off : ∀ z, z ∈ x2.db :: x2.S → z ∉ mS m := fun z hz => hn z (by rw [b3 z hz]; simp)
      exact ⟨σ.dk _ _ _ _ _ _ _ _ _ b1 k (off _ (by simp)) (fun z hz => off z (by simp [hz])), b2, fun z hz => (old z (b5 z hz).2).trans (b3 z hz), b4⟩
    · rename_i hge
      have hj : i2 = D.length := by
        rcases Nat.lt_or_ge (i2 - D.length) 1 with h9 | h9
        · omega
        · rw [List.getElem?_eq_none (by simpa using h9)] at hx2; cases hx2
      subst hj
      simp at hx2
      subst hx2
      exact ⟨a1, hd, fun z hz => by rw [ho']; simp only [if_pos hz], fun b hb => by have := σ.cl _ _ _ h.ct b hb; show b < lo; omega⟩
  · obtain ⟨x2, b1, b2, b3, b4, b5, b6, b7⟩ := h.mc j2 y2 hy2
    obtain ⟨c1, c2⟩ := σ.ml _ _ _ _ _ _ b2
    exact ⟨x2, by rw [List.getElem?_append_left (List.getElem?_eq_some_iff.1 b1).1]; exact b1, σ.mkp _ _ _ _ _ _ _ _ b2 k (hn _ (by rw [b5]; simp)) (fun hs => hn _ (by rw [b6 hs]; simp)), b3, b4, (old _ c1).trans b5, fun hs => (old _ (c2 hs)).trans (b6 hs), b7⟩
  · rw [ho']; simp only [if_neg (show ¬ z ∈ db :: S from fun h9 => by have := (e1 z h9).2; omega)]; exact fr z (by have := k.size; omega)
  · by_cases he : z ∈ db :: S
    · exact .inr (new z he)
    · rw [ho'] at hz; simp only [if_neg he] at hz; exact .inl hz
end
end Go.Proofs.YtcakdmapnmneoaaGreat
