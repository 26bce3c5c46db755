/- Who owns which block: dictionaries and machines of one side, in plain lists (chapter 8's Two). -/
import Derived.Test.YtcakdmapnmneoaaGreatDictO
import Derived.Test.YtcakdmapnmneoaaGreatRefI
namespace Go.Proofs.YtcakdmapnmneoaaGreat
open Go.RowKit
set_option linter.unusedVariables false
set_option linter.unusedSimpArgs false

/-- Whose a block is. -/
inductive Tag where
  | free
  | met (s : Bool)
  | dic (s : Bool) (i : Nat)
  | mac (s : Bool) (j : Nat)
  | skr (s : Bool) (j : Nat)
  | two (k : Nat)
  | rowA (k : Nat)
  | rowB (k : Nat)
deriving DecidableEq
def Tag.side (s : Bool) : Tag → Bool
  | .met s' => s == s'
  | .dic s' _ => s == s'
  | .mac s' _ => s == s'
  | .skr s' _ => s == s'
  | _ => false
/-- Only blocks of some owners have changed, and no old block has another owner. -/
structure Mv (p : Tag → Bool) (o : Nat → Tag) (W : World) (o' : Nat → Tag) (W' : World) : Prop where
  os : W'.os = W.os
  tape : W'.tape = W.tape
  output : W'.output = W.output
  size : W.heap.size ≤ W'.heap.size
  old : ∀ z, z < W.heap.size → o' z = o z
  blk : ∀ z, z < W.heap.size → p (o z) = false → W'.heap[z]? = W.heap[z]?
theorem Mv.refl (p : Tag → Bool) (o : Nat → Tag) (W : World) : Mv p o W o W := ⟨rfl, rfl, rfl, Nat.le_refl _, fun _ _ => rfl, fun _ _ _ => rfl⟩
theorem Mv.mono {p q : Tag → Bool} {o o' : Nat → Tag} {W W' : World} (h : Mv p o W o' W') (hq : ∀ t, q t = false → p t = false) : Mv q o W o' W' := ⟨h.os, h.tape, h.output, h.size, h.old, fun z hz hp => h.blk z hz (hq _ hp)⟩
theorem Mv.trans {p : Tag → Bool} {o o' o'' : Nat → Tag} {W W' W'' : World} (h : Mv p o W o' W') (k : Mv p o' W' o'' W'') : Mv p o W o'' W'' :=
  ⟨k.os.trans h.os, k.tape.trans h.tape, k.output.trans h.output, Nat.le_trans h.size k.size, fun z hz => (k.old z (Nat.lt_of_lt_of_le hz h.size)).trans (h.old z hz),
    fun z hz hp => (k.blk z (Nat.lt_of_lt_of_le hz h.size) (by rw [h.old z hz]; exact hp)).trans (h.blk z hz hp)⟩
theorem Mv.of_keeps {p : Tag → Bool} {o : Nat → Tag} {W W' : World} {S : List Nat} (k : Keeps S W W') (hS : ∀ z, z ∈ S → p (o z) = true) : Mv p o W o W' :=
  ⟨k.os, k.tape, k.output, k.size, fun _ _ => rfl, fun z hz hp => k.block z hz (fun hx => by rw [hS z hx] at hp; cases hp)⟩
def FrL (p : Tag → Bool) (o : Nat → Tag) (W : World) : List Nat := (List.range W.heap.size).filter fun z => p (o z)
theorem Mv.keeps {p : Tag → Bool} {o o' : Nat → Tag} {W W' : World} (h : Mv p o W o' W') : Keeps (FrL p o W) W W' :=
  ⟨h.os, h.tape, h.output, h.size, fun z hz hn => h.blk z hz (by
    cases hp : p (o z)
    · rfl
    · exact absurd (by unfold FrL; simp; exact ⟨hz, hp⟩) hn)⟩
theorem not_frL {p : Tag → Bool} {o : Nat → Tag} {W : World} {z : Nat} (h : p (o z) = false) : z ∉ FrL p o W := by
  unfold FrL; simp [h]
theorem Mv.below {p : Tag → Bool} {o o' : Nat → Tag} {W W' : World} (h : Mv p o W o' W') {B : Nat} (hB : B ≤ W.heap.size) (hp : ∀ z, p (o z) = true → B ≤ z) : Below B W W' :=
  ⟨h.os, h.tape, h.output, h.size, fun z hz => h.blk z (by omega) (by
    cases hq : p (o z)
    · rfl
    · have := hp z hq; omega)⟩

/-- A dictionary in memory; a machine in memory, of the dictionary number i. -/
structure PD where
  db : Nat
  t : Nat
  lo : Nat
  S : List Nat
  d : Dic
structure PM where
  mb : Nat
  sb : Nat
  q : Mac
  i : Nat
/-- The program, or the document. -/
structure Side where
  tag : Bool
  DA : Nat → Nat → Nat → List Nat → Option Nat → Dic → World → Prop
  MA : Nat → Nat → Nat → Nat → Mac → World → Prop
  CA : Option Nat → C4 → World → Prop
  dk : ∀ db t lo S m d W W' R, DA db t lo S m d W → Keeps R W W' → db ∉ R → (∀ x, x ∈ S → x ∉ R) → DA db t lo S m d W'
  dl : ∀ db t lo S m d W, DA db t lo S m d W → (∀ x, x ∈ db :: S → lo ≤ x ∧ x < W.heap.size) ∧ db ∉ S
  mkp : ∀ mb sb db t q W W' R, MA mb sb db t q W → Keeps R W W' → mb ∉ R → (q.st ≠ 0 → sb ∉ R) → MA mb sb db t q W'
  ml : ∀ mb sb db t q W, MA mb sb db t q W → mb < W.heap.size ∧ (q.st ≠ 0 → sb < W.heap.size)
  ck : ∀ m c W W' R, CA m c W → Keeps R W W' → (∀ b, m = some b → b ∉ R) → CA m c W'
  cl : ∀ m c W, CA m c W → ∀ b, m = some b → b < W.heap.size
def sideP : Side where
  tag := true
  DA db t lo S m d W := DicAt db t lo S (mV m) d W
  MA := MacAt
  CA := MtrAt
  dk _ _ _ _ _ _ _ _ _ h k h1 h2 := h.keeps k h1 h2
  dl _ _ _ _ _ _ _ h := ⟨fun x hx => by
    rcases List.mem_cons.1 hx with rfl | hx
    · exact ⟨h.l, lt_of_block h.b⟩
    · exact h.t.foot x hx, h.n⟩
  mkp _ _ _ _ _ _ _ _ h k h1 h2 := by
    obtain ⟨ev, a, b, c⟩ := h
    exact ⟨ev, k.has a h1, b, fun hs => (c hs).keeps k (h2 hs)⟩
  ml _ _ _ _ _ _ h := by
    obtain ⟨ev, a, b, c⟩ := h
    exact ⟨lt_of_block a, fun hs => by obtain ⟨_, _, h9, _⟩ := c hs; exact lt_of_block h9⟩
  ck _ _ _ _ _ h k h1 := h.keeps k h1
  cl _ _ _ h b hb := lt_of_block (h b hb)
def sideR : Side where
  tag := false
  DA := RDicAt
  MA := RMacAt
  CA := CtrAt
  dk _ _ _ _ _ _ _ _ _ h k h1 h2 := h.keeps k h1 h2
  dl _ _ _ _ _ _ _ h := ⟨h.foot, h.n⟩
  mkp _ _ _ _ _ _ _ _ h k h1 h2 := h.keeps k h1 h2
  ml _ _ _ _ _ _ h := by
    obtain ⟨at_, same, a, b, b2, c⟩ := h
    exact ⟨lt_of_block a, fun hs => by obtain ⟨_, _, h9, _⟩ := c hs; exact lt_of_block h9⟩
  ck _ _ _ _ _ h k h1 := h.keeps k h1
  cl _ _ _ h b hb := lt_of_block (h b hb)
/-- How many machines have ended. -/
def endN (M : List PM) : Nat := M.countP fun y => y.q.st == 4
theorem endN_le (M : List PM) : endN M ≤ M.length := List.countP_le_length
/-- One side: its meter, dictionaries, machines. -/
structure SP (σ : Side) (m : Option Nat) (c : C4) (K Z : Nat) (o : Nat → Tag) (D : List PD) (M : List PM) (W : World) : Prop where
  ct : σ.CA m c W
  mt : ∀ b, m = some b → o b = .met σ.tag
  dc : ∀ (i : Nat) (x : PD), D[i]? = some x → σ.DA x.db x.t x.lo x.S m x.d W ∧ DicOk (K + endN M) x.d ∧ (∀ z, z ∈ x.db :: x.S → o z = .dic σ.tag i) ∧ (∀ b, m = some b → b < x.lo)
  mc : ∀ (j : Nat) (y : PM), M[j]? = some y → ∃ x, D[y.i]? = some x ∧ σ.MA y.mb y.sb x.db x.t y.q W ∧ MacOk x.d y.q ∧ y.q.scans ≤ Z ∧ o y.mb = .mac σ.tag j ∧ (y.q.st ≠ 0 → o y.sb = .skr σ.tag j) ∧ x.lo ≤ y.mb
section
variable {σ : Side} {m : Option Nat} {c : C4} {K Z : Nat} {o o' : Nat → Tag} {D : List PD} {M : List PM} {W W' : World}
theorem SP.mono {K' Z' : Nat} (h : SP σ m c K Z o D M W) (hK : K ≤ K') (hZ : Z ≤ Z') : SP σ m c K' Z' o D M W :=
  ⟨h.ct, h.mt, fun i x hx => by obtain ⟨a, b, d⟩ := h.dc i x hx; exact ⟨a, b.mono (by omega), d⟩, fun j y hy => by obtain ⟨x, a, b, e, f, g⟩ := h.mc j y hy; exact ⟨x, a, b, e, by omega, g⟩⟩
/-- Others' blocks alone have changed. -/
theorem SP.mv {p : Tag → Bool} (h : SP σ m c K Z o D M W) (k : Mv p o W o' W') (hp : ∀ t : Tag, t.side σ.tag = true → p t = false) : SP σ m c K Z o' D M W' := by
  have kk := k.keeps
  have nD : ∀ (i : Nat) (x : PD), D[i]? = some x → ∀ z, z ∈ x.db :: x.S → z ∉ FrL p o W ∧ z < W.heap.size := fun i x hx z hz => by
    obtain ⟨a, b, d, _⟩ := h.dc i x hx
    exact ⟨not_frL (hp _ (by rw [d z hz]; simp [Tag.side])), ((σ.dl _ _ _ _ _ _ _ a).1 z hz).2⟩
  refine ⟨σ.ck _ _ _ _ _ h.ct kk (fun b hb => not_frL (hp _ (by rw [h.mt b hb]; simp [Tag.side]))), fun b hb => (k.old b (σ.cl _ _ _ h.ct b hb)).trans (h.mt b hb), fun i x hx => ?_, fun j y hy => ?_⟩
  · obtain ⟨a, b, d, e⟩ := h.dc i x hx
    exact ⟨σ.dk _ _ _ _ _ _ _ _ _ a kk (nD i x hx _ (by simp)).1 (fun z hz => (nD i x hx z (by simp [hz])).1), b, fun z hz => (k.old z (nD i x hx z hz).2).trans (d z hz), e⟩
  · obtain ⟨x, a, b, e, f, g, i, l⟩ := h.mc j y hy
    obtain ⟨b1, b2⟩ := σ.ml _ _ _ _ _ _ b
    exact ⟨x, a, σ.mkp _ _ _ _ _ _ _ _ b kk (not_frL (hp _ (by rw [g]; simp [Tag.side]))) (fun hs => not_frL (hp _ (by rw [i hs]; simp [Tag.side]))), e, f, (k.old _ b1).trans g, fun hs => (k.old _ (b2 hs)).trans (i hs), l⟩
/-- Every owned block is there. -/
theorem SP.lt (h : SP σ m c K Z o D M W) : (∀ b, m = some b → b < W.heap.size) ∧ (∀ (i : Nat) (x : PD), D[i]? = some x → ∀ z, z ∈ x.db :: x.S → z < W.heap.size) ∧ (∀ (j : Nat) (y : PM), M[j]? = some y → y.mb < W.heap.size ∧ (y.q.st ≠ 0 → y.sb < W.heap.size)) :=
  ⟨σ.cl _ _ _ h.ct, fun i x hx z hz => ((σ.dl _ _ _ _ _ _ _ (h.dc i x hx).1).1 z hz).2, fun j y hy => by obtain ⟨x, a, b, _⟩ := h.mc j y hy; exact σ.ml _ _ _ _ _ _ b⟩
end
/-- A changed dictionary has a later version, and its machine has ended. -/
theorem scan_end (d : Dic) (q : Mac) : scanD d q = d ∨ (scanM d q).st = 4 := by
  unfold scanD scanM
  simp only
  split
  · exact .inr rfl
  · split
    · exact .inr rfl
    · exact .inl rfl
theorem step_end (d : Dic) (q : Mac) : stepD d q = d ∨ q.st ≠ 4 ∧ (stepM d q).st = 4 := by
  unfold stepD stepM
  split
  · exact .inl rfl
  · rename_i h1
    have h4 : q.st ≠ 4 := fun h => h1 (.inl h)
    split
    · rcases scan_end d (q.anew d) with h | h
      · exact .inl h
      · exact .inr ⟨h4, h⟩
    · split
      · exact .inr ⟨h4, rfl⟩
      · rcases scan_end d q with h | h
        · exact .inl h
        · exact .inr ⟨h4, h⟩
theorem step_over (d : Dic) (q : Mac) (h : q.st = 4) : stepM d q = q ∧ stepD d q = d := by
  unfold stepM stepD; rw [if_pos (.inl h), if_pos (.inl h)]; exact ⟨rfl, rfl⟩
theorem endN_set {M : List PM} {j : Nat} {y y' : PM} (h : M[j]? = some y) : endN (M.set j y') + (if y.q.st = 4 then 1 else 0) = endN M + (if y'.q.st = 4 then 1 else 0) := by
  obtain ⟨hj, rfl⟩ := List.getElem?_eq_some_iff.1 h
  unfold endN
  rw [List.countP_set hj]
  have hle : (if (M[j].q.st == 4) = true then 1 else 0) ≤ List.countP (fun y => y.q.st == 4) M := by
    split
    · rename_i hp; exact List.countP_pos_iff.2 ⟨_, List.getElem_mem hj, hp⟩
    · omega
  simp only [beq_iff_eq] at hle ⊢
  split <;> split <;> simp_all <;> omega
theorem scan_sc8 (d : Dic) (q : Mac) : (scanM d q).scans = q.scans := by
  unfold scanM; simp only
  split
  · rfl
  · split <;> rfl
theorem step_sc8 (d : Dic) (q : Mac) : (stepM d q).scans ≤ q.scans + 1 := by
  unfold stepM
  split
  · omega
  · split
    · rw [scan_sc8]; exact Nat.le_refl _
    · split
      · show q.scans ≤ _; omega
      · rw [scan_sc8]; omega
theorem tell_sc8 (q : Mac) (b : Bool) : (tellM q b).scans = q.scans := by unfold tellM; split <;> rfl
theorem tell_st8 {q : Mac} {b : Bool} (h : (tellM q b).st ≠ 0) : q.st ≠ 0 := by
  unfold tellM at h
  split at h
  · rename_i h9; omega
  · exact h
end Go.Proofs.YtcakdmapnmneoaaGreat
