/- Who owns which block: a family and its namespaces, of the program or of the document (chapter 10). -/
import Derived.Test.YtajmfenfajbakaaShOf
namespace Go.Proofs.Ytajmfenfajbakaa
open Go.RowKit
set_option linter.unusedVariables false
set_option linter.unusedSimpArgs false

/-- Whose a block is: true is the program's side. -/
inductive Tg10 where
  | free
  | met (s : Bool)
  | fam (s : Bool)
  | sp (s : Bool) (i : Nat)
  | two (k : Nat)
  | row (k : Nat)
deriving DecidableEq
def Tg10.side (s : Bool) : Tg10 → Bool
  | .met s' => s == s'
  | .fam s' => s == s'
  | .sp s' _ => s == s'
  | _ => false
/-- Only blocks of some owners have changed, and no old block has another owner. -/
structure MvT (p : Tg10 → Bool) (o : Nat → Tg10) (W : World) (o' : Nat → Tg10) (W' : World) : Prop where
  os : W'.os = W.os
  tape : W'.tape = W.tape
  output : W'.output = W.output
  size : W.heap.size ≤ W'.heap.size
  old : ∀ z, z < W.heap.size → o' z = o z
  blk : ∀ z, z < W.heap.size → p (o z) = false → W'.heap[z]? = W.heap[z]?
theorem MvT.refl (p : Tg10 → Bool) (o : Nat → Tg10) (W : World) : MvT p o W o W := ⟨rfl, rfl, rfl, Nat.le_refl _, fun _ _ => rfl, fun _ _ _ => rfl⟩
theorem MvT.mono {p q : Tg10 → Bool} {o o' : Nat → Tg10} {W W' : World} (h : MvT p o W o' W') (hq : ∀ t, q t = false → p t = false) : MvT q o W o' W' := ⟨h.os, h.tape, h.output, h.size, h.old, fun z hz hp => h.blk z hz (hq _ hp)⟩
theorem MvT.trans {p : Tg10 → Bool} {o o' o'' : Nat → Tg10} {W W' W'' : World} (h : MvT p o W o' W') (k : MvT p o' W' o'' W'') : MvT p o W o'' W'' :=
  ⟨k.os.trans h.os, k.tape.trans h.tape, k.output.trans h.output, Nat.le_trans h.size k.size, fun z hz => (k.old z (Nat.lt_of_lt_of_le hz h.size)).trans (h.old z hz),
    fun z hz hp => (k.blk z (Nat.lt_of_lt_of_le hz h.size) (by rw [h.old z hz]; exact hp)).trans (h.blk z hz hp)⟩
theorem MvT.of_keeps {p : Tg10 → Bool} {o : Nat → Tg10} {W W' : World} {S : List Nat} (k : Keeps S W W') (hS : ∀ z, z ∈ S → p (o z) = true) : MvT p o W o W' :=
  ⟨k.os, k.tape, k.output, k.size, fun _ _ => rfl, fun z hz hp => k.block z hz (fun hx => by rw [hS z hx] at hp; cases hp)⟩
def FrT (p : Tg10 → Bool) (o : Nat → Tg10) (W : World) : List Nat := (List.range W.heap.size).filter fun z => p (o z)
theorem MvT.keeps {p : Tg10 → Bool} {o o' : Nat → Tg10} {W W' : World} (h : MvT p o W o' W') : Keeps (FrT p o W) W W' :=
  ⟨h.os, h.tape, h.output, h.size, fun z hz hn => h.blk z hz (by
    cases hp : p (o z)
    · rfl
    · exact absurd (by unfold FrT; simp; exact ⟨hz, hp⟩) hn)⟩
theorem not_frT {p : Tg10 → Bool} {o : Nat → Tg10} {W : World} {z : Nat} (h : p (o z) = false) : z ∉ FrT p o W := by
  unfold FrT; simp [h]
theorem MvT.below {p : Tg10 → Bool} {o o' : Nat → Tg10} {W W' : World} (h : MvT p o W o' W') {B : Nat} (hB : B ≤ W.heap.size) (hp : ∀ z, p (o z) = true → B ≤ z) : Below B W W' :=
  ⟨h.os, h.tape, h.output, h.size, fun z hz => h.blk z (by omega) (by
    cases hq : p (o z)
    · rfl
    · have := hp z hq; omega)⟩
def FreeT (o : Nat → Tg10) (W : World) : Prop := ∀ z, W.heap.size ≤ z → o z = .free
def NewT10 (o o' : Nat → Tg10) (W : World) : Prop := ∀ z, o' z ≠ .free → o z ≠ .free ∨ W.heap.size ≤ z
theorem FreeT.quiet {o : Nat → Tg10} {W W' : World} (h : FreeT o W) (k : W.heap.size ≤ W'.heap.size) : FreeT o W' := fun z hz => h z (by omega)

/-- The program, or the document. -/
structure Side10 where
  tag : Bool
  FA : Nat → Nat → List Nat → Option Nat → Fam → World → Prop
  SA : Nat → Nat → Nat → List Nat → Option Nat → Way10 → Nat → World → Prop
  CA : Option Nat → C4 → World → Prop
  fk : ∀ fb lo S m f W W' R, FA fb lo S m f W → Keeps R W W' → (∀ z, z ∈ S → z ∉ R) → FA fb lo S m f W'
  fl : ∀ fb lo S m f W, FA fb lo S m f W → ∀ z, z ∈ S → lo ≤ z ∧ z < W.heap.size
  sk : ∀ fb sb lo S m wy ver W W' R, SA fb sb lo S m wy ver W → Keeps R W W' → (∀ z, z ∈ S → z ∉ R) → SA fb sb lo S m wy ver W'
  sl : ∀ fb sb lo S m wy ver W, SA fb sb lo S m wy ver W → ∀ z, z ∈ S → lo ≤ z ∧ z < W.heap.size
  ck : ∀ m c W W' R, CA m c W → Keeps R W W' → (∀ b, m = some b → b ∉ R) → CA m c W'
  cl : ∀ m c W, CA m c W → ∀ b, m = some b → b < W.heap.size
def sideP10 : Side10 where
  tag := true
  FA := FA10
  SA := SA10
  CA := MtrAt
  fk _ _ _ _ _ _ _ _ h k hd := h.keeps k hd
  fl _ _ _ _ _ _ h := h.foot
  sk _ _ _ _ _ _ _ _ _ _ h k hd := h.keeps k hd
  sl _ _ _ _ _ _ _ _ h := h.foot
  ck _ _ _ _ _ h k hd := h.keeps k hd
  cl _ _ _ h b hb := lt_of_block (h b hb)
/-- Where a namespace lies, how it is kept, its version. -/
structure PS10 where
  sb : Nat
  wy : Way10
  ver : Nat
/-- One side: its meter, family, namespaces. -/
structure SJ (σ : Side10) (m : Option Nat) (lo fb : Nat) (f : Fam) (c : C4) (o : Nat → Tg10) (L : List PS10) (W : World) : Prop where
  ct : σ.CA m c W
  mt : ∀ b, m = some b → b < lo ∧ o b = .met σ.tag
  fm : ∃ S, σ.FA fb lo S m f W ∧ ∀ z, z ∈ S → o z = .fam σ.tag
  sp : ∀ (i : Nat) (x : PS10), L[i]? = some x → ∃ S, σ.SA fb x.sb lo S m x.wy x.ver W ∧ ∀ z, z ∈ S → o z = .sp σ.tag i
section
variable {σ : Side10} {m : Option Nat} {lo fb : Nat} {f : Fam} {c : C4} {o o' : Nat → Tg10} {L : List PS10} {W W' : World}
theorem SJ.mS (h : SJ σ m lo fb f c o L W) : ∀ z, z ∈ mS m → o z = .met σ.tag := fun z hz => by
  cases hm : m with
  | none => rw [hm] at hz; simp [Go.Proofs.Ytajmfenfajbakaa.mS] at hz
  | some b => rw [hm] at hz; simp [Go.Proofs.Ytajmfenfajbakaa.mS] at hz; subst hz; exact (h.mt _ hm).2
/-- Others' blocks alone have changed. -/
theorem SJ.mv {p : Tg10 → Bool} (h : SJ σ m lo fb f c o L W) (k : MvT p o W o' W') (hp : ∀ t : Tg10, t.side σ.tag = true → p t = false) : SJ σ m lo fb f c o' L W' := by
  have kk := k.keeps
  obtain ⟨S, h1, h2⟩ := h.fm
  refine ⟨σ.ck _ _ _ _ _ h.ct kk (fun b hb => not_frT (hp _ (by rw [(h.mt b hb).2]; simp [Tg10.side]))), fun b hb => ⟨(h.mt b hb).1, (k.old b (σ.cl _ _ _ h.ct b hb)).trans (h.mt b hb).2⟩,
    ⟨S, σ.fk _ _ _ _ _ _ _ _ h1 kk (fun z hz => not_frT (hp _ (by rw [h2 z hz]; simp [Tg10.side]))), fun z hz => (k.old z (σ.fl _ _ _ _ _ _ h1 z hz).2).trans (h2 z hz)⟩, fun i x hx => ?_⟩
  obtain ⟨R, r1, r2⟩ := h.sp i x hx
  exact ⟨R, σ.sk _ _ _ _ _ _ _ _ _ _ r1 kk (fun z hz => not_frT (hp _ (by rw [r2 z hz]; simp [Tg10.side]))), fun z hz => (k.old z (σ.sl _ _ _ _ _ _ _ _ r1 z hz).2).trans (r2 z hz)⟩
theorem SJ.quiet (h : SJ σ m lo fb f c o L W) (k : Keeps [] W W') : SJ σ m lo fb f c o L W' := by
  obtain ⟨S, h1, h2⟩ := h.fm
  refine ⟨σ.ck _ _ _ _ _ h.ct k (by simp), h.mt, ⟨S, σ.fk _ _ _ _ _ _ _ _ h1 k (by simp), h2⟩, fun i x hx => ?_⟩
  obtain ⟨R, r1, r2⟩ := h.sp i x hx
  exact ⟨R, σ.sk _ _ _ _ _ _ _ _ _ _ r1 k (by simp), r2⟩
/-- Only the counts have changed. -/
theorem SJ.met (h : SJ σ m lo fb f c o L W) {c' : C4} (k : Keeps (Go.Proofs.Ytajmfenfajbakaa.mS m) W W') (hc : σ.CA m c' W') : SJ σ m lo fb f c' o L W' ∧ MvT (Tg10.side σ.tag) o W o W' := by
  obtain ⟨S, h1, h2⟩ := h.fm
  refine ⟨⟨hc, h.mt, ⟨S, σ.fk _ _ _ _ _ _ _ _ h1 k (fun z hz hy => by have := h.mS z hy; rw [h2 z hz] at this; simp at this), h2⟩, fun i x hx => ?_⟩, MvT.of_keeps k (fun z hz => by rw [h.mS z hz]; simp [Tg10.side])⟩
  obtain ⟨R, r1, r2⟩ := h.sp i x hx
  exact ⟨R, σ.sk _ _ _ _ _ _ _ _ _ _ r1 k (fun z hz hy => by have := h.mS z hy; rw [r2 z hz] at this; simp at this), r2⟩
theorem set_get10 {α : Type} {l : List α} {i j : Nat} {a b x : α} (hx : l[i]? = some x) (h : (l.set i a)[j]? = some b) : (i = j ∧ b = a) ∨ (i ≠ j ∧ l[j]? = some b) := by
  rw [List.getElem?_set] at h
  split at h
  · rename_i e
    split at h
    · simp at h; exact .inl ⟨e, h.symm⟩
    · cases h
  · rename_i e; exact .inr ⟨e, h⟩
/-- A call on one namespace, which may change it and the family. -/
theorem SJ.did (h : SJ σ m lo fb f c o L W) (fr : FreeT o W) {i : Nat} {x : PS10} (hx : L[i]? = some x) {SF SS SF' SS' : List Nat} {f' : Fam} {wy' : Way10} {ver' : Nat} {c' : C4}
    (hSF : ∀ z, z ∈ SF → o z = .fam σ.tag) (hSFl : ∀ z, z ∈ SF → z < W.heap.size) (hSS : ∀ z, z ∈ SS → o z = .sp σ.tag i) (hSSl : ∀ z, z ∈ SS → z < W.heap.size)
    (a1 : σ.FA fb lo SF' m f' W') (a2 : σ.SA fb x.sb lo SS' m wy' ver' W') (a3 : σ.CA m c' W') (k : Keeps (SF ++ SS ++ Go.Proofs.Ytajmfenfajbakaa.mS m) W W') (g1 : Grew SF W SF') (g2 : Grew SS W SS') (d : ∀ z, z ∈ SF' → z ∉ SS') :
    ∃ o', SJ σ m lo fb f' c' o' (L.set i { x with wy := wy', ver := ver' }) W' ∧ MvT (Tg10.side σ.tag) o W o' W' ∧ FreeT o' W' ∧ NewT10 o o' W := by
  have hR : ∀ z, z ∈ SF ++ SS ++ Go.Proofs.Ytajmfenfajbakaa.mS m → o z = .fam σ.tag ∨ o z = .sp σ.tag i ∨ o z = .met σ.tag := by
    intro z hz
    simp only [List.mem_append] at hz
    rcases hz with (hz | hz) | hz
    · exact .inl (hSF z hz)
    · exact .inr (.inl (hSS z hz))
    · exact .inr (.inr (h.mS z hz))
  have hn : ∀ z, o z ≠ .fam σ.tag → o z ≠ .sp σ.tag i → o z ≠ .met σ.tag → z ∉ SF ++ SS ++ Go.Proofs.Ytajmfenfajbakaa.mS m := by
    intro z h1 h2 h3 hz
    rcases hR z hz with h9 | h9 | h9
    · exact h1 h9
    · exact h2 h9
    · exact h3 h9
  obtain ⟨o', ho'⟩ : ∃ o' : Nat → Tg10, o' = fun z => if z < W.heap.size then o z else if z ∈ SF' then .fam σ.tag else if z ∈ SS' then .sp σ.tag i else .free := ⟨_, rfl⟩
  have old : ∀ z, z < W.heap.size → o' z = o z := fun z hz => by rw [ho']; simp [hz]
  have nF : ∀ z, z ∈ SF' → o' z = .fam σ.tag := fun z hz => by
    rcases g1 z hz with h9 | h9
    · rw [old z (hSFl z h9)]; exact hSF z h9
    · rw [ho']; simp only [if_neg (show ¬ z < W.heap.size by omega), if_pos hz]
  have nS : ∀ z, z ∈ SS' → o' z = .sp σ.tag i := fun z hz => by
    rcases g2 z hz with h9 | h9
    · rw [old z (hSSl z h9)]; exact hSS z h9
    · rw [ho']; simp only [if_neg (show ¬ z < W.heap.size by omega)]
      rw [if_neg (fun h8 => d z h8 hz), if_pos hz]
  refine ⟨o', ⟨a3, fun b hb => ⟨(h.mt b hb).1, (old b (σ.cl _ _ _ h.ct b hb)).trans (h.mt b hb).2⟩, ⟨SF', a1, nF⟩, fun j y hy => ?_⟩, ⟨k.os, k.tape, k.output, k.size, old, fun z hz hp => k.block z hz (fun hq => ?_)⟩, fun z hz => ?_, fun z hz => ?_⟩
  · rcases set_get10 hx hy with ⟨rfl, rfl⟩ | ⟨hne, h9⟩
    · exact ⟨SS', a2, nS⟩
    · obtain ⟨R, r1, r2⟩ := h.sp j y h9
      refine ⟨R, σ.sk _ _ _ _ _ _ _ _ _ _ r1 k (fun z hz => hn z (by rw [r2 z hz]; simp) (by rw [r2 z hz]; simp; exact fun e => hne e.symm) (by rw [r2 z hz]; simp)), fun z hz => (old z (σ.sl _ _ _ _ _ _ _ _ r1 z hz).2).trans (r2 z hz)⟩
  · rcases hR z hq with h9 | h9 | h9 <;> rw [h9] at hp <;> simp [Tg10.side] at hp
  · have hs := k.size
    rw [ho']
    simp only [if_neg (show ¬ z < W.heap.size by omega)]
    rw [if_neg (fun hz' => by have := (σ.fl _ _ _ _ _ _ a1 z hz').2; omega), if_neg (fun hz' => by have := (σ.sl _ _ _ _ _ _ _ _ a2 z hz').2; omega)]
  · by_cases hz' : z < W.heap.size
    · rw [old z hz'] at hz; exact .inl hz
    · exact .inr (by omega)
/-- A namespace more. -/
theorem SJ.make (h : SJ σ m lo fb f c o L W) (fr : FreeT o W) {x : PS10} {SS : List Nat} (a2 : σ.SA fb x.sb lo SS m x.wy x.ver W') (k : Keeps [] W W') (hS : ∀ z, z ∈ SS → W.heap.size ≤ z) :
    ∃ o', SJ σ m lo fb f c o' (L ++ [x]) W' ∧ MvT (Tg10.side σ.tag) o W o' W' ∧ FreeT o' W' ∧ NewT10 o o' W := by
  obtain ⟨o', ho'⟩ : ∃ o' : Nat → Tg10, o' = fun z => if z ∈ SS then .sp σ.tag L.length else o z := ⟨_, rfl⟩
  have old : ∀ z, z < W.heap.size → o' z = o z := fun z hz => by rw [ho']; simp only [if_neg (show ¬ z ∈ SS from fun h9 => by have := hS z h9; omega)]
  obtain ⟨S, h1, h2⟩ := h.fm
  refine ⟨o', ⟨σ.ck _ _ _ _ _ h.ct k (by simp), fun b hb => ⟨(h.mt b hb).1, (old b (σ.cl _ _ _ h.ct b hb)).trans (h.mt b hb).2⟩, ⟨S, σ.fk _ _ _ _ _ _ _ _ h1 k (by simp), fun z hz => (old z (σ.fl _ _ _ _ _ _ h1 z hz).2).trans (h2 z hz)⟩, fun j y hy => ?_⟩, ⟨k.os, k.tape, k.output, k.size, old, fun z hz hp => k.block z hz (by simp)⟩, fun z hz => ?_, fun z hz => ?_⟩
  · rw [List.getElem?_append] at hy
    split at hy
    · obtain ⟨R, r1, r2⟩ := h.sp j y hy
      exact ⟨R, σ.sk _ _ _ _ _ _ _ _ _ _ r1 k (by simp), fun z hz => (old z (σ.sl _ _ _ _ _ _ _ _ r1 z hz).2).trans (r2 z hz)⟩
    · rename_i hge
      have hj : j = L.length := by
        rcases Nat.lt_or_ge (j - L.length) 1 with h9 | h9
        · omega
        · rw [List.getElem?_eq_none (by simpa using h9)] at hy; cases hy
      subst hj
      simp at hy
      subst hy
      exact ⟨SS, a2, fun z hz => by rw [ho']; simp only [if_pos hz]⟩
  · rw [ho']; simp only [if_neg (show ¬ z ∈ SS from fun h9 => by have := (σ.sl _ _ _ _ _ _ _ _ a2 z h9).2; omega)]; exact fr z (by have := k.size; omega)
  · by_cases he : z ∈ SS
    · exact .inr (hS z he)
    · rw [ho'] at hz; simp only [if_neg he] at hz; exact .inl hz
end
/-- What is true of a family and its namespaces. -/
structure PJ (k : Nat) (f : Fam) (ks : List ByteArray) (L : List (Way10 × Nat)) : Prop where
  fk : FamOk k f ks
  n : f.N.length ≤ k
  z : ∀ s, s ∈ ks → s.size ≤ 200
  sp : ∀ (i : Nat) (x : Way10 × Nat), L[i]? = some x → SpOk k f ks x.1 ∧ x.2 ≤ k
theorem PJ.mono {k k' : Nat} {f : Fam} {ks : List ByteArray} {L : List (Way10 × Nat)} (h : PJ k f ks L) (hk : k ≤ k') : PJ k' f ks L :=
  ⟨h.fk.mono hk, Nat.le_trans h.n hk, h.z, fun i x hx => ⟨(h.sp i x hx).1.mono hk, Nat.le_trans (h.sp i x hx).2 hk⟩⟩
theorem PJ.good {k : Nat} {f : Fam} {ks : List ByteArray} {L : List (Way10 × Nat)} (h : PJ k f ks L) (hk : k ≤ 900) {i : Nat} {x : Way10 × Nat} (hx : L[i]? = some x) : Good10 k k f ks x.1 :=
  ⟨h.fk, (h.sp i x hx).1, hk, hk, by have := h.n; omega, fun s hs => by have := h.z s hs; omega⟩
theorem PJ.make {k : Nat} {f : Fam} {ks : List ByteArray} {L : List (Way10 × Nat)} (h : PJ k f ks L) : PJ k f ks (L ++ [(.row [], 0)]) :=
  ⟨h.fk, h.n, h.z, fun i x hx => by
    rw [List.getElem?_append] at hx
    split at hx
    · exact h.sp i x hx
    · have : x = (.row [], 0) := by
        rcases Nat.lt_or_ge (i - L.length) 1 with h9 | h9
        · have : i - L.length = 0 := by omega
          rw [this] at hx; simp at hx; exact hx.symm
        · rw [List.getElem?_eq_none (by simpa using h9)] at hx; cases hx
      subst this
      exact ⟨⟨by simp, by simp⟩, Nat.zero_le _⟩⟩
/-- The names of the common order after a Set. -/
theorem PJ.set {k : Nat} {f : Fam} {ks : List ByteArray} {L : List (Way10 × Nat)} (h : PJ k f ks L) (hk : k ≤ 900) {i : Nat} {x : Way10 × Nat} (hx : L[i]? = some x) (c : C4) (s : ByteArray) (v : Int) (hs : s.size ≤ 200) :
    ∃ ks', PJ (k + 1) (setW f x.1 c s v).2.1 ks' (L.set i ((setW f x.1 c s v).2.2.1, if (setW f x.1 c s v).1 = 0 then x.2 + 1 else x.2)) ∧ Ext10 f ks (setW f x.1 c s v).2.1 ks' ∧
      (((setW f x.1 c s v).1 = 6 ∧ setLw (pairsW f x.1) s v f.pairs = none ∧ pairsW (setW f x.1 c s v).2.1 (setW f x.1 c s v).2.2.1 = pairsW f x.1) ∨ ((setW f x.1 c s v).1 = 0 ∧ setLw (pairsW f x.1) s v f.pairs = some (pairsW (setW f x.1 c s v).2.1 (setW f x.1 c s v).2.2.1))) := by
  rcases setW_ok hk hk h.fk (h.sp i x hx).1 c s v with ⟨e1, e2, e3, e4⟩ | ⟨e1, e2, ks', g1, g2, g3, g4, g5⟩
  · refine ⟨ks, ?_, ?_, .inl ⟨e1, e2, by rw [e3, e4]⟩⟩
    · rw [e3, e4, e1]
      have : L.set i (x.1, if (6 : Int) = 0 then x.2 + 1 else x.2) = L := by
        rw [if_neg (by decide)]
        refine List.ext_getElem? fun q => ?_
        rw [List.getElem?_set]
        split
        · rename_i hq; subst hq; rw [hx]; simp [(List.getElem?_eq_some_iff.1 hx).1]
        · rfl
      rw [this]
      exact h.mono (by omega)
    · rw [e3]; exact Ext10.refl _ _
  · refine ⟨ks', ⟨g1, by have := h.n; omega, ?_, fun j y hy => ?_⟩, g2, .inr ⟨e1, e2⟩⟩
    · intro t ht
      rcases g5 t ht with h9 | rfl
      · exact h.z t h9
      · exact hs
    · rw [e1, if_pos rfl] at hy
      rcases set_get10 hx hy with ⟨rfl, rfl⟩ | ⟨hne, h9⟩
      · exact ⟨g3, by have := (h.sp i x hx).2; show x.2 + 1 ≤ k + 1; omega⟩
      · exact ⟨((h.sp j y h9).1.ext g2).mono (by omega), by have := (h.sp j y h9).2; omega⟩
end Go.Proofs.Ytajmfenfajbakaa
