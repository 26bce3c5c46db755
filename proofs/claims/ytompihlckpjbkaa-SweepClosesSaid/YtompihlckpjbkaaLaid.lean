/- laid: slots of these lists, and the document's (chapter 12). -/
import Derived.Test.YtompihlckpjbkaaRefSweep
import Derived.Test.YtompihlckpjbkaaSlotRefAdd
import Derived.Test.YtompihlckpjbkaaAppSrc
import Derived.Test.YtompihlckpjbkaaArgs
namespace Go.Proofs.Ytompihlckpjbkaa
open Go.RowKit
set_option linter.unusedVariables false

/-- A value that reads as a list of numbers, in a block that is none of Q. -/
def RowX (Q : List Nat) (w : World) (v : Value) (l : List Int) : Prop := ∃ a c, v = .slice a l.length c ∧ ∀ k, k < l.length → ∃ b off, a = some ⟨b, off, none⟩ ∧ b ∉ Q ∧ w.cell? ⟨b, off + k, none⟩ = some (.int .i64 (l.getD k 0))
theorem RowX.row {Q : List Nat} {w : World} {v : Value} {l : List Int} (h : RowX Q w v l) : RowL w v l := by
  obtain ⟨a, c, h1, h2⟩ := h
  exact ⟨a, c, h1, fun k hk => by obtain ⟨b, off, h3, _, h4⟩ := h2 k hk; exact ⟨b, off, h3, h4⟩⟩
theorem RowX.keeps {Q S : List Nat} {w w' : World} {v : Value} {l : List Int} (h : RowX Q w v l) (k : Keeps S w w') (hs : ∀ x, x ∈ S → x ∈ Q) : RowX Q w' v l := by
  obtain ⟨a, c, h1, h2⟩ := h
  refine ⟨a, c, h1, fun j hj => ?_⟩
  obtain ⟨b, off, h3, h4, h5⟩ := h2 j hj
  exact ⟨b, off, h3, h4, k.cell h5 (fun h => h4 (hs _ h))⟩
theorem RowX.to {Q Q' : List Nat} {w : World} {v : Value} {l : List Int} (h : RowX Q w v l) (hs : ∀ x, x ∈ Q' → x ∈ Q ∨ w.heap.size ≤ x) : RowX Q' w v l := by
  obtain ⟨a, c, h1, h2⟩ := h
  refine ⟨a, c, h1, fun j hj => ?_⟩
  obtain ⟨b, off, h3, h4, h5⟩ := h2 j hj
  refine ⟨b, off, h3, fun hx => ?_, h5⟩
  have := World.block_lt_of_cell? _ _ h5
  rcases hs b hx with h6 | h6
  · exact h4 h6
  · simp at this; omega
theorem RowL.rowX {w : World} {v : Value} {l : List Int} (h : RowL w v l) (Q : List Nat) (hq : ∀ x, x ∈ Q → w.heap.size ≤ x) : RowX Q w v l := by
  obtain ⟨a, c, h1, h2⟩ := h
  refine ⟨a, c, h1, fun j hj => ?_⟩
  obtain ⟨b, off, h3, h5⟩ := h2 j hj
  refine ⟨b, off, h3, fun hx => ?_, h5⟩
  have := World.block_lt_of_cell? _ _ h5
  have := hq b hx
  simp at *; omega
def LeadsX (Q : List Nat) (m : Nat) (V : Nat → Value) (T : Nat → Bool) (LL : Nat → List Int) (w : World) : Prop := ∀ i, i < m → T i = true → RowX Q w (V i) (LL i) ∧ (LL i).length ≤ 60
theorem LeadsX.at {Q : List Nat} {m : Nat} {V : Nat → Value} {T : Nat → Bool} {LL : Nat → List Int} {w : World} (h : LeadsX Q m V T LL w) : LeadsAt m V T LL w := fun i hi ht => ⟨(h i hi ht).1.row, (h i hi ht).2⟩
theorem LeadsX.go {Q Q' S : List Nat} {m : Nat} {V : Nat → Value} {T : Nat → Bool} {LL : Nat → List Int} {w w' : World} (h : LeadsX Q m V T LL w) (k : Keeps S w w') (hs : ∀ x, x ∈ S → x ∈ Q) (hq : ∀ x, x ∈ Q' → x ∈ Q ∨ w.heap.size ≤ x) : LeadsX Q' m V T LL w' := fun i hi ht => by
  obtain ⟨h1, h2⟩ := h i hi ht
  obtain ⟨a, c, h3, h4⟩ := h1.to hq
  refine ⟨⟨a, c, h3, fun j hj => ?_⟩, h2⟩
  obtain ⟨b, off, h5, h6, h7⟩ := h4 j hj
  refine ⟨b, off, h5, h6, k.cell h7 (fun hb => ?_)⟩
  obtain ⟨a', c', e1, e2⟩ := h1
  rw [h3] at e1
  simp at e1
  obtain ⟨rfl, rfl⟩ := e1
  obtain ⟨b', off', e3, e4, _⟩ := e2 j hj
  rw [h5] at e3
  simp at e3
  exact e4 (e3.1 ▸ hs b hb)
theorem LeadsX.sub {Q : List Nat} {m : Nat} {V U : Nat → Value} {T R : Nat → Bool} {LL : Nat → List Int} {w : World} (h : LeadsX Q m V T LL w) (hr : ∀ i, i < m → R i = true → T i = true ∧ U i = V i) : LeadsX Q m U R LL w := fun i hi ht => by
  obtain ⟨h1, h2⟩ := hr i hi ht
  rw [h2]; exact h i hi h1

/-- Slots and the document's, of the same lists. -/
structure SW (sb wb lo : Nat) (S R : List Nat) (m : Nat) (V U : Nat → Value) (T : Nat → Bool) (LL : Nat → List Int) (w : World) : Prop where
  st : SL.SlotSt sb lo S m V T w
  rf : RefS wb lo R m U T w
  lv : LeadsX (S ++ R) m V T LL w
  lu : LeadsX (S ++ R) m U T LL w
  dj : ∀ x, x ∈ S → x ∉ R
theorem SW.keeps {sb wb lo : Nat} {S R : List Nat} {m : Nat} {V U : Nat → Value} {T : Nat → Bool} {LL : Nat → List Int} {w w' : World} (h : SW sb wb lo S R m V U T LL w) (k : Keeps [] w w') : SW sb wb lo S R m V U T LL w' :=
  ⟨h.st.keeps k (by simp), h.rf.keeps k (by simp), h.lv.go k (by simp) (fun x hx => .inl hx), h.lu.go k (by simp) (fun x hx => .inl hx), h.dj⟩
/-- The program's slots turn. -/
theorem SW.left {sb wb lo : Nat} {S S' R : List Nat} {m : Nat} {V U : Nat → Value} {T : Nat → Bool} {LL : Nat → List Int} {w w' : World} (h : SW sb wb lo S R m V U T LL w) (k : Keeps S w w') (hf : ∀ x, x ∈ S' → x ∈ S ∨ w.heap.size ≤ x) :
    RefS wb lo R m U T w' ∧ LeadsX (S' ++ R) m V T LL w' ∧ LeadsX (S' ++ R) m U T LL w' ∧ ∀ x, x ∈ S' → x ∉ R := by
  have hq : ∀ x, x ∈ S' ++ R → x ∈ S ++ R ∨ w.heap.size ≤ x := fun x hx => by
    rcases List.mem_append.1 hx with h1 | h1
    · exact (hf x h1).elim (fun h => .inl (by simp [h])) .inr
    · exact .inl (by simp [h1])
  refine ⟨h.rf.keeps k (fun x hx hy => h.dj x hy hx), h.lv.go k (by simp +contextual) hq, h.lu.go k (by simp +contextual) hq, fun x hx hy => ?_⟩
  rcases hf x hx with h1 | h1
  · exact h.dj x h1 hy
  · have := (h.rf.foot x hy).2; omega
/-- The document's turn. -/
theorem LeadsX.right {S R R' : List Nat} {m : Nat} {V : Nat → Value} {T : Nat → Bool} {LL : Nat → List Int} {w w' : World} (h : LeadsX (S ++ R) m V T LL w) (k : Keeps R w w') (hf : ∀ x, x ∈ R' → x ∈ R ∨ w.heap.size ≤ x) : LeadsX (S ++ R') m V T LL w' :=
  h.go k (by simp +contextual) fun x hx => by
    rcases List.mem_append.1 hx with h1 | h1
    · exact .inl (by simp [h1])
    · exact (hf x h1).elim (fun h => .inl (by simp [h])) .inr

/-- Rows that came in. -/
def RowsAt (w : World) (la : Option Addr) (n : Nat) (V0 : Nat → Value) (LL : Nat → List Int) : Prop := ∀ i, i < n → ∃ b off a c, la = some ⟨b, off, none⟩ ∧ w.cell? ⟨b, off + i, none⟩ = some (.slice a (LL i).length c) ∧ V0 i = .slice a (LL i).length c ∧ (a = none → c = 0) ∧ RowL w (V0 i) (LL i)
theorem RowsAt.keeps {w w' : World} {la : Option Addr} {n : Nat} {V0 : Nat → Value} {LL : Nat → List Int} (h : RowsAt w la n V0 LL) (k : Keeps [] w w') : RowsAt w' la n V0 LL := fun i hi => by
  obtain ⟨b, off, a, c, h1, h2, h3, h4, h5⟩ := h i hi
  exact ⟨b, off, a, c, h1, k.cell h2 (by simp), h3, h4, h5.keeps k⟩
end Go.Proofs.Ytompihlckpjbkaa
