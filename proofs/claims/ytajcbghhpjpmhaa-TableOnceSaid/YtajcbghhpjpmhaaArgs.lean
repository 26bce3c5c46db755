/- How the arguments of a law read: slices of ints, slices of structs of ints, bytes. No program in sight. -/
import Derived.Test.YtajcbghhpjpmhaaMem
import Derived.Deep.Slices
import Derived.Deep.Fields
import Derived.ChangeSame
import Derived.ProofKit
import Derived.OpenShut
import Derived.ChangeOld
namespace Go.Proofs.Ytajcbghhpjpmhaa
open Go.ChangeShapes Go.WideShapes Go.ChangeAt Go.RowKit Go.Deep

/-- A slice that came in whose elements take 'sz' cells of one kind of integer: nil, or a row of cells that lay there before the call. F: the cell number j. -/
def IntRow (k : IntKind) (sz : Nat) (w : World) (a : Option Addr) (len : Nat) (F : Nat → Int) : Prop :=
  len = 0 ∨
  ∃ b off, a = some ⟨b, off, none⟩ ∧ b < w.heap.size ∧ (len : Int) ≤ 9223372036854775807 ∧ ∀ i, i < len * sz → w.cell? ⟨b, off + i, none⟩ = some (.int k (F i)) ∧ (Lit.int k (F i)).wf = true

theorem IntRow.below {k : IntKind} {sz : Nat} {w w' : World} {a : Option Addr} {len : Nat} {F : Nat → Int} (h : IntRow k sz w a len F) (hb : Below w.heap.size w w') : IntRow k sz w' a len F := by
  rcases h with h | ⟨b, off, h1, h2, h3, h4⟩
  · exact .inl h
  · exact .inr ⟨b, off, h1, Nat.lt_of_lt_of_le h2 hb.size, h3, fun i hi => ⟨(hb.cell (p := ⟨b, off + i, none⟩) h2).trans (h4 i hi).1, (h4 i hi).2⟩⟩

theorem bounds_i64 {n : Int} (h : (Lit.int .i64 n).wf = true) : -9223372036854775808 ≤ n ∧ n ≤ 9223372036854775807 := by
  simpa [Lit.wf, IntKind.min, IntKind.max, IntKind.signed, IntKind.bits] using h

section
variable {H : Type} {enc : TypeId × Value → H} {P : Program} {w : World} {spare : Nat → Bool} {held : Bool}
theorem hone_of' {fs : Array Field} (hone : oneCellFields P fs = true) (j : Nat) (f : Field) (hj : fs[j]? = some f) : f.offset = j ∧ P.cellsOf f.type = 1 := hone_of hone j f hj

theorem open_slice_fields {base : Nat} {t e : TypeId} {fs : Array Field} {fuel : Nat} {cs : List Value} {x : DataW H × List MemPlace} (ht : P.underlying t = some (.slice e)) (he : P.underlying e = some (.struct fs))
    (hone : oneCellFields P fs = true) (hC : P.cellsOf e = fs.size) (h : DataW.trod enc P w base spare held fuel t cs = some x) :
    (cs = [.slice none 0 0]) ∨
    ∃ (a : Addr) (len cap m : Nat), cs = [.slice (some a) len cap] ∧ len ≤ cap ∧ cap ≤ maxLen ∧ m = (if spare a.block then cap else len) ∧
      ∀ i, i < m → ∃ (ys : List (DataW H × List MemPlace)) (n : Nat),
        ∀ (j : Nat) (f : Field), fs[j]? = some f → ∃ (v : Value) (y : DataW H × List MemPlace), w.cell? (a.add (i * fs.size + j)) = some v ∧ ys[j]? = some y ∧ DataW.trod enc P w base spare held n f.type [v] = some y := by
  rcases open_slice ht h with h0 | ⟨a, len, cap, m, n, D, Pl, hcs, hb, hl, hm, hmm, hx, hi⟩
  · exact .inl h0.1
  · refine .inr ⟨a, len, cap, m, hcs, hl, hm, hmm, fun i him => ?_⟩
    obtain ⟨cs', hc, ht'⟩ := hi i him
    rw [hC] at hc
    obtain ⟨ys, n', hn', hy, hlen, hyl, hf⟩ := DataW.trod_struct he ht'
    obtain ⟨_, hcl, hat⟩ := World.cells?_some hc
    refine ⟨ys, n', fun j f hj => ?_⟩
    obtain ⟨ho, hk⟩ := hone_of hone j f hj
    have hjl : j < fs.size := (Array.getElem?_eq_some_iff.1 hj).1
    have hcell := hat j hjl
    have hv : cs'[j]? = some (cs'[j]'(by omega)) := List.getElem?_eq_getElem (by omega)
    have h1 := hf j f hj
    rw [ho, hk] at h1
    have hone' : (cs'.drop j).take 1 = [cs'[j]'(by omega)] := by
      rw [List.drop_eq_getElem_cons (by omega)]
      rfl
    rw [hone'] at h1
    have hys : ys[j]? = some (ys[j]'(by omega)) := List.getElem?_eq_getElem (by omega)
    refine ⟨_, _, ?_, hys, h1.trans hys⟩
    rw [← Go.Deep.add_add, hcell, hv]

/-- A slice of structs whose fields are all ints. -/
theorem rows_of_structs {t e : TypeId} {fs : Array Field} {a : Option Addr} {len cap : Nat} {k : IntKind} {d : DataW H} {p : List MemPlace} (ht : P.underlying t = some (.slice e)) (he : P.underlying e = some (.struct fs))
    (hone : oneCellFields P fs = true) (hC : P.cellsOf e = fs.size) (hpos : 0 < fs.size) (hfs : ∀ (j : Nat) (f : Field), fs[j]? = some f → P.underlying f.type = some (.int k))
    (h : DataW.Trod enc P w 0 spare held t (.slice a len cap) d p) : ∃ F, IntRow k fs.size w a len F := by
  obtain ⟨fuel, hf⟩ := h
  rcases open_slice_fields ht he hone hC hf with hcs | ⟨x, len', cap', m, hcs, hl, hm, hmm, hx⟩
  · simp [Value.cells] at hcs
    exact ⟨fun _ => 0, .inl hcs.2.1⟩
  · simp [Value.cells] at hcs
    obtain ⟨rfl, rfl, rfl⟩ := hcs
    have hlm : len ≤ m := by rw [hmm]; split <;> omega
    unfold maxLen at hm
    have hx1 : ∀ i, i < len * fs.size → ∃ n : Int, w.cell? (x.add i) = some (.int k n) ∧ (Lit.int k n).wf = true := by
      intro i hi
      have hq : i / fs.size < len := (Nat.div_lt_iff_lt_mul hpos).2 hi
      have hr : i % fs.size < fs.size := Nat.mod_lt _ hpos
      obtain ⟨ys, n, hy⟩ := hx (i / fs.size) (by omega)
      obtain ⟨v, y, h1, _, h3⟩ := hy (i % fs.size) fs[i % fs.size] (Array.getElem?_eq_getElem hr)
      rw [Nat.div_add_mod' i fs.size] at h1
      obtain ⟨q, e1, e2, e3⟩ := DataW.trod_int (hfs _ _ (Array.getElem?_eq_getElem hr)) h3
      simp at e1
      exact ⟨q, by rw [h1, e1], e3⟩
    rcases Nat.eq_zero_or_pos (len * fs.size) with h0 | h0
    · rcases Nat.eq_zero_or_pos len with h1 | h1
      · exact ⟨fun _ => 0, .inl h1⟩
      · exact absurd h0 (Nat.ne_of_gt (Nat.mul_pos h1 hpos))
    · refine ⟨fun i => if hi : i < len * fs.size then (hx1 i hi).choose else 0, ?_⟩
      obtain ⟨n0, hc0, _⟩ := hx1 0 h0
      obtain ⟨b, off, spot⟩ := x
      have hspot : spot = none := by simpa [Addr.add] using World.cell?_spot hc0
      subst hspot
      have hblk := World.block_lt_of_cell? _ _ hc0
      refine .inr ⟨b, off, rfl, by simpa [Addr.add] using hblk, by omega, fun i hi => ?_⟩
      have hch := (hx1 i hi).choose_spec
      simp only [hi, dite_true]
      refine ⟨?_, hch.2⟩
      have e1 : ((⟨b, off, none⟩ : Addr).add i) = ⟨b, off + i, none⟩ := by
        unfold Addr.add
        split
        · rename_i h; rw [h]; rfl
        · rfl
      exact e1 ▸ hch.1
/-- A slice of ints (or bytes). -/
theorem rows_of_ints {t e : TypeId} {a : Option Addr} {len cap : Nat} {k : IntKind} {d : DataW H} {p : List MemPlace} (ht : P.underlying t = some (.slice e)) (he : P.underlying e = some (.int k)) (hc : P.cellsOf e = 1)
    (h : DataW.Trod enc P w 0 spare held t (.slice a len cap) d p) : ∃ F, IntRow k 1 w a len F := by
  obtain ⟨fuel, hf⟩ := h
  rcases open_ints ht he hc hf with ⟨hcs, _⟩ | ⟨x, l, c, zs, hcs, _, hl, hm, hz, _, hcell, hwz⟩
  · simp [Value.cells] at hcs
    exact ⟨fun _ => 0, .inl hcs.2.1⟩
  · simp [Value.cells] at hcs
    obtain ⟨rfl, rfl, rfl⟩ := hcs
    unfold maxLen at hm
    have hlz : len ≤ zs.length := by rw [hz]; split <;> omega
    rcases Nat.eq_zero_or_pos len with h0 | h0
    · exact ⟨fun _ => 0, .inl h0⟩
    · have hc0 := hcell 0 (by omega)
      obtain ⟨b, off, spot⟩ := x
      have hspot : spot = none := by simpa [Addr.add] using World.cell?_spot hc0
      subst hspot
      have hblk := World.block_lt_of_cell? _ _ hc0
      refine ⟨fun i => zs.getD i 0, .inr ⟨b, off, rfl, by simpa [Addr.add] using hblk, by omega, fun i hi => ?_⟩⟩
      have e1 : ((⟨b, off, none⟩ : Addr).add i) = ⟨b, off + i, none⟩ := by
        unfold Addr.add
        split
        · rename_i h; rw [h]; rfl
        · rfl
      refine ⟨e1 ▸ hcell i (by omega), ?_⟩
      refine hwz _ ?_
      have hi' : i < zs.length := by omega
      simp only [List.getD_eq_getElem?_getD, List.getElem?_eq_getElem hi', Option.getD_some]
      exact List.getElem_mem hi'
end
end Go.Proofs.Ytajcbghhpjpmhaa
