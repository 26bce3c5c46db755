/- A slice of structs whose fields are ints and bools, as it came in. -/
import Derived.Test.YtcakdmapnmneoaaGreatB1
section
namespace Go.Proofs.YtcakdmapnmneoaaGreat
open Go.ChangeShapes Go.WideShapes Go.ChangeAt Go.RowKit Go.Deep
variable {H : Type} {enc : TypeId × Value → H} {P : Program} {w : World} {spare : Nat → Bool} {held : Bool}

def mixV (isB : Nat → Bool) (sz : Nat) (F : Nat → Int) (B : Nat → Bool) (i : Nat) : Value := if isB (i % sz) = true then .bool (B i) else .int .i64 (F i)
/-- Its cells lay there before the call: where isB tells so a bool, else an int. -/
def MixRow (isB : Nat → Bool) (sz : Nat) (w : World) (a : Option Addr) (len : Nat) (F : Nat → Int) (B : Nat → Bool) : Prop :=
  len = 0 ∨ ∃ b off, a = some ⟨b, off, none⟩ ∧ b < w.heap.size ∧ (len : Int) ≤ 9223372036854775807 ∧ ∀ i, i < len * sz → w.cell? ⟨b, off + i, none⟩ = some (mixV isB sz F B i)
theorem rows_of_mixed {t e : TypeId} {fs : Array Field} {a : Option Addr} {len cap : Nat} (isB : Nat → Bool) {d : DataW H} {p : List MemPlace} (ht : P.underlying t = some (.slice e)) (he : P.underlying e = some (.struct fs))
    (hone : oneCellFields P fs = true) (hC : P.cellsOf e = fs.size) (hpos : 0 < fs.size) (hfs : ∀ (j : Nat) (f : Field), fs[j]? = some f → (isB j = true → P.underlying f.type = some .bool) ∧ (isB j = false → P.underlying f.type = some (.int .i64)))
    (h : DataW.Trod enc P w 0 spare held t (.slice a len cap) d p) : ∃ F B, MixRow isB fs.size w a len F B := by
  obtain ⟨fuel, hf⟩ := h
  rcases open_slice_fields ht he hone hC hf with hcs | ⟨x, len', cap', m, hcs, hl, hm, hmm, hx⟩
  · simp [Value.cells] at hcs
    exact ⟨fun _ => 0, fun _ => false, .inl hcs.2.1⟩
  · simp [Value.cells] at hcs
    obtain ⟨rfl, rfl, rfl⟩ := hcs
    have hlm : len ≤ m := by rw [hmm]; split <;> omega
    unfold maxLen at hm
    have hx1 : ∀ i, i < len * fs.size → ∃ (n : Int) (b : Bool), w.cell? (x.add i) = some (if isB (i % fs.size) = true then .bool b else .int .i64 n) := by
      intro i hi
      have hq : i / fs.size < len := (Nat.div_lt_iff_lt_mul hpos).2 hi
      have hr : i % fs.size < fs.size := Nat.mod_lt _ hpos
      obtain ⟨ys, n, hy⟩ := hx (i / fs.size) (by omega)
      obtain ⟨v, y, h1, _, h3⟩ := hy (i % fs.size) fs[i % fs.size] (Array.getElem?_eq_getElem hr)
      rw [Nat.div_add_mod' i fs.size] at h1
      have hk := hfs _ _ (Array.getElem?_eq_getElem hr)
      cases hb : isB (i % fs.size)
      · obtain ⟨q, e1, e2, e3⟩ := DataW.trod_int (hk.2 hb) h3
        simp at e1
        exact ⟨q, false, by rw [h1, e1]; simp⟩
      · obtain ⟨q, e1, e2⟩ := DataW.trod_bool (hk.1 hb) h3
        simp at e1
        exact ⟨0, q, by rw [h1, e1]; simp⟩
    rcases Nat.eq_zero_or_pos (len * fs.size) with h0 | h0
    · rcases Nat.eq_zero_or_pos len with h1 | h1
      · exact ⟨fun _ => 0, fun _ => false, .inl h1⟩
      · exact absurd h0 (Nat.ne_of_gt (Nat.mul_pos h1 hpos))
    · refine ⟨fun i => if hi : i < len * fs.size then (hx1 i hi).choose else 0, fun i => if hi : i < len * fs.size then (hx1 i hi).choose_spec.choose else false, ?_⟩
      obtain ⟨n0, b0, hc0⟩ := hx1 0 h0
      obtain ⟨b, off, spot⟩ := x
      have hspot : spot = none := by simpa [Addr.add] using World.cell?_spot hc0
      subst hspot
      have hblk := World.block_lt_of_cell? _ _ hc0
      refine .inr ⟨b, off, rfl, by simpa [Addr.add] using hblk, by omega, fun i hi => ?_⟩
      have hch := (hx1 i hi).choose_spec.choose_spec
      simp only [mixV, hi, dite_true]
      have e1 : ((⟨b, off, none⟩ : Addr).add i) = ⟨b, off + i, none⟩ := by
        unfold Addr.add
        split
        · rename_i h; rw [h]; rfl
        · rfl
      exact e1 ▸ hch
end Go.Proofs.YtcakdmapnmneoaaGreat
end
