/- A slice of strings, and a slice of structs whose fields are ints and strings, as they came in. -/
import Derived.Test.YtajmfenfajbakaaB1
import Derived.SliceStrings
section
namespace Go.Proofs.Ytajmfenfajbakaa
open Go.ChangeShapes Go.WideShapes Go.ChangeAt Go.RowKit Go.Deep
variable {H : Type} {enc : TypeId × Value → H} {P : Program} {w : World} {spare : Nat → Bool} {held : Bool}

theorem add_off10 (b off i : Nat) : ((⟨b, off, none⟩ : Addr).add i) = ⟨b, off + i, none⟩ := by
  unfold Addr.add
  split
  · rename_i h; rw [h]; rfl
  · rfl
/-- Its strings lay there before the call. -/
def StrRow (w : World) (a : Option Addr) (len : Nat) (N : Nat → ByteArray) : Prop :=
  len = 0 ∨ ∃ b off, a = some ⟨b, off, none⟩ ∧ b < w.heap.size ∧ (len : Int) ≤ 9223372036854775807 ∧ ∀ i, i < len → w.cell? ⟨b, off + i, none⟩ = some (.string (N i))
theorem StrRow.keeps {w w' : World} {a : Option Addr} {len : Nat} {N : Nat → ByteArray} (h : StrRow w a len N) (hb : Keeps [] w w') : StrRow w' a len N := by
  rcases h with h | ⟨b, off, h1, h2, h3, h4⟩
  · exact .inl h
  · exact .inr ⟨b, off, h1, Nat.lt_of_lt_of_le h2 hb.size, h3, fun i hi => hb.cell (h4 i hi) (by simp)⟩
theorem rows_of_strings {t e : TypeId} {a : Option Addr} {len cap : Nat} {d : DataW H} {p : List MemPlace} (ht : P.underlying t = some (.slice e)) (he : P.underlying e = some .string) (hc : P.cellsOf e = 1)
    (h : DataW.Trod enc P w 0 spare held t (.slice a len cap) d p) : ∃ N, StrRow w a len N := by
  obtain ⟨fuel, hf⟩ := h
  rcases open_strings ht he hc hf with ⟨hcs, _⟩ | ⟨x, l, c, ss, hcs, _, hl, hm, hz, _, hcell, hwz⟩
  · simp [Value.cells] at hcs
    exact ⟨fun _ => .empty, .inl hcs.2.1⟩
  · simp [Value.cells] at hcs
    obtain ⟨rfl, rfl, rfl⟩ := hcs
    unfold maxLen at hm
    have hlz : len ≤ ss.length := by rw [hz]; split <;> omega
    rcases Nat.eq_zero_or_pos len with h0 | h0
    · exact ⟨fun _ => .empty, .inl h0⟩
    · have hc0 := hcell 0 (by omega)
      obtain ⟨b, off, spot⟩ := x
      have hspot : spot = none := by simpa [Addr.add] using World.cell?_spot hc0
      subst hspot
      have hblk := World.block_lt_of_cell? _ _ hc0
      exact ⟨fun i => ss.getD i .empty, .inr ⟨b, off, rfl, by simpa [Addr.add] using hblk, by omega, fun i hi => add_off10 b off i ▸ hcell i (by omega)⟩⟩
def fldV (isS : Nat → Bool) (sz : Nat) (F : Nat → Int) (N : Nat → ByteArray) (i : Nat) : Value := if isS (i % sz) = true then .string (N i) else .int .i64 (F i)
/-- Its cells lay there before the call: where isS tells so a string, else an int. -/
def FldRow (isS : Nat → Bool) (sz : Nat) (w : World) (a : Option Addr) (len : Nat) (F : Nat → Int) (N : Nat → ByteArray) : Prop :=
  len = 0 ∨ ∃ b off, a = some ⟨b, off, none⟩ ∧ b < w.heap.size ∧ (len : Int) ≤ 9223372036854775807 ∧ ∀ i, i < len * sz → w.cell? ⟨b, off + i, none⟩ = some (fldV isS sz F N i)
theorem FldRow.keeps {isS : Nat → Bool} {sz : Nat} {w w' : World} {a : Option Addr} {len : Nat} {F : Nat → Int} {N : Nat → ByteArray} (h : FldRow isS sz w a len F N) (hb : Keeps [] w w') : FldRow isS sz w' a len F N := by
  rcases h with h | ⟨b, off, h1, h2, h3, h4⟩
  · exact .inl h
  · exact .inr ⟨b, off, h1, Nat.lt_of_lt_of_le h2 hb.size, h3, fun i hi => hb.cell (h4 i hi) (by simp)⟩
theorem rows_of_fields {t e : TypeId} {fs : Array Field} {a : Option Addr} {len cap : Nat} (isS : Nat → Bool) {d : DataW H} {p : List MemPlace} (ht : P.underlying t = some (.slice e)) (he : P.underlying e = some (.struct fs))
    (hone : oneCellFields P fs = true) (hC : P.cellsOf e = fs.size) (hpos : 0 < fs.size) (hfs : ∀ (j : Nat) (f : Field), fs[j]? = some f → (isS j = true → P.underlying f.type = some .string) ∧ (isS j = false → P.underlying f.type = some (.int .i64)))
    (h : DataW.Trod enc P w 0 spare held t (.slice a len cap) d p) : ∃ F N, FldRow isS fs.size w a len F N := by
  obtain ⟨fuel, hf⟩ := h
  rcases open_slice_fields ht he hone hC hf with hcs | ⟨x, len', cap', m, hcs, hl, hm, hmm, hx⟩
  · simp [Value.cells] at hcs
    exact ⟨fun _ => 0, fun _ => .empty, .inl hcs.2.1⟩
  · simp [Value.cells] at hcs
    obtain ⟨rfl, rfl, rfl⟩ := hcs
    have hlm : len ≤ m := by rw [hmm]; split <;> omega
    unfold maxLen at hm
    have hx1 : ∀ i, i < len * fs.size → ∃ (n : Int) (b : ByteArray), w.cell? (x.add i) = some (if isS (i % fs.size) = true then .string b else .int .i64 n) := by
      intro i hi
      have hq : i / fs.size < len := (Nat.div_lt_iff_lt_mul hpos).2 hi
      have hr : i % fs.size < fs.size := Nat.mod_lt _ hpos
      obtain ⟨ys, n, hy⟩ := hx (i / fs.size) (by omega)
      obtain ⟨v, y, h1, _, h3⟩ := hy (i % fs.size) fs[i % fs.size] (Array.getElem?_eq_getElem hr)
      rw [Nat.div_add_mod' i fs.size] at h1
      have hk := hfs _ _ (Array.getElem?_eq_getElem hr)
      cases hb : isS (i % fs.size)
      · obtain ⟨q, e1, e2, e3⟩ := DataW.trod_int (hk.2 hb) h3
        simp at e1
        exact ⟨q, .empty, by rw [h1, e1]; simp⟩
      · obtain ⟨q, e1, e2⟩ := DataW.trod_string (hk.1 hb) h3
        simp at e1
        exact ⟨0, q, by rw [h1, e1]; simp⟩
    rcases Nat.eq_zero_or_pos (len * fs.size) with h0 | h0
    · rcases Nat.eq_zero_or_pos len with h1 | h1
      · exact ⟨fun _ => 0, fun _ => .empty, .inl h1⟩
      · exact absurd h0 (Nat.ne_of_gt (Nat.mul_pos h1 hpos))
    · refine ⟨fun i => if hi : i < len * fs.size then (hx1 i hi).choose else 0, fun i => if hi : i < len * fs.size then (hx1 i hi).choose_spec.choose else .empty, ?_⟩
      obtain ⟨n0, b0, hc0⟩ := hx1 0 h0
      obtain ⟨b, off, spot⟩ := x
      have hspot : spot = none := by simpa [Addr.add] using World.cell?_spot hc0
      subst hspot
      have hblk := World.block_lt_of_cell? _ _ hc0
      refine .inr ⟨b, off, rfl, by simpa [Addr.add] using hblk, by omega, fun i hi => ?_⟩
      have hch := (hx1 i hi).choose_spec.choose_spec
      simp only [fldV, hi, dite_true]
      exact add_off10 b off i ▸ hch
end Go.Proofs.Ytajmfenfajbakaa
end
