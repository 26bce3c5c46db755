/- How rows of numbers read that came in (chapter 12). -/
import Derived.Test.YtompihlckpjbkaaLaid2
import Derived.Deep.Matrix
namespace Go.Proofs.Ytompihlckpjbkaa
open Go.ChangeShapes Go.WideShapes Go.ChangeAt Go.RowKit Go.Deep
set_option linter.unusedVariables false

theorem addr_add (b off k : Nat) : ((⟨b, off, none⟩ : Addr).add k) = ⟨b, off + k, none⟩ := by
  unfold Addr.add
  split
  · rename_i h; rw [h]; rfl
  · rfl
section
variable {H : Type} {enc : TypeId × Value → H} {P : Program} {w : World} {held : Bool}
theorem rows_of_rows {t e q : TypeId} {a : Option Addr} {len cap : Nat} {d : DataW H} {p : List MemPlace} (ht : P.underlying t = some (.slice e)) (he : P.underlying e = some (.slice q)) (hq : P.underlying q = some (.int .i64)) (ce : P.cellsOf e = 1) (cq : P.cellsOf q = 1)
    (h : DataW.Trod enc P w 0 (fun _ => true) held t (.slice a len cap) d p) : ∃ V0 LL, RowsAt w a len V0 LL := by
  obtain ⟨fuel, hf⟩ := h
  rcases open_int_rows ht he hq ce cq hf with ⟨hcs, _⟩ | ⟨x, len', cap', A, L, C, Z, hcs, hb, hl, hm, _, hx⟩
  · simp [Value.cells] at hcs
    exact ⟨fun _ => .bool false, fun _ => [], fun i hi => by omega⟩
  · simp [Value.cells] at hcs
    obtain ⟨rfl, rfl, rfl⟩ := hcs
    refine ⟨fun r => .slice (A r) (L r) (C r), fun r => (Z r).take (L r), fun i hi => ?_⟩
    obtain ⟨h1, h2, h3, h4, h5, h6, h7⟩ := hx i (by omega)
    have hlen : ((Z i).take (L i)).length = L i := by rw [List.length_take]; omega
    obtain ⟨b, off, spot⟩ := x
    have hspot : spot = none := by simpa [Addr.add] using World.cell?_spot (hx 0 (by omega)).1
    subst hspot
    refine ⟨b, off, A i, C i, rfl, by rw [← addr_add, h1, hlen], by rw [hlen], h6, A i, C i, by rw [hlen], fun k hk => ?_⟩
    rw [hlen] at hk
    cases hA : A i with
    | none => have := h6 hA; omega
    | some y =>
      have hc := (h7 y hA).2 k (by omega)
      obtain ⟨b2, off2, spot⟩ := y
      have hspot : spot = none := by simpa [Addr.add] using World.cell?_spot ((h7 _ hA).2 0 (by omega))
      subst hspot
      refine ⟨b2, off2, rfl, ?_⟩
      rw [← addr_add, hc]
      simp [List.getD_eq_getElem?_getD, hk]
end
theorem nil_ints {H : Type} {enc : TypeId × Value → H} {P : Program} {w : World} {spare : Nat → Bool} {held : Bool} {t e : TypeId} {a : Option Addr} {len cap : Nat} {k : IntKind} {d : DataW H} {p : List MemPlace} (ht : P.underlying t = some (.slice e)) (he : P.underlying e = some (.int k)) (hc : P.cellsOf e = 1)
    (h : DataW.Trod enc P w 0 spare held t (.slice a len cap) d p) : a = none → len = 0 ∧ cap = 0 := by
  obtain ⟨fuel, hf⟩ := h
  rcases open_ints ht he hc hf with ⟨hcs, _⟩ | ⟨x, l, c, zs, hcs, _⟩
  · simp [Value.cells] at hcs
    exact fun _ => hcs.2
  · simp [Value.cells] at hcs
    obtain ⟨rfl, _⟩ := hcs
    intro h
    cases h
theorem intAt_of {w : World} {a : Option Addr} {n : Nat} {F : Nat → Int} (h : IntRow .i64 1 w a n F) : IntAt w a n F := by
  intro i hi
  rcases h with h0 | ⟨b, off, h1, h2, _, h4⟩
  · omega
  · exact ⟨b, off, h1, (h4 i (by omega)).1⟩
/-- The list that numbers are. -/
def listOf (n : Nat) (F : Nat → Int) : List Int := (List.range n).map F
theorem listOf_len (n : Nat) (F : Nat → Int) : (listOf n F).length = n := by simp [listOf]
theorem listOf_get {n : Nat} {F : Nat → Int} {k : Nat} (hk : k < n) : (listOf n F).getD k 0 = F k := by simp [listOf, List.getD_eq_getElem?_getD, hk]
theorem IntAt.rowL {w : World} {a : Option Addr} {n c : Nat} {F : Nat → Int} (h : IntAt w a n F) : RowL w (.slice a n c) (listOf n F) :=
  ⟨a, c, by rw [listOf_len], fun k hk => by
    rw [listOf_len] at hk
    obtain ⟨b, off, h1, h2⟩ := h k hk
    exact ⟨b, off, h1, by rw [listOf_get hk]; exact h2⟩⟩
end Go.Proofs.Ytompihlckpjbkaa
