/- wrong, Put, At (chapter 7). -/
import Derived.Test.YtajcbghhpjpmhaaTabNew
import Derived.Test.YtajcbghhpjpmhaaTabRow
namespace Go.Proofs.Ytajcbghhpjpmhaa
open Go.RowKit
set_option linter.unusedVariables false

def entE (E : List Ent) (e : Int) : Option Ent := if 0 ≤ e then (E[e.toNat]?).filter (·.live) else none
theorem entE_T (T : Tab) (e : Int) : T.ent e = entE T.E e := rfl
theorem entE_some {E : List Ent} {e : Int} {x : Ent} (h : entE E e = some x) : 0 ≤ e ∧ E[e.toNat]? = some x ∧ x.live = true ∧ e < E.length := by
  obtain ⟨h1, h2, h3⟩ : 0 ≤ e ∧ E[e.toNat]? = some x ∧ x.live = true := ent_some (T := ⟨E, fun _ => 0, 0, 0, 0, 0⟩) h
  have := (List.getElem?_eq_some_iff.1 h2).1
  exact ⟨h1, h2, h3, by omega⟩
theorem entE_none {E : List Ent} {e : Int} (h : entE E e = none) (h0 : 0 ≤ e) (h1 : e < E.length) : ∃ x, E[e.toNat]? = some x ∧ x.live = false := by
  unfold entE at h
  rw [if_pos h0, List.getElem?_eq_getElem (show e.toNat < E.length by omega)] at h
  refine ⟨E[e.toNat], List.getElem?_eq_getElem (by omega), ?_⟩
  by_cases hl : E[e.toNat].live = true
  · simp [Option.filter, hl] at h
  · simpa using hl

set_option maxRecDepth 100000 in
theorem wrong_none (e : Int) (w : World) : Calls Try.prog 53 #[.pointer none, .int .i64 e] w fun r w' => r = .returned (.int .i64 1) ∧ w = w' := by
  go_enter Try.func53, Try.ntmps53
  go_wp2_with fail
  go_ret
  exact ⟨rfl, rfl⟩
set_option maxRecDepth 100000 in
theorem wrong_ok (t lo c : Nat) (a : Option Addr) (E : List Ent) (m cp lv bi ma tu : Value) (e : Int) (x : Ent) (w : World) (h1 : w.heap[t]? = some (tabO m (.slice a E.length c) cp lv bi ma tu)) (hE : EntRow lo a c E w) (hl : E.length ≤ 1000000) (hx : entE E e = some x) :
    Calls Try.prog 53 #[.pointer (some ⟨t, 0, none⟩), .int .i64 e] w fun r w' => r = .returned (.int .i64 0) ∧ w = w' := by
  obtain ⟨h0, h2, h3, h4⟩ := entE_some hx
  obtain ⟨g, rfl⟩ := hE.shape (by omega)
  have e1 : w.cell? ⟨t, 1, none⟩ = some (.slice (some ⟨g, 0, none⟩) E.length c) := cell_has h1 (i := 1) rfl
  obtain ⟨k, rfl⟩ : ∃ k : Nat, e = (k : Int) := ⟨e.toNat, by omega⟩
  have q0 : w.cell? ⟨g, k * 5, none⟩ = some (.bool true) := by
    have h := hE.cell (show E[k]? = some x from by simpa using h2) 0 (by omega)
    rw [show x.cell 0 = .bool x.live from rfl, h3] at h; exact h
  obtain ⟨n, hn⟩ := ex_hid E.length
  rw [← hn.out] at e1 h4 hl
  have d2 : decide ((n : Int) ≤ (k : Int)) = false := by simp; omega
  have d1 : decide ((k : Int) < 0) = false := by simp
  clear h1 hE hx h2 h3
  go_enter Try.func53, Try.ntmps53
  go_wp2_with fail
  go_ret
  exact ⟨rfl, rfl⟩
set_option maxRecDepth 100000 in
theorem wrong_no (t lo c : Nat) (a : Option Addr) (E : List Ent) (m cp lv bi ma tu : Value) (e : Int) (w : World) (h1 : w.heap[t]? = some (tabO m (.slice a E.length c) cp lv bi ma tu)) (hE : EntRow lo a c E w) (hl : E.length ≤ 1000000) (hx : entE E e = none) :
    Calls Try.prog 53 #[.pointer (some ⟨t, 0, none⟩), .int .i64 e] w fun r w' => r = .returned (.int .i64 7) ∧ w = w' := by
  have e1 : w.cell? ⟨t, 1, none⟩ = some (.slice a E.length c) := cell_has h1 (i := 1) rfl
  by_cases h0 : e < 0
  · have d1 : decide (e < 0) = true := by simpa using h0
    clear h1 hE
    go_enter Try.func53, Try.ntmps53
    go_wp2_with fail
    go_ret
    exact ⟨rfl, rfl⟩
  · have d1 : decide (e < 0) = false := by simpa using h0
    by_cases h4 : e < E.length
    · obtain ⟨x, h2, h3⟩ := entE_none hx (by omega) h4
      obtain ⟨g, rfl⟩ := hE.shape (by omega)
      obtain ⟨k, rfl⟩ : ∃ k : Nat, e = (k : Int) := ⟨e.toNat, by omega⟩
      have q0 : w.cell? ⟨g, k * 5, none⟩ = some (.bool false) := by
        have h := hE.cell (show E[k]? = some x from by simpa using h2) 0 (by omega)
        rw [show x.cell 0 = .bool x.live from rfl, h3] at h; exact h
      obtain ⟨n, hn⟩ := ex_hid E.length
      rw [← hn.out] at e1 h4 hl
      have d2 : decide ((n : Int) ≤ (k : Int)) = false := by simp; omega
      clear h1 hE hx h2 h3
      go_enter Try.func53, Try.ntmps53
      go_wp2_with fail
      go_ret
      exact ⟨rfl, rfl⟩
    · have d2 : decide (((E.length : Nat) : Int) ≤ e) = true := by simp; omega
      obtain ⟨n, hn⟩ := ex_hid E.length
      rw [← hn.out] at e1 h4 hl d2
      clear h1 hE hx
      go_enter Try.func53, Try.ntmps53
      go_wp2_with fail
      go_ret
      exact ⟨rfl, rfl⟩

/-- Behind At. -/
def atE (o : Option Ent) : Ent := o.getD noE
def okE (o : Option Ent) : Int := if o.isSome then 0 else 7
set_option maxRecDepth 100000 in
theorem at_any (t lo c : Nat) (a : Option Addr) (E : List Ent) (m cp lv bi ma tu : Value) (e : Int) (w : World) (h1 : w.heap[t]? = some (tabO m (.slice a E.length c) cp lv bi ma tu)) (hE : EntRow lo a c E w) (hl : E.length ≤ 1000000) :
    Calls Try.prog 23 #[.pointer (some ⟨t, 0, none⟩), .int .i64 e] w fun r w' => r = .returned (.tuple #[(atE (entE E e)).agg, .int .i64 (okE (entE E e))]) ∧ Below w.heap.size w w' := by
  have H1 := Lib.hid h1
  have HE := Lib.hid hE
  have k1 : Below w.heap.size w (w.alloc (.cells #[.bool false, .int .i64 0, .int .i64 0, .int .i64 0, .int .i64 0] 32)) := (Below.refl _ _).alloc (Nat.le_refl _) _
  have K1 := Lib.hid k1
  cases hx : entE E e with
  | none =>
    have HX := Lib.hid hx
    clear h1 hE hx k1
    go_enter Try.func23, Try.ntmps23
    go_wp2_with fail
    refine (wrong_no t lo c a E m cp lv bi ma tu e _ (has_alloc H1.out _) (HE.out.keeps (Below.keeps K1.out []) (by simp)) hl HX.out).mono ?_
    rintro r w1 ⟨rfl, rfl⟩
    go_wp2_with fail
    exact bodyPost_ret (v := .tuple #[noE.agg, .int .i64 7]) (by simp [results, Try.results23, go_sem, noE, Ent.agg]) rfl ⟨rfl, K1.out⟩
  | some x =>
    have HX := Lib.hid hx
    obtain ⟨h0, h2, h3, h4⟩ := entE_some hx
    obtain ⟨g, rfl⟩ := hE.shape (by omega)
    obtain ⟨k, rfl⟩ : ∃ k : Nat, e = (k : Int) := ⟨e.toNat, by omega⟩
    have hE2 := HE.out.keeps (Below.keeps K1.out []) (by simp)
    have hxk : E[k]? = some x := by simpa using h2
    have q0 : (w.alloc (.cells #[.bool false, .int .i64 0, .int .i64 0, .int .i64 0, .int .i64 0] 32)).cell? ⟨g, k * 5, none⟩ = some (.bool true) := by
      have h := hE2.cell hxk 0 (by omega)
      rw [show x.cell 0 = .bool x.live from rfl, h3] at h; exact h
    have q1 : (w.alloc (.cells #[.bool false, .int .i64 0, .int .i64 0, .int .i64 0, .int .i64 0] 32)).cell? ⟨g, k * 5 + 1, none⟩ = some (.int .i64 x.hash) := hE2.cell hxk 1 (by omega)
    have q2 : (w.alloc (.cells #[.bool false, .int .i64 0, .int .i64 0, .int .i64 0, .int .i64 0] 32)).cell? ⟨g, k * 5 + 2, none⟩ = some (.int .i64 x.key) := hE2.cell hxk 2 (by omega)
    have q3 : (w.alloc (.cells #[.bool false, .int .i64 0, .int .i64 0, .int .i64 0, .int .i64 0] 32)).cell? ⟨g, k * 5 + 3, none⟩ = some (.int .i64 x.val) := hE2.cell hxk 3 (by omega)
    have q4 : (w.alloc (.cells #[.bool false, .int .i64 0, .int .i64 0, .int .i64 0, .int .i64 0] 32)).cell? ⟨g, k * 5 + 4, none⟩ = some (.int .i64 x.birth) := hE2.cell hxk 4 (by omega)
    have e1 : (w.alloc (.cells #[.bool false, .int .i64 0, .int .i64 0, .int .i64 0, .int .i64 0] 32)).cell? ⟨t, 1, none⟩ = some (.slice (some ⟨g, 0, none⟩) E.length c) := cell_alloc (cell_has H1.out (i := 1) rfl) _
    obtain ⟨n, hn⟩ := ex_hid E.length
    rw [← hn.out] at e1 h4
    have k0 : (0 : Int) ≤ (k : Int) := by omega
    have hlive := Lib.hid h3
    clear h1 hE hx k1 h0 h2 h3 hE2 hxk
    go_enter Try.func23, Try.ntmps23
    go_wp2_with fail
    refine (wrong_ok t lo c _ E m cp lv bi ma tu k x _ (has_alloc H1.out _) (HE.out.keeps (Below.keeps K1.out []) (by simp)) hl HX.out).mono ?_
    rintro r w1 ⟨rfl, rfl⟩
    go_wp2_with fail
    exact bodyPost_ret (v := .tuple #[x.agg, .int .i64 0]) (by simp [results, Try.results23, go_sem, Ent.agg, hlive.out]) rfl ⟨rfl, (Below.refl _ _).alloc (Nat.le_refl _) _⟩
end Go.Proofs.Ytajcbghhpjpmhaa
