/- Index cells: Get and Set (chapter 6). -/
import Derived.Test.YtajcbghhpjpmhaaCellOps
import Derived.Test.YtajcbghhpjpmhaaTrailMath
namespace Go.Proofs.Ytajcbghhpjpmhaa
open Go.RowKit
set_option linter.unusedVariables false

/-- The numbers that cells hold fit their width. -/
def Fits (n : Nat) (V : Nat → Int) : Prop := ∀ i, mayB n (V i) = true ∨ V i = 0
theorem Fits.bounds {n : Nat} {V : Nat → Int} (h : Fits n V) (hn : n ≤ 1048576) (i : Nat) : -2147483648 ≤ V i ∧ V i ≤ 2147483647 := by
  rcases h i with h | h
  · simp [mayB] at h; omega
  · omega
theorem Fits.put {n : Nat} {V : Nat → Int} (h : Fits n V) (i : Nat) {v : Int} (hv : mayB n v = true) : Fits n (putN V i v) := by
  intro j
  unfold putN
  split
  · exact .inl hv
  · exact h j
theorem wrap_may (L n : Nat) (hL : L ≤ 20) (hn : n = 2 ^ L) (v : Int) (hv : mayB n v = true) : (kiOf L).wrap v = v := by
  have h : v = -1 ∨ v = -2 ∨ (0 ≤ v ∧ v < ((2 * n / 3 : Nat) : Int)) := by simpa [mayB] using hv
  unfold kiOf
  by_cases h1 : L ≤ 7
  · have h3 : n ≤ 2 ^ 7 := by rw [hn]; exact Nat.pow_le_pow_right (by omega) h1
    rw [if_pos h1]; simp only [IntKind.wrap, IntKind.bits, IntKind.signed]; simp; omega
  · rw [if_neg h1]
    by_cases h2 : L ≤ 15
    · have h3 : n ≤ 2 ^ 15 := by rw [hn]; exact Nat.pow_le_pow_right (by omega) h2
      rw [if_pos h2]; simp only [IntKind.wrap, IntKind.bits, IntKind.signed]; simp; omega
    · have h3 : n ≤ 2 ^ 20 := by rw [hn]; exact Nat.pow_le_pow_right (by omega) hL
      rw [if_neg h2]; simp only [IntKind.wrap, IntKind.bits, IntKind.signed]; simp; omega

set_option maxRecDepth 100000 in
theorem getc_in (c r L n : Nat) (V : Nat → Int) (i : Int) (w : World) (H : CellsAt c r L n V w) (hF : Fits n V) (hn : n ≤ 1048576) (h0 : 0 ≤ i) (h1 : i < n) :
    Calls Try.prog 50 #[.pointer (some ⟨c, 0, none⟩), .int .i64 i] w fun e w' => e = .returned (.tuple #[.int .i64 (V i.toNat), .int .i64 0]) ∧ Below w.heap.size w w' := by
  have HH := Lib.hid H
  have hm := (rowKind L).mg
  have he := fun args W => (rowKind L).eg args W
  obtain ⟨x, hx⟩ := ex_hid (V i.toNat)
  have HB := Lib.hid (hF.bounds hn i.toNat)
  clear H hF
  go_enter Try.func50, Try.ntmps50
  go_wp2_with fail
  refine (wrong_in _ _ _ _ _ _ _ HH.out h0 h1).mono ?_
  rintro e w1 ⟨rfl, b1⟩
  have H1 := Lib.hid (HH.out.below b1)
  have c1 := cell_has H1.out.ho (i := 1) rfl
  have B1 := Lib.hid b1
  clear b1
  go_wp2_with fail
  refine ((rowKind L).cg r n i.toNat V _ (by omega) _ _ H1.out.hr (by omega) HB.out).mono ?_
  rintro e w2 ⟨rfl, b2⟩
  rw [← hx.out]
  go_wp2_with fail
  go_ret2
  exact ⟨by rw [← hx.out]; rfl, B1.out.trans (b2.mono B1.out.size)⟩
theorem getc_out (c r L n : Nat) (V : Nat → Int) (i : Int) (w : World) (H : CellsAt c r L n V w) (h : i < 0 ∨ (0 ≤ i ∧ (n : Int) ≤ i)) :
    Calls Try.prog 50 #[.pointer (some ⟨c, 0, none⟩), .int .i64 i] w fun e w' => e = .returned (.tuple #[.int .i64 0, .int .i64 5]) ∧ Below w.heap.size w w' := by
  have HH := Lib.hid H
  have HC := Lib.hid h
  clear H h
  go_enter Try.func50, Try.ntmps50
  go_wp2_with fail
  refine (wrong_out _ _ _ _ _ _ _ HH.out HC.out).mono ?_
  rintro e w1 ⟨rfl, b1⟩
  go_wp2_with fail
  go_ret2
  exact ⟨rfl, b1⟩

/-- Behind a Set. -/
def SetC (c r L n : Nat) (V : Nat → Int) (x : Int) (w : World) (e : Ending) (w' : World) : Prop := e = .returned (.int .i64 x) ∧ Keeps [r] w w' ∧ CellsAt c r L n V w'
set_option maxRecDepth 100000 in
theorem setc_in (c r L n : Nat) (V : Nat → Int) (i v : Int) (w : World) (H : CellsAt c r L n V w) (hL : L ≤ 20) (hnL : n = 2 ^ L) (h0 : 0 ≤ i) (h1 : i < n) (hv : mayB n v = true) :
    Calls Try.prog 79 #[.pointer (some ⟨c, 0, none⟩), .int .i64 i, .int .i64 v] w (SetC c r L n (putN V i.toNat v) 0 w) := by
  have hn : n ≤ 1048576 := by rw [hnL]; exact pow_le hL
  have HH := Lib.hid H
  have hm := (rowKind L).ms
  have he := fun args W => (rowKind L).es args W
  have HW := Lib.hid (wrap_may L n hL hnL v hv)
  have HV := Lib.hid hv
  have HA := Lib.hid H.apart
  clear H hv hnL
  go_enter Try.func79, Try.ntmps79
  go_wp2_with fail
  refine (wrong_in _ _ _ _ _ _ _ HH.out h0 h1).mono ?_
  rintro e w1 ⟨rfl, b1⟩
  have H1 := Lib.hid (HH.out.below b1)
  have B1 := Lib.hid b1
  clear b1
  go_wp2_with fail
  refine (may_any _ _ _ _ _ _ _ H1.out hn).mono ?_
  rintro e w2 ⟨rfl, b2⟩
  rw [HV.out]
  have H2 := Lib.hid (H1.out.below b2)
  have c2 := cell_has H2.out.ho (i := 1) rfl
  have B2 := Lib.hid (B1.out.trans (b2.mono B1.out.size))
  clear b2
  go_wp2_with fail
  refine ((rowKind L).cs r n i.toNat V _ (by omega) _ v _ H2.out.hr (by omega)).mono ?_
  rintro e w3 ⟨rfl, k3, h3⟩
  rw [HW.out] at h3
  have K3 := Lib.hid k3
  have H3 := Lib.hid h3
  clear k3 h3
  go_wp2_with fail
  go_ret
  exact ⟨rfl, (Below.keeps B2.out [r]).trans K3.out, K3.out.has H2.out.ho (by simpa using HA.out), H3.out⟩
theorem setc_not (c r L n : Nat) (V : Nat → Int) (i v : Int) (w : World) (H : CellsAt c r L n V w) (hn : n ≤ 1048576) (h0 : 0 ≤ i) (h1 : i < n) (hv : mayB n v = false) :
    Calls Try.prog 79 #[.pointer (some ⟨c, 0, none⟩), .int .i64 i, .int .i64 v] w (SetC c r L n V 1 w) := by
  have HH := Lib.hid H
  have HV := Lib.hid hv
  clear H hv
  go_enter Try.func79, Try.ntmps79
  go_wp2_with fail
  refine (wrong_in _ _ _ _ _ _ _ HH.out h0 h1).mono ?_
  rintro e w1 ⟨rfl, b1⟩
  have H1 := Lib.hid (HH.out.below b1)
  have B1 := Lib.hid b1
  clear b1
  go_wp2_with fail
  refine (may_any _ _ _ _ _ _ _ H1.out hn).mono ?_
  rintro e w2 ⟨rfl, b2⟩
  rw [HV.out]
  have H2 := Lib.hid (H1.out.below b2)
  have B2 := Lib.hid (B1.out.trans (b2.mono B1.out.size))
  clear b2
  go_wp2_with fail
  go_ret
  exact ⟨rfl, Below.keeps B2.out [r], H2.out⟩
theorem setc_out (c r L n : Nat) (V : Nat → Int) (i v : Int) (w : World) (H : CellsAt c r L n V w) (h : i < 0 ∨ (0 ≤ i ∧ (n : Int) ≤ i)) :
    Calls Try.prog 79 #[.pointer (some ⟨c, 0, none⟩), .int .i64 i, .int .i64 v] w (SetC c r L n V 5 w) := by
  have HH := Lib.hid H
  have HC := Lib.hid h
  clear H h
  go_enter Try.func79, Try.ntmps79
  go_wp2_with fail
  refine (wrong_out _ _ _ _ _ _ _ HH.out HC.out).mono ?_
  rintro e w1 ⟨rfl, b1⟩
  go_wp2_with fail
  go_ret
  exact ⟨rfl, Below.keeps b1 [r], HH.out.below b1⟩
end Go.Proofs.Ytajcbghhpjpmhaa
