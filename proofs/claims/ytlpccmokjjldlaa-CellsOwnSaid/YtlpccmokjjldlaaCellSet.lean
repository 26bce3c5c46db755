/- The document's Set and May; both Sets and Gets as one answer (chapter 6). -/
import Derived.Test.YtlpccmokjjldlaaCellRef
namespace Go.Proofs.Ytlpccmokjjldlaa
open Go.RowKit
set_option linter.unusedVariables false

theorem rmay_any (L n : Nat) (l v : Int) (hl : l = (L : Int)) (h3 : 3 ≤ L) (hL : L ≤ 20) (hn : n = 2 ^ L) (w : World) :
    Calls Try.prog 71 #[.int .i64 l, .int .i64 v] w fun e w' => e = .returned (.bool (mayB n v)) ∧ w = w' := by
  subst hl
  have HN := Lib.hid hn
  clear hn
  by_cases h1 : v = -1
  · subst h1
    rw [show mayB n (-1) = true by simp [mayB]]
    go_enter Try.func71, Try.ntmps71
    go_wp2_with fail
    go_ret
    exact ⟨rfl, rfl⟩
  have d1 : (v == -1) = false := by simpa using h1
  by_cases h2 : v = -2
  · subst h2
    rw [show mayB n (-2) = true by simp [mayB]]
    go_enter Try.func71, Try.ntmps71
    go_wp2_with fail
    go_ret
    exact ⟨rfl, rfl⟩
  have d2 : (v == -2) = false := by simpa using h2
  by_cases h3' : 0 ≤ v
  · have d3 : decide (0 ≤ v) = true := by simpa using h3'
    obtain ⟨b, hb⟩ := ex_hid (mayB n v)
    have hx : decide (v < 2 * (n : Int) / 3) = b := by
      rw [hb.out]
      have e : ((2 * n / 3 : Nat) : Int) = 2 * (n : Int) / 3 := by omega
      simp only [mayB, h1, h2, h3', e, false_or, true_and]
    have HX := Lib.hid hx
    rw [← hb.out]
    clear hx h1 h2
    go_enter Try.func71, Try.ntmps71
    go_wp2_with fail
    refine (rroom_any L n _ rfl h3 hL HN.out _).mono ?_
    rintro e w1 ⟨rfl, rfl⟩
    go_wp2_with fail
    go_ret
    exact ⟨ret_boo HX.out, rfl⟩
  · have d3 : decide (0 ≤ v) = false := by simpa using h3'
    rw [show mayB n v = false by simp [mayB, h1, h2, h3']]
    clear h1 h2 h3'
    go_enter Try.func71, Try.ntmps71
    go_wp2_with fail
    go_ret
    exact ⟨rfl, rfl⟩

def setE (n : Nat) (i v : Int) : Int := if i < 0 ∨ (n : Int) ≤ i then 5 else if mayB n v then 0 else 1
def setV (n : Nat) (V : Nat → Int) (i v : Int) : Nat → Int := if i < 0 ∨ (n : Int) ≤ i then V else if mayB n v then putN V i.toNat v else V
def getE (n : Nat) (i : Int) : Int := if i < 0 ∨ (n : Int) ≤ i then 5 else 0
def getV (n : Nat) (V : Nat → Int) (i : Int) : Int := if i < 0 ∨ (n : Int) ≤ i then 0 else V i.toNat
theorem setV_fits {n : Nat} {V : Nat → Int} (h : Fits n V) (i v : Int) : Fits n (setV n V i v) := by
  unfold setV
  split
  · exact h
  · split
    · rename_i hv; exact h.put _ hv
    · exact h

theorem setc_any (c r L n : Nat) (V : Nat → Int) (i v : Int) (w : World) (H : CellsAt c r L n V w) (hL : L ≤ 20) (hn : n = 2 ^ L) :
    Calls Try.prog 38 #[.pointer (some ⟨c, 0, none⟩), .int .i64 i, .int .i64 v] w (SetC c r L n (setV n V i v) (setE n i v) w) := by
  have hn1 : n ≤ 1048576 := by rw [hn]; exact pow_le hL
  unfold setV setE
  by_cases h : i < 0 ∨ (n : Int) ≤ i
  · rw [if_pos h, if_pos h]; exact setc_out c r L n V i v w H (by omega)
  · rw [if_neg h, if_neg h]
    cases hv : mayB n v
    · simp only [Bool.false_eq_true, if_false]; exact setc_not c r L n V i v w H hn1 (by omega) (by omega) hv
    · simp only [if_true]; exact setc_in c r L n V i v w H hL hn (by omega) (by omega) hv
theorem getc_any (c r L n : Nat) (V : Nat → Int) (i : Int) (w : World) (H : CellsAt c r L n V w) (hF : Fits n V) (hn1 : n ≤ 1048576) :
    Calls Try.prog 42 #[.pointer (some ⟨c, 0, none⟩), .int .i64 i] w fun e w' => e = .returned (.tuple #[.int .i64 (getV n V i), .int .i64 (getE n i)]) ∧ Below w.heap.size w w' := by
  unfold getV getE
  by_cases h : i < 0 ∨ (n : Int) ≤ i
  · rw [if_pos h, if_pos h]; exact getc_out c r L n V i w H (by omega)
  · rw [if_neg h, if_neg h]; exact getc_in c r L n V i w H hF hn1 (by omega) (by omega)
theorem rget_any (q L n : Nat) (V : Nat → Int) (i : Int) (w : World) (H : RefAt q n V w) (hL : 0 < L) :
    Calls Try.prog 65 #[.agg #[.int .i64 L, .slice (some ⟨q, 0, none⟩) n n], .int .i64 i] w fun e w' => e = .returned (.tuple #[.int .i64 (getV n V i), .int .i64 (getE n i)]) ∧ Below w.heap.size w w' := by
  unfold getV getE
  by_cases h : i < 0 ∨ (n : Int) ≤ i
  · rw [if_pos h, if_pos h]; exact rget_out q L n i w hL (by omega)
  · rw [if_neg h, if_neg h]; exact rget_in q L n V i w H hL (by omega) (by omega)

/-- Behind the document's Set. -/
def SetR (q n : Nat) (V : Nat → Int) (x : Int) (w : World) (e : Ending) (w' : World) : Prop := e = .returned (.int .i64 x) ∧ Keeps [q] w w' ∧ RefAt q n V w'

theorem box_facts {w w1 : World} {L : Int} {s : Value} {t : TypeId} (b : Below (w.heap.size + 1) (w.alloc (.cells #[.int .i64 L, s] t)) w1) : w1.heap[w.heap.size]? = some (.cells #[.int .i64 L, s] t (0, 0)) :=
  (b.block _ (by omega)).trans (has_new _ _)

theorem rset_out (q L n : Nat) (V : Nat → Int) (i v : Int) (w : World) (H : RefAt q n V w) (hL : 0 < L) (h : i < 0 ∨ (0 ≤ i ∧ (n : Int) ≤ i)) :
    Calls Try.prog 64 #[.agg #[.int .i64 L, .slice (some ⟨q, 0, none⟩) n n], .int .i64 i, .int .i64 v] w (SetR q n V 5 w) := by
  have HH := Lib.hid H
  have HC := Lib.hid h
  clear H h
  go_enter Try.func64, Try.ntmps64
  go_wp2_with fail
  refine (rget_out q L n i _ hL HC.out).mono ?_
  rintro e w1 ⟨rfl, b1⟩
  have K := Lib.hid (Below.keeps b1 [])
  clear b1
  go_wp2_with fail
  go_ret
  exact ⟨rfl, (((Keeps.refl [] w).alloc _).trans K.out).mono (by simp), K.out.has (has_alloc HH.out _) (by simp)⟩
theorem rset_not (q L n : Nat) (V : Nat → Int) (i v : Int) (w : World) (H : RefAt q n V w) (h3 : 3 ≤ L) (hL : L ≤ 20) (hn : n = 2 ^ L) (h0 : 0 ≤ i) (h1 : i < n) (hv : mayB n v = false) :
    Calls Try.prog 64 #[.agg #[.int .i64 L, .slice (some ⟨q, 0, none⟩) n n], .int .i64 i, .int .i64 v] w (SetR q n V 1 w) := by
  have HH := Lib.hid H
  have HN := Lib.hid hn
  have HV := Lib.hid hv
  clear H hn hv
  go_enter Try.func64, Try.ntmps64
  go_wp2_with fail
  refine (rget_in q L n V i _ (has_alloc HH.out _) (by omega) h0 h1).mono ?_
  rintro e w1 ⟨rfl, b1⟩
  obtain ⟨x, hx⟩ := ex_hid (V i.toNat)
  rw [← hx.out]
  have K := Lib.hid (Below.keeps b1 [])
  have hb := K.out.has (has_new w _) (by simp)
  have c0 := cell_has hb (i := 0) rfl
  clear b1 hb
  go_wp2_with fail
  refine (rmay_any L n _ v rfl h3 hL HN.out _).mono ?_
  rintro e w2 ⟨rfl, rfl⟩
  rw [HV.out]
  go_wp2_with fail
  go_ret
  exact ⟨rfl, (((Keeps.refl [] w).alloc _).trans K.out).mono (by simp), K.out.has (has_alloc HH.out _) (by simp)⟩
theorem rset_in (q L n : Nat) (V : Nat → Int) (i v : Int) (w : World) (H : RefAt q n V w) (h3 : 3 ≤ L) (hL : L ≤ 20) (hn : n = 2 ^ L) (h0 : 0 ≤ i) (h1 : i < n) (hv : mayB n v = true) :
    Calls Try.prog 64 #[.agg #[.int .i64 L, .slice (some ⟨q, 0, none⟩) n n], .int .i64 i, .int .i64 v] w (SetR q n (putN V i.toNat v) 0 w) := by
  have HH := Lib.hid H
  have HN := Lib.hid hn
  have HV := Lib.hid hv
  have z := lt_of_block H
  clear H hn hv
  go_enter Try.func64, Try.ntmps64
  go_wp2_with fail
  refine (rget_in q L n V i _ (has_alloc HH.out _) (by omega) h0 h1).mono ?_
  rintro e w1 ⟨rfl, b1⟩
  obtain ⟨x, hx⟩ := ex_hid (V i.toNat)
  rw [← hx.out]
  have K := Lib.hid (Below.keeps b1 [])
  have hb := K.out.has (has_new w _) (by simp)
  have c0 := cell_has hb (i := 0) rfl
  have c1 := cell_has hb (i := 1) rfl
  have hq := K.out.has (has_alloc HH.out _) (by simp)
  have c2 := cell_has hq (numA_get (show i.toNat < n by omega))
  rw [← hx.out] at c2
  have f2 := free_of_has hq i.toNat
  have HQ := Lib.hid hq
  clear b1 hb hq
  go_wp2_with fail
  refine (rmay_any L n _ v rfl h3 hL HN.out _).mono ?_
  rintro e w2 ⟨rfl, rfl⟩
  rw [HV.out]
  go_wp2_with fail
  go_ret
  refine ⟨rfl, ((((Keeps.refl [] w).alloc _).trans K.out).mono (by simp)).setCell (.inr (by simp)) _, ?_⟩
  have h := has_setCell HQ.out i.toNat (.int .i64 v)
  rw [numA_set] at h
  exact h
theorem rset_any (q L n : Nat) (V : Nat → Int) (i v : Int) (w : World) (H : RefAt q n V w) (h3 : 3 ≤ L) (hL : L ≤ 20) (hn : n = 2 ^ L) :
    Calls Try.prog 64 #[.agg #[.int .i64 L, .slice (some ⟨q, 0, none⟩) n n], .int .i64 i, .int .i64 v] w (SetR q n (setV n V i v) (setE n i v) w) := by
  unfold setV setE
  by_cases h : i < 0 ∨ (n : Int) ≤ i
  · rw [if_pos h, if_pos h]; exact rset_out q L n V i v w H (by omega) (by omega)
  · rw [if_neg h, if_neg h]
    cases hv : mayB n v
    · simp only [Bool.false_eq_true, if_false]; exact rset_not q L n V i v w H h3 hL hn (by omega) (by omega) hv
    · simp only [if_true]; exact rset_in q L n V i v w H h3 hL hn (by omega) (by omega) hv
end Go.Proofs.Ytlpccmokjjldlaa
