/- All of index cells: a list of what they hold (chapter 6). -/
import Derived.Test.YtajcbghhpjpmhaaCellSetT
import Derived.Deep.RegionHeld3
import Derived.Deep.DrawnRows
namespace Go.Proofs.Ytajcbghhpjpmhaa
open Go.RowKit
set_option linter.unusedVariables false
attribute [local go_sem ↓] Go.wp_at_zero Go.wp_at_succ

/-- Behind All: a closure over a list of its own. -/
def AllC (n : Nat) (V : Nat → Int) (w : World) (e : Ending) (w' : World) : Prop :=
  ∃ bl g, e = .returned (.func (.func 82) #[] #[.pointer (some ⟨bl, 0, none⟩)]) ∧ w'.heap[bl]? = some (.cells #[.slice (some ⟨g, 0, none⟩) n n] 22 (0, 0)) ∧ RefAt g n V w' ∧ w.heap.size ≤ bl ∧ w.heap.size ≤ g ∧ Below w.heap.size w w'

/-- The first i numbers have been read. -/
def readN (V : Nat → Int) (i : Nat) : Nat → Int := fun j => if j < i then V j else 0
theorem readN_put (V : Nat → Int) (i : Nat) : putN (readN V i) i (V i) = readN V (i + 1) := by
  funext j
  unfold putN readN
  by_cases h : j = i
  · subst h; rw [if_pos rfl, if_pos (by omega)]
  · rw [if_neg h]
    by_cases h2 : j < i
    · rw [if_pos h2, if_pos (by omega)]
    · rw [if_neg h2, if_neg (by omega)]
theorem readN_all (k : IntKind) (n : Nat) (V : Nat → Int) : numA k n (readN V n) = numA k n V := numA_ext fun v hv => by simp [readN, hv]

set_option maxRecDepth 100000 in
set_option maxHeartbeats 1000000 in
theorem allc_any (c r L n : Nat) (V : Nat → Int) (w : World) (H : CellsAt c r L n V w) (hF : Fits n V) (hn1 : n ≤ 1048576) :
    Calls Try.prog 44 #[.pointer (some ⟨c, 0, none⟩)] w (AllC n V w) := by
  have HH := Lib.hid H
  have hm := fun w => make_ints w n hn1
  have HF := Lib.hid hF
  clear H hF
  go_enter Try.func44, Try.ntmps44
  go_wp2_with fail
  refine (size_any c r L n V _ HH.out).mono ?_
  rintro e w1 ⟨rfl, b1⟩
  have H1 := Lib.hid (HH.out.below b1)
  have B1 := Lib.hid b1
  have z1 := b1.size
  clear b1
  go_wp2_with fail
  have hK := Lib.hid (((Keeps.refl [] w1).alloc (.cells (numA .i64 n (fun _ => 0)) 3)).alloc (.cells #[.slice (some ⟨w1.heap.size, 0, none⟩) n n] 22))
  clear hm
  go_loopw [10] (fun i wr => ∃ k : Nat, k ≤ n ∧ i = .int .i64 k ∧ wr.heap[w1.heap.size + 1]? = some (.cells #[.slice (some ⟨w1.heap.size, 0, none⟩) n n] 22 (0, 0)) ∧ RefAt w1.heap.size n (readN V k) wr ∧ Keeps [] w1 wr) (fun i _ => n - (intOf i).toNat)
  case atStart =>
    refine ⟨0, by omega, rfl, has_new' _ _ (by simp), ?_, hK.out⟩
    rw [show readN V 0 = fun _ => 0 by funext j; simp [readN]]
    exact has_alloc (has_new _ _) _
  case round =>
    obtain ⟨k, hk, rfl, hl, hq, kw⟩ := hrel
    clear hK
    have hk0 : (0 : Int) ≤ (k : Int) := by omega
    by_cases hlt : k < n
    · have hlt' : (k : Int) < (n : Int) := by omega
      have HC := H1.out.keeps kw (by simp) (by simp)
      have c0 := cell_has hl (i := 0) rfl
      have c1 := cell_has HC.ho (i := 1) rfl
      have hmg := (rowKind L).mg
      have heg := fun args W => (rowKind L).eg args W
      have HCd := Lib.hid HC
      have zc : w1.heap.size ≠ c := by have := lt_of_block H1.out.ho; omega
      have HL := Lib.hid hl
      have HQ := Lib.hid hq
      have KW := Lib.hid kw
      have z3 := Lib.hid (lt_of_block hl)
      have HB := Lib.hid (HF.out.bounds hn1 k)
      obtain ⟨x, hx⟩ := ex_hid (V k)
      clear HC hl hq kw
      go_wp2_with fail
      go_region_held3 (fun w' => w'.cell? ⟨w1.heap.size + 1, 0, none⟩ = some (.slice (some ⟨w1.heap.size, 0, none⟩) n n) ∧ w'.cell? ⟨c, 1, none⟩ = some (.iface (tyOf L) (.agg #[.slice (some ⟨r, 0, none⟩) n n, .int .i64 (wdOf L)]))) (go_keep)
        (first | (refine ((rowKind L).cg r n k V _ rfl _ _ (has_drew HCd.out.hr) hlt HB.out).mono ?_; rintro e w2 ⟨rfl, b2⟩; rw [← hx.out]; have p0 := (Below.keeps b2 []).cell (w := wr.drew) c0 (by simp); have p1 := (Below.keeps b2 []).cell (w := wr.drew) c1 (by simp); have hq2 := (Below.keeps b2 []).has (has_drew HQ.out) (by simp); have p2 := cell_has hq2 (numA_get hlt); have f2 := free_of_has hq2 k; have HQ2 := Lib.hid hq2; have B2 := Lib.hid b2; clear hq2 b2))
      go_wp2_with fail
      go_roundw
      case rel =>
        refine ⟨k + 1, by omega, by go_num, ?_, ?_, ?_⟩
        · exact has_setCell_other ((Below.keeps B2.out []).has (has_drew HL.out) (by simp)) (by simp) _
        · have h := has_setCell HQ2.out k (.int .i64 x)
          rw [numA_set, hx.out, readN_put] at h
          rw [hx.out]
          exact h
        · exact (KW.out.drew.trans (Below.keeps B2.out [])).setCell (.inl (Nat.le_refl _)) _
      case measure => simp [intOf]; omega
    · have hge : (n : Int) ≤ (k : Int) := by omega
      have hke : k = n := by omega
      have hq2 : wr.heap[w1.heap.size]? = some (.cells (numA .i64 n (readN V k)) 3 (0, 0)) := hq
      rw [hke, readN_all] at hq2
      have HQ : Hid (RefAt w1.heap.size n V wr) := Lib.hid hq2
      clear hq2
      have HL := Lib.hid hl
      have KW := Lib.hid kw
      clear hl hq kw hke
      go_wp2_with fail
      go_ret
      exact ⟨w1.heap.size + 1, w1.heap.size, rfl, HL.out, HQ.out, by omega, z1, B1.out.trans (KW.out.below z1 (by simp))⟩

end Go.Proofs.Ytajcbghhpjpmhaa
