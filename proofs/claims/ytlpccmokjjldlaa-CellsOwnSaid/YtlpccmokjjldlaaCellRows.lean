/- The rows of cells of the three widths (chapter 6). -/
import Derived.Test.YtlpccmokjjldlaaProg
import Derived.Test.YtlpccmokjjldlaaMem
import Derived.WalkSmall
namespace Go.Proofs.Ytlpccmokjjldlaa
open Go.RowKit
set_option linter.unusedVariables false

/-- A row of numbers of one kind. -/
def numA (k : IntKind) (n : Nat) (V : Nat → Int) : Array Value := ((List.range n).map fun v => Value.int k (V v)).toArray
theorem numA_size (k : IntKind) (n : Nat) (V : Nat → Int) : (numA k n V).size = n := by simp [numA]
theorem numA_get {k : IntKind} {n : Nat} {V : Nat → Int} {v : Nat} (h : v < n) : (numA k n V)[v]? = some (.int k (V v)) := by simp [numA, h]
theorem numA_ext {k : IntKind} {n : Nat} {B C : Nat → Int} (h : ∀ v, v < n → B v = C v) : numA k n B = numA k n C := by
  unfold numA
  congr 1
  exact List.map_congr_left fun v hv => by rw [h v (List.mem_range.1 hv)]
/-- One number laid anew. -/
def putN (V : Nat → Int) (i : Nat) (x : Int) : Nat → Int := fun j => if j = i then x else V j
theorem numA_set {k : IntKind} {n : Nat} {V : Nat → Int} {v : Nat} (b : Int) : (numA k n V).setIfInBounds v (.int k b) = numA k n (putN V v b) := by
  apply Array.ext_getElem?
  intro i
  rw [Array.getElem?_setIfInBounds]
  by_cases hi : i < n
  · rw [numA_get hi, numA_size]
    by_cases hv : v = i
    · subst hv; rw [numA_get hi]; simp [hi, putN]
    · rw [if_neg hv, numA_get hi]; simp only [putN]; rw [if_neg (fun e => hv e.symm)]
  · have h1 : ∀ C : Nat → Int, (numA k n C)[i]? = none := fun C => by simp [numA]; omega
    rw [h1, h1]
    split
    · rename_i h; subst h; rw [numA_size, if_neg hi]
    · rfl
theorem made_nums (k : IntKind) (n : Nat) : madeCells #[.int k 0] n = numA k n (fun _ => 0) := by
  apply Array.ext_getElem?
  intro i
  by_cases hi : i < n
  · rw [numA_get hi]; simp [madeCells, hi, Nat.mod_one]
  · simp [madeCells, numA, hi]

/-! of[int8] -/
theorem get_8 (r n i : Nat) (V : Nat → Int) (ii : Int) (hii : ii = (i : Int)) (wd : Int) (w : World) (hr : w.heap[r]? = some (.cells (numA .i8 n V) 135 (0, 0))) (hi : i < n) (hV : -2147483648 ≤ V i ∧ V i ≤ 2147483647) :
    Calls Try.prog 92 #[.agg #[.slice (some ⟨r, 0, none⟩) n n, .int .i64 wd], .int .i64 ii] w fun e w' => e = .returned (.int .i64 (V i)) ∧ Below w.heap.size w w' := by
  subst hii
  have c0 : w.cell? ⟨r, i, none⟩ = some (.int .i8 (V i)) := cell_has hr (numA_get hi)
  have z := lt_of_block hr
  have h1 : (0 : Int) ≤ (i : Int) := by omega
  have h2 : (i : Int) < (n : Int) := by omega
  obtain ⟨x, hx⟩ := ex_hid (V i)
  rw [← hx.out] at c0 hV ⊢
  obtain ⟨v1, v2⟩ := hV
  clear hr
  go_enter Try.func92, Try.ntmps92
  go_wp2_with fail
  go_ret
  exact ⟨rfl, (Below.refl _ _).alloc (Nat.le_refl _) _⟩
theorem set_8 (r n i : Nat) (V : Nat → Int) (ii : Int) (hii : ii = (i : Int)) (wd x : Int) (w : World) (hr : w.heap[r]? = some (.cells (numA .i8 n V) 135 (0, 0))) (hi : i < n) :
    Calls Try.prog 94 #[.agg #[.slice (some ⟨r, 0, none⟩) n n, .int .i64 wd], .int .i64 ii, .int .i64 x] w fun e w' => e = .returned (.tuple #[]) ∧ Keeps [r] w w' ∧ w'.heap[r]? = some (.cells (numA .i8 n (putN V i (IntKind.wrap .i8 x))) 135 (0, 0)) := by
  subst hii
  have c0 : w.cell? ⟨r, i, none⟩ = some (.int .i8 (V i)) := cell_has hr (numA_get hi)
  have f0 := free_of_has hr i
  have z := lt_of_block hr
  have h1 : (0 : Int) ≤ (i : Int) := by omega
  have h2 : (i : Int) < (n : Int) := by omega
  obtain ⟨y, hy⟩ := ex_hid (V i)
  rw [← hy.out] at c0
  have H := Lib.hid hr
  obtain ⟨q, hq⟩ := ex_hid (IntKind.wrap .i8 x)
  have e1 : IntKind.wrap .i8 x = q := hq.out.symm
  clear hr
  go_enter Try.func94, Try.ntmps94
  go_wp2_with fail
  go_end0
  refine ⟨rfl, ((Keeps.refl [r] _).setCell (.inr List.mem_cons_self) _).alloc _, ?_⟩
  have h := has_setCell H.out i (.int .i8 q)
  rw [numA_set] at h
  rw [← hq.out]
  exact has_alloc h _
theorem len_8 (a : Option Addr) (n : Nat) (wd : Int) (w : World) :
    Calls Try.prog 93 #[.agg #[.slice a n n, .int .i64 wd]] w fun e w' => e = .returned (.int .i64 n) ∧ Below w.heap.size w w' := by
  go_enter Try.func93, Try.ntmps93
  go_wp2_with fail
  go_ret
  exact ⟨rfl, (Below.refl _ _).alloc (Nat.le_refl _) _⟩
theorem width_8 (a : Option Addr) (n : Nat) (wd : Int) (w : World) :
    Calls Try.prog 95 #[.agg #[.slice a n n, .int .i64 wd]] w fun e w' => e = .returned (.int .i64 wd) ∧ Below w.heap.size w w' := by
  go_enter Try.func95, Try.ntmps95
  go_wp2_with fail
  go_ret
  exact ⟨rfl, (Below.refl _ _).alloc (Nat.le_refl _) _⟩

/-! of[int16] -/
theorem get_16 (r n i : Nat) (V : Nat → Int) (ii : Int) (hii : ii = (i : Int)) (wd : Int) (w : World) (hr : w.heap[r]? = some (.cells (numA .i16 n V) 136 (0, 0))) (hi : i < n) (hV : -2147483648 ≤ V i ∧ V i ≤ 2147483647) :
    Calls Try.prog 96 #[.agg #[.slice (some ⟨r, 0, none⟩) n n, .int .i64 wd], .int .i64 ii] w fun e w' => e = .returned (.int .i64 (V i)) ∧ Below w.heap.size w w' := by
  subst hii
  have c0 : w.cell? ⟨r, i, none⟩ = some (.int .i16 (V i)) := cell_has hr (numA_get hi)
  have z := lt_of_block hr
  have h1 : (0 : Int) ≤ (i : Int) := by omega
  have h2 : (i : Int) < (n : Int) := by omega
  obtain ⟨x, hx⟩ := ex_hid (V i)
  rw [← hx.out] at c0 hV ⊢
  obtain ⟨v1, v2⟩ := hV
  clear hr
  go_enter Try.func96, Try.ntmps96
  go_wp2_with fail
  go_ret
  exact ⟨rfl, (Below.refl _ _).alloc (Nat.le_refl _) _⟩
theorem set_16 (r n i : Nat) (V : Nat → Int) (ii : Int) (hii : ii = (i : Int)) (wd x : Int) (w : World) (hr : w.heap[r]? = some (.cells (numA .i16 n V) 136 (0, 0))) (hi : i < n) :
    Calls Try.prog 98 #[.agg #[.slice (some ⟨r, 0, none⟩) n n, .int .i64 wd], .int .i64 ii, .int .i64 x] w fun e w' => e = .returned (.tuple #[]) ∧ Keeps [r] w w' ∧ w'.heap[r]? = some (.cells (numA .i16 n (putN V i (IntKind.wrap .i16 x))) 136 (0, 0)) := by
  subst hii
  have c0 : w.cell? ⟨r, i, none⟩ = some (.int .i16 (V i)) := cell_has hr (numA_get hi)
  have f0 := free_of_has hr i
  have z := lt_of_block hr
  have h1 : (0 : Int) ≤ (i : Int) := by omega
  have h2 : (i : Int) < (n : Int) := by omega
  obtain ⟨y, hy⟩ := ex_hid (V i)
  rw [← hy.out] at c0
  have H := Lib.hid hr
  obtain ⟨q, hq⟩ := ex_hid (IntKind.wrap .i16 x)
  have e1 : IntKind.wrap .i16 x = q := hq.out.symm
  clear hr
  go_enter Try.func98, Try.ntmps98
  go_wp2_with fail
  go_end0
  refine ⟨rfl, ((Keeps.refl [r] _).setCell (.inr List.mem_cons_self) _).alloc _, ?_⟩
  have h := has_setCell H.out i (.int .i16 q)
  rw [numA_set] at h
  rw [← hq.out]
  exact has_alloc h _
theorem len_16 (a : Option Addr) (n : Nat) (wd : Int) (w : World) :
    Calls Try.prog 97 #[.agg #[.slice a n n, .int .i64 wd]] w fun e w' => e = .returned (.int .i64 n) ∧ Below w.heap.size w w' := by
  go_enter Try.func97, Try.ntmps97
  go_wp2_with fail
  go_ret
  exact ⟨rfl, (Below.refl _ _).alloc (Nat.le_refl _) _⟩
theorem width_16 (a : Option Addr) (n : Nat) (wd : Int) (w : World) :
    Calls Try.prog 99 #[.agg #[.slice a n n, .int .i64 wd]] w fun e w' => e = .returned (.int .i64 wd) ∧ Below w.heap.size w w' := by
  go_enter Try.func99, Try.ntmps99
  go_wp2_with fail
  go_ret
  exact ⟨rfl, (Below.refl _ _).alloc (Nat.le_refl _) _⟩

/-! of[int32] -/
theorem get_32 (r n i : Nat) (V : Nat → Int) (ii : Int) (hii : ii = (i : Int)) (wd : Int) (w : World) (hr : w.heap[r]? = some (.cells (numA .i32 n V) 21 (0, 0))) (hi : i < n) (hV : -2147483648 ≤ V i ∧ V i ≤ 2147483647) :
    Calls Try.prog 100 #[.agg #[.slice (some ⟨r, 0, none⟩) n n, .int .i64 wd], .int .i64 ii] w fun e w' => e = .returned (.int .i64 (V i)) ∧ Below w.heap.size w w' := by
  subst hii
  have c0 : w.cell? ⟨r, i, none⟩ = some (.int .i32 (V i)) := cell_has hr (numA_get hi)
  have z := lt_of_block hr
  have h1 : (0 : Int) ≤ (i : Int) := by omega
  have h2 : (i : Int) < (n : Int) := by omega
  obtain ⟨x, hx⟩ := ex_hid (V i)
  rw [← hx.out] at c0 hV ⊢
  obtain ⟨v1, v2⟩ := hV
  clear hr
  go_enter Try.func100, Try.ntmps100
  go_wp2_with fail
  go_ret
  exact ⟨rfl, (Below.refl _ _).alloc (Nat.le_refl _) _⟩
theorem set_32 (r n i : Nat) (V : Nat → Int) (ii : Int) (hii : ii = (i : Int)) (wd x : Int) (w : World) (hr : w.heap[r]? = some (.cells (numA .i32 n V) 21 (0, 0))) (hi : i < n) :
    Calls Try.prog 102 #[.agg #[.slice (some ⟨r, 0, none⟩) n n, .int .i64 wd], .int .i64 ii, .int .i64 x] w fun e w' => e = .returned (.tuple #[]) ∧ Keeps [r] w w' ∧ w'.heap[r]? = some (.cells (numA .i32 n (putN V i (IntKind.wrap .i32 x))) 21 (0, 0)) := by
  subst hii
  have c0 : w.cell? ⟨r, i, none⟩ = some (.int .i32 (V i)) := cell_has hr (numA_get hi)
  have f0 := free_of_has hr i
  have z := lt_of_block hr
  have h1 : (0 : Int) ≤ (i : Int) := by omega
  have h2 : (i : Int) < (n : Int) := by omega
  obtain ⟨y, hy⟩ := ex_hid (V i)
  rw [← hy.out] at c0
  have H := Lib.hid hr
  obtain ⟨q, hq⟩ := ex_hid (IntKind.wrap .i32 x)
  have e1 : IntKind.wrap .i32 x = q := hq.out.symm
  clear hr
  go_enter Try.func102, Try.ntmps102
  go_wp2_with fail
  go_end0
  refine ⟨rfl, ((Keeps.refl [r] _).setCell (.inr List.mem_cons_self) _).alloc _, ?_⟩
  have h := has_setCell H.out i (.int .i32 q)
  rw [numA_set] at h
  rw [← hq.out]
  exact has_alloc h _
theorem len_32 (a : Option Addr) (n : Nat) (wd : Int) (w : World) :
    Calls Try.prog 101 #[.agg #[.slice a n n, .int .i64 wd]] w fun e w' => e = .returned (.int .i64 n) ∧ Below w.heap.size w w' := by
  go_enter Try.func101, Try.ntmps101
  go_wp2_with fail
  go_ret
  exact ⟨rfl, (Below.refl _ _).alloc (Nat.le_refl _) _⟩
theorem width_32 (a : Option Addr) (n : Nat) (wd : Int) (w : World) :
    Calls Try.prog 103 #[.agg #[.slice a n n, .int .i64 wd]] w fun e w' => e = .returned (.int .i64 wd) ∧ Below w.heap.size w w' := by
  go_enter Try.func103, Try.ntmps103
  go_wp2_with fail
  go_ret
  exact ⟨rfl, (Below.refl _ _).alloc (Nat.le_refl _) _⟩
end Go.Proofs.Ytlpccmokjjldlaa
