/- The rows of cells of the three widths (chapter 6). -/
import Derived.Test.YtajcbghhpjpmhaaProg
import Derived.Test.YtajcbghhpjpmhaaMem
import Derived.WalkSmall
namespace Go.Proofs.Ytajcbghhpjpmhaa
open Go.RowKit
set_option linter.unusedVariables false

/-- A row of numbers of one kind. -/
def numA (k : IntKind) (n : Nat) (V : Nat → Int) : Array Value := ((List.range n).map fun v => Value.int k (V v)).toArray
theorem numA_size (k : IntKind) (n : Nat) (V : Nat → Int) : (numA k n V).size = n := by simp [numA]
theorem numA_get {k : IntKind} {n : Nat} {V : Nat → Int} {v : Nat} (h : v < n) : (numA k n V)[v]? = some (.int k (V v)) := by simp [numA, h]
theorem numA_ext {k : IntKind} {n : Nat} {B C : Nat → Int} (h : ∀ v, v < n → B v = C v) : numA k n B = numA k n C := by
  unfold numA
  congr 1
  exact List.map_congr_left fun v hv => by rw [h v (List.mem_range.1 hv)]
/-- One number laid anew. -/
def putN (V : Nat → Int) (i : Nat) (x : Int) : Nat → Int := fun j => if j = i then x else V j
theorem numA_set {k : IntKind} {n : Nat} {V : Nat → Int} {v : Nat} (b : Int) : (numA k n V).setIfInBounds v (.int k b) = numA k n (putN V v b) := by
  apply Array.ext_getElem?
  intro i
  rw [Array.getElem?_setIfInBounds]
  by_cases hi : i < n
  · rw [numA_get hi, numA_size]
    by_cases hv : v = i
    · subst hv; rw [numA_get hi]; simp [hi, putN]
    · rw [if_neg hv, numA_get hi]; simp only [putN]; rw [if_neg (fun e => hv e.symm)]
  · have h1 : ∀ C : Nat → Int, (numA k n C)[i]? = none := fun C => by simp [numA]; omega
    rw [h1, h1]
    split
    · rename_i h; subst h; rw [numA_size, if_neg hi]
    · rfl
theorem made_nums (k : IntKind) (n : Nat) : madeCells #[.int k 0] n = numA k n (fun _ => 0) := by
  apply Array.ext_getElem?
  intro i
  by_cases hi : i < n
  · rw [numA_get hi]; simp [madeCells, hi, Nat.mod_one]
  · simp [madeCells, numA, hi]

/-! of[int8] -/
theorem get_8 (r n i : Nat) (V : Nat → Int) (ii : Int) (hii : ii = (i : Int)) (wd : Int) (w : World) (hr : w.heap[r]? = some (.cells (numA .i8 n V) 172 (0, 0))) (hi : i < n) (hV : -2147483648 ≤ V i ∧ V i ≤ 2147483647) :
    Calls Try.prog 112 #[.agg #[.slice (some ⟨r, 0, none⟩) n n, .int .i64 wd], .int .i64 ii] w fun e w' => e = .returned (.int .i64 (V i)) ∧ Below w.heap.size w w' := by
  subst hii
  have c0 : w.cell? ⟨r, i, none⟩ = some (.int .i8 (V i)) := cell_has hr (numA_get hi)
  have z := lt_of_block hr
  have h1 : (0 : Int) ≤ (i : Int) := by omega
  have h2 : (i : Int) < (n : Int) := by omega
  obtain ⟨x, hx⟩ := ex_hid (V i)
  rw [← hx.out] at c0 hV ⊢
  obtain ⟨v1, v2⟩ := hV
  clear hr
  go_enter Try.func112, Try.ntmps112
  go_wp2_with fail
  go_ret
  exact ⟨rfl, (Below.refl _ _).alloc (Nat.le_refl _) _⟩
theorem set_8 (r n i : Nat) (V : Nat → Int) (ii : Int) (hii : ii = (i : Int)) (wd x : Int) (w : World) (hr : w.heap[r]? = some (.cells (numA .i8 n V) 172 (0, 0))) (hi : i < n) :
    Calls Try.prog 114 #[.agg #[.slice (some ⟨r, 0, none⟩) n n, .int .i64 wd], .int .i64 ii, .int .i64 x] w fun e w' => e = .returned (.tuple #[]) ∧ Keeps [r] w w' ∧ w'.heap[r]? = some (.cells (numA .i8 n (putN V i (IntKind.wrap .i8 x))) 172 (0, 0)) := by
  subst hii
  have c0 : w.cell? ⟨r, i, none⟩ = some (.int .i8 (V i)) := cell_has hr (numA_get hi)
  have f0 := free_of_has hr i
  have z := lt_of_block hr
  have h1 : (0 : Int) ≤ (i : Int) := by omega
  have h2 : (i : Int) < (n : Int) := by omega
  obtain ⟨y, hy⟩ := ex_hid (V i)
  rw [← hy.out] at c0
  have H := Lib.hid hr
  obtain ⟨q, hq⟩ := ex_hid (IntKind.wrap .i8 x)
  have e1 : IntKind.wrap .i8 x = q := hq.out.symm
  clear hr
  go_enter Try.func114, Try.ntmps114
  go_wp2_with fail
  go_end0
  refine ⟨rfl, ((Keeps.refl [r] _).setCell (.inr List.mem_cons_self) _).alloc _, ?_⟩
  have h := has_setCell H.out i (.int .i8 q)
  rw [numA_set] at h
  rw [← hq.out]
  exact has_alloc h _
theorem len_8 (a : Option Addr) (n : Nat) (wd : Int) (w : World) :
    Calls Try.prog 113 #[.agg #[.slice a n n, .int .i64 wd]] w fun e w' => e = .returned (.int .i64 n) ∧ Below w.heap.size w w' := by
  go_enter Try.func113, Try.ntmps113
  go_wp2_with fail
  go_ret
  exact ⟨rfl, (Below.refl _ _).alloc (Nat.le_refl _) _⟩
theorem width_8 (a : Option Addr) (n : Nat) (wd : Int) (w : World) :
    Calls Try.prog 115 #[.agg #[.slice a n n, .int .i64 wd]] w fun e w' => e = .returned (.int .i64 wd) ∧ Below w.heap.size w w' := by
  go_enter Try.func115, Try.ntmps115
  go_wp2_with fail
  go_ret
  exact ⟨rfl, (Below.refl _ _).alloc (Nat.le_refl _) _⟩

/-! of[int16] -/
theorem get_16 (r n i : Nat) (V : Nat → Int) (ii : Int) (hii : ii = (i : Int)) (wd : Int) (w : World) (hr : w.heap[r]? = some (.cells (numA .i16 n V) 173 (0, 0))) (hi : i < n) (hV : -2147483648 ≤ V i ∧ V i ≤ 2147483647) :
    Calls Try.prog 116 #[.agg #[.slice (some ⟨r, 0, none⟩) n n, .int .i64 wd], .int .i64 ii] w fun e w' => e = .returned (.int .i64 (V i)) ∧ Below w.heap.size w w' := by
  subst hii
  have c0 : w.cell? ⟨r, i, none⟩ = some (.int .i16 (V i)) := cell_has hr (numA_get hi)
  have z := lt_of_block hr
  have h1 : (0 : Int) ≤ (i : Int) := by omega
  have h2 : (i : Int) < (n : Int) := by omega
  obtain ⟨x, hx⟩ := ex_hid (V i)
  rw [← hx.out] at c0 hV ⊢
  obtain ⟨v1, v2⟩ := hV
  clear hr
  go_enter Try.func116, Try.ntmps116
  go_wp2_with fail
  go_ret
  exact ⟨rfl, (Below.refl _ _).alloc (Nat.le_refl _) _⟩
theorem set_16 (r n i : Nat) (V : Nat → Int) (ii : Int) (hii : ii = (i : Int)) (wd x : Int) (w : World) (hr : w.heap[r]? = some (.cells (numA .i16 n V) 173 (0, 0))) (hi : i < n) :
    Calls Try.prog 118 #[.agg #[.slice (some ⟨r, 0, none⟩) n n, .int .i64 wd], .int .i64 ii, .int .i64 x] w fun e w' => e = .returned (.tuple #[]) ∧ Keeps [r] w w' ∧ w'.heap[r]? = some (.cells (numA .i16 n (putN V i (IntKind.wrap .i16 x))) 173 (0, 0)) := by
  subst hii
  have c0 : w.cell? ⟨r, i, none⟩ = some (.int .i16 (V i)) := cell_has hr (numA_get hi)
  have f0 := free_of_has hr i
  have z := lt_of_block hr
  have h1 : (0 : Int) ≤ (i : Int) := by omega
  have h2 : (i : Int) < (n : Int) := by omega
  obtain ⟨y, hy⟩ := ex_hid (V i)
  rw [← hy.out] at c0
  have H := Lib.hid hr
  obtain ⟨q, hq⟩ := ex_hid (IntKind.wrap .i16 x)
  have e1 : IntKind.wrap .i16 x = q := hq.out.symm
  clear hr
  go_enter Try.func118, Try.ntmps118
  go_wp2_with fail
  go_end0
  refine ⟨rfl, ((Keeps.refl [r] _).setCell (.inr List.mem_cons_self) _).alloc _, ?_⟩
  have h := has_setCell H.out i (.int .i16 q)
  rw [numA_set] at h
  rw [← hq.out]
  exact has_alloc h _
theorem len_16 (a : Option Addr) (n : Nat) (wd : Int) (w : World) :
    Calls Try.prog 117 #[.agg #[.slice a n n, .int .i64 wd]] w fun e w' => e = .returned (.int .i64 n) ∧ Below w.heap.size w w' := by
  go_enter Try.func117, Try.ntmps117
  go_wp2_with fail
  go_ret
  exact ⟨rfl, (Below.refl _ _).alloc (Nat.le_refl _) _⟩
theorem width_16 (a : Option Addr) (n : Nat) (wd : Int) (w : World) :
    Calls Try.prog 119 #[.agg #[.slice a n n, .int .i64 wd]] w fun e w' => e = .returned (.int .i64 wd) ∧ Below w.heap.size w w' := by
  go_enter Try.func119, Try.ntmps119
  go_wp2_with fail
  go_ret
  exact ⟨rfl, (Below.refl _ _).alloc (Nat.le_refl _) _⟩

/-! of[int32] -/
theorem get_32 (r n i : Nat) (V : Nat → Int) (ii : Int) (hii : ii = (i : Int)) (wd : Int) (w : World) (hr : w.heap[r]? = some (.cells (numA .i32 n V) 21 (0, 0))) (hi : i < n) (hV : -2147483648 ≤ V i ∧ V i ≤ 2147483647) :
    Calls Try.prog 120 #[.agg #[.slice (some ⟨r, 0, none⟩) n n, .int .i64 wd], .int .i64 ii] w fun e w' => e = .returned (.int .i64 (V i)) ∧ Below w.heap.size w w' := by
  subst hii
  have c0 : w.cell? ⟨r, i, none⟩ = some (.int .i32 (V i)) := cell_has hr (numA_get hi)
  have z := lt_of_block hr
  have h1 : (0 : Int) ≤ (i : Int) := by omega
  have h2 : (i : Int) < (n : Int) := by omega
  obtain ⟨x, hx⟩ := ex_hid (V i)
  rw [← hx.out] at c0 hV ⊢
  obtain ⟨v1, v2⟩ := hV
  clear hr
  go_enter Try.func120, Try.ntmps120
  go_wp2_with fail
  go_ret
  exact ⟨rfl, (Below.refl _ _).alloc (Nat.le_refl _) _⟩
theorem set_32 (r n i : Nat) (V : Nat → Int) (ii : Int) (hii : ii = (i : Int)) (wd x : Int) (w : World) (hr : w.heap[r]? = some (.cells (numA .i32 n V) 21 (0, 0))) (hi : i < n) :
    Calls Try.prog 122 #[.agg #[.slice (some ⟨r, 0, none⟩) n n, .int .i64 wd], .int .i64 ii, .int .i64 x] w fun e w' => e = .returned (.tuple #[]) ∧ Keeps [r] w w' ∧ w'.heap[r]? = some (.cells (numA .i32 n (putN V i (IntKind.wrap .i32 x))) 21 (0, 0)) := by
  subst hii
  have c0 : w.cell? ⟨r, i, none⟩ = some (.int .i32 (V i)) := cell_has hr (numA_get hi)
  have f0 := free_of_has hr i
  have z := lt_of_block hr
  have h1 : (0 : Int) ≤ (i : Int) := by omega
  have h2 : (i : Int) < (n : Int) := by omega
  obtain ⟨y, hy⟩ := ex_hid (V i)
  rw [← hy.out] at c0
  have H := Lib.hid hr
  obtain ⟨q, hq⟩ := ex_hid (IntKind.wrap .i32 x)
  have e1 : IntKind.wrap .i32 x = q := hq.out.symm
  clear hr
  go_enter Try.func122, Try.ntmps122
  go_wp2_with fail
  go_end0
  refine ⟨rfl, ((Keeps.refl [r] _).setCell (.inr List.mem_cons_self) _).alloc _, ?_⟩
  have h := has_setCell H.out i (.int .i32 q)
  rw [numA_set] at h
  rw [← hq.out]
  exact has_alloc h _
theorem len_32 (a : Option Addr) (n : Nat) (wd : Int) (w : World) :
    Calls Try.prog 121 #[.agg #[.slice a n n, .int .i64 wd]] w fun e w' => e = .returned (.int .i64 n) ∧ Below w.heap.size w w' := by
  go_enter Try.func121, Try.ntmps121
  go_wp2_with fail
  go_ret
  exact ⟨rfl, (Below.refl _ _).alloc (Nat.le_refl _) _⟩
theorem width_32 (a : Option Addr) (n : Nat) (wd : Int) (w : World) :
    Calls Try.prog 123 #[.agg #[.slice a n n, .int .i64 wd]] w fun e w' => e = .returned (.int .i64 wd) ∧ Below w.heap.size w w' := by
  go_enter Try.func123, Try.ntmps123
  go_wp2_with fail
  go_ret
  exact ⟨rfl, (Below.refl _ _).alloc (Nat.le_refl _) _⟩
end Go.Proofs.Ytajcbghhpjpmhaa
