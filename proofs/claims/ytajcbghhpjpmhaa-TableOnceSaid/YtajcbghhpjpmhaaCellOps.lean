/- Index cells: what each call does (chapter 6). -/
import Derived.Test.YtajcbghhpjpmhaaCellRows
namespace Go.Proofs.Ytajcbghhpjpmhaa
open Go.RowKit
set_option linter.unusedVariables false

theorem ret_num {k : IntKind} {a b : Int} (h : a = b) : Ending.returned (.int k a) = .returned (.int k b) := by rw [h]
theorem ret_boo {a b : Bool} (h : a = b) : Ending.returned (.bool a) = .returned (.bool b) := by rw [h]
/-- A call of a function of the program is entered. -/
def EntersF (P : Program) (g : FuncId) : Prop := ∀ args W, (callFunc g args).run P W = .ok (.enter g args) W
theorem entersF_of {P : Program} {g : FuncId} {fn : Func} (hg : P.funcs[g]? = some fn) (hn : (fn.name == "runtime.NumGoroutine") = false) (hb : fn.body.isNone = false) : EntersF P g := by
  intro args W
  have hn' : ¬ fn.name = "runtime.NumGoroutine" := by simpa using hn
  have hb' : ¬ fn.body = none := by intro h; rw [h] at hb; cases hb
  simp [callFunc, hg, hn', hb']

/-- A kind of rows: its type, its elements' type and kind, and its four methods. -/
structure RowKind (T E : TypeId) (k : IntKind) (g s l x : FuncId) : Prop where
  mg : ∀ v w, (method 275 T v "lexicon/cells.get").run Try.prog w = .ok (g, v) w
  ms : ∀ v w, (method 275 T v "lexicon/cells.set").run Try.prog w = .ok (s, v) w
  ml : ∀ v w, (method 275 T v "lexicon/cells.len").run Try.prog w = .ok (l, v) w
  mx : ∀ v w, (method 275 T v "lexicon/cells.width").run Try.prog w = .ok (x, v) w
  eg : EntersF Try.prog g
  es : EntersF Try.prog s
  el : EntersF Try.prog l
  ex : EntersF Try.prog x
  cg : ∀ (r n i : Nat) (V : Nat → Int) (ii : Int) (_ : ii = (i : Int)) (wd : Int) (w : World) (_ : w.heap[r]? = some (.cells (numA k n V) E (0, 0))) (_ : i < n) (_ : -2147483648 ≤ V i ∧ V i ≤ 2147483647),
    Calls Try.prog g #[.agg #[.slice (some ⟨r, 0, none⟩) n n, .int .i64 wd], .int .i64 ii] w fun e w' => e = .returned (.int .i64 (V i)) ∧ Below w.heap.size w w'
  cs : ∀ (r n i : Nat) (V : Nat → Int) (ii : Int) (_ : ii = (i : Int)) (wd x : Int) (w : World) (_ : w.heap[r]? = some (.cells (numA k n V) E (0, 0))) (_ : i < n),
    Calls Try.prog s #[.agg #[.slice (some ⟨r, 0, none⟩) n n, .int .i64 wd], .int .i64 ii, .int .i64 x] w fun e w' => e = .returned (.tuple #[]) ∧ Keeps [r] w w' ∧ w'.heap[r]? = some (.cells (numA k n (putN V i (k.wrap x))) E (0, 0))
  cl : ∀ (a : Option Addr) (n : Nat) (wd : Int) (w : World), Calls Try.prog l #[.agg #[.slice a n n, .int .i64 wd]] w fun e w' => e = .returned (.int .i64 n) ∧ Below w.heap.size w w'
  cx : ∀ (a : Option Addr) (n : Nat) (wd : Int) (w : World), Calls Try.prog x #[.agg #[.slice a n n, .int .i64 wd]] w fun e w' => e = .returned (.int .i64 wd) ∧ Below w.heap.size w w'

theorem rk8 : RowKind 149 172 .i8 112 114 113 115 :=
  ⟨fun v w => by kernel_rfl, fun v w => by kernel_rfl, fun v w => by kernel_rfl, fun v w => by kernel_rfl, entersF_of Try.func112 (by kernel_rfl) (by kernel_rfl), entersF_of Try.func114 (by kernel_rfl) (by kernel_rfl), entersF_of Try.func113 (by kernel_rfl) (by kernel_rfl), entersF_of Try.func115 (by kernel_rfl) (by kernel_rfl), get_8, set_8, len_8, width_8⟩
theorem rk16 : RowKind 152 173 .i16 116 118 117 119 :=
  ⟨fun v w => by kernel_rfl, fun v w => by kernel_rfl, fun v w => by kernel_rfl, fun v w => by kernel_rfl, entersF_of Try.func116 (by kernel_rfl) (by kernel_rfl), entersF_of Try.func118 (by kernel_rfl) (by kernel_rfl), entersF_of Try.func117 (by kernel_rfl) (by kernel_rfl), entersF_of Try.func119 (by kernel_rfl) (by kernel_rfl), get_16, set_16, len_16, width_16⟩
theorem rk32 : RowKind 155 21 .i32 120 122 121 123 :=
  ⟨fun v w => by kernel_rfl, fun v w => by kernel_rfl, fun v w => by kernel_rfl, fun v w => by kernel_rfl, entersF_of Try.func120 (by kernel_rfl) (by kernel_rfl), entersF_of Try.func122 (by kernel_rfl) (by kernel_rfl), entersF_of Try.func121 (by kernel_rfl) (by kernel_rfl), entersF_of Try.func123 (by kernel_rfl) (by kernel_rfl), get_32, set_32, len_32, width_32⟩

/-! The kind by the logarithm. -/
def tyOf (L : Nat) : TypeId := if L ≤ 7 then 149 else if L ≤ 15 then 152 else 155
def elOf (L : Nat) : TypeId := if L ≤ 7 then 172 else if L ≤ 15 then 173 else 21
def kiOf (L : Nat) : IntKind := if L ≤ 7 then .i8 else if L ≤ 15 then .i16 else .i32
def wdOf (L : Nat) : Nat := if L ≤ 7 then 1 else if L ≤ 15 then 2 else 4
def gF (L : Nat) : FuncId := if L ≤ 7 then 112 else if L ≤ 15 then 116 else 120
def sF (L : Nat) : FuncId := if L ≤ 7 then 114 else if L ≤ 15 then 118 else 122
def lF (L : Nat) : FuncId := if L ≤ 7 then 113 else if L ≤ 15 then 117 else 121
def xF (L : Nat) : FuncId := if L ≤ 7 then 115 else if L ≤ 15 then 119 else 123
theorem rowKind (L : Nat) : RowKind (tyOf L) (elOf L) (kiOf L) (gF L) (sF L) (lF L) (xF L) := by
  unfold tyOf elOf kiOf gF sF lF xF
  by_cases h1 : L ≤ 7
  · simp only [if_pos h1]; exact rk8
  · simp only [if_neg h1]
    by_cases h2 : L ≤ 15
    · simp only [if_pos h2]; exact rk16
    · simp only [if_neg h2]; exact rk32

/-- Cells in memory: the object at c, its row at r, 2^L = n cells that hold V. -/
structure CellsAt (c r L n : Nat) (V : Nat → Int) (w : World) : Prop where
  ho : w.heap[c]? = some (.cells #[.int .i64 L, .iface (tyOf L) (.agg #[.slice (some ⟨r, 0, none⟩) n n, .int .i64 (wdOf L)])] 133 (0, 0))
  hr : w.heap[r]? = some (.cells (numA (kiOf L) n V) (elOf L) (0, 0))
theorem CellsAt.keeps {c r L n : Nat} {V : Nat → Int} {w w' : World} {S : List Nat} (h : CellsAt c r L n V w) (k : Keeps S w w') (h1 : c ∉ S) (h2 : r ∉ S) : CellsAt c r L n V w' := ⟨k.has h.ho h1, k.has h.hr h2⟩
theorem CellsAt.below {c r L n : Nat} {V : Nat → Int} {w w' : World} (h : CellsAt c r L n V w) (k : Below w.heap.size w w') : CellsAt c r L n V w' := h.keeps (Below.keeps k []) (by simp) (by simp)
theorem CellsAt.apart {c r L n : Nat} {V : Nat → Int} {w : World} (h : CellsAt c r L n V w) : c ≠ r := by
  intro e
  have h1 := h.ho
  rw [e, h.hr] at h1
  simp only [Option.some.injEq, Obj.cells.injEq] at h1
  have h2 := h1.2.1
  unfold elOf at h2
  by_cases a : L ≤ 7
  · rw [if_pos a] at h2; revert h2; decide
  · rw [if_neg a] at h2
    by_cases b : L ≤ 15
    · rw [if_pos b] at h2; revert h2; decide
    · rw [if_neg b] at h2; revert h2; decide

theorem none_any (T : TypeId) (c : Nat) (v : Value) (L : Int) (w : World) (h : w.heap[c]? = some (.cells #[.int .i64 L, .iface T v] 133 (0, 0))) :
    Calls Try.prog 80 #[.pointer (some ⟨c, 0, none⟩)] w fun e w' => e = .returned (.bool false) ∧ w = w' := by
  have c0 := cell_has h (i := 0) rfl
  have c1 := cell_has h (i := 1) rfl
  clear h
  go_enter Try.func80, Try.ntmps80
  go_wp2_with fail
  go_ret
  exact ⟨rfl, rfl⟩

set_option maxRecDepth 100000 in
theorem size_any (c r L n : Nat) (V : Nat → Int) (w : World) (H : CellsAt c r L n V w) :
    Calls Try.prog 81 #[.pointer (some ⟨c, 0, none⟩)] w fun e w' => e = .returned (.int .i64 n) ∧ Below w.heap.size w w' := by
  have c0 := cell_has H.ho (i := 0) rfl
  have c1 := cell_has H.ho (i := 1) rfl
  have hm := (rowKind L).ml
  have he := fun args W => (rowKind L).el args W
  have HH := Lib.hid H
  clear H
  go_enter Try.func81, Try.ntmps81
  go_wp2_with fail
  refine (none_any _ _ _ _ _ HH.out.ho).mono ?_
  rintro e w1 ⟨rfl, rfl⟩
  go_wp2_with fail
  refine ((rowKind L).cl _ _ _ _).mono ?_
  rintro e w2 ⟨rfl, b2⟩
  go_wp2_with fail
  go_ret
  exact ⟨rfl, b2⟩

set_option maxRecDepth 100000 in
theorem width_any (c r L n : Nat) (V : Nat → Int) (w : World) (H : CellsAt c r L n V w) :
    Calls Try.prog 43 #[.pointer (some ⟨c, 0, none⟩)] w fun e w' => e = .returned (.int .i64 (wdOf L)) ∧ Below w.heap.size w w' := by
  have c0 := cell_has H.ho (i := 0) rfl
  have c1 := cell_has H.ho (i := 1) rfl
  have hm := (rowKind L).mx
  have he := fun args W => (rowKind L).ex args W
  have HH := Lib.hid H
  clear H
  go_enter Try.func43, Try.ntmps43
  go_wp2_with fail
  refine (none_any _ _ _ _ _ HH.out.ho).mono ?_
  rintro e w1 ⟨rfl, rfl⟩
  go_wp2_with fail
  refine ((rowKind L).cx _ _ _ _).mono ?_
  rintro e w2 ⟨rfl, b2⟩
  go_wp2_with fail
  go_ret
  exact ⟨rfl, b2⟩

theorem log_any (c r L n : Nat) (V : Nat → Int) (w : World) (H : CellsAt c r L n V w) :
    Calls Try.prog 42 #[.pointer (some ⟨c, 0, none⟩)] w fun e w' => e = .returned (.int .i64 L) ∧ w = w' := by
  have c0 := cell_has H.ho (i := 0) rfl
  have HH := Lib.hid H
  clear H
  go_enter Try.func42, Try.ntmps42
  go_wp2_with fail
  refine (none_any _ _ _ _ _ HH.out.ho).mono ?_
  rintro e w1 ⟨rfl, rfl⟩
  go_wp2_with fail
  go_ret
  exact ⟨rfl, rfl⟩
theorem room_any (c r L n : Nat) (V : Nat → Int) (w : World) (H : CellsAt c r L n V w) (hn : n ≤ 1048576) :
    Calls Try.prog 74 #[.pointer (some ⟨c, 0, none⟩)] w fun e w' => e = .returned (.int .i64 (2 * n / 3 : Nat)) ∧ Below w.heap.size w w' := by
  have HH := Lib.hid H
  have hi : (n : Int) ≤ 1048576 := by omega
  have hv : (2 : Int) * (n : Int) / 3 = ((2 * n / 3 : Nat) : Int) := by omega
  have HV := Lib.hid hv
  clear H hn hv
  go_enter Try.func74, Try.ntmps74
  go_wp2_with fail
  refine (size_any _ _ _ _ _ _ HH.out).mono ?_
  rintro e w1 ⟨rfl, b1⟩
  go_wp2_with fail
  go_ret
  exact ⟨ret_num HV.out, b1⟩

theorem wrong_in (c r L n : Nat) (V : Nat → Int) (i : Int) (w : World) (H : CellsAt c r L n V w) (h0 : 0 ≤ i) (h1 : i < n) :
    Calls Try.prog 85 #[.pointer (some ⟨c, 0, none⟩), .int .i64 i] w fun e w' => e = .returned (.int .i64 0) ∧ Below w.heap.size w w' := by
  have HH := Lib.hid H
  have d1 : decide (i < 0) = false := by simp; omega
  have d2 : decide ((n : Int) ≤ i) = false := by simp; omega
  clear H
  go_enter Try.func85, Try.ntmps85
  go_wp2_with fail
  refine (none_any _ _ _ _ _ HH.out.ho).mono ?_
  rintro e w1 ⟨rfl, rfl⟩
  go_wp2_with fail
  refine (size_any _ _ _ _ _ _ HH.out).mono ?_
  rintro e w1 ⟨rfl, b1⟩
  go_wp2_with fail
  go_ret
  exact ⟨rfl, b1⟩
theorem wrong_out (c r L n : Nat) (V : Nat → Int) (i : Int) (w : World) (H : CellsAt c r L n V w) (h : i < 0 ∨ (0 ≤ i ∧ (n : Int) ≤ i)) :
    Calls Try.prog 85 #[.pointer (some ⟨c, 0, none⟩), .int .i64 i] w fun e w' => e = .returned (.int .i64 5) ∧ Below w.heap.size w w' := by
  have HH := Lib.hid H
  clear H
  rcases h with h | ⟨h, h2⟩
  · have d1 : decide (i < 0) = true := by simpa using h
    go_enter Try.func85, Try.ntmps85
    go_wp2_with fail
    refine (none_any _ _ _ _ _ HH.out.ho).mono ?_
    rintro e w1 ⟨rfl, rfl⟩
    go_wp2_with fail
    go_ret
    exact ⟨rfl, Below.refl _ _⟩
  · have d1 : decide (i < 0) = false := by simp; omega
    have d2 : decide ((n : Int) ≤ i) = true := by simpa using h2
    go_enter Try.func85, Try.ntmps85
    go_wp2_with fail
    refine (none_any _ _ _ _ _ HH.out.ho).mono ?_
    rintro e w1 ⟨rfl, rfl⟩
    go_wp2_with fail
    refine (size_any _ _ _ _ _ _ HH.out).mono ?_
    rintro e w1 ⟨rfl, b1⟩
    go_wp2_with fail
    go_ret
    exact ⟨rfl, b1⟩

/-- What a cell may hold. -/
def mayB (n : Nat) (v : Int) : Bool := decide (v = -1 ∨ v = -2 ∨ (0 ≤ v ∧ v < (2 * n / 3 : Nat)))
theorem may_any (c r L n : Nat) (V : Nat → Int) (v : Int) (w : World) (H : CellsAt c r L n V w) (hn : n ≤ 1048576) :
    Calls Try.prog 93 #[.pointer (some ⟨c, 0, none⟩), .int .i64 v] w fun e w' => e = .returned (.bool (mayB n v)) ∧ Below w.heap.size w w' := by
  have HH := Lib.hid H
  have HN := Lib.hid hn
  clear H hn
  by_cases h1 : v = -1
  · subst h1
    rw [show mayB n (-1) = true by simp [mayB]]
    go_enter Try.func93, Try.ntmps93
    go_wp2_with fail
    go_ret
    exact ⟨rfl, Below.refl _ _⟩
  have d1 : (v == -1) = false := by simpa using h1
  by_cases h2 : v = -2
  · subst h2
    rw [show mayB n (-2) = true by simp [mayB]]
    go_enter Try.func93, Try.ntmps93
    go_wp2_with fail
    go_ret
    exact ⟨rfl, Below.refl _ _⟩
  have d2 : (v == -2) = false := by simpa using h2
  by_cases h3 : 0 ≤ v
  · have d3 : decide (0 ≤ v) = true := by simpa using h3
    obtain ⟨b, hb⟩ := ex_hid (mayB n v)
    have hx : decide (v < 2 * (n : Int) / 3) = b := by
      rw [hb.out]
      have e : ((2 * n / 3 : Nat) : Int) = 2 * (n : Int) / 3 := by omega
      simp only [mayB, h1, h2, h3, e, false_or, true_and]
    have HX := Lib.hid hx
    rw [← hb.out]
    clear hx h1 h2
    go_enter Try.func93, Try.ntmps93
    go_wp2_with fail
    refine (room_any _ _ _ _ _ _ HH.out HN.out).mono ?_
    rintro e w1 ⟨rfl, b1⟩
    go_wp2_with fail
    go_ret
    exact ⟨ret_boo HX.out, b1⟩
  · have d3 : decide (0 ≤ v) = false := by simpa using h3
    rw [show mayB n v = false by simp [mayB, h1, h2, h3]]
    clear h1 h2 h3
    go_enter Try.func93, Try.ntmps93
    go_wp2_with fail
    go_ret
    exact ⟨rfl, Below.refl _ _⟩
end Go.Proofs.Ytajcbghhpjpmhaa
