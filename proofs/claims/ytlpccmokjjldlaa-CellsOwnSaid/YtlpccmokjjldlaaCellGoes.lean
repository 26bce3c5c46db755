/- goes: does All go through these? (chapter 6). -/
import Derived.Test.YtlpccmokjjldlaaCellAll
namespace Go.Proofs.Ytlpccmokjjldlaa
open Go.RowKit
set_option linter.unusedVariables false

/-- A list of ints that the law holds: n of them, the numbers V. -/
def LRead (w : World) (a : Option Addr) (n : Nat) (V : Nat → Int) : Prop := ∀ i, i < n → ∃ b off, a = some ⟨b, off, none⟩ ∧ w.cell? ⟨b, off + i, none⟩ = some (.int .i64 (V i))
theorem lread_ref {q n : Nat} {V : Nat → Int} {w : World} (h : RefAt q n V w) : LRead w (some ⟨q, 0, none⟩) n V := fun i hi => ⟨q, 0, rfl, by rw [Nat.zero_add]; exact cell_has h (numA_get hi)⟩
theorem LRead.keeps {w w' : World} {a : Option Addr} {n : Nat} {V : Nat → Int} (h : LRead w a n V) (k : Keeps [] w w') : LRead w' a n V := fun i hi => by
  obtain ⟨b, off, h1, h2⟩ := h i hi
  exact ⟨b, off, h1, k.cell h2 (by simp)⟩

/-- What is known between two rounds. -/
structure GoS (N n : Nat) (a : Option Addr) (cap : Nat) (s : Int) (V : Nat → Int) (i : Nat) (w W : World) : Prop where
  hl : W.heap[N]? = some (.cells #[.slice a n cap] 42 (0, 0))
  hs : W.heap[N + 1]? = some (.cells #[.int .i64 s] 3 (0, 0))
  hn : W.heap[N + 1 + 1]? = some (.cells #[.int .i64 i] 3 (0, 0))
  ho : W.heap[N + 1 + 1 + 1]? = some (.cells #[.bool true] 4 (0, 0))
  hv : W.heap[N + 1 + 1 + 1 + 1]? = some (.cells #[.bool false] 4 (0, 0))
  hk : Keeps [] w W
  hN : w.heap.size = N

def GoStep (N i : Nat) (v : Bool) (w : World) (e : Ending) (w' : World) : Prop :=
  e = .returned (.bool (!v)) ∧ w'.heap[N + 1 + 1]? = some (.cells #[.int .i64 i] 3 (0, 0)) ∧ w'.heap[N + 1 + 1 + 1]? = some (.cells #[.bool true] 4 (0, 0)) ∧ w'.heap[N + 1 + 1 + 1 + 1]? = some (.cells #[.bool v] 4 (0, 0)) ∧ Keeps [N + 1 + 1, N + 1 + 1 + 1, N + 1 + 1 + 1 + 1] w w'

theorem goesf_any (N n : Nat) (a : Option Addr) (cap : Nat) (s : Int) (V : Nat → Int) (i : Nat) (x : Int) (v : Bool) (w0 w : World) (H : GoS N n a cap s V i w0 w) (hr : LRead w0 a n V) (hi : i < n) (hn : n ≤ 1048576) (hx : Hid (x = V i)) (hvv : Hid (((i : Int) + 1 == s) = v)) :
    Calls Try.prog 70 #[.int .i64 i, .int .i64 x, .pointer (some ⟨N + 1 + 1 + 1, 0, none⟩), .pointer (some ⟨N + 1 + 1 + 1 + 1, 0, none⟩), .pointer (some ⟨N + 1 + 1, 0, none⟩), .pointer (some ⟨N, 0, none⟩), .pointer (some ⟨N + 1, 0, none⟩)] w (GoStep N (i + 1) v w) := by
  obtain ⟨b, off, rfl, h1⟩ := hr i hi
  have c6 := H.hk.cell h1 (by simp)
  rw [← hx.out] at c6
  have z : b < w0.heap.size := World.block_lt_of_cell? _ _ h1
  rw [H.hN] at z
  have c1 := cell_has H.ho (i := 0) rfl
  have c2 := cell_has H.hv (i := 0) rfl
  have c3 := cell_has H.hn (i := 0) rfl
  have c4 := cell_has H.hl (i := 0) rfl
  have c5 := cell_has H.hs (i := 0) rfl
  have f1 := free_of_has H.ho 0
  have f2 := free_of_has H.hv 0
  have f3 := free_of_has H.hn 0
  have hlt : (i : Int) < (n : Int) := by omega
  have hi0 : (0 : Int) ≤ (i : Int) := by omega
  have n2 : b ≠ N + 1 + 1 + 1 := by omega
  have HO := Lib.hid H.ho
  have HV := Lib.hid H.hv
  have HN := Lib.hid H.hn
  clear H hr h1
  go_enter Try.func70, Try.ntmps70
  go_wp2_with fail
  go_ret
  rw [← hvv.out]
  refine ⟨rfl, ?_, ?_, ?_, ?_⟩
  · exact has_setCell_other (has_setCell (has_setCell_other HN.out (by simp <;> omega) _) 0 _) (by simp <;> omega) _
  · exact has_setCell_other (has_setCell_other (has_setCell HO.out 0 _) (by simp <;> omega) _) (by simp <;> omega) _
  · exact has_setCell (has_setCell_other (has_setCell_other HV.out (by simp <;> omega) _) (by simp <;> omega) _) 0 _
  · exact (((Keeps.refl [N + 1 + 1, N + 1 + 1 + 1, N + 1 + 1 + 1 + 1] _).setCell (.inr (by simp)) _).setCell (.inr (by simp)) _).setCell (.inr (by simp)) _

theorem enters70 : EntersF Try.prog 70 := entersF_of Try.func70 (by kernel_rfl) (by kernel_rfl)

/-- goes over the cells' list and the like list of the law: it says true, whatever the stop. -/
theorem goes_any (bl g n : Nat) (V : Nat → Int) (hn : n ≤ 1048576) (a : Option Addr) (cap : Nat) (s : Int) (w : World) (h1 : w.heap[bl]? = some (.cells #[.slice (some ⟨g, 0, none⟩) n n] 42 (0, 0))) (h2 : RefAt g n V w) (hr : LRead w a n V) :
    Calls Try.prog 39 #[.func (.func 67) #[] #[.pointer (some ⟨bl, 0, none⟩)], .slice a n cap, .int .i64 s] w fun e w' => e = .returned (.bool true) ∧ Below w.heap.size w w' := by
  have H1 := Lib.hid h1
  have H2 := Lib.hid h2
  have HR := Lib.hid hr
  clear h1 h2 hr
  go_enter Try.func39, Try.ntmps39
  go_wp2_with fail
  obtain ⟨w0, hw0⟩ := ex_hid (((((w.alloc (.cells #[.slice a n cap] 42)).alloc (.cells #[.int .i64 s] 3)).alloc (.cells #[.int .i64 0] 3)).alloc (.cells #[.bool true] 4)).alloc (.cells #[.bool false] 4))
  rw [← hw0.out]
  have k0 : Keeps [] w w0 := by rw [hw0.out]; exact (((((Keeps.refl [] w).alloc _).alloc _).alloc _).alloc _).alloc _
  have hG : GoS w.heap.size n a cap s V 0 w w0 := by
    refine ⟨?_, ?_, ?_, ?_, ?_, k0, rfl⟩ <;> rw [hw0.out]
    · exact has_alloc (has_alloc (has_alloc (has_alloc (has_new _ _) _) _) _) _
    · exact has_alloc (has_alloc (has_alloc (has_new' _ _ (by simp)) _) _) _
    · exact has_alloc (has_alloc (has_new' _ _ (by simp)) _) _
    · exact has_alloc (has_new' _ _ (by simp)) _
    · exact has_new' _ _ (by simp)
  refine (all1c_any 70 #[.pointer (some ⟨w.heap.size + 1 + 1 + 1, 0, none⟩), .pointer (some ⟨w.heap.size + 1 + 1 + 1 + 1, 0, none⟩), .pointer (some ⟨w.heap.size + 1 + 1, 0, none⟩), .pointer (some ⟨w.heap.size, 0, none⟩), .pointer (some ⟨w.heap.size + 1, 0, none⟩)] enters70 bl g n V hn
    (fun i W => GoS w.heap.size n a cap s V i w W)
    (fun i W => (i : Int) = s ∧ W.heap[w.heap.size]? = some (.cells #[.slice a n cap] 42 (0, 0)) ∧ W.heap[w.heap.size + 1]? = some (.cells #[.int .i64 s] 3 (0, 0)) ∧ W.heap[w.heap.size + 1 + 1]? = some (.cells #[.int .i64 i] 3 (0, 0)) ∧ W.heap[w.heap.size + 1 + 1 + 1]? = some (.cells #[.bool true] 4 (0, 0)) ∧ Keeps [] w W)
    ?_ (fun i W hi hW => hW.hk.cell (cell_has H2.out (numA_get hi)) (by simp)) w0 (k0.cell (cell_has H1.out rfl) (by simp)) hG).mono ?_
  · intro i W hi hW
    refine (goesf_any w.heap.size n a cap s V i (V i) ((i : Int) + 1 == s) w W hW HR.out hi hn (Lib.hid rfl) (Lib.hid rfl)).mono ?_
    rintro e W' ⟨rfl, q1, q2, q3, q4⟩
    have hk : Keeps [] w W' := hW.hk.then q4 (by intro x hx; simp at hx; left; omega)
    have hl := q4.has hW.hl (by simp <;> omega)
    have hs := q4.has hW.hs (by simp)
    by_cases hx : (i : Int) + 1 = s
    · exact .inr ⟨by rw [show ((i : Int) + 1 == s) = true by simpa using hx]; rfl, by omega, hl, hs, q1, q2, hk⟩
    · have hf : ((i : Int) + 1 == s) = false := by simpa using hx
      rw [hf] at q3
      exact .inl ⟨by rw [hf]; rfl, hl, hs, q1, q2, q3, hk, rfl⟩
  · rintro e w4 ⟨rfl, hj⟩
    have hfin : ∃ m : Nat, (((m : Int) = s ∧ 1 ≤ m) ∨ m = n) ∧ w4.heap[w.heap.size]? = some (.cells #[.slice a n cap] 42 (0, 0)) ∧ w4.heap[w.heap.size + 1]? = some (.cells #[.int .i64 s] 3 (0, 0)) ∧ w4.heap[w.heap.size + 1 + 1]? = some (.cells #[.int .i64 m] 3 (0, 0)) ∧ w4.heap[w.heap.size + 1 + 1 + 1]? = some (.cells #[.bool true] 4 (0, 0)) ∧ Keeps [] w w4 := by
      rcases hj with h | ⟨i, i1, i2, h3, h4, h5, h6, h7, h8⟩
      · exact ⟨n, .inr rfl, h.hl, h.hs, h.hn, h.ho, h.hk⟩
      · exact ⟨i, .inl ⟨h3, i1⟩, h4, h5, h6, h7, h8⟩
    clear hj
    obtain ⟨m, hm, p1, p2, p3, p4, p5⟩ := hfin
    have x1 := cell_has p1 (i := 0) rfl
    have x2 := cell_has p2 (i := 0) rfl
    have x3 := cell_has p3 (i := 0) rfl
    have x4 := cell_has p4 (i := 0) rfl
    have K := Lib.hid (p5.below (Nat.le_refl _) (by simp))
    clear p1 p2 p3 p4 p5 hG k0
    rcases hm with ⟨hm, hm1⟩ | hm
    · rw [← hm] at x2
      have hp : (0 : Int) < (m : Int) := by omega
      clear hm
      go_wp2_with fail
      go_ret
      exact ⟨rfl, K.out⟩
    · subst hm
      by_cases he : (m : Int) = s
      · have d1 : ((m : Int) == s) = true := by simpa using he
        by_cases hp : (0 : Int) < s
        · have d2 : decide ((0 : Int) < s) = true := by simpa using hp
          clear he
          go_wp2_with fail
          go_ret
          exact ⟨rfl, K.out⟩
        · have d2 : decide ((0 : Int) < s) = false := by simpa using hp
          clear he
          go_wp2_with fail
          go_ret
          exact ⟨rfl, K.out⟩
      · have d1 : ((m : Int) == s) = false := by simpa using he
        clear he
        go_wp2_with fail
        go_ret
        exact ⟨rfl, K.out⟩
end Go.Proofs.Ytlpccmokjjldlaa
