/- goes: does All go through the taken slots? (chapter 11). -/
import Derived.Test.YtompihlckpjbkaaSlotNone
namespace Go.Proofs.Ytompihlckpjbkaa
open Go.RowKit
open SI
set_option linter.unusedVariables false
attribute [local go_sem ↓] Go.wp_at_zero Go.wp_at_succ

theorem one_any (b : Nat) (x : Int) (w : World) (h : w.cell? ⟨b, 0, none⟩ = some (.int .i64 x)) :
    Calls Try.prog 44 #[.slice (some ⟨b, 0, none⟩) 1 1] w fun e w' => e = .returned (.int .i64 x) ∧ w = w' := by
  go_enter Try.func44, Try.ntmps44
  go_wp2_with fail
  go_ret
  exact ⟨rfl, rfl⟩
theorem one_nil (w : World) :
    Calls Try.prog 44 #[.slice none 0 0] w fun e w' => e = .returned (.int .i64 0) ∧ w = w' := by
  go_enter Try.func44, Try.ntmps44
  go_wp2_with fail
  go_ret
  exact ⟨rfl, rfl⟩

theorem idxL_mem (T : Nat → Bool) (m : Nat) : ∀ x, x ∈ idxL T m → x < m ∧ T x = true := by
  induction m with
  | zero => intro x hx; simp [idxL] at hx
  | succ m ih =>
    intro x hx
    simp only [idxL, List.mem_append] at hx
    rcases hx with hx | hx
    · have := ih x hx; exact ⟨by omega, this.2⟩
    · split at hx
      · rename_i h; simp at hx; subst hx; exact ⟨by omega, h⟩
      · simp at hx
/-- The taken slot number k. -/
def idx (T : Nat → Bool) (m k : Nat) : Nat := (idxL T m).getD k 0
theorem idx_is (T : Nat → Bool) (m k : Nat) (hk : k < cntT T m) : idx T m k < m ∧ T (idx T m k) = true ∧ (idxL T m)[k]? = some (idx T m k) := by
  rw [← idxL_len] at hk
  have h : (idxL T m)[k]? = some (idx T m k) := by simp [idx, List.getD_eq_getElem?_getD, List.getElem?_eq_getElem hk]
  have hm := idxL_mem T m _ (List.mem_of_getElem? h)
  exact ⟨hm.1, hm.2, h⟩

/-- What the taken slots of the document's have. -/
def Ones (m : Nat) (X : Nat → Int) (VL : Nat → Value) (T : Nat → Bool) (w : World) : Prop := ∀ i, i < m → T i = true → ∃ b, VL i = .slice (some ⟨b, 0, none⟩) 1 1 ∧ w.cell? ⟨b, 0, none⟩ = some (.int .i64 (X i))
theorem Ones.keeps {m : Nat} {X : Nat → Int} {VL : Nat → Value} {T : Nat → Bool} {w w' : World} (h : Ones m X VL T w) (k : Keeps [] w w') : Ones m X VL T w' := fun i hi hT => by
  obtain ⟨b, h1, h2⟩ := h i hi hT
  exact ⟨b, h1, k.cell h2 (by simp)⟩

/-- What is known between two rounds. -/
structure GoT (N M wb : Nat) (la : Option Addr) (nn lc : Nat) (s : Int) (i : Nat) (w w1 W : World) : Prop where
  hw : W.heap[N]? = some (.cells #[.pointer (some ⟨wb, 0, none⟩)] 35 (0, 0))
  hs : W.heap[N + 1]? = some (.cells #[.int .i64 s] 3 (0, 0))
  hl : W.heap[M]? = some (.cells #[.slice la nn lc] 22 (0, 0))
  hn : W.heap[M + 1]? = some (.cells #[.int .i64 i] 3 (0, 0))
  ho : W.heap[M + 1 + 1]? = some (.cells #[.bool true] 4 (0, 0))
  hv : W.heap[M + 1 + 1 + 1]? = some (.cells #[.bool false] 4 (0, 0))
  hk : Keeps [] w W
  hk1 : Keeps [] w1 W
theorem GoT.below {N M wb : Nat} {la : Option Addr} {nn lc : Nat} {s : Int} {i : Nat} {w w1 W W' : World} (h : GoT N M wb la nn lc s i w w1 W) (b : Below W.heap.size W W') : GoT N M wb la nn lc s i w w1 W' :=
  have k := Below.keeps b []
  ⟨k.has h.hw (by simp), k.has h.hs (by simp), k.has h.hl (by simp), k.has h.hn (by simp), k.has h.ho (by simp), k.has h.hv (by simp), h.hk.trans k, h.hk1.trans k⟩

def GoStepT (M i : Nat) (v : Bool) (w : World) (e : Ending) (w' : World) : Prop :=
  e = .returned (.bool (!v)) ∧ w'.heap[M + 1]? = some (.cells #[.int .i64 i] 3 (0, 0)) ∧ w'.heap[M + 1 + 1]? = some (.cells #[.bool true] 4 (0, 0)) ∧ w'.heap[M + 1 + 1 + 1]? = some (.cells #[.bool v] 4 (0, 0)) ∧ Keeps [M + 1, M + 1 + 1, M + 1 + 1 + 1] w w'

set_option maxRecDepth 100000 in
theorem goesf11 (N M wb lo : Nat) (R : List Nat) (m : Nat) (X : Nat → Int) (VL : Nat → Value) (T : Nat → Bool) (gl nn lc : Nat) (s : Int) (i : Nat) (y : Int) (v : Bool) (w : World)
    (hw : w.heap[N]? = some (.cells #[.pointer (some ⟨wb, 0, none⟩)] 35 (0, 0))) (hs : w.heap[N + 1]? = some (.cells #[.int .i64 s] 3 (0, 0)))
    (hl : w.heap[M]? = some (.cells #[.slice (some ⟨gl, 0, none⟩) nn lc] 22 (0, 0))) (hn : w.heap[M + 1]? = some (.cells #[.int .i64 i] 3 (0, 0)))
    (ho : w.heap[M + 1 + 1]? = some (.cells #[.bool true] 4 (0, 0))) (hv : w.heap[M + 1 + 1 + 1]? = some (.cells #[.bool false] 4 (0, 0)))
    (hi : i < nn) (hnn : nn ≤ 100000) (k : Nat) (hk : k < m) (hc : w.cell? ⟨gl, i, none⟩ = some (.int .i64 (k : Int))) (hgl : gl < M)
    (HR : RefS wb lo R m VL T w) (b : Nat) (hb : Hid (VL k = .slice (some ⟨b, 0, none⟩) 1 1)) (hx : w.cell? ⟨b, 0, none⟩ = some (.int .i64 y)) (hMN : N + 1 < M) (hvv : Hid (((i : Int) + 1 == s) = v)) :
    Calls Try.prog 48 #[.int .i64 k, .int .i64 y, .pointer (some ⟨M + 1 + 1, 0, none⟩), .pointer (some ⟨M + 1 + 1 + 1, 0, none⟩), .pointer (some ⟨M + 1, 0, none⟩), .pointer (some ⟨M, 0, none⟩), .pointer (some ⟨N, 0, none⟩), .pointer (some ⟨N + 1, 0, none⟩)] w (GoStepT M (i + 1) v w) := by
  have c1 := cell_has hw (i := 0) rfl
  have c2 := cell_has hs (i := 0) rfl
  have c3 := cell_has hl (i := 0) rfl
  have c4 := cell_has hn (i := 0) rfl
  have c5 := cell_has ho (i := 0) rfl
  have c6 := cell_has hv (i := 0) rfl
  have f4 := free_of_has hn 0
  have f5 := free_of_has ho 0
  have f6 := free_of_has hv 0
  have hlt : (i : Int) < (nn : Int) := by omega
  have i0 : (0 : Int) ≤ (i : Int) := by omega
  have kk0 : (0 : Int) ≤ (k : Int) := by omega
  have kk1 : (k : Int) < (m : Int) := by omega
  obtain ⟨La, Lc, Ta, Tc, g1, g2, g3, g4, gS⟩ := HR
  obtain ⟨q, rfl⟩ := g2.shape (by omega)
  have r0 := cell_has g1 (i := 0) rfl
  have r1 := g2.cell hk
  rw [hb.out] at r1
  have ne1 : gl ≠ M + 1 := by omega
  have ne2 : gl ≠ M + 1 + 1 := by omega
  have ne3 : gl ≠ M + 1 + 1 + 1 := by omega
  have HN := Lib.hid hn
  have HO := Lib.hid ho
  have HV := Lib.hid hv
  clear hw hs hl hn ho hv g1 g2 g3 g4 gS
  go_enter Try.func48, Try.ntmps48
  go_wp2_with fail
  refine (one_any b y _ hx).mono ?_
  rintro e w1 ⟨rfl, rfl⟩
  go_wp2_with fail
  go_ret
  rw [← hvv.out]
  refine ⟨rfl, ?_, ?_, ?_, ?_⟩
  · exact has_setCell_other (has_setCell (has_setCell_other HN.out (by simp <;> omega) _) 0 _) (by simp <;> omega) _
  · exact has_setCell_other (has_setCell_other (has_setCell HO.out 0 _) (by simp <;> omega) _) (by simp <;> omega) _
  · exact has_setCell (has_setCell_other (has_setCell_other HV.out (by simp <;> omega) _) (by simp <;> omega) _) 0 _
  · exact (((Keeps.refl [M + 1, M + 1 + 1, M + 1 + 1 + 1] _).setCell (.inr (by simp)) _).setCell (.inr (by simp)) _).setCell (.inr (by simp)) _

set_option maxRecDepth 100000 in
set_option maxHeartbeats 1000000 in
theorem goes11 (bl wb lo : Nat) (R : List Nat) (m nn : Nat) (X : Nat → Int) (VL : Nat → Value) (T : Nat → Bool) (a : Option Addr) (cap : Nat) (s : Int) (w : World) (hm : m ≤ 90000) (hnn : nn = cntT T m)
    (hbl : w.heap[bl]? = some (.cells #[.slice a nn cap] 76 (0, 0))) (hrow : ∀ k, k < nn → ∃ g, a = some ⟨g, 0, none⟩ ∧ w.cell? ⟨g, k * 2, none⟩ = some (.int .i64 (idx T m k : Int)) ∧ w.cell? ⟨g, k * 2 + 1, none⟩ = some (.int .i64 (X (idx T m k))))
    (HR : RefS wb lo R m VL T w) (HO : Ones m X VL T w) :
    Calls Try.prog 21 #[.func (.func 47) #[] #[.pointer (some ⟨bl, 0, none⟩)], .pointer (some ⟨wb, 0, none⟩), .int .i64 s] w fun e w' => e = .returned (.bool true) ∧ Below w.heap.size w w' := by
  have BL := Lib.hid hbl
  have RW := Lib.hid hrow
  have RR := Lib.hid HR
  have OO := Lib.hid HO
  have NN := Lib.hid hnn
  have hle := cntT_le T m
  have hn9 : nn ≤ 90000 := by omega
  have A0 := Lib.hid (HR.keeps (((Keeps.refl [] w).alloc (.cells #[.pointer (some ⟨wb, 0, none⟩)] 35)).alloc (.cells #[.int .i64 s] 3)) (by simp))
  clear hbl hrow HR HO hnn hle
  go_enter Try.func21, Try.ntmps21
  go_wp2_with fail
  refine (refAll_any wb lo R m VL T (by omega) _ A0.out).mono ?_
  rintro e w1 ⟨la, lc, rfl, hown, b1⟩
  rw [← NN.out] at hown ⊢
  have OW := Lib.hid hown
  have B1 := Lib.hid b1
  have z1 : w.heap.size + 1 < w1.heap.size := by have := b1.size; simp at this; omega
  clear hown b1
  go_wp2_with fail
  obtain ⟨w0, hw0⟩ := ex_hid ((((w1.alloc (.cells #[.slice la nn lc] 22)).alloc (.cells #[.int .i64 0] 3)).alloc (.cells #[.bool true] 4)).alloc (.cells #[.bool false] 4))
  rw [← hw0.out]
  have kw1 : Keeps [] w w1 := (((Keeps.refl [] w).alloc _).alloc _).trans (Below.keeps B1.out [])
  have k0 : Keeps [] w1 w0 := by rw [hw0.out]; exact ((((Keeps.refl [] w1).alloc _).alloc _).alloc _).alloc _
  have hG : GoT w.heap.size w1.heap.size wb la nn lc s 0 w w1 w0 := by
    refine ⟨k0.has ((Below.keeps B1.out []).has (has_alloc (has_new _ _) _) (by simp)) (by simp), k0.has ((Below.keeps B1.out []).has (has_new' _ _ (by simp)) (by simp)) (by simp), ?_, ?_, ?_, ?_, kw1.trans k0, k0⟩ <;> rw [hw0.out]
    · exact has_alloc (has_alloc (has_alloc (has_new _ _) _) _) _
    · exact has_alloc (has_alloc (has_new' _ _ (by simp)) _) _
    · exact has_alloc (has_new' _ _ (by simp)) _
    · exact has_new' _ _ (by simp)
  refine (sAll1 48 #[.pointer (some ⟨w1.heap.size + 1 + 1, 0, none⟩), .pointer (some ⟨w1.heap.size + 1 + 1 + 1, 0, none⟩), .pointer (some ⟨w1.heap.size + 1, 0, none⟩), .pointer (some ⟨w1.heap.size, 0, none⟩), .pointer (some ⟨w.heap.size, 0, none⟩), .pointer (some ⟨w.heap.size + 1, 0, none⟩)] entersY bl nn a cap (by omega) (fun k => (idx T m k : Int)) (fun k => X (idx T m k))
    (fun i W => GoT w.heap.size w1.heap.size wb la nn lc s i w w1 W)
    (fun i W => (i : Int) = s ∧ W.heap[w.heap.size + 1]? = some (.cells #[.int .i64 s] 3 (0, 0)) ∧ W.heap[w1.heap.size]? = some (.cells #[.slice la nn lc] 22 (0, 0)) ∧ W.heap[w1.heap.size + 1]? = some (.cells #[.int .i64 i] 3 (0, 0)) ∧ W.heap[w1.heap.size + 1 + 1]? = some (.cells #[.bool true] 4 (0, 0)) ∧ Keeps [] w W)
    (fun i W W' h b => h.below b) ?_ ?_ w0 ((kw1.trans k0).cell (cell_has BL.out rfl) (by simp)) hG).mono ?_
  · intro i W hi hW
    obtain ⟨gl, cap2, hv, hgl1, hgl2⟩ := OW.out.form (by omega)
    simp at hv
    obtain ⟨rfl, rfl⟩ := hv
    obtain ⟨i1, i2, i3⟩ := idx_is T m i (by rw [← NN.out]; exact hi)
    obtain ⟨b, hb, hx⟩ := OO.out (idx T m i) i1 i2
    have hc1 : w1.cell? ⟨gl, i, none⟩ = some (.int .i64 (idx T m i : Int)) := by
      rw [OW.out.cellAt i (by omega)]
      simp [intsL, i3]
    refine (goesf11 w.heap.size w1.heap.size wb lo R m X VL T gl nn lc s i (X (idx T m i)) ((i : Int) + 1 == s) W hW.hw hW.hs hW.hl hW.hn hW.ho hW.hv hi (by omega) (idx T m i) i1 (hW.hk1.cell hc1 (by simp)) hgl2 (RR.out.keeps hW.hk (by simp)) b (Lib.hid hb) (hW.hk.cell hx (by simp)) z1 (Lib.hid rfl)).mono ?_
    rintro e W' ⟨rfl, q1, q2, q3, q4⟩
    have hk : Keeps [] w W' := hW.hk.then q4 (by intro x hx; simp at hx; left; omega)
    have hk1 : Keeps [] w1 W' := hW.hk1.then q4 (by intro x hx; simp at hx; left; omega)
    have hw' := q4.has hW.hw (by simp <;> omega)
    have hs' := q4.has hW.hs (by simp <;> omega)
    have hl' := q4.has hW.hl (by simp <;> omega)
    by_cases hxs : (i : Int) + 1 = s
    · exact .inr ⟨by rw [show ((i : Int) + 1 == s) = true by simpa using hxs]; rfl, by omega, hs', hl', q1, q2, hk⟩
    · have hf : ((i : Int) + 1 == s) = false := by simpa using hxs
      rw [hf] at q3
      exact .inl ⟨by rw [hf]; rfl, hw', hs', hl', q1, q2, q3, hk, hk1⟩
  · intro i W hi hW
    obtain ⟨g, h1, h2, h3⟩ := RW.out i hi
    exact ⟨g, h1, hW.hk.cell h2 (by simp), hW.hk.cell h3 (by simp)⟩
  · rintro e w4 ⟨rfl, hj⟩
    have hfin : ∃ c : Nat, (((c : Int) = s ∧ 1 ≤ c) ∨ c = nn) ∧ w4.heap[w.heap.size + 1]? = some (.cells #[.int .i64 s] 3 (0, 0)) ∧ w4.heap[w1.heap.size]? = some (.cells #[.slice la nn lc] 22 (0, 0)) ∧ w4.heap[w1.heap.size + 1]? = some (.cells #[.int .i64 c] 3 (0, 0)) ∧ w4.heap[w1.heap.size + 1 + 1]? = some (.cells #[.bool true] 4 (0, 0)) ∧ Keeps [] w w4 := by
      rcases hj with h | ⟨i, i1, i2, h3, h4, h5, h6, h7, h8⟩
      · exact ⟨nn, .inr rfl, h.hs, h.hl, h.hn, h.ho, h.hk⟩
      · exact ⟨i, .inl ⟨h3, i1⟩, h4, h5, h6, h7, h8⟩
    clear hj
    obtain ⟨c, hc, p2, p1, p3, p4, p5⟩ := hfin
    have x1 := cell_has p1 (i := 0) rfl
    have x2 := cell_has p2 (i := 0) rfl
    have x3 := cell_has p3 (i := 0) rfl
    have x4 := cell_has p4 (i := 0) rfl
    have K := Lib.hid (p5.below (Nat.le_refl _) (by simp))
    clear p1 p2 p3 p4 p5 hG k0 kw1
    rcases hc with ⟨hc, hc1⟩ | hc
    · rw [← hc] at x2
      have hp : (0 : Int) < (c : Int) := by omega
      clear hc
      go_wp2_with fail
      go_ret
      exact ⟨rfl, K.out⟩
    · subst hc
      by_cases he : (c : Int) = s
      · have d1 : ((c : Int) == s) = true := by simpa using he
        by_cases hp : (0 : Int) < s
        · have d2 : decide ((0 : Int) < s) = true := by simpa using hp
          clear he
          go_wp2_with fail
          go_ret
          exact ⟨rfl, K.out⟩
        · have d2 : decide ((0 : Int) < s) = false := by simpa using hp
          clear he
          go_wp2_with fail
          go_ret
          exact ⟨rfl, K.out⟩
      · have d1 : ((c : Int) == s) = false := by simpa using he
        clear he
        go_wp2_with fail
        go_ret
        exact ⟨rfl, K.out⟩
end Go.Proofs.Ytompihlckpjbkaa
