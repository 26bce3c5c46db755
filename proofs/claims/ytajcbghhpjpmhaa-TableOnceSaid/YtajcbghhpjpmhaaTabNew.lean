/- A new table (chapter 7). -/
import Derived.Test.YtajcbghhpjpmhaaTabMem
namespace Go.Proofs.Ytajcbghhpjpmhaa
open Go.RowKit
set_option linter.unusedVariables false

/-- The block of a table. -/
def tabO (m ev cp lv bi ma tu : Value) : Obj := .cells #[m, ev, cp, lv, bi, ma, tu] 97 (0, 0)
/-- Behind index. -/
def Idx (t L : Nat) (m : Option Nat) (c : C4) (ev lv bi tu : Value) (ma : Int) (w : World) (e : Ending) (w' : World) : Prop :=
  e = .returned (.tuple #[]) ∧ ∃ cb cr, w'.heap[t]? = some (tabO (mV m) ev (.pointer (some ⟨cb, 0, none⟩)) lv bi (.int .i64 (ma + 1)) tu) ∧ CellsAt cb cr L (2 ^ L) (begun (2 ^ L)) w' ∧ w.heap.size ≤ cb ∧ w.heap.size ≤ cr ∧ MtrAt m c.tab w' ∧ Keeps (t :: mS m) w w'
theorem index_any (t L : Nat) (l : Int) (hl : l = (L : Int)) (m : Option Nat) (c : C4) (ev cp lv bi tu : Value) (ma : Int) (w : World) (h : w.heap[t]? = some (tabO (mV m) ev cp lv bi (.int .i64 ma) tu)) (hm : MtrAt m c w)
    (hmt : ∀ b, m = some b → b ≠ t) (h3 : 3 ≤ L) (hL : L ≤ 20) (hma0 : 0 ≤ ma) (hma : ma ≤ 1000000) :
    Calls Try.prog 45 #[.pointer (some ⟨t, 0, none⟩), .int .i64 l] w (Idx t L m c ev lv bi tu ma w) := by
  subst hl
  have H := Lib.hid h
  have HM := Lib.hid hm
  have HT := Lib.hid hmt
  have HS : Hid (∀ x, x ∈ mS m → x ≠ t) := Lib.hid (by intro x hx; cases m with | none => simp [mS] at hx | some b => simp [mS] at hx; subst hx; exact hmt _ rfl)
  clear h hm hmt
  go_enter Try.func45, Try.ntmps45
  go_wp2_with fail
  refine (new_any L (2 ^ L) _ rfl h3 hL rfl _).mono ?_
  rintro e w1 ⟨cb, cr, rfl, hc, z1, z2, b1⟩
  have K1 := Lib.hid (Below.keeps b1 [])
  have h1 := (Below.keeps b1 []).has H.out (by simp)
  have HC := Lib.hid hc
  have f0 := free_of_has h1 2
  have f5 := free_of_has h1 5
  have c2 := cell_has h1 (i := 2) rfl
  have c5 := cell_has h1 (i := 5) rfl
  have c0 := cell_has h1 (i := 0) rfl
  have H1 := Lib.hid h1
  obtain ⟨mv, hmv⟩ := ex_hid (mV m)
  rw [← hmv.out] at c0
  clear b1 hc h1
  go_wp2_with fail
  have k2 : Keeps [t] w1 ((w1.setCell ⟨t, 2, none⟩ (.pointer (some ⟨cb, 0, none⟩))).setCell ⟨t, 5, none⟩ (.int .i64 (ma + 1))) := ((Keeps.refl _ _).setCell (.inr (by simp)) _).setCell (.inr (by simp)) _
  have K2 := Lib.hid k2
  rw [hmv.out]
  have hm2 : MtrAt m c ((w1.setCell ⟨t, 2, none⟩ (.pointer (some ⟨cb, 0, none⟩))).setCell ⟨t, 5, none⟩ (.int .i64 (ma + 1))) := (HM.out.keeps K1.out (fun b hb => by simp)).keeps k2 (fun b hb => by have := HT.out b hb; simp; omega)
  refine (mtable_any m c _ hm2).mono ?_
  rintro e w3 ⟨rfl, k3, m3⟩
  have K3 := Lib.hid k3
  have M3 := Lib.hid m3
  clear k2 hm2 k3 m3
  go_wp2_with fail
  go_end0
  have ht := Lib.hid (lt_of_block H.out)
  have h2 := has_setCell (has_setCell H1.out 2 (.pointer (some ⟨cb, 0, none⟩))) 5 (.int .i64 (ma + 1))
  have hot := HC.out.other H1.out
  have hsub : ∀ x, x ∈ mS m → x < w.heap.size := fun x hx => by cases m with | none => simp [mS] at hx | some b => simp [mS] at hx; subst hx; exact lt_of_block (HM.out _ rfl)
  refine ⟨rfl, cb, cr, K3.out.has h2 (fun hx => HS.out _ hx rfl), (HC.out.keeps K2.out (by simp; exact hot.1) (by simp; exact hot.2)).keeps K3.out (fun hx => by have := hsub _ hx; omega) (fun hx => by have := hsub _ hx; omega), z1, z2, M3.out, ?_⟩
  exact ((K1.out.mono (by simp)).trans (K2.out.mono (by simp))).trans (K3.out.mono (by intro x hx; simp; exact .inr hx))

/-- A new table. -/
def NewT (m : Option Nat) (c : C4) (w : World) (e : Ending) (w' : World) : Prop :=
  ∃ t S, e = .returned (.pointer (some ⟨t, 0, none⟩)) ∧ TabAt t w.heap.size S (mV m) newT w' ∧ MtrAt m c.tab w' ∧ Keeps (mS m) w w'
theorem newt_any (m : Option Nat) (c : C4) (w : World) (hm : MtrAt m c w) : Calls Try.prog 39 #[mV m] w (NewT m c w) := by
  have HM := Lib.hid hm
  have hsub : ∀ b, m = some b → b < w.heap.size := fun b hb => lt_of_block (hm b hb)
  have HS := Lib.hid hsub
  obtain ⟨p, hp⟩ : ∃ p : Option Addr, Hid (mV m = .pointer p) := ⟨_, Lib.hid rfl⟩
  rw [hp.out]
  clear hm hsub
  go_enter Try.func39, Try.ntmps39
  go_wp2_with fail
  rw [← hp.out]
  refine (index_any w.heap.size 3 3 rfl m c (.slice none 0 0) (.pointer none) (.int .i64 0) (.int .i64 0) (.int .i64 0) 0 _ (has_new _ _) (HM.out.keeps ((Keeps.refl [] _).alloc _) (by simp)) (fun b hb => by have := HS.out b hb; omega) (by omega) (by omega) (by omega) (by omega)).mono ?_
  rintro e w1 ⟨rfl, cb, cr, h1, h2, h3, h4, h5, k⟩
  have z := k.size
  have H1 := Lib.hid h1
  have H2 := Lib.hid h2
  have H5 := Lib.hid h5
  have K := Lib.hid k
  simp only [World.size_alloc] at z h3 h4
  clear h1 h2 h5 k
  go_wp2_with fail
  go_ret
  refine ⟨w.heap.size, [w.heap.size, cb, cr], rfl, ⟨none, 0, cb, cr, H1.out, EntRow.nil _ _, H2.out, by simp, by simp, by simp, by simp [blk], ?_⟩, H5.out, ?_⟩
  · have l1 := lt_of_block H2.out.ho
    have l2 := lt_of_block H2.out.hr
    intro x hx
    simp at hx
    rcases hx with rfl | rfl | rfl <;> omega
  · refine ((Keeps.refl (mS m) w).alloc _).then K.out (fun x hx => ?_)
    simp at hx
    rcases hx with rfl | hx
    · exact .inl (Nat.le_refl _)
    · exact .inr hx
end Go.Proofs.Ytajcbghhpjpmhaa
