/- CellsLoad, walked: where nothing is loaded (chapter 6). -/
import Derived.Test.YtlpccmokjjldlaaCellsLoad
import Derived.Test.YtlpccmokjjldlaaAppSrc
import Derived.Deep.RegionHeld3
import Derived.Deep.DrawnRows
namespace Go.Proofs.Ytlpccmokjjldlaa
open Go.RowKit
set_option linter.unusedVariables false
attribute [local go_sem ↓] Go.wp_at_zero Go.wp_at_succ

theorem readsB_row {w : World} {lo g m c : Nat} {V : Nat → Value} (h : ValRow 5 lo (some ⟨g, 0, none⟩) m c V w) (n : Nat) (hn : n ≤ m) (B : Nat → Nat) (hB : ∀ i, i < n → V i = byV B i) : ReadsB w (some ⟨g, 0, none⟩) n (byV B) := fun i hi =>
  ⟨g, 0, rfl, by rw [Nat.zero_add, ← hB i hi]; exact h.cell (by omega), _, rfl⟩
theorem row_below {lo g m c : Nat} {V : Nat → Value} {w w' : World} (h : ValRow 5 lo (some ⟨g, 0, none⟩) m c V w) (b : Below w.heap.size w w') : ValRow 5 lo (some ⟨g, 0, none⟩) m c V w' := h.keeps (Below.keeps b []) (by simp)
theorem keeps_of_grown {w w1 : World} {a : Option Addr} {m c : Nat} {o : Obj} (hg : (w.alloc o).grownBy w1 (Value.slice a m c).ownBlock) : Keeps (blk a) w w1 :=
  ⟨hg.os, hg.tape, hg.output, by have := hg.size; simp at this; omega, fun k hk hs => (hg.block k (by simp; omega) (fun e => hs (blk_own a m c k e.symm))).trans (Below.heap_alloc _ _ _ hk)⟩

set_option maxRecDepth 100000 in
set_option maxHeartbeats 2000000 in
theorem cellsLoad_nil (l E : Int) (hE0 : E ≠ 0) (a : Option Addr) (len cap : Nat) (B : Nat → Nat) (sa : Option Addr) (sl sc : Nat) (w : World) (hnil : a = none → len = 0 ∧ cap = 0) (hr : ReadsB w a len (byV B)) (hl : len ≤ 20000) (hs : sl ≤ 300) (hlog : l ≤ 12 ∨ (¬ l ≤ 12 ∧ 20 < l))
    (hP : ∀ W a' c', ReadsB W a' len (byV B) → Calls Try.prog 43 #[.int .i64 l, .slice a' len c'] W fun e w' => e = .returned (.tuple #[.pointer none, .int .i64 E]) ∧ Below W.heap.size W w')
    (hR : ∀ W a' c', ReadsB W a' len (byV B) → Calls Try.prog 44 #[.int .i64 l, .slice a' len c'] W fun e w' => e = .returned (.tuple #[.agg #[.int .i64 0, .slice none 0 0], .int .i64 E]) ∧ Below W.heap.size W w') :
    Calls Try.prog 14 #[.int .i64 l, .slice a len cap, .slice sa sl sc] w fun e w' => e = .returned (.bool true) ∧ Below w.heap.size w w' := by
  obtain ⟨i0, hi, hz0, hz1, hz2⟩ := info_parts infoU
  have HI := Lib.hid (And.intro hi (And.intro hz0 (And.intro hz1 hz2)))
  clear hi hz0 hz1 hz2
  have d1 : decide ((20000 : Int) < (len : Int)) = false := by simp; omega
  have d2 : decide ((300 : Int) < (sl : Int)) = false := by simp; omega
  have q3 : len + 1 ≤ maxLen := by unfold maxLen; omega
  have q4 : (len + 1) * 1 ≤ 140737488355328 := by omega
  have G := Lib.hid (And.intro q3 q4)
  have HR := Lib.hid hr
  have HN := Lib.hid hnil
  have CP := Lib.hid hP
  have CR := Lib.hid hR
  have hl' : (len : Int) ≤ 20000 := by omega
  have E1 : (E == 0) = false := by simpa using hE0
  have E2 : (E != 0) = true := by simpa using hE0
  clear hr hP hR hnil q3 q4 hE0
  rcases hlog with hlog | ⟨hlog0, hlog⟩
  case' inl => have d3 : decide ((12 : Int) < l) = false := by simp; omega
  case' inr =>
    have d3 : decide ((12 : Int) < l) = true := by simp; omega
    have d4 : decide (l ≤ 20) = false := by simp; omega
  all_goals
    go_enter Try.func14, Try.ntmps14
    go_wp2_with (first
      | (at_builtin; refine wpList_append_src rfl _ _ 74 rfl w.heap.size 5 i0 (.int .u8 0) 1 Try.underlying74 HI.out.1 HI.out.2.1 HI.out.2.2.1 HI.out.2.2.2 rfl rfl a len cap (byV B) rfl HN.out (fun k hk => by obtain ⟨b, off, h1, h2, -⟩ := HR.out k hk; exact ⟨b, off, h1, h2⟩) (fun k hk => rfl) (Nat.le_of_succ_le G.out.1) (by omega) (Nat.le_refl _) ?_; intro xa xc w1 row1 k1; have ROW := Lib.hid row1; have K1 := Lib.hid k1; have z1 := Lib.hid k1.size; clear row1 k1)
      | (at_builtin; refine wpList_append_lies _ rfl _ _ 74 rfl w.heap.size 5 i0 (.int .u8 0) 1 1 Try.underlying74 HI.out.1 HI.out.2.1 HI.out.2.2.1 HI.out.2.2.2 rfl (by decide) _ len (valR len (byV B)) rfl (World.ownsRow.alloc ROW.out _) ⟨w1.heap.size, 0, none⟩ 1 1 [_] rfl rfl (cell_one_new _ _ _) (by intro u hu; simp at hu; subst hu; rfl) (by decide) G.out.1 G.out.2 (by have := z1.out; simp <;> omega) (w1.heap.size + 1) (by simp) ?_; intro g xc2 w2 hown hgrow hat hlt2; have row2 := ValRow.of_append hown; have hcap := row2.cap_le.1; have B2 := Lib.hid (((K1.out.below (Nat.le_refl _) (by simp))).trans ((keeps_of_grown hgrow).below z1.out (fun x hx => (ROW.out.blk_lt x hx).1))); have R2 := Lib.hid row2; clear hown hgrow hat row2))
    have rd2 := Lib.hid (readsB_row R2.out len (by omega) B (fun i hi => by simp [putV, show i ≠ len by omega]))
    refine (CP.out _ _ _ rd2.out).mono ?_
    rintro e w3 ⟨rfl, b3⟩
    have R3 := Lib.hid (row_below R2.out b3)
    have B3 := Lib.hid (B2.out.trans (b3.mono B2.out.size))
    clear b3
    go_wp2_with fail
    refine (CR.out _ _ _ (HR.out.below B3.out)).mono ?_
    rintro e w4 ⟨rfl, b4⟩
    have R4 := Lib.hid (row_below R3.out b4)
    have B4 := Lib.hid (B3.out.trans (b4.mono B3.out.size))
    have c77 : w4.cell? ⟨g, len, none⟩ = some (.int .u8 77) := by rw [R4.out.cell (k := len) (by omega)]; simp [putV]
    have zg := Lib.hid (R4.out.blk_lt g (by simp [blk])).2
    clear b4
    go_wp2_with fail
    have BX := Lib.hid ((Below.refl w4.heap.size w4).alloc (Nat.le_refl _) (.cells #[.int .i64 0, .slice none 0 0] 64))
    refine (bytes_eq (byV B) _ _ len _ _ _ (readsB_row (row_below R4.out BX.out) len (by omega) B (fun i hi => by simp [putV, show i ≠ len by omega])) (HR.out.below (B4.out.trans (BX.out.mono B4.out.size))) (by omega)).mono ?_
    rintro e w5 ⟨rfl, b5⟩
    have c78 : w5.cell? ⟨g, len, none⟩ = some (.int .u8 77) := (Below.keeps b5 []).cell (cell_alloc c77 _) (by simp)
    have B5 := Lib.hid ((B4.out.trans (BX.out.mono B4.out.size)).trans (b5.mono (by have := B4.out.size; simp; omega)))
    clear b5 c77
    go_wp2_with (go_at_call 30; refine (awake6 _).mono ?_; rintro e w6 ⟨rfl, b6⟩)
    go_ret
    exact ⟨rfl, B5.out.trans (b6.mono B5.out.size)⟩
end Go.Proofs.Ytlpccmokjjldlaa
