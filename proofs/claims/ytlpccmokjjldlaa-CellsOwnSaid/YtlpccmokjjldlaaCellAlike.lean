/- alike: do Cells say what the document says? (chapter 6). -/
import Derived.Test.YtlpccmokjjldlaaCellRef
import Derived.Deep.RegionWith
import Derived.Deep.DrawnRows
namespace Go.Proofs.Ytlpccmokjjldlaa
open Go.RowKit
set_option linter.unusedVariables false
attribute [local go_sem ↓] Go.wp_at_zero Go.wp_at_succ

/-- What is known in the midst of alike. -/
structure AlS (c r L n : Nat) (V : Nat → Int) (q : Option Addr) (w W : World) : Prop where
  cells : CellsAt c r L n V W
  box : W.heap[w.heap.size]? = some (.cells #[.int .i64 L, .slice q n n] 64 (0, 0))
  since : Below w.heap.size w W
theorem AlS.next {c r L n : Nat} {V : Nat → Int} {q : Option Addr} {w W w1 : World} (h : AlS c r L n V q w W) (b : Below W.heap.size W w1) : AlS c r L n V q w w1 :=
  ⟨h.cells.below b, (Below.keeps b []).has h.box (by simp), h.since.trans (b.mono h.since.size)⟩
theorem AlS.drew {c r L n : Nat} {V : Nat → Int} {q : Option Addr} {w W : World} (h : AlS c r L n V q w W) : AlS c r L n V q w W.drew := ⟨⟨h.cells.ho, h.cells.hr⟩, h.box, h.since.drew⟩

set_option maxRecDepth 100000 in
set_option maxHeartbeats 8000000 in
theorem alike_any (c r L n : Nat) (V : Nat → Int) (q : Option Addr) (h3 : 3 ≤ L) (hL : L ≤ 20) (hn : n = 2 ^ L) (w : World) (H : CellsAt c r L n V w) :
    Calls Try.prog 33 #[.pointer (some ⟨c, 0, none⟩), .agg #[.int .i64 L, .slice q n n]] w fun e w' => e = .returned (.bool true) ∧ Below w.heap.size w w' := by
  have hn1 : n ≤ 1048576 := by rw [hn]; exact pow_le hL
  have HN := Lib.hid hn
  have hA : AlS c r L n V q w ((w.alloc (.cells #[.int .i64 L, .slice q n n] 64)).drew) := ⟨⟨has_alloc H.ho _, has_alloc H.hr _⟩, has_new _ _, ((Below.refl _ _).alloc (Nat.le_refl _) _).drew⟩
  clear H hn
  go_enter Try.func33, Try.ntmps33
  go_wp2_with fail
  go_region_with (first
    | (go_at_call 60; refine (log_any c r L n V _ (AlS.cells (by assumption))).mono ?_; rintro e w1 ⟨rfl, rfl⟩)
    | (go_at_call 35; refine (size_any c r L n V _ (AlS.cells (by assumption))).mono ?_; rintro e w1 ⟨rfl, b1⟩; have hA1 := AlS.next (by assumption) b1; have rc1 := cell_of_has hA1.box; clear b1)
    | (go_at_call 58; refine (room_any c r L n V _ (AlS.cells (by assumption)) hn1).mono ?_; rintro e w1 ⟨rfl, b1⟩; have hA2 := AlS.next (by assumption) b1; have rc2 := cell_of_has hA2.box; clear b1)
    | (go_at_call 62; refine (width_any c r L n V _ (AlS.cells (by assumption))).mono ?_; rintro e w1 ⟨rfl, b1⟩; have hA3 := AlS.next (by assumption) b1; have rc3 := cell_of_has hA3.box; clear b1)
    | (go_at_call 61; refine (rroom_any L n _ rfl h3 hL HN.out _).mono ?_; rintro e w1 ⟨rfl, rfl⟩)
    | (go_at_call 63; refine (rwidth_any L _ rfl h3 hL _).mono ?_; rintro e w1 ⟨rfl, rfl⟩))
  all_goals
    go_wp2_with fail
    go_ret
    exact ⟨rfl, hA3.since⟩
end Go.Proofs.Ytlpccmokjjldlaa
