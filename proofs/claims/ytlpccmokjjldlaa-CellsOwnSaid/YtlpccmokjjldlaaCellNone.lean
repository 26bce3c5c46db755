/- Cells that are none (chapter 6). -/
import Derived.Test.YtlpccmokjjldlaaCellGoes
import Derived.Test.YtlpccmokjjldlaaCellAwake
import Derived.Test.YtlpccmokjjldlaaArgs
import Derived.Deep.RegionHeld3
import Derived.Deep.DrawnRows
namespace Go.Proofs.Ytlpccmokjjldlaa
open Go.RowKit
set_option linter.unusedVariables false
attribute [local go_sem ↓] Go.wp_at_zero Go.wp_at_succ

/-- No cells: a nil pointer, or zero ones. -/
def NoneC (p : Option Addr) (w : World) : Prop := p = none ∨ ∃ c, p = some ⟨c, 0, none⟩ ∧ w.heap[c]? = some (.cells #[.int .i64 0, .nilIface] 86 (0, 0))
theorem NoneC.keeps {p : Option Addr} {w w' : World} (h : NoneC p w) (k : Keeps [] w w') : NoneC p w' := by
  rcases h with h | ⟨c, h1, h2⟩
  · exact .inl h
  · exact .inr ⟨c, h1, k.has h2 (by simp)⟩
theorem NoneC.below {p : Option Addr} {w w' : World} (h : NoneC p w) (b : Below w.heap.size w w') : NoneC p w' := h.keeps (Below.keeps b [])
theorem NoneC.drew {p : Option Addr} {w : World} (h : NoneC p w) : NoneC p w.drew := h
theorem NoneC.alloc {p : Option Addr} {w : World} (h : NoneC p w) (o : Obj) : NoneC p (w.alloc o) := h.keeps ((Keeps.refl [] w).alloc o)

theorem none_n (p : Option Addr) (w : World) (H : NoneC p w) :
    Calls Try.prog 66 #[.pointer p] w fun e w' => e = .returned (.bool true) ∧ w = w' := by
  rcases H with rfl | ⟨c, rfl, h⟩
  · go_enter Try.func66, Try.ntmps66
    go_wp2_with fail
    go_ret
    exact ⟨rfl, rfl⟩
  · have c1 := cell_has h (i := 1) rfl
    clear h
    go_enter Try.func66, Try.ntmps66
    go_wp2_with fail
    go_ret
    exact ⟨rfl, rfl⟩
theorem size_n (p : Option Addr) (w : World) (h : NoneC p w) :
    Calls Try.prog 35 #[.pointer p] w fun e w' => e = .returned (.int .i64 0) ∧ w = w' := by
  have H := Lib.hid h
  clear h
  go_enter Try.func35, Try.ntmps35
  go_wp2_with (go_at_call 66; refine (none_n _ _ H.out).mono ?_; rintro e w1 ⟨rfl, rfl⟩)
  go_ret
  exact ⟨rfl, rfl⟩
theorem log_n (p : Option Addr) (w : World) (h : NoneC p w) :
    Calls Try.prog 60 #[.pointer p] w fun e w' => e = .returned (.int .i64 0) ∧ w = w' := by
  have H := Lib.hid h
  clear h
  go_enter Try.func60, Try.ntmps60
  go_wp2_with (go_at_call 66; refine (none_n _ _ H.out).mono ?_; rintro e w1 ⟨rfl, rfl⟩)
  go_ret
  exact ⟨rfl, rfl⟩
theorem width_n (p : Option Addr) (w : World) (h : NoneC p w) :
    Calls Try.prog 62 #[.pointer p] w fun e w' => e = .returned (.int .i64 0) ∧ w = w' := by
  have H := Lib.hid h
  clear h
  go_enter Try.func62, Try.ntmps62
  go_wp2_with (go_at_call 66; refine (none_n _ _ H.out).mono ?_; rintro e w1 ⟨rfl, rfl⟩)
  go_ret
  exact ⟨rfl, rfl⟩
theorem room_n (p : Option Addr) (w : World) (h : NoneC p w) :
    Calls Try.prog 58 #[.pointer p] w fun e w' => e = .returned (.int .i64 0) ∧ w = w' := by
  have H := Lib.hid h
  clear h
  go_enter Try.func58, Try.ntmps58
  go_wp2_with (go_at_call 35; refine (size_n _ _ H.out).mono ?_; rintro e w1 ⟨rfl, rfl⟩)
  go_ret
  exact ⟨rfl, rfl⟩
theorem wrong_n (p : Option Addr) (i : Int) (w : World) (h : NoneC p w) :
    Calls Try.prog 68 #[.pointer p, .int .i64 i] w fun e w' => e = .returned (.int .i64 1) ∧ w = w' := by
  have H := Lib.hid h
  clear h
  go_enter Try.func68, Try.ntmps68
  go_wp2_with (go_at_call 66; refine (none_n _ _ H.out).mono ?_; rintro e w1 ⟨rfl, rfl⟩)
  go_ret
  exact ⟨rfl, rfl⟩
theorem get_n (p : Option Addr) (i : Int) (w : World) (h : NoneC p w) :
    Calls Try.prog 42 #[.pointer p, .int .i64 i] w fun e w' => e = .returned (.tuple #[.int .i64 0, .int .i64 1]) ∧ w = w' := by
  have H := Lib.hid h
  clear h
  go_enter Try.func42, Try.ntmps42
  go_wp2_with (go_at_call 68; refine (wrong_n _ _ _ H.out).mono ?_; rintro e w1 ⟨rfl, rfl⟩)
  go_ret2
  exact ⟨rfl, rfl⟩
theorem set_n (p : Option Addr) (i v : Int) (w : World) (h : NoneC p w) :
    Calls Try.prog 38 #[.pointer p, .int .i64 i, .int .i64 v] w fun e w' => e = .returned (.int .i64 1) ∧ w = w' := by
  have H := Lib.hid h
  clear h
  go_enter Try.func38, Try.ntmps38
  go_wp2_with (go_at_call 68; refine (wrong_n _ _ _ H.out).mono ?_; rintro e w1 ⟨rfl, rfl⟩)
  go_ret
  exact ⟨rfl, rfl⟩
theorem all_n (p : Option Addr) (w : World) (h : NoneC p w) :
    Calls Try.prog 36 #[.pointer p] w (AllC 0 (fun _ => 0) w) := by
  have H := Lib.hid h
  have hm : ∀ w : World, (Instr.makeSlice 42 (.int .i64 0) (.int .i64 0)).run Try.prog w = _ := fun w => make_ints w 0 (by omega)
  clear h
  go_enter Try.func36, Try.ntmps36
  go_wp2_with (go_at_call 35; refine (size_n _ _ H.out).mono ?_; rintro e w1 ⟨rfl, rfl⟩)
  clear hm
  go_loop [10] (fun i => i = .int .i64 0) (fun _ => 0)
  case atStart => rfl
  case round =>
    subst hrel
    go_wp2_with fail
    go_ret
    exact ⟨w.heap.size + 1, w.heap.size, rfl, has_new' _ _ (by simp), has_alloc (has_new _ _) _, by omega, Nat.le_refl _, ((Below.refl _ _).alloc (Nat.le_refl _) _).alloc (by simp) _⟩
theorem bytes_n (p : Option Addr) (w : World) (h : NoneC p w) :
    Calls Try.prog 37 #[.pointer p] w fun e w' => e = .returned (.slice (some ⟨w.heap.size, 0, none⟩) 0 0) ∧ Below w.heap.size w w' := by
  have H := Lib.hid h
  have hm : ∀ w : World, (Instr.makeSlice 74 (.int .i64 0) (.int .i64 0)).run Try.prog w = .ok (.slice (some ⟨w.heap.size, 0, none⟩) 0 0) (w.alloc (.cells #[] 5)) := fun w => by kernel_rfl
  clear h
  go_enter Try.func37, Try.ntmps37
  go_wp2_with (first | (go_at_call 62; refine (width_n _ _ H.out).mono ?_; rintro e w1 ⟨rfl, rfl⟩) | (go_at_call 35; refine (size_n _ _ (by first | exact H.out | exact H.out.alloc _)).mono ?_; rintro e w1 ⟨rfl, rfl⟩))
  clear hm
  go_loop [3, 15] (fun o i => o = .slice (some ⟨w.heap.size, 0, none⟩) 0 0 ∧ i = .int .i64 0) (fun _ _ => 0)
  case atStart => exact ⟨rfl, rfl⟩
  case round =>
    obtain ⟨rfl, rfl⟩ := hrel
    go_wp2_with fail
    go_ret
    exact ⟨rfl, (Below.refl _ _).alloc (Nat.le_refl _) _⟩

set_option maxHeartbeats 1000000 in
theorem alike_n (p : Option Addr) (w : World) (h : NoneC p w) :
    Calls Try.prog 33 #[.pointer p, .agg #[.int .i64 0, .slice none 0 0]] w fun e w' => e = .returned (.bool true) ∧ Below w.heap.size w w' := by
  have HA := Lib.hid (h.alloc (.cells #[.int .i64 0, .slice none 0 0] 64))
  clear h
  go_enter Try.func33, Try.ntmps33
  go_wp2_with fail
  go_region_held3 (fun w' => w'.cell? ⟨w.heap.size, 0, none⟩ = some (.int .i64 0) ∧ w'.cell? ⟨w.heap.size, 1, none⟩ = some (.slice none 0 0)) (go_keep)
    (first
      | (go_at_call 60; refine (log_n _ _ HA.out.drew).mono ?_; rintro e w1 ⟨rfl, rfl⟩)
      | (go_at_call 35; refine (size_n _ _ HA.out.drew).mono ?_; rintro e w1 ⟨rfl, rfl⟩)
      | (go_at_call 58; refine (room_n _ _ HA.out.drew).mono ?_; rintro e w1 ⟨rfl, rfl⟩)
      | (go_at_call 62; refine (width_n _ _ HA.out.drew).mono ?_; rintro e w1 ⟨rfl, rfl⟩)
      | (go_at_call 61; refine (rroom_bad 0 _ (.inl (by omega))).mono ?_; rintro e w1 ⟨rfl, rfl⟩)
      | (go_at_call 63; refine (rwidth_bad 0 _ (.inl (by omega))).mono ?_; rintro e w1 ⟨rfl, rfl⟩))
  all_goals
    go_wp2_with fail
    go_ret
    exact ⟨rfl, ((Below.refl _ _).alloc (Nat.le_refl _) _).drew⟩
end Go.Proofs.Ytlpccmokjjldlaa
