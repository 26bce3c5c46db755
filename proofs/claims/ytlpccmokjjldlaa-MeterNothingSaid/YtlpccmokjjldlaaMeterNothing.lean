/- MeterNothing, walked (chapter 4). -/
import Derived.Test.YtlpccmokjjldlaaMeterTwo
namespace Go.Proofs.Ytlpccmokjjldlaa
open Go.RowKit
attribute [local go_sem ↓] Go.wp_at_zero Go.wp_at_succ

/-- A call that came back, whatever it handed back; what lay there lies there. -/
def CameBack (w : World) (e : Ending) (w' : World) : Prop := (∃ v, e = .returned v) ∧ Below w.heap.size w w'

theorem read_nil (w : World) : Calls Try.prog 18 #[.pointer none] w fun e w' => e = .returned (.agg #[.int .i64 0, .int .i64 0, .int .i64 0, .int .i64 0]) ∧ Below w.heap.size w w' := by
  go_enter Try.func18, Try.ntmps18
  go_wp2_with fail
  refine bodyPost_ret (v := .agg #[.int .i64 0, .int .i64 0, .int .i64 0, .int .i64 0]) (by simp [results, Try.results18, go_sem]) rfl ⟨rfl, ?_⟩
  exact ((Below.refl _ _).alloc (Nat.le_refl _) _).alloc (by simp) _
theorem take_nil (w : World) : Calls Try.prog 17 #[.pointer none] w fun e w' => e = .returned (.agg #[.int .i64 0, .int .i64 0, .int .i64 0, .int .i64 0]) ∧ Below w.heap.size w w' := by
  go_enter Try.func17, Try.ntmps17
  go_wp2_with fail
  refine bodyPost_ret (v := .agg #[.int .i64 0, .int .i64 0, .int .i64 0, .int .i64 0]) (by simp [results, Try.results17, go_sem]) rfl ⟨rfl, ?_⟩
  exact ((Below.refl _ _).alloc (Nat.le_refl _) _).alloc (by simp) _

theorem tbl_nil (w : World) : Calls Try.prog 45 #[.pointer none] w fun e w' => e = .returned (.tuple #[]) ∧ w = w' := by
  go_enter Try.func45, Try.ntmps45
  go_wp2_with (go_at_call 72; refine (count_nil _ _ _).mono ?_; rintro e w' ⟨rfl, rfl⟩)
  go_end0
  exact ⟨rfl, rfl⟩
theorem turn_nil (w : World) : Calls Try.prog 49 #[.pointer none] w fun e w' => e = .returned (.tuple #[]) ∧ w = w' := by
  go_enter Try.func49, Try.ntmps49
  go_wp2_with (go_at_call 72; refine (count_nil _ _ _).mono ?_; rintro e w' ⟨rfl, rfl⟩)
  go_end0
  exact ⟨rfl, rfl⟩
theorem visit_nil (n : Int) (w : World) : Calls Try.prog 46 #[.pointer none, .int .i64 n] w fun e w' => e = .returned (.tuple #[]) ∧ w = w' := by
  go_enter Try.func46, Try.ntmps46
  go_wp2_with (go_at_call 72; refine (count_nil _ _ _).mono ?_; rintro e w' ⟨rfl, rfl⟩)
  go_end0
  exact ⟨rfl, rfl⟩
theorem charge_nil (n : Int) (w : World) : Calls Try.prog 48 #[.pointer none, .int .i64 n] w fun e w' => e = .returned (.tuple #[]) ∧ w = w' := by
  go_enter Try.func48, Try.ntmps48
  go_wp2_with (go_at_call 72; refine (count_nil _ _ _).mono ?_; rintro e w' ⟨rfl, rfl⟩)
  go_end0
  exact ⟨rfl, rfl⟩


theorem bodyPost_some {P : Program} {fn : Func} {R : Ending → World → Prop} {a : Act} {w : World} {r : Result Value}
    (hr : (results fn a.tmps).run P w = r) (hd : a.defers = []) (hv : ∃ v, r = .ok v w) (hR : ∀ v, R (.returned v) w) : bodyPost P fn R .ret a w := by
  obtain ⟨v, rfl⟩ := hv
  exact bodyPost_ret hr hd (hR v)

theorem has_below {W w1 : World} {b : Nat} {o : Obj} (k : Below W.heap.size W w1) (h : W.heap[b]? = some o) : w1.heap[b]? = some o := (k.block b (lt_of_block h)).trans h

set_option maxHeartbeats 2000000 in
theorem does_nil (k n : Int) (w : World) :
    Calls Try.prog 16 #[.pointer none, .agg #[.int .i64 0, .int .i64 0, .int .i64 0, .int .i64 0], .agg #[.int .i64 k, .int .i64 n]] w (CameBack w) := by
  have B0 := Lib.hid (fun (A B C : Obj) => (((Below.refl w.heap.size w).alloc (Nat.le_refl _) A).alloc (by simp) B).alloc (by simp <;> omega) C)
  have H0 := Lib.hid (fun (A B C : Obj) => has_alloc (has_alloc (has_new w A) B) C)
  have H1 := Lib.hid (fun (A B C : Obj) => has_alloc (has_new' (w.alloc A) B (b := w.heap.size + 1) (by simp)) C)
  have H2 := Lib.hid (fun (A B C : Obj) => has_new' ((w.alloc A).alloc B) C (b := w.heap.size + 1 + 1) (by simp))
  go_enter Try.func16, Try.ntmps16
  go_wp2_with (first | (go_at_call 45; refine (tbl_nil _).mono ?_; rintro e w' ⟨rfl, rfl⟩) | (go_at_call 49; refine (turn_nil _).mono ?_; rintro e w' ⟨rfl, rfl⟩) | (go_at_call 46; refine (visit_nil _ _).mono ?_; rintro e w' ⟨rfl, rfl⟩) | (go_at_call 48; refine (charge_nil _ _).mono ?_; rintro e w' ⟨rfl, rfl⟩) | (go_at_call 47; refine (counts_any _ _).mono ?_; rintro e w' ⟨rfl, rfl⟩))
  all_goals (try (go_region_with (first | (go_at_call 18; refine (read_nil _).mono ?_; rintro e w1 ⟨rfl, k1⟩; have rc := cell_of_has (has_below k1 (has_drew (H0.out _ _ _))); have rb := cell_of_has (has_below k1 (has_drew (H1.out _ _ _))); have hr := has_below k1 (has_drew (H2.out _ _ _)); have rr := cell_of_has hr; have fr := free_of_has hr; have K1 := Lib.hid ((B0.out _ _ _).drew.trans (k1.mono (B0.out _ _ _).size)); clear k1 hr) | (go_at_call 17; refine (take_nil _).mono ?_; rintro e w1 ⟨rfl, k1⟩; have rc := cell_of_has (has_below k1 (has_drew (H0.out _ _ _))); have rb := cell_of_has (has_below k1 (has_drew (H1.out _ _ _))); have hr := has_below k1 (has_drew (H2.out _ _ _)); have rr := cell_of_has hr; have fr := free_of_has hr; have K1 := Lib.hid ((B0.out _ _ _).drew.trans (k1.mono (B0.out _ _ _).size)); clear k1 hr)); all_goals (go_wp2_with fail)))
  all_goals
    refine bodyPost_some (by simp [results, Try.results16, go_sem, *]; rfl) rfl ⟨_, rfl⟩ (fun v => ⟨⟨v, rfl⟩, ?_⟩)
  all_goals
    first
      | exact B0.out _ _ _
      | (have hs : w.heap.size ≤ w.heap.size + 1 + 1 := by omega
         exact (((K1.out.setCell hs _).setCell hs _).setCell hs _).setCell hs _)

theorem meterNothing_walk (a : Option Addr) (len cap : Nat) (F : Nat → Int) (w : World) (hr : IntRow .i64 2 w a len F) :
    Calls Try.prog 5 #[.slice a len cap] w fun e w' => e = .returned (.bool true) ∧ Below w.heap.size w w' := by
  by_cases hl : 3000 < len
  · have h1 : (3000 : Int) < (len : Int) := by omega
    clear hr hl
    go_enter Try.func5, Try.ntmps5
    go_wp2_with (go_at_call 15; refine (awake4 _).mono ?_; rintro e w' ⟨rfl, hb⟩)
    go_ret
    exact ⟨rfl, hb⟩
  · have h1 : (len : Int) ≤ 3000 := by omega
    have hd : decide ((3000 : Int) < (len : Int)) = false := by simp; omega
    have HR := Lib.hid hr
    clear hr hl
    go_enter Try.func5, Try.ntmps5
    go_wp2_with fail
    go_loopw [4] (fun i wr => ∃ k : Nat, k ≤ len ∧ i = .int .i64 k ∧ Below w.heap.size w wr) (fun i _ => len - (intOf i).toNat)
    case atStart => exact ⟨0, by omega, rfl, Below.refl _ _⟩
    case round =>
      obtain ⟨k, hk, rfl, hb⟩ := hrel
      have hk0 : (0 : Int) ≤ (k : Int) := by omega
      by_cases hlt : k < len
      · obtain ⟨b, off, rfl, g0, g1, hbl⟩ := row_at HR.out hb hlt
        have hlt' : (k : Int) < (len : Int) := by omega
        have HB := Lib.hid hb
        clear hb HR
        go_wp2_with (go_at_call 16; refine (does_nil _ _ _).mono ?_; rintro e w1 ⟨⟨v, rfl⟩, k1⟩)
        go_roundw
        case rel => exact ⟨k + 1, by omega, by go_num, HB.out.trans (k1.mono HB.out.size)⟩
        case measure => simp [intOf]; omega
      · have hge : (len : Int) ≤ (k : Int) := by omega
        have HB := Lib.hid hb
        clear hb HR
        go_wp2_with (first | (go_at_call 18; refine (read_nil _).mono ?_; rintro e w1 ⟨rfl, k1⟩; have K1 := Lib.hid k1; clear k1) | (go_at_call 17; refine (take_nil _).mono ?_; rintro e w2 ⟨rfl, k2⟩; have K2 := Lib.hid k2; clear k2) | (go_at_call 15; refine (awake4 _).mono ?_; rintro e w3 ⟨rfl, k3⟩))
        go_ret
        have b1 := HB.out.trans (K1.out.mono HB.out.size)
        have b2 := b1.trans (K2.out.mono b1.size)
        exact ⟨rfl, b2.trans (k3.mono b2.size)⟩
end Go.Proofs.Ytlpccmokjjldlaa
