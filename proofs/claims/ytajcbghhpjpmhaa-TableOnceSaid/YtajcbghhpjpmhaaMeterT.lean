/- The meter, as the tables use it (chapter 4). -/
import Derived.Test.YtajcbghhpjpmhaaProg
import Derived.Test.YtajcbghhpjpmhaaMem
namespace Go.Proofs.Ytajcbghhpjpmhaa
open Go.RowKit
set_option linter.unusedVariables false

/-- What a meter has counted. -/
structure C4 where
  a : Int
  b : Int
  c : Int
  d : Int
/-- A meter in memory. -/
def mtr (c : C4) : Obj := .cells #[.int .i64 c.a, .int .i64 c.b, .int .i64 c.c, .int .i64 c.d] 71 (0, 0)
theorem add_i64 (x y : Int) (w : World) : (Op.intArith .add .i64 x y).run Try.prog w = .ok (.int .i64 (wrap64 (x + y))) w := by
  rw [← IntWalk.i64_left]; rfl
theorem load_any (b i : Nat) (x : Int) (w : World) (hc : w.cell? ⟨b, i, none⟩ = some (.int .i64 x)) :
    Calls Try.prog 68 #[.pointer (some ⟨b, i, none⟩)] w fun e w' => e = .returned (.int .i64 x) ∧ w = w' := by
  have hl := run_call_load (P := Try.prog) Try.func91 (by kernel_rfl) (by kernel_rfl) (by kernel_rfl) .i64 (by kernel_rfl) hc
  go_enter Try.func68, Try.ntmps68
  go_wp2
  go_ret
  exact ⟨rfl, rfl⟩
theorem add_any (b i : Nat) (x y : Int) (w : World) (hc : w.cell? ⟨b, i, none⟩ = some (.int .i64 x)) (hf : w.frozen? ⟨b, i, none⟩ = false) :
    Calls Try.prog 95 #[.pointer (some ⟨b, i, none⟩), .int .i64 y] w fun e w' => e = .returned (.int .i64 (wrap64 (x + y))) ∧ w.setCell ⟨b, i, none⟩ (.int .i64 (wrap64 (x + y))) = w' := by
  have hl := run_call_add (P := Try.prog) Try.func96 (by kernel_rfl) (by kernel_rfl) (by kernel_rfl) .i64 (by kernel_rfl) (y := y) hc hf (add_i64 _ _ _)
  go_enter Try.func95, Try.ntmps95
  go_wp2
  go_ret
  exact ⟨rfl, rfl⟩
/-- The closure of Read. -/
theorem readf_any (pb b : Nat) (i : Nat) (hi : i < 4) (k : Int) (hk : k = (i : Int)) (x : Int) (w : World) (hp : w.cell? ⟨pb, 0, none⟩ = some (.pointer (some ⟨b, 0, none⟩))) (hc : w.cell? ⟨b, i, none⟩ = some (.int .i64 x)) :
    Calls Try.prog 67 #[.int .i64 k, .pointer (some ⟨pb, 0, none⟩)] w fun e w' => e = .returned (.int .i64 x) ∧ w = w' := by
  subst hk
  have h1 : (0 : Int) ≤ (i : Int) := by omega
  have h2 : (i : Int) < 4 := by omega
  go_enter Try.func67, Try.ntmps67
  go_wp2_with (go_at_call 68; refine (load_any _ _ _ _ hc).mono ?_; rintro e w' ⟨rfl, rfl⟩)
  go_ret
  exact ⟨rfl, rfl⟩
theorem told_read (pb b : Nat) (c : C4) (w : World) (h : w.heap[b]? = some (mtr c)) (hp : w.cell? ⟨pb, 0, none⟩ = some (.pointer (some ⟨b, 0, none⟩))) :
    Calls Try.prog 66 #[.func (.func 67) #[] #[.pointer (some ⟨pb, 0, none⟩)]] w fun e w' => e = .returned (.agg #[.int .i64 c.a, .int .i64 c.b, .int .i64 c.c, .int .i64 c.d]) ∧ Below w.heap.size w w' := by
  obtain ⟨c0, c1, c2, c3⟩ := c
  have hq := fun o => cell_alloc hp o
  have hq0 := fun o => cell_alloc (v := .int .i64 c0) (cell_has h (i := 0) rfl) o
  have hq1 := fun o => cell_alloc (v := .int .i64 c1) (cell_has h (i := 1) rfl) o
  have hq2 := fun o => cell_alloc (v := .int .i64 c2) (cell_has h (i := 2) rfl) o
  have hq3 := fun o => cell_alloc (v := .int .i64 c3) (cell_has h (i := 3) rfl) o
  clear h hp
  have hq' := Lib.hid hq; have hq0' := Lib.hid hq0; have hq1' := Lib.hid hq1; have hq2' := Lib.hid hq2; have hq3' := Lib.hid hq3
  clear hq hq0 hq1 hq2 hq3
  go_enter Try.func66, Try.ntmps66
  go_wp2_with fail
  refine (readf_any pb b 0 (by omega) 0 rfl _ _ (hq'.out _) (hq0'.out _)).mono ?_
  rintro e w' ⟨rfl, rfl⟩
  go_wp2_with fail
  refine (readf_any pb b 1 (by omega) 1 rfl _ _ (hq'.out _) (hq1'.out _)).mono ?_
  rintro e w' ⟨rfl, rfl⟩
  go_wp2_with fail
  refine (readf_any pb b 2 (by omega) 2 rfl _ _ (hq'.out _) (hq2'.out _)).mono ?_
  rintro e w' ⟨rfl, rfl⟩
  go_wp2_with fail
  refine (readf_any pb b 3 (by omega) 3 rfl _ _ (hq'.out _) (hq3'.out _)).mono ?_
  rintro e w' ⟨rfl, rfl⟩
  go_wp2_with fail
  exact bodyPost_ret (v := .agg #[.int .i64 c0, .int .i64 c1, .int .i64 c2, .int .i64 c3]) (by simp [results, Try.results66, go_sem]) rfl ⟨rfl, (Below.refl _ _).alloc (Nat.le_refl _) _⟩
/-- Read: what was counted; nothing that was there is turned. -/
theorem read_any (b : Nat) (c : C4) (w : World) (h : w.heap[b]? = some (mtr c)) :
    Calls Try.prog 30 #[.pointer (some ⟨b, 0, none⟩)] w fun e w' => e = .returned (.agg #[.int .i64 c.a, .int .i64 c.b, .int .i64 c.c, .int .i64 c.d]) ∧ Below w.heap.size w w' := by
  have H := Lib.hid h
  clear h
  go_enter Try.func30, Try.ntmps30
  go_wp2_with fail
  refine (told_read _ b c _ (has_alloc (has_alloc H.out _) _) (by simp)).mono ?_
  rintro e w1 ⟨rfl, k1⟩
  have hR := (k1.block (w.heap.size + 1) (by simp)).trans (has_new' (w.alloc _) _ (by simp))
  have rc := cell_of_has hR
  have rf := free_of_has hR
  have K := Lib.hid k1
  clear hR k1
  go_wp2_with fail
  refine bodyPost_ret (v := .agg #[.int .i64 c.a, .int .i64 c.b, .int .i64 c.c, .int .i64 c.d]) (by simp [results, Try.results30, go_sem, rc]) rfl ⟨rfl, ?_⟩
  have K1 := ((((Below.refl w.heap.size w).alloc (Nat.le_refl _) _).alloc (by simp) _).trans (K.out.mono (by simp; omega)))
  exact (((K1.setCell (by simp) _).setCell (by simp) _).setCell (by simp) _).setCell (by simp) _
theorem count_yes (b i : Nat) (hi : i < 4) (k : Int) (hk : k = (i : Int)) (x n : Int) (w : World) (cs : Array Value) (t : TypeId) (h : w.heap[b]? = some (.cells cs t (0, 0))) (hx : cs[i]? = some (.int .i64 x)) (hn : 1 ≤ n) (hm : n ≤ 2147483647) :
    Calls Try.prog 86 #[.pointer (some ⟨b, 0, none⟩), .int .i64 k, .int .i64 n] w fun e w' => e = .returned (.tuple #[]) ∧ Keeps [b] w w' ∧ w'.heap[b]? = some (.cells (cs.setIfInBounds i (.int .i64 (wrap64 (x + n)))) t (0, 0)) := by
  subst hk
  have h1 : (0 : Int) ≤ (i : Int) := by omega
  have h2 : (i : Int) < 4 := by omega
  have hc := cell_has h hx
  have hf := free_of_has h i
  have H := Lib.hid h
  clear h hx
  go_enter Try.func86, Try.ntmps86
  go_wp2_with (go_at_call 95; refine (add_any _ _ _ _ _ hc hf).mono ?_; rintro e w' ⟨rfl, rfl⟩)
  go_end0
  exact ⟨rfl, (Keeps.refl _ _).setCell (.inr (by simp)) _, has_setCell H.out _ _⟩
theorem count_nil (k n : Int) (w : World) :
    Calls Try.prog 86 #[.pointer none, .int .i64 k, .int .i64 n] w fun e w' => e = .returned (.tuple #[]) ∧ w = w' := by
  go_enter Try.func86, Try.ntmps86
  go_wp2_with fail
  go_end0
  exact ⟨rfl, rfl⟩

/-- A meter, or none. -/
def mV (m : Option Nat) : Value := .pointer (m.map fun b => ⟨b, 0, none⟩)
def mS : Option Nat → List Nat
  | none => []
  | some b => [b]
def MtrAt (m : Option Nat) (c : C4) (w : World) : Prop := ∀ b, m = some b → w.heap[b]? = some (mtr c)
theorem MtrAt.keeps {m : Option Nat} {c : C4} {w w' : World} {S : List Nat} (h : MtrAt m c w) (k : Keeps S w w') (hS : ∀ b, m = some b → b ∉ S) : MtrAt m c w' := fun b hb => k.has (h b hb) (hS b hb)
theorem MtrAt.nil (c : C4) (w : World) : MtrAt none c w := fun b hb => by cases hb
def C4.tab (c : C4) : C4 := { c with a := wrap64 (c.a + 1) }
def C4.vis (c : C4) : C4 := { c with b := wrap64 (c.b + 1) }
/-- Behind a count. -/
def Cntd (m : Option Nat) (c : C4) (w : World) (e : Ending) (w' : World) : Prop := e = .returned (.tuple #[]) ∧ Keeps (mS m) w w' ∧ MtrAt m c w'
theorem mtable_any (m : Option Nat) (c : C4) (w : World) (h : MtrAt m c w) : Calls Try.prog 84 #[mV m] w (Cntd m c.tab w) := by
  cases m with
  | none =>
    go_enter Try.func84, Try.ntmps84
    simp only [mV, Option.map_none]
    go_wp2_with fail
    refine (count_nil _ _ _).mono ?_
    rintro e w1 ⟨rfl, rfl⟩
    go_wp2_with fail
    go_end0
    exact ⟨rfl, Keeps.refl _ _, MtrAt.nil _ _⟩
  | some b =>
    have H := Lib.hid (h b rfl)
    clear h
    go_enter Try.func84, Try.ntmps84
    simp only [mV, Option.map_some]
    go_wp2_with fail
    refine (count_yes b 0 (by omega) 0 rfl c.a 1 _ _ _ H.out rfl (by omega) (by omega)).mono ?_
    rintro e w1 ⟨rfl, k1, h1⟩
    have K := Lib.hid k1
    have H1 := Lib.hid h1
    clear k1 h1
    go_wp2_with fail
    go_end0
    exact ⟨rfl, K.out, fun b' hb => by cases hb; exact H1.out⟩
theorem mvisit_any (m : Option Nat) (c : C4) (w : World) (h : MtrAt m c w) : Calls Try.prog 51 #[mV m, .int .i64 1] w (Cntd m c.vis w) := by
  cases m with
  | none =>
    go_enter Try.func51, Try.ntmps51
    simp only [mV, Option.map_none]
    go_wp2_with fail
    refine (count_nil _ _ _).mono ?_
    rintro e w1 ⟨rfl, rfl⟩
    go_wp2_with fail
    go_end0
    exact ⟨rfl, Keeps.refl _ _, MtrAt.nil _ _⟩
  | some b =>
    have H := Lib.hid (h b rfl)
    clear h
    go_enter Try.func51, Try.ntmps51
    simp only [mV, Option.map_some]
    go_wp2_with fail
    refine (count_yes b 1 (by omega) 1 rfl c.b 1 _ _ _ H.out rfl (by omega) (by omega)).mono ?_
    rintro e w1 ⟨rfl, k1, h1⟩
    have K := Lib.hid k1
    have H1 := Lib.hid h1
    clear k1 h1
    go_wp2_with fail
    go_end0
    exact ⟨rfl, K.out, fun b' hb => by cases hb; exact H1.out⟩
end Go.Proofs.Ytajcbghhpjpmhaa
