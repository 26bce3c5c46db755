/- The contracts of the meter's functions (chapter 4). -/
import Derived.Test.YtlpccmokjjldlaaProg
import Derived.Test.YtlpccmokjjldlaaMem
namespace Go.Proofs.Ytlpccmokjjldlaa
open Go.RowKit

/-- sync/atomic.SwapT: what the cell held is handed back. -/
theorem run_call_swap {P : Program} {f : FuncId} {fn : Func} (hf : P.funcs[f]? = some fn) (hname : (fn.name == "runtime.NumGoroutine") = false) (hb : fn.body.isNone = true) (hn : Extern.findNext fn = none) (k : IntKind)
    (he : Extern.find fn = some (Extern.Atomic.swapT (.int k))) {a : Addr} {x y : Int} {w : World} (hc : w.cell? a = some (.int k x)) (hz : w.frozen? a = false) :
    (callFunc f #[.pointer (some a), .int k y]).run P w = .ok (.value (.int k x)) (w.setCell a (.int k y)) := by
  rw [run_callFunc_extern hf hname hb hn he]
  change (Sem.run P (do
    let a' ← asAddr (.pointer (some a))
    let old ← Extern.Atomic.read (.int k) a'
    store a' (.int k y) .atomic
    pure old) w).andThen _ = _
  simp [Extern.Atomic.read, asAddr, hc, hz, run_store P w a (.int k y) .atomic rfl, Result.andThen]

/-- What a meter has counted. -/
structure C4 where
  a : Int
  b : Int
  c : Int
  d : Int
/-- A meter in memory. -/
def mtr (c : C4) : Obj := .cells #[.int .i64 c.a, .int .i64 c.b, .int .i64 c.c, .int .i64 c.d] 32 (0, 0)

theorem add_i64 (x y : Int) (w : World) : (Op.intArith .add .i64 x y).run Try.prog w = .ok (.int .i64 (wrap64 (x + y))) w := by
  rw [← IntWalk.i64_left]; rfl

theorem load_any (b i : Nat) (x : Int) (w : World) (hc : w.cell? ⟨b, i, none⟩ = some (.int .i64 x)) :
    Calls Try.prog 54 #[.pointer (some ⟨b, i, none⟩)] w fun e w' => e = .returned (.int .i64 x) ∧ w = w' := by
  have hl := run_call_load (P := Try.prog) Try.func74 (by kernel_rfl) (by kernel_rfl) (by kernel_rfl) .i64 (by kernel_rfl) hc
  go_enter Try.func54, Try.ntmps54
  go_wp2
  go_ret
  exact ⟨rfl, rfl⟩

theorem swap_any (b i : Nat) (x y : Int) (w : World) (hc : w.cell? ⟨b, i, none⟩ = some (.int .i64 x)) (hf : w.frozen? ⟨b, i, none⟩ = false) :
    Calls Try.prog 52 #[.pointer (some ⟨b, i, none⟩), .int .i64 y] w fun e w' => e = .returned (.int .i64 x) ∧ w.setCell ⟨b, i, none⟩ (.int .i64 y) = w' := by
  have hl := run_call_swap (P := Try.prog) Try.func73 (by kernel_rfl) (by kernel_rfl) (by kernel_rfl) .i64 (by kernel_rfl) (y := y) hc hf
  go_enter Try.func52, Try.ntmps52
  go_wp2
  go_ret
  exact ⟨rfl, rfl⟩

theorem add_any (b i : Nat) (x y : Int) (w : World) (hc : w.cell? ⟨b, i, none⟩ = some (.int .i64 x)) (hf : w.frozen? ⟨b, i, none⟩ = false) :
    Calls Try.prog 75 #[.pointer (some ⟨b, i, none⟩), .int .i64 y] w fun e w' => e = .returned (.int .i64 (wrap64 (x + y))) ∧ w.setCell ⟨b, i, none⟩ (.int .i64 (wrap64 (x + y))) = w' := by
  have hl := run_call_add (P := Try.prog) Try.func76 (by kernel_rfl) (by kernel_rfl) (by kernel_rfl) .i64 (by kernel_rfl) (y := y) hc hf (add_i64 _ _ _)
  go_enter Try.func75, Try.ntmps75
  go_wp2
  go_ret
  exact ⟨rfl, rfl⟩

/-- The closure of Read. -/
theorem readf_any (pb b : Nat) (i : Nat) (hi : i < 4) (k : Int) (hk : k = (i : Int)) (x : Int) (w : World) (hp : w.cell? ⟨pb, 0, none⟩ = some (.pointer (some ⟨b, 0, none⟩))) (hc : w.cell? ⟨b, i, none⟩ = some (.int .i64 x)) :
    Calls Try.prog 53 #[.int .i64 k, .pointer (some ⟨pb, 0, none⟩)] w fun e w' => e = .returned (.int .i64 x) ∧ w = w' := by
  subst hk
  have h1 : (0 : Int) ≤ (i : Int) := by omega
  have h2 : (i : Int) < 4 := by omega
  go_enter Try.func53, Try.ntmps53
  go_wp2_with (go_at_call 54; refine (load_any _ _ _ _ hc).mono ?_; rintro e w' ⟨rfl, rfl⟩)
  go_ret
  exact ⟨rfl, rfl⟩

/-- The closure of Take. -/
theorem takef_any (pb b : Nat) (i : Nat) (hi : i < 4) (k : Int) (hk : k = (i : Int)) (x : Int) (w : World) (cs : Array Value) (t : TypeId) (h : w.heap[b]? = some (.cells cs t (0, 0))) (hx : cs[i]? = some (.int .i64 x))
    (hp : w.cell? ⟨pb, 0, none⟩ = some (.pointer (some ⟨b, 0, none⟩))) :
    Calls Try.prog 51 #[.int .i64 k, .pointer (some ⟨pb, 0, none⟩)] w fun e w' => e = .returned (.int .i64 x) ∧ Keeps [b] w w' ∧ w'.heap[b]? = some (.cells (cs.setIfInBounds i (.int .i64 0)) t (0, 0)) := by
  subst hk
  have h1 : (0 : Int) ≤ (i : Int) := by omega
  have h2 : (i : Int) < 4 := by omega
  have hc := cell_has h hx
  have hf := free_of_has h i
  have H := Lib.hid h
  clear h hx
  go_enter Try.func51, Try.ntmps51
  go_wp2_with (go_at_call 52; refine (swap_any _ _ _ _ _ hc hf).mono ?_; rintro e w' ⟨rfl, rfl⟩)
  go_ret
  exact ⟨rfl, (Keeps.refl _ _).setCell (.inr (by simp)) _, has_setCell H.out _ _⟩

theorem told_read (pb b : Nat) (c : C4) (w : World) (h : w.heap[b]? = some (mtr c)) (hp : w.cell? ⟨pb, 0, none⟩ = some (.pointer (some ⟨b, 0, none⟩))) :
    Calls Try.prog 50 #[.func (.func 53) #[] #[.pointer (some ⟨pb, 0, none⟩)]] w fun e w' => e = .returned (.agg #[.int .i64 c.a, .int .i64 c.b, .int .i64 c.c, .int .i64 c.d]) ∧ Below w.heap.size w w' := by
  obtain ⟨c0, c1, c2, c3⟩ := c
  have hq := fun o => cell_alloc hp o
  have hq0 := fun o => cell_alloc (v := .int .i64 c0) (cell_has h (i := 0) rfl) o
  have hq1 := fun o => cell_alloc (v := .int .i64 c1) (cell_has h (i := 1) rfl) o
  have hq2 := fun o => cell_alloc (v := .int .i64 c2) (cell_has h (i := 2) rfl) o
  have hq3 := fun o => cell_alloc (v := .int .i64 c3) (cell_has h (i := 3) rfl) o
  clear h hp
  have hq' := Lib.hid hq; have hq0' := Lib.hid hq0; have hq1' := Lib.hid hq1; have hq2' := Lib.hid hq2; have hq3' := Lib.hid hq3
  clear hq hq0 hq1 hq2 hq3
  go_enter Try.func50, Try.ntmps50
  go_wp2_with fail
  refine (readf_any pb b 0 (by omega) 0 rfl _ _ (hq'.out _) (hq0'.out _)).mono ?_
  rintro e w' ⟨rfl, rfl⟩
  go_wp2_with fail
  refine (readf_any pb b 1 (by omega) 1 rfl _ _ (hq'.out _) (hq1'.out _)).mono ?_
  rintro e w' ⟨rfl, rfl⟩
  go_wp2_with fail
  refine (readf_any pb b 2 (by omega) 2 rfl _ _ (hq'.out _) (hq2'.out _)).mono ?_
  rintro e w' ⟨rfl, rfl⟩
  go_wp2_with fail
  refine (readf_any pb b 3 (by omega) 3 rfl _ _ (hq'.out _) (hq3'.out _)).mono ?_
  rintro e w' ⟨rfl, rfl⟩
  go_wp2_with fail
  exact bodyPost_ret (v := .agg #[.int .i64 c0, .int .i64 c1, .int .i64 c2, .int .i64 c3]) (by simp [results, Try.results50, go_sem]) rfl ⟨rfl, (Below.refl _ _).alloc (Nat.le_refl _) _⟩

theorem told_take (pb b : Nat) (c : C4) (w : World) (h : w.heap[b]? = some (mtr c)) (hp : w.cell? ⟨pb, 0, none⟩ = some (.pointer (some ⟨b, 0, none⟩))) (hpb : pb ≠ b) :
    Calls Try.prog 50 #[.func (.func 51) #[] #[.pointer (some ⟨pb, 0, none⟩)]] w fun e w' => e = .returned (.agg #[.int .i64 c.a, .int .i64 c.b, .int .i64 c.c, .int .i64 c.d]) ∧ Keeps [b] w w' ∧ w'.heap[b]? = some (mtr ⟨0, 0, 0, 0⟩) := by
  obtain ⟨c0, c1, c2, c3⟩ := c
  have hlt := lt_of_block h
  have H := Lib.hid (fun o => has_alloc h o)
  have Hp := Lib.hid (fun o => cell_alloc hp o)
  have hn : ∀ (a b' : World), Keeps [b] a b' → ∀ v, a.cell? ⟨pb, 0, none⟩ = some v → b'.cell? ⟨pb, 0, none⟩ = some v := fun a b' k v hv => k.cell hv (by simpa using hpb)
  have Hn := Lib.hid hn
  have HR := Lib.hid (fun (k : World) (o : Obj) (hk : Keeps [b] (w.alloc o) k) => hk.has (has_new w o) (by simp; omega))
  have HL := Lib.hid hlt
  clear h hp hpb hn hlt
  go_enter Try.func50, Try.ntmps50
  go_wp2_with fail
  refine (takef_any pb b 0 (by omega) 0 rfl c0 _ _ _ (H.out _) rfl (Hp.out _)).mono ?_
  rintro e w1 ⟨rfl, k1, h1⟩
  have p1 := Hn.out _ _ k1 _ (Hp.out _)
  go_wp2_with fail
  refine (takef_any pb b 1 (by omega) 1 rfl c1 _ _ _ h1 rfl p1).mono ?_
  clear h1
  rintro e w2 ⟨rfl, k2, h2⟩
  have p2 := Hn.out _ _ k2 _ p1
  have k2' := k1.trans k2
  clear k1 k2 p1
  go_wp2_with fail
  refine (takef_any pb b 2 (by omega) 2 rfl c2 _ _ _ h2 rfl p2).mono ?_
  clear h2
  rintro e w3 ⟨rfl, k3, h3⟩
  have p3 := Hn.out _ _ k3 _ p2
  have k3' := k2'.trans k3
  clear k2' k3 p2
  go_wp2_with fail
  refine (takef_any pb b 3 (by omega) 3 rfl c3 _ _ _ h3 rfl p3).mono ?_
  clear h3
  rintro e w4 ⟨rfl, k4, h4⟩
  have k4' := k3'.trans k4
  clear k3' k4 p3
  have hR := HR.out _ _ k4'
  have r0 := cell_has hR (i := 0) rfl
  have r1 := cell_has hR (i := 1) rfl
  have r2 := cell_has hR (i := 2) rfl
  have r3 := cell_has hR (i := 3) rfl
  have f0 := free_of_has hR 0
  have f1 := free_of_has hR 1
  have f2 := free_of_has hR 2
  have f3 := free_of_has hR 3
  have K := Lib.hid k4'
  have H4 := Lib.hid h4
  have HR' := Lib.hid hR
  clear k4' h4 hR
  go_wp2_with fail
  refine bodyPost_ret (v := .agg #[.int .i64 c0, .int .i64 c1, .int .i64 c2, .int .i64 c3]) (by simp [results, Try.results50, go_sem, r0, r1, r2, r3]) rfl ⟨rfl, ?_, ?_⟩
  · have K1 := ((Keeps.refl [b] w).alloc _).trans K.out
    exact (((K1.setCell (.inl (Nat.le_refl _)) _).setCell (.inl (Nat.le_refl _)) _).setCell (.inl (Nat.le_refl _)) _).setCell (.inl (Nat.le_refl _)) _
  · have L := HL.out
    refine has_setCell_other (has_setCell_other (has_setCell_other (has_setCell_other H4.out (show b ≠ w.heap.size by omega) _) (show b ≠ w.heap.size by omega) _) (show b ≠ w.heap.size by omega) _) (show b ≠ w.heap.size by omega) _

/-- Read: what was counted; nothing that was there is turned. -/
theorem read_any (b : Nat) (c : C4) (w : World) (h : w.heap[b]? = some (mtr c)) :
    Calls Try.prog 18 #[.pointer (some ⟨b, 0, none⟩)] w fun e w' => e = .returned (.agg #[.int .i64 c.a, .int .i64 c.b, .int .i64 c.c, .int .i64 c.d]) ∧ Below w.heap.size w w' := by
  have H := Lib.hid h
  clear h
  go_enter Try.func18, Try.ntmps18
  go_wp2_with fail
  refine (told_read _ b c _ (has_alloc (has_alloc H.out _) _) (by simp)).mono ?_
  rintro e w1 ⟨rfl, k1⟩
  have hR := (k1.block (w.heap.size + 1) (by simp)).trans (has_new' (w.alloc _) _ (by simp))
  have rc := cell_of_has hR
  have rf := free_of_has hR
  have K := Lib.hid k1
  clear hR k1
  go_wp2_with fail
  refine bodyPost_ret (v := .agg #[.int .i64 c.a, .int .i64 c.b, .int .i64 c.c, .int .i64 c.d]) (by simp [results, Try.results18, go_sem, rc]) rfl ⟨rfl, ?_⟩
  have K1 := ((((Below.refl w.heap.size w).alloc (Nat.le_refl _) _).alloc (by simp) _).trans (K.out.mono (by simp; omega)))
  exact (((K1.setCell (by simp) _).setCell (by simp) _).setCell (by simp) _).setCell (by simp) _

/-- Take: what was counted; the meter begins anew. -/
theorem take_any (b : Nat) (c : C4) (w : World) (h : w.heap[b]? = some (mtr c)) :
    Calls Try.prog 17 #[.pointer (some ⟨b, 0, none⟩)] w fun e w' => e = .returned (.agg #[.int .i64 c.a, .int .i64 c.b, .int .i64 c.c, .int .i64 c.d]) ∧ Keeps [b] w w' ∧ w'.heap[b]? = some (mtr ⟨0, 0, 0, 0⟩) := by
  have hlt := Lib.hid (lt_of_block h)
  have H := Lib.hid h
  clear h
  go_enter Try.func17, Try.ntmps17
  go_wp2_with fail
  refine (told_take _ b c _ (has_alloc (has_alloc H.out _) _) (by simp) (by have := hlt.out; omega)).mono ?_
  rintro e w1 ⟨rfl, k1, h1⟩
  have hR := k1.has (has_new' (w.alloc _) _ (by simp)) (b := w.heap.size + 1) (by have := hlt.out; simp; omega)
  have rc := cell_of_has hR
  have rf := free_of_has hR
  have K := Lib.hid k1
  have H1 := Lib.hid h1
  clear hR k1 h1
  go_wp2_with fail
  refine bodyPost_ret (v := .agg #[.int .i64 c.a, .int .i64 c.b, .int .i64 c.c, .int .i64 c.d]) (by simp [results, Try.results17, go_sem, rc]) rfl ⟨rfl, ?_, ?_⟩
  · have K1 := (((Keeps.refl [b] w).alloc _).alloc _).trans K.out
    have hs : w.heap.size ≤ w.heap.size + 1 := by omega
    exact (((K1.setCell (.inl hs) _).setCell (.inl hs) _).setCell (.inl hs) _).setCell (.inl hs) _
  · have hs : b ≠ w.heap.size + 1 := by have := hlt.out; omega
    exact has_setCell_other (has_setCell_other (has_setCell_other (has_setCell_other H1.out hs _) hs _) hs _) hs _
end Go.Proofs.Ytlpccmokjjldlaa
