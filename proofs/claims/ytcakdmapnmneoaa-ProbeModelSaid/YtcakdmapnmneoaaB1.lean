/- Small laws on memory that the proofs of this seat use: what a call keeps of the old blocks. No program in sight. How the arguments of a law read: slices of ints, slices of structs of ints, bytes. No program in sight. A range over a function: the law in the form that these proofs use. No program in sight. The meter, as the tables use it (chapter 4). Rows of values of the program's own, which grow. No program in sight. A region that draws its order, within a round of a range over a function: the plain laws serve there. No program in sight. A drawn region with several stores: loads are held till the first of them has come up. No program in sight. -/
import Derived.WalkKit
import Derived.OneCell
import Derived.ProofKit
import Derived.BigQuiet
import Derived.Deep.QuietTactic
import Derived.Deep.Draws
import Derived.Lib.Hide
import Derived.Deep.AppendLies
import Derived.Maps.AppendAt
import Derived.Deep.Slices
import Derived.Deep.Fields
import Derived.ChangeSame
import Derived.OpenShut
import Derived.ChangeOld
import Derived.RangeFuncNested
import Derived.RangeFuncBound
import Derived.RangeFuncCalls
import Derived.RangeFuncLeaves
import Derived.Shelf.Abstract
import Derived.Shelf.RegionOpen
import Derived.OwnWalkIn
import Derived.TacticsInMore
import Derived.LoopNIn
import Derived.LoopIn
import Derived.Test.YtcakdmapnmneoaaProg
import Derived.Deep.Onto
import Derived.Deep.RegionHeld3
import Derived.OrdersIn
import Derived.OrdersHeld
section
namespace Go.Proofs.Ytcakdmapnmneoaa
open Go.RowKit

/-- Blocks that were there, other than those of S, are as they were. -/
structure Keeps (S : List Nat) (w w' : World) : Prop where
  os : w'.os = w.os
  tape : w'.tape = w.tape
  output : w'.output = w.output
  size : w.heap.size ≤ w'.heap.size
  block : ∀ k, k < w.heap.size → k ∉ S → w'.heap[k]? = w.heap[k]?

theorem Keeps.refl (S : List Nat) (w : World) : Keeps S w w := ⟨rfl, rfl, rfl, Nat.le_refl _, fun _ _ _ => rfl⟩
theorem Keeps.trans {S : List Nat} {a b c : World} (h : Keeps S a b) (k : Keeps S b c) : Keeps S a c :=
  ⟨k.os.trans h.os, k.tape.trans h.tape, k.output.trans h.output, Nat.le_trans h.size k.size,
    fun i hi hs => (k.block i (Nat.lt_of_lt_of_le hi h.size) hs).trans (h.block i hi hs)⟩
theorem Keeps.mono {S T : List Nat} {w w' : World} (h : Keeps S w w') (hs : ∀ x, x ∈ S → x ∈ T) : Keeps T w w' :=
  ⟨h.os, h.tape, h.output, h.size, fun k hk ht => h.block k hk (fun e => ht (hs k e))⟩
theorem Keeps.drew {S : List Nat} {a w : World} (h : Keeps S a w) : Keeps S a w.drew := ⟨h.os, h.tape, h.output, h.size, h.block⟩
theorem Keeps.drewN {S : List Nat} {a w : World} (h : Keeps S a w) (n : Nat) : Keeps S a (w.drewN n) := ⟨h.os, h.tape, h.output, h.size, h.block⟩
theorem Keeps.alloc {S : List Nat} {a w : World} (h : Keeps S a w) (o : Obj) : Keeps S a (w.alloc o) :=
  h.trans ⟨rfl, rfl, rfl, by simp, fun k hk _ => Below.heap_alloc _ _ _ hk⟩
theorem Keeps.setCell {S : List Nat} {a w : World} (h : Keeps S a w) {p : Addr} (hp : a.heap.size ≤ p.block ∨ p.block ∈ S) (v : Value) : Keeps S a (w.setCell p v) :=
  ⟨h.os, h.tape, h.output, by simpa [World.setCell] using h.size, fun k hk hs => by
    rw [Below.heap_setCell _ _ _ _ (by rcases hp with h1 | h1; · omega
                                       · intro e; exact hs (e ▸ h1))]; exact h.block k hk hs⟩
theorem Keeps.undrew {S : List Nat} {a w : World} (h : Keeps S a.drew w) : Keeps S a w := ⟨h.os, h.tape, h.output, h.size, h.block⟩
/-- What a callee kept of the world it began in is kept of the older world, where what it may have turned is new or in S. -/
theorem Keeps.then {S T : List Nat} {a b c : World} (h : Keeps S a b) (k : Keeps T b c) (ht : ∀ x, x ∈ T → a.heap.size ≤ x ∨ x ∈ S) : Keeps S a c :=
  ⟨k.os.trans h.os, k.tape.trans h.tape, k.output.trans h.output, Nat.le_trans h.size k.size,
    fun i hi hs => (k.block i (Nat.lt_of_lt_of_le hi h.size) (fun e => by rcases ht i e with h1 | h1; · omega
                                                                          · exact hs h1)).trans (h.block i hi hs)⟩
theorem Keeps.below {S : List Nat} {w w' : World} (h : Keeps S w w') {B : Nat} (hB : B ≤ w.heap.size) (hs : ∀ x, x ∈ S → B ≤ x) : Below B w w' :=
  ⟨h.os, h.tape, h.output, h.size, fun k hk => h.block k (by omega) (fun e => by have := hs k e; omega)⟩
theorem Below.keeps {w w' : World} (h : Below w.heap.size w w') (S : List Nat) : Keeps S w w' :=
  ⟨h.os, h.tape, h.output, h.size, fun k hk _ => h.block k hk⟩
theorem Keeps.has {S : List Nat} {w w' : World} (h : Keeps S w w') {b : Nat} {o : Obj} (hb : w.heap[b]? = some o) (hs : b ∉ S) : w'.heap[b]? = some o :=
  (h.block b (lt_of_block hb) hs).trans hb
theorem Keeps.cell {S : List Nat} {w w' : World} (h : Keeps S w w') {p : Addr} {v : Value} (hb : w.cell? p = some v) (hs : p.block ∉ S) : w'.cell? p = some v :=
  (World.cell?_of_block (w := w) (h.block p.block (World.block_lt_of_cell? _ _ hb) hs)).trans hb

/-- Below block lo, other than the blocks of S, all is as it was. -/
structure KeptLo (lo : Nat) (S : List Nat) (w w' : World) : Prop where
  os : w'.os = w.os
  tape : w'.tape = w.tape
  output : w'.output = w.output
  size : w.heap.size ≤ w'.heap.size
  block : ∀ k, k < lo → k ∉ S → w'.heap[k]? = w.heap[k]?
theorem KeptLo.refl (lo : Nat) (S : List Nat) (w : World) : KeptLo lo S w w := ⟨rfl, rfl, rfl, Nat.le_refl _, fun _ _ _ => rfl⟩
theorem KeptLo.trans {lo : Nat} {S : List Nat} {a b c : World} (h : KeptLo lo S a b) (k : KeptLo lo S b c) : KeptLo lo S a c :=
  ⟨k.os.trans h.os, k.tape.trans h.tape, k.output.trans h.output, Nat.le_trans h.size k.size, fun i hi hs => (k.block i hi hs).trans (h.block i hi hs)⟩
theorem KeptLo.drew {lo : Nat} {S : List Nat} {a w : World} (h : KeptLo lo S a w) : KeptLo lo S a w.drew := ⟨h.os, h.tape, h.output, h.size, h.block⟩
theorem KeptLo.alloc {lo : Nat} {S : List Nat} {a w : World} (h : KeptLo lo S a w) (hl : lo ≤ w.heap.size) (o : Obj) : KeptLo lo S a (w.alloc o) :=
  h.trans ⟨rfl, rfl, rfl, by simp, fun k hk _ => Below.heap_alloc _ _ _ (by omega)⟩
theorem KeptLo.setCell {lo : Nat} {S : List Nat} {a w : World} (h : KeptLo lo S a w) {p : Addr} (hp : lo ≤ p.block ∨ p.block ∈ S) (v : Value) : KeptLo lo S a (w.setCell p v) :=
  h.trans ⟨rfl, rfl, rfl, by simp [World.setCell], fun k hk hs => by
    refine Below.heap_setCell _ _ _ _ ?_
    rcases hp with h1 | h1
    · omega
    · intro e; exact hs (e ▸ h1)⟩
theorem KeptLo.grown {lo : Nat} {S : List Nat} {a w w' : World} {row : Option Nat} (h : KeptLo lo S a w) (hl : lo ≤ w.heap.size) (hg : w.grownBy w' row) (hr : ∀ k, row = some k → lo ≤ k) : KeptLo lo S a w' :=
  h.trans ⟨hg.os, hg.tape, hg.output, hg.size, fun k hk _ => hg.block k (by omega) (fun e => by have := hr k e.symm; omega)⟩
theorem KeptLo.has {lo : Nat} {S : List Nat} {w w' : World} (h : KeptLo lo S w w') {b : Nat} {o : Obj} (hb : w.heap[b]? = some o) (hl : b < lo) (hs : b ∉ S) : w'.heap[b]? = some o := (h.block b hl hs).trans hb
theorem KeptLo.below {lo B : Nat} {S : List Nat} {w w' : World} (h : KeptLo lo S w w') (hB : B ≤ lo) (hs : ∀ x, x ∈ S → B ≤ x) : Below B w w' :=
  ⟨h.os, h.tape, h.output, h.size, fun k hk => h.block k (by omega) (fun e => by have := hs k e; omega)⟩
theorem Below.keptLo {B : Nat} {w w' : World} (h : Below B w w') {lo : Nat} (hl : lo ≤ B) (S : List Nat) : KeptLo lo S w w' := ⟨h.os, h.tape, h.output, h.size, fun k hk _ => h.block k (by omega)⟩

/-- The shape of an owned row's value. -/
theorem own_shape {w : World} {base : Nat} {e : TypeId} {size : Nat} {v : Value} {n : Nat} {xs : List Value} (h : w.ownsRow base e size v n xs) : ∃ a cap, v = .slice a n cap := by
  rcases h.2 with ⟨rfl, rfl⟩ | ⟨g, cap, cur, rfl, _⟩
  · exact ⟨_, _, rfl⟩
  · exact ⟨_, _, rfl⟩

/-- An append to an owned row keeps what lies below the row's base. -/
theorem append_kept {w w1 : World} {lo : Nat} {e : TypeId} {size : Nat} {v : Value} {n : Nat} {xs : List Value} (h : w.ownsRow lo e size v n xs) (hl : lo ≤ w.heap.size) {o : Obj} (hg : (w.alloc o).grownBy w1 v.ownBlock) : KeptLo lo [] w w1 :=
  ((KeptLo.refl lo [] w).alloc hl _).grown (by simp <;> omega) hg (fun k hk => ((h.alloc o).lt k hk).1)
theorem KeptLo.mono {lo lo' : Nat} {S T : List Nat} {w w' : World} (h : KeptLo lo S w w') (hl : lo' ≤ lo) (hs : ∀ x, x ∈ S → x ∈ T) : KeptLo lo' T w w' :=
  ⟨h.os, h.tape, h.output, h.size, fun k hk ht => h.block k (by omega) (fun e => ht (hs k e))⟩

theorem ownsRow_base {w : World} {lo lo' : Nat} {e : TypeId} {size : Nat} {v : Value} {n : Nat} {xs : List Value} (h : w.ownsRow lo e size v n xs) (hl : lo' ≤ lo) : w.ownsRow lo' e size v n xs := by
  obtain ⟨h1, h2⟩ := h
  rcases h2 with h2 | ⟨g, cap, cur, h3, h4, h5⟩
  · exact ⟨h1, .inl h2⟩
  · exact ⟨h1, .inr ⟨g, cap, cur, h3, by omega, h5⟩⟩
theorem quietC {P : Program} {f : FuncId} {args : Array Value} {w : World} {v : Value} (h : Calls P f args w fun e w' => e = .returned v ∧ w = w') : Calls P f args w fun e w' => e = .returned v ∧ w' = w :=
  h.mono fun _ _ ⟨he, hm⟩ => ⟨he, hm.symm⟩

theorem ex_hid {α : Type} (a : α) : ∃ m, Hid (m = a) := ⟨a, Lib.hid rfl⟩

/-- A world that is spelt out gets a name: what is to be known of it is S. -/
theorem wp_gen {P : Program} {c : Code} {Q : Exit → Act → World → Prop} {a : Act} {W : World} (S : World → Prop) (h : S W) (H : ∀ W, S W → Code.wp P c Q a W) : Code.wp P c Q a W := H W h

/-- Blocks known whole. -/
theorem has_alloc {w : World} {b : Nat} {o : Obj} (h : w.heap[b]? = some o) (o' : Obj) : (w.alloc o').heap[b]? = some o :=
  (Below.heap_alloc w o' b (lt_of_block h)).trans h
theorem has_new (w : World) (o : Obj) : (w.alloc o).heap[w.heap.size]? = some o := by
  show (w.heap.push o)[w.heap.size]? = _
  simp
theorem has_new' (w : World) (o : Obj) {b : Nat} (hb : b = w.heap.size) : (w.alloc o).heap[b]? = some o := by subst hb; exact has_new w o
theorem has_three {w w1 : World} {A B C : Obj} {b : Nat} (hb : b < w.heap.size) (k : Keeps [b] (((w.alloc A).alloc B).alloc C) w1) :
    w1.heap[w.heap.size]? = some A ∧ w1.heap[w.heap.size + 1]? = some B ∧ w1.heap[w.heap.size + 2]? = some C :=
  ⟨k.has (has_alloc (has_alloc (has_new w A) B) C) (by simp; omega), k.has (has_alloc (has_new' (w.alloc A) B (by simp)) C) (by simp; omega), k.has (has_new' ((w.alloc A).alloc B) C (by simp)) (by simp; omega)⟩
theorem has_setCell_other {w : World} {b : Nat} {o : Obj} (h : w.heap[b]? = some o) {p : Addr} (hp : b ≠ p.block) (v : Value) : (w.setCell p v).heap[b]? = some o :=
  (Below.heap_setCell w p v b hp).trans h
theorem has_setCell {w : World} {b : Nat} {c : Array Value} {t : TypeId} {f : Nat × Nat} (h : w.heap[b]? = some (.cells c t f)) (i : Nat) (v : Value) :
    (w.setCell ⟨b, i, none⟩ v).heap[b]? = some (.cells (c.setIfInBounds i v) t f) := by
  have hlt := lt_of_block h
  have h' : w.heap[b] = .cells c t f := by simpa [Array.getElem?_eq_getElem hlt] using h
  show (w.heap.modify b _)[b]? = _
  rw [Array.getElem?_eq_getElem (by simpa using hlt), Array.getElem_modify_self, h']
  rfl
theorem has_drew {w : World} {b : Nat} {o : Obj} (h : w.heap[b]? = some o) : w.drew.heap[b]? = some o := h
theorem has_drewN {w : World} {b : Nat} {o : Obj} (h : w.heap[b]? = some o) (n : Nat) : (w.drewN n).heap[b]? = some o := h
theorem cell_of_has {w : World} {b : Nat} {c : Array Value} {t : TypeId} {f : Nat × Nat} (h : w.heap[b]? = some (.cells c t f)) (i : Nat) : w.cell? ⟨b, i, none⟩ = c[i]? := by
  simp [World.cell?, h]
theorem cell_has {w : World} {b : Nat} {c : Array Value} {t : TypeId} {f : Nat × Nat} (h : w.heap[b]? = some (.cells c t f)) {i : Nat} {v : Value} (hi : c[i]? = some v) : w.cell? ⟨b, i, none⟩ = some v :=
  (cell_of_has h i).trans hi
theorem free_of_has {w : World} {b : Nat} {c : Array Value} {t : TypeId} (h : w.heap[b]? = some (.cells c t (0, 0))) (i : Nat) : w.frozen? ⟨b, i, none⟩ = false := by
  simp [World.frozen?, h]
theorem cell_alloc {w : World} {p : Addr} {v : Value} (h : w.cell? p = some v) (o : Obj) : (w.alloc o).cell? p = some v :=
  (World.cell?_alloc_lt _ _ _ (World.block_lt_of_cell? _ _ h)).trans h
theorem cell_setCell_other {w : World} {p q : Addr} {v : Value} (h : w.cell? p = some v) (hn : q ≠ p) (u : Value) : (w.setCell q u).cell? p = some v :=
  (World.cell?_setCell_other _ _ _ _ hn).trans h
theorem frozen_alloc {w : World} {p : Addr} {f : Bool} (h : w.frozen? p = f) (hp : p.block < w.heap.size) (o : Obj) : (w.alloc o).frozen? p = f := by
  rw [World.frozen?_alloc_old _ _ _ (by omega)]; exact h
end Go.Proofs.Ytcakdmapnmneoaa
end

section
namespace Go.Proofs.Ytcakdmapnmneoaa
open Go.ChangeShapes Go.WideShapes Go.ChangeAt Go.RowKit Go.Deep

/-- A slice that came in whose elements take 'sz' cells of one kind of integer: nil, or a row of cells that lay there before the call. F: the cell number j. -/
def IntRow (k : IntKind) (sz : Nat) (w : World) (a : Option Addr) (len : Nat) (F : Nat → Int) : Prop :=
  len = 0 ∨
  ∃ b off, a = some ⟨b, off, none⟩ ∧ b < w.heap.size ∧ (len : Int) ≤ 9223372036854775807 ∧ ∀ i, i < len * sz → w.cell? ⟨b, off + i, none⟩ = some (.int k (F i)) ∧ (Lit.int k (F i)).wf = true

theorem IntRow.below {k : IntKind} {sz : Nat} {w w' : World} {a : Option Addr} {len : Nat} {F : Nat → Int} (h : IntRow k sz w a len F) (hb : Below w.heap.size w w') : IntRow k sz w' a len F := by
  rcases h with h | ⟨b, off, h1, h2, h3, h4⟩
  · exact .inl h
  · exact .inr ⟨b, off, h1, Nat.lt_of_lt_of_le h2 hb.size, h3, fun i hi => ⟨(hb.cell (p := ⟨b, off + i, none⟩) h2).trans (h4 i hi).1, (h4 i hi).2⟩⟩

theorem bounds_i64 {n : Int} (h : (Lit.int .i64 n).wf = true) : -9223372036854775808 ≤ n ∧ n ≤ 9223372036854775807 := by
  simpa [Lit.wf, IntKind.min, IntKind.max, IntKind.signed, IntKind.bits] using h

section
variable {H : Type} {enc : TypeId × Value → H} {P : Program} {w : World} {spare : Nat → Bool} {held : Bool}
theorem hone_of' {fs : Array Field} (hone : oneCellFields P fs = true) (j : Nat) (f : Field) (hj : fs[j]? = some f) : f.offset = j ∧ P.cellsOf f.type = 1 := hone_of hone j f hj

theorem open_slice_fields {base : Nat} {t e : TypeId} {fs : Array Field} {fuel : Nat} {cs : List Value} {x : DataW H × List MemPlace} (ht : P.underlying t = some (.slice e)) (he : P.underlying e = some (.struct fs))
    (hone : oneCellFields P fs = true) (hC : P.cellsOf e = fs.size) (h : DataW.trod enc P w base spare held fuel t cs = some x) :
    (cs = [.slice none 0 0]) ∨
    ∃ (a : Addr) (len cap m : Nat), cs = [.slice (some a) len cap] ∧ len ≤ cap ∧ cap ≤ maxLen ∧ m = (if spare a.block then cap else len) ∧
      ∀ i, i < m → ∃ (ys : List (DataW H × List MemPlace)) (n : Nat),
        ∀ (j : Nat) (f : Field), fs[j]? = some f → ∃ (v : Value) (y : DataW H × List MemPlace), w.cell? (a.add (i * fs.size + j)) = some v ∧ ys[j]? = some y ∧ DataW.trod enc P w base spare held n f.type [v] = some y := by
  rcases open_slice ht h with h0 | ⟨a, len, cap, m, n, D, Pl, hcs, hb, hl, hm, hmm, hx, hi⟩
  · exact .inl h0.1
  · refine .inr ⟨a, len, cap, m, hcs, hl, hm, hmm, fun i him => ?_⟩
    obtain ⟨cs', hc, ht'⟩ := hi i him
    rw [hC] at hc
    obtain ⟨ys, n', hn', hy, hlen, hyl, hf⟩ := DataW.trod_struct he ht'
    obtain ⟨_, hcl, hat⟩ := World.cells?_some hc
    refine ⟨ys, n', fun j f hj => ?_⟩
    obtain ⟨ho, hk⟩ := hone_of hone j f hj
    have hjl : j < fs.size := (Array.getElem?_eq_some_iff.1 hj).1
    have hcell := hat j hjl
    have hv : cs'[j]? = some (cs'[j]'(by omega)) := List.getElem?_eq_getElem (by omega)
    have h1 := hf j f hj
    rw [ho, hk] at h1
    have hone' : (cs'.drop j).take 1 = [cs'[j]'(by omega)] := by
      rw [List.drop_eq_getElem_cons (by omega)]
      rfl
    rw [hone'] at h1
    have hys : ys[j]? = some (ys[j]'(by omega)) := List.getElem?_eq_getElem (by omega)
    refine ⟨_, _, ?_, hys, h1.trans hys⟩
    rw [← Go.Deep.add_add, hcell, hv]

/-- A slice of structs whose fields are all ints. -/
theorem rows_of_structs {t e : TypeId} {fs : Array Field} {a : Option Addr} {len cap : Nat} {k : IntKind} {d : DataW H} {p : List MemPlace} (ht : P.underlying t = some (.slice e)) (he : P.underlying e = some (.struct fs))
    (hone : oneCellFields P fs = true) (hC : P.cellsOf e = fs.size) (hpos : 0 < fs.size) (hfs : ∀ (j : Nat) (f : Field), fs[j]? = some f → P.underlying f.type = some (.int k))
    (h : DataW.Trod enc P w 0 spare held t (.slice a len cap) d p) : ∃ F, IntRow k fs.size w a len F := by
  obtain ⟨fuel, hf⟩ := h
  rcases open_slice_fields ht he hone hC hf with hcs | ⟨x, len', cap', m, hcs, hl, hm, hmm, hx⟩
  · simp [Value.cells] at hcs
    exact ⟨fun _ => 0, .inl hcs.2.1⟩
  · simp [Value.cells] at hcs
    obtain ⟨rfl, rfl, rfl⟩ := hcs
    have hlm : len ≤ m := by rw [hmm]; split <;> omega
    unfold maxLen at hm
    have hx1 : ∀ i, i < len * fs.size → ∃ n : Int, w.cell? (x.add i) = some (.int k n) ∧ (Lit.int k n).wf = true := by
      intro i hi
      have hq : i / fs.size < len := (Nat.div_lt_iff_lt_mul hpos).2 hi
      have hr : i % fs.size < fs.size := Nat.mod_lt _ hpos
      obtain ⟨ys, n, hy⟩ := hx (i / fs.size) (by omega)
      obtain ⟨v, y, h1, _, h3⟩ := hy (i % fs.size) fs[i % fs.size] (Array.getElem?_eq_getElem hr)
      rw [Nat.div_add_mod' i fs.size] at h1
      obtain ⟨q, e1, e2, e3⟩ := DataW.trod_int (hfs _ _ (Array.getElem?_eq_getElem hr)) h3
      simp at e1
      exact ⟨q, by rw [h1, e1], e3⟩
    rcases Nat.eq_zero_or_pos (len * fs.size) with h0 | h0
    · rcases Nat.eq_zero_or_pos len with h1 | h1
      · exact ⟨fun _ => 0, .inl h1⟩
      · exact absurd h0 (Nat.ne_of_gt (Nat.mul_pos h1 hpos))
    · refine ⟨fun i => if hi : i < len * fs.size then (hx1 i hi).choose else 0, ?_⟩
      obtain ⟨n0, hc0, _⟩ := hx1 0 h0
      obtain ⟨b, off, spot⟩ := x
      have hspot : spot = none := by simpa [Addr.add] using World.cell?_spot hc0
      subst hspot
      have hblk := World.block_lt_of_cell? _ _ hc0
      refine .inr ⟨b, off, rfl, by simpa [Addr.add] using hblk, by omega, fun i hi => ?_⟩
      have hch := (hx1 i hi).choose_spec
      simp only [hi, dite_true]
      refine ⟨?_, hch.2⟩
      have e1 : ((⟨b, off, none⟩ : Addr).add i) = ⟨b, off + i, none⟩ := by
        unfold Addr.add
        split
        · rename_i h; rw [h]; rfl
        · rfl
      exact e1 ▸ hch.1
/-- A slice of ints (or bytes). -/
theorem rows_of_ints {t e : TypeId} {a : Option Addr} {len cap : Nat} {k : IntKind} {d : DataW H} {p : List MemPlace} (ht : P.underlying t = some (.slice e)) (he : P.underlying e = some (.int k)) (hc : P.cellsOf e = 1)
    (h : DataW.Trod enc P w 0 spare held t (.slice a len cap) d p) : ∃ F, IntRow k 1 w a len F := by
  obtain ⟨fuel, hf⟩ := h
  rcases open_ints ht he hc hf with ⟨hcs, _⟩ | ⟨x, l, c, zs, hcs, _, hl, hm, hz, _, hcell, hwz⟩
  · simp [Value.cells] at hcs
    exact ⟨fun _ => 0, .inl hcs.2.1⟩
  · simp [Value.cells] at hcs
    obtain ⟨rfl, rfl, rfl⟩ := hcs
    unfold maxLen at hm
    have hlz : len ≤ zs.length := by rw [hz]; split <;> omega
    rcases Nat.eq_zero_or_pos len with h0 | h0
    · exact ⟨fun _ => 0, .inl h0⟩
    · have hc0 := hcell 0 (by omega)
      obtain ⟨b, off, spot⟩ := x
      have hspot : spot = none := by simpa [Addr.add] using World.cell?_spot hc0
      subst hspot
      have hblk := World.block_lt_of_cell? _ _ hc0
      refine ⟨fun i => zs.getD i 0, .inr ⟨b, off, rfl, by simpa [Addr.add] using hblk, by omega, fun i hi => ?_⟩⟩
      have e1 : ((⟨b, off, none⟩ : Addr).add i) = ⟨b, off + i, none⟩ := by
        unfold Addr.add
        split
        · rename_i h; rw [h]; rfl
        · rfl
      refine ⟨e1 ▸ hcell i (by omega), ?_⟩
      refine hwz _ ?_
      have hi' : i < zs.length := by omega
      simp only [List.getD_eq_getElem?_getD, List.getElem?_eq_getElem hi', Option.getD_some]
      exact List.getElem_mem hi'
end
end Go.Proofs.Ytcakdmapnmneoaa
end

section
namespace Go.Proofs.Ytcakdmapnmneoaa
open Go.RowKit

/-- An iterator that hands on n things, the i-th as 'enc i'; what it leans on between two rounds: Priv. -/
def IterN (P : Program) (gf : Nat) (lb : Array Value) (n : Nat) (enc : Nat → Array Value) (Priv : World → Prop) : Prop :=
  ∀ (l : Nat) (J Jx : Nat → World → Prop) (W : World),
    (∀ i A B, J i A → Keeps [] A B → J i B) → (∀ i A B, Jx i A → Keeps [] A B → Jx i B) → (∀ i A, J i A → Priv A) →
    (∀ i A, i < n → J i A → YieldAt Fence.wide 8 P l (enc i) A fun e B => (e = .returned (.bool true) ∧ J (i + 1) B) ∨ (e = .returned (.bool false) ∧ Jx i B)) →
    J 0 W → CallsIn Fence.wide 9 P gf (#[.func (.yield l) #[] #[]] ++ lb) W fun e B => (∃ v, e = .returned v) ∧ (J n B ∨ ∃ i, i < n ∧ Jx i B)

/-- What a round's body achieves. -/
def RoundEnd (D : Nat) (I : Nat → World → Prop) (Ix : Code → Nat → World → Prop) (i : Nat) (W : World) : Exit → Act → World → Prop
  | .normal, _, W' => I (i + 1) W' ∧ W'.heap[D]? = W.heap[D]? ∧ W'.heap[D + 1]? = W.heap[D + 1]?
  | .ret, _, W' => Ix .ret i W' ∧ W'.heap[D]? = W.heap[D]? ∧ W'.heap[D + 1]? = W.heap[D + 1]?
  | .exit id, _, W' => Ix (.exit id) i W' ∧ W'.heap[D]? = W.heap[D]? ∧ W'.heap[D + 1]? = W.heap[D + 1]?
  | .goto t, _, W' => Ix (.goto t) i W' ∧ W'.heap[D]? = W.heap[D]? ∧ W'.heap[D + 1]? = W.heap[D + 1]?
  | .panic _, _, _ => False
  | .outgrown, _, _ => False

theorem Keeps.putObj (W : World) (l : Nat) (o : Obj) : Keeps [l] W (W.putObj l o) :=
  ⟨rfl, rfl, rfl, by simp, fun _ _ hs => World.putObj_heap_other (by simpa using hs)⟩

theorem wp_rangeN {P : Program} {g : Operand} {ps : Array Tmp} {assign body : Code} {Q : Exit → Act → World → Prop} {a : Act} {w : World}
    {gf : Nat} {lb : Array Value} (hg : a.eval g = .func (.func gf) #[] lb) (eg : ∀ args w, (callFunc gf args).run P w = .ok (.enter gf args) w)
    {n : Nat} {enc : Nat → Array Value} {Priv : World → Prop} (hseq : IterN P gf lb n enc Priv) (hps : ∀ i, (enc i).size = ps.size)
    (I : Nat → World → Prop) (Ix : Code → Nat → World → Prop)
    (hI : ∀ i A B, I i A → Keeps [w.heap.size, w.heap.size + 1] A B → I i B)
    (hIx : ∀ c i A B, Ix c i A → Keeps [w.heap.size, w.heap.size + 1] A B → Ix c i B)
    (hp : ∀ i A, I i A → Priv A) (h0 : I 0 w)
    (hround : ∀ (l i : Nat) (W : World) (K : Act → World → Prop), i < n → I i W → w.heap.size + 1 < W.heap.size →
      (∀ (a₁ : Act) (W1 : World) (Ax : World → Prop), (∀ A B, Ax A → Keeps [w.heap.size, w.heap.size + 1] A B → Ax B) → Ax W1 → Keeps [] W W1 →
        (∀ W', I i W' → Ax W' → w.heap.size + 1 < W'.heap.size → body.wpIn (Fence.wide.inRound l) 8 P (RoundEnd w.heap.size I Ix i W') a₁ W') → K a₁ W1) →
      assign.wpIn (Fence.wide.inRound l) 8 P (Exit.then K (fun _ _ _ => False)) { tmps := (ps.zip (enc i)).foldl (fun t (p, v) => t.setIfInBounds p v) a.tmps, defers := [] } W)
    (hdone : ∀ W, I n W → W.heap[w.heap.size]? = some (.deferred (some [])) → Q .normal { a with defers := { target := .collected w.heap.size, args := #[] } :: a.defers } W)
    (hstop : ∀ c i W, i < n → Ix c i W → W.heap[w.heap.size]? = some (.deferred (some [])) → c.wp P Q { a with defers := { target := .collected w.heap.size, args := #[] } :: a.defers } W) :
    (Code.rangeFunc g ps assign body).wp P Q a w := by
  refine (wpIn_wide (n := 10)).1 (wpIn_rangeFunc ?_)
  intro fn _
  obtain ⟨rec, hrec⟩ : ∃ rec : LoopState → Option Code → Loop, rec = fun st pe => { state := st, pending := pe, fn, tmps := a.tmps, params := ps, assign, body, defers := w.heap.size } := ⟨_, rfl⟩
  obtain ⟨W1, hW1⟩ : ∃ W1, (w.alloc (.deferred (some []))).alloc (.loop (rec .ready none)) = W1 := ⟨_, rfl⟩
  have hL1 : W1.heap[w.heap.size + 1]? = some (.loop (rec .ready none)) := by rw [← hW1]; exact has_new' _ _ (by simp)
  have hK1 : W1.heap[w.heap.size]? = some (.deferred (some [])) := by rw [← hW1]; exact has_alloc (has_new _ _) _
  have hI1 : I 0 W1 := by rw [← hW1]; exact hI _ _ _ h0 (((Keeps.refl _ _).alloc _).alloc _)
  refine ⟨w.heap.size + 1, [{ target := .collected w.heap.size, args := #[] }], W1, { target := .fn (.func gf) lb, args := #[.func (.yield (w.heap.size + 1)) #[] #[]] }, W1, gf,
    #[.func (.yield (w.heap.size + 1)) #[] #[]] ++ lb, W1, ?_, ?_, fun _ _ => trivial, ?_, fun h => by simp [Fence.wide] at h, ?_⟩
  · rw [← hW1, hrec]; exact run_enterLoop_outer _ _ _ _ _
  · simp only [resolve, hg]
    simp [go_sem]
  · simp [invoke, go_sem, eg]
  · refine (hseq (w.heap.size + 1)
      (fun i W => I i W ∧ W.heap[w.heap.size + 1]? = some (.loop (rec .ready none)) ∧ W.heap[w.heap.size]? = some (.deferred (some [])))
      (fun i W => ∃ c, Ix c i W ∧ W.heap[w.heap.size + 1]? = some (.loop (rec .done (some c))) ∧ W.heap[w.heap.size]? = some (.deferred (some [])))
      W1 (fun i A B h k => ⟨hI _ _ _ h.1 (k.mono (by simp)), k.has h.2.1 (by simp), k.has h.2.2 (by simp)⟩)
      (fun i A B ⟨c, h1, h2, h3⟩ k => ⟨c, hIx _ _ _ _ h1 (k.mono (by simp)), k.has h2 (by simp), k.has h3 (by simp)⟩)
      (fun i A h => hp i A h.1) ?_ ⟨hI1, hL1, hK1⟩).mono ?_
    · rintro i W hin ⟨hi, hl, hk⟩
      have hlt : w.heap.size + 1 < W.heap.size := lt_of_block hl
      have hy := run_yield (P := P) (args := enc i) hl (by rw [hrec]; exact hps i)
      rw [hrec] at hy
      refine ⟨fn, _, assign, body, hy, roundIn_of_wpIn trivial (hround _ i W _ hin hi hlt ?_)⟩
      clear hy
      intro a₁ Wa Ax hax ax0 ka hb
      replace hl := ka.has hl (by simp)
      replace hk := ka.has hk (by simp)
      replace hlt : w.heap.size + 1 < Wa.heap.size := lt_of_block hl
      replace hi : I i Wa := hI _ _ _ hi (ka.mono (by simp))
      clear ka
      clear W
      obtain ⟨W, rfl⟩ : ∃ W, W = Wa := ⟨_, rfl⟩
      refine ⟨_, run_beginRound hl (by rw [hrec]), ?_⟩
      have kp : Keeps [w.heap.size, w.heap.size + 1] W (W.putObj (w.heap.size + 1) (.loop { rec .ready none with state := .busy })) := (Keeps.putObj _ _ _).mono (by simp)
      have hl2 : (W.putObj (w.heap.size + 1) (.loop { rec .ready none with state := .busy })).heap[w.heap.size + 1]? = some (.loop { rec .ready none with state := .busy }) := World.putObj_heap_same hlt
      have hk2 : (W.putObj (w.heap.size + 1) (.loop { rec .ready none with state := .busy })).heap[w.heap.size]? = some (.deferred (some [])) := (World.putObj_heap_other (by omega)).trans hk
      refine wpIn_mono (hb _ (hI _ _ _ hi kp) (hax _ _ ax0 kp) (by simpa using hlt)) ?_
      have fin : ∀ (jump : Option Code) (W3 : World), W3.heap[w.heap.size]? = (W.putObj (w.heap.size + 1) (.loop { rec .ready none with state := .busy })).heap[w.heap.size]? → W3.heap[w.heap.size + 1]? = (W.putObj (w.heap.size + 1) (.loop { rec .ready none with state := .busy })).heap[w.heap.size + 1]? →
          (Instr.endRound (w.heap.size + 1) jump).run P W3 = .ok (.bool jump.isNone) (W3.putObj (w.heap.size + 1) (.loop (rec (if jump.isNone then .ready else .done) jump))) ∧
          Keeps [w.heap.size, w.heap.size + 1] W3 (W3.putObj (w.heap.size + 1) (.loop (rec (if jump.isNone then .ready else .done) jump))) ∧
          (W3.putObj (w.heap.size + 1) (.loop (rec (if jump.isNone then .ready else .done) jump))).heap[w.heap.size + 1]? = some (.loop (rec (if jump.isNone then .ready else .done) jump)) ∧
          (W3.putObj (w.heap.size + 1) (.loop (rec (if jump.isNone then .ready else .done) jump))).heap[w.heap.size]? = some (.deferred (some [])) := fun jump W3 hd hl3' => by
        have hl3 := hl3'.trans hl2
        have := run_endRound (P := P) jump hl3
        rw [hrec] at this ⊢
        exact ⟨this, (Keeps.putObj _ _ _).mono (by simp), World.putObj_heap_same (lt_of_block hl3), (World.putObj_heap_other (by omega)).trans (hd.trans hk2)⟩
      rintro e a3 W3 hpost
      cases e with
      | normal =>
        obtain ⟨hi3, q1, q2⟩ := hpost
        obtain ⟨hr, kk, hl4, hk4⟩ := fin none W3 q1 q2
        exact ⟨_, _, hr, .inl ⟨rfl, hI _ _ _ hi3 kk, hl4, hk4⟩⟩
      | ret =>
        obtain ⟨hi3, q1, q2⟩ := hpost
        obtain ⟨hr, kk, hl4, hk4⟩ := fin (some .ret) W3 q1 q2
        exact ⟨_, _, hr, .inr ⟨rfl, .ret, hIx _ _ _ _ hi3 kk, hl4, hk4⟩⟩
      | exit id =>
        obtain ⟨hi3, q1, q2⟩ := hpost
        obtain ⟨hr, kk, hl4, hk4⟩ := fin (some (.exit id)) W3 q1 q2
        exact ⟨_, _, hr, .inr ⟨rfl, .exit id, hIx _ _ _ _ hi3 kk, hl4, hk4⟩⟩
      | goto t =>
        obtain ⟨hi3, q1, q2⟩ := hpost
        obtain ⟨hr, kk, hl4, hk4⟩ := fin (some (.goto t)) W3 q1 q2
        exact ⟨_, _, hr, .inr ⟨rfl, .goto t, hIx _ _ _ _ hi3 kk, hl4, hk4⟩⟩
      | panic ch => exact hpost.elim
      | outgrown => exact hpost.elim
    · rintro e W2 ⟨⟨v, rfl⟩, (⟨hi, hl, hk⟩ | ⟨i, hin, c, hi, hl, hk⟩)⟩
      · exact ⟨none, _, by have := run_endLoop (P := P) hl (by rw [hrec]; simp); rw [hrec] at this; exact this, hdone _ (hI _ _ _ hi ((Keeps.putObj _ _ _).mono (by simp))) ((World.putObj_heap_other (by omega)).trans hk)⟩
      · exact ⟨some c, _, by have := run_endLoop (P := P) hl (by rw [hrec]; simp); rw [hrec] at this; exact this, wpIn_wide.2 (hstop c i _ hin (hIx _ _ _ _ hi ((Keeps.putObj _ _ _).mono (by simp))) ((World.putObj_heap_other (by omega)).trans hk))⟩

theorem wpListIn_append_lies {F : Fence} {n : Nat} {P : Program} (w : World) {ops : Array Oper} {rest : List Oper} {o : Oper} {a : Act} {Q : Exit → Act → World → Prop}
    (hg : o.guard = none) (s x : Operand) (t : TypeId) (hop : o.op = Op.call { callee := Callee.builtin Builtin.append, args := #[s, x], argTypes := #[t, t] })
    (base : Nat) (e : TypeId) (i : TypeInfo) (z : Value) (size bytes : Nat) (h1 : P.underlying t = some (.slice e)) (h2 : P.info? e = some i) (h3 : i.zero = some z) (h4 : i.size = size) (h5 : i.bytes = bytes) (h6 : z.cells.size = size) (h7 : 0 < size)
    (v : Value) (k : Nat) (xs : List Value) (hs : a.eval s = v) (hown : w.ownsRow base e size v k xs) (ad : Addr) (m c : Nat) (news : List Value) (hx : a.eval x = .slice (some ad) m c) (hn : news.length = m * size)
    (hc : ∀ j u, news[j]? = some u → w.cell? (ad.add j) = some u) (h1c : ∀ u ∈ news, u.oneCell' = true) (hm : 0 < m) (b1 : k + m ≤ maxLen) (b2 : (k + m) * bytes ≤ 140737488355328) (b3 : base ≤ w.heap.size) (H : Nat) (hH : w.heap.size = H)
    (hK : ∀ g cap w', w'.ownsRow base e size (.slice (some ⟨g, 0, none⟩) (k + m) cap) (k + m) (xs ++ news) → w.grownBy w' v.ownBlock → (v.ownBlock = some g ∨ g = H) → g < w'.heap.size → wpListIn F n P ops Q rest (a.put o.dst (.slice (some ⟨g, 0, none⟩) (k + m) cap)) w') :
    wpListIn F n P ops Q (o :: rest) a w := by
  refine wpListIn_plain hg fun K hK' => ?_
  obtain ⟨g, cap, w', hrun, r1, r2, r3, r4⟩ := run_append_lies (P := P) w t o.type base e i z size bytes h1 h2 h3 h4 h5 h6 h7 v k xs hown ad m c news hn hc h1c hm b1 b2 b3 H hH
  unfold Oper.wpIn
  refine ⟨?_, ?_⟩
  · simp [Oper.about, hop, resolve, Target.leads, Sem.run_pure]
  · rw [Oper.semAt_plain F _ _ (by rw [hop]; intro c hc'; cases hc')]
    simp [execOp, hop, resolve, invoke, builtin, hs, hx, hrun, Result.andThen]
    exact hK' _ _ (hK g cap w' r1 r2 r3 r4)

/-- What the body of a function achieves that holds a range over a function. -/
def bodyPostR (P : Program) (fn : Func) (R : Ending → World → Prop) : Exit → Act → World → Prop := bodyPostM Fence.wide 10 P fn R
theorem calls_of_wp_ranges {P : Program} {f : FuncId} {fn : Func} {c : Code} {args : Array Value} {w : World} {R : Ending → World → Prop} (hf : P.funcs[f]? = some fn) (hb : fn.body = some c)
    (h : c.wp P (bodyPostR P fn R) { tmps := args ++ Array.replicate (fn.ntmps - args.size) undef, defers := [] } w) : Calls P f args w R :=
  callsIn_wide.1 (callsIn_of_wp_marks hf hb trivial (wpIn_wide.2 h))
/-- Behind the marks. -/
def unmark : List Nat → World → World
  | [], w => w
  | D :: l, w => unmark l (w.putObj D (.deferred none))
theorem bodyPostR_end {P : Program} {fn : Func} {R : Ending → World → Prop} {a : Act} {w : World} {v : Value} (l : List Nat) (hd : a.defers = l.map fun D => { target := .collected D, args := #[] })
    (hk : ∀ D, D ∈ l → w.heap[D]? = some (.deferred (some []))) (hn : l.Nodup) (hr : (results fn a.tmps).run P (unmark l w) = .ok v (unmark l w)) (hR : R (.returned v) (unmark l w)) : bodyPostR P fn R .ret a w ∧ bodyPostR P fn R .normal a w := by
  have key : ∀ (l : List Nat) (w : World), (∀ D, D ∈ l → w.heap[D]? = some (.deferred (some []))) → l.Nodup → (results fn a.tmps).run P (unmark l w) = .ok v (unmark l w) → R (.returned v) (unmark l w) →
      LeavesInM Fence.wide 10 P fn a.tmps R (l.map fun D => { target := .collected D, args := #[] }) .returning w := by
    intro l
    induction l with
    | nil => intro w _ _ hr hR; exact ⟨v, hr, hR⟩
    | cons D l ih =>
      intro w hk hn hr hR
      refine ⟨by simp, .inl ⟨D, _, rfl, run_takeDeferred (hk D (by simp)), ih _ (fun E hE => ?_) (List.nodup_cons.1 hn).2 hr hR⟩⟩
      have : E ≠ D := fun e => (List.nodup_cons.1 hn).1 (e ▸ hE)
      exact (World.putObj_heap_other this).trans (hk E (List.mem_cons_of_mem _ hE))
  have h := key l w hk hn hr hR
  rw [← hd] at h
  exact ⟨h, h⟩
theorem bodyPostR_ret0 {P : Program} {fn : Func} {R : Ending → World → Prop} {a : Act} {w : World} {v : Value} (hr : (results fn a.tmps).run P w = .ok v w) (hd : a.defers = []) (hR : R (.returned v) w) : bodyPostR P fn R .ret a w :=
  (bodyPostR_end [] hd (by simp) (by simp) hr hR).1
theorem bodyPostR_ret1 {P : Program} {fn : Func} {R : Ending → World → Prop} {a : Act} {w : World} {v : Value} {D : Nat} (hr : ∀ w, (results fn a.tmps).run P w = .ok v w) (hd : a.defers = [{ target := .collected D, args := #[] }])
    (hk : w.heap[D]? = some (.deferred (some []))) (hR : ∀ w', Keeps [D] w w' → R (.returned v) w') : bodyPostR P fn R .ret a w :=
  (bodyPostR_end [D] hd (by simpa using hk) (by simp) (hr _) (hR _ (Keeps.putObj _ _ _))).1
theorem bodyPostR_end1 {P : Program} {fn : Func} {R : Ending → World → Prop} {a : Act} {w : World} {v : Value} {D : Nat} (hr : ∀ w, (results fn a.tmps).run P w = .ok v w) (hd : a.defers = [{ target := .collected D, args := #[] }])
    (hk : w.heap[D]? = some (.deferred (some []))) (hR : ∀ w', Keeps [D] w w' → R (.returned v) w') : bodyPostR P fn R .normal a w :=
  (bodyPostR_end [D] hd (by simpa using hk) (by simp) (hr _) (hR _ (Keeps.putObj _ _ _))).2

end Go.Proofs.Ytcakdmapnmneoaa
end

section
namespace Go.Proofs.Ytcakdmapnmneoaa
open Go.RowKit
set_option linter.unusedVariables false

/-- What a meter has counted. -/
structure C4 where
  a : Int
  b : Int
  c : Int
  d : Int
/-- A meter in memory. -/
def mtr (c : C4) : Obj := .cells #[.int .i64 c.a, .int .i64 c.b, .int .i64 c.c, .int .i64 c.d] 158 (0, 0)
theorem add_i64 (x y : Int) (w : World) : (Op.intArith .add .i64 x y).run Try.prog w = .ok (.int .i64 (wrap64 (x + y))) w := by
  rw [← IntWalk.i64_left]; rfl
theorem add_any (b i : Nat) (x y : Int) (w : World) (hc : w.cell? ⟨b, i, none⟩ = some (.int .i64 x)) (hf : w.frozen? ⟨b, i, none⟩ = false) :
    Calls Try.prog 107 #[.pointer (some ⟨b, i, none⟩), .int .i64 y] w fun e w' => e = .returned (.int .i64 (wrap64 (x + y))) ∧ w.setCell ⟨b, i, none⟩ (.int .i64 (wrap64 (x + y))) = w' := by
  have hl := run_call_add (P := Try.prog) Try.func108 (by kernel_rfl) (by kernel_rfl) (by kernel_rfl) .i64 (by kernel_rfl) (y := y) hc hf (add_i64 _ _ _)
  go_enter Try.func107, Try.ntmps107
  go_wp2
  go_ret
  exact ⟨rfl, rfl⟩
theorem count_yes (b i : Nat) (hi : i < 4) (k : Int) (hk : k = (i : Int)) (x n : Int) (w : World) (cs : Array Value) (t : TypeId) (h : w.heap[b]? = some (.cells cs t (0, 0))) (hx : cs[i]? = some (.int .i64 x)) (hn : 1 ≤ n) (hm : n ≤ 2147483647) :
    Calls Try.prog 101 #[.pointer (some ⟨b, 0, none⟩), .int .i64 k, .int .i64 n] w fun e w' => e = .returned (.tuple #[]) ∧ Keeps [b] w w' ∧ w'.heap[b]? = some (.cells (cs.setIfInBounds i (.int .i64 (wrap64 (x + n)))) t (0, 0)) := by
  subst hk
  have h1 : (0 : Int) ≤ (i : Int) := by omega
  have h2 : (i : Int) < 4 := by omega
  have hc := cell_has h hx
  have hf := free_of_has h i
  have H := Lib.hid h
  clear h hx
  go_enter Try.func101, Try.ntmps101
  go_wp2_with (go_at_call 107; refine (add_any _ _ _ _ _ hc hf).mono ?_; rintro e w' ⟨rfl, rfl⟩)
  go_end0
  exact ⟨rfl, (Keeps.refl _ _).setCell (.inr (by simp)) _, has_setCell H.out _ _⟩
theorem count_nil (k n : Int) (w : World) :
    Calls Try.prog 101 #[.pointer none, .int .i64 k, .int .i64 n] w fun e w' => e = .returned (.tuple #[]) ∧ w = w' := by
  go_enter Try.func101, Try.ntmps101
  go_wp2_with fail
  go_end0
  exact ⟨rfl, rfl⟩

/-- A meter, or none. -/
def mV (m : Option Nat) : Value := .pointer (m.map fun b => ⟨b, 0, none⟩)
def mS : Option Nat → List Nat
  | none => []
  | some b => [b]
def MtrAt (m : Option Nat) (c : C4) (w : World) : Prop := ∀ b, m = some b → w.heap[b]? = some (mtr c)
theorem MtrAt.keeps {m : Option Nat} {c : C4} {w w' : World} {S : List Nat} (h : MtrAt m c w) (k : Keeps S w w') (hS : ∀ b, m = some b → b ∉ S) : MtrAt m c w' := fun b hb => k.has (h b hb) (hS b hb)
theorem MtrAt.nil (c : C4) (w : World) : MtrAt none c w := fun b hb => by cases hb
def C4.tab (c : C4) : C4 := { c with a := wrap64 (c.a + 1) }
def C4.vis (c : C4) : C4 := { c with b := wrap64 (c.b + 1) }
/-- Behind a count. -/
def Cntd (m : Option Nat) (c : C4) (w : World) (e : Ending) (w' : World) : Prop := e = .returned (.tuple #[]) ∧ Keeps (mS m) w w' ∧ MtrAt m c w'
theorem mtable_any (m : Option Nat) (c : C4) (w : World) (h : MtrAt m c w) : Calls Try.prog 92 #[mV m] w (Cntd m c.tab w) := by
  cases m with
  | none =>
    go_enter Try.func92, Try.ntmps92
    simp only [mV, Option.map_none]
    go_wp2_with fail
    refine (count_nil _ _ _).mono ?_
    rintro e w1 ⟨rfl, rfl⟩
    go_wp2_with fail
    go_end0
    exact ⟨rfl, Keeps.refl _ _, MtrAt.nil _ _⟩
  | some b =>
    have H := Lib.hid (h b rfl)
    clear h
    go_enter Try.func92, Try.ntmps92
    simp only [mV, Option.map_some]
    go_wp2_with fail
    refine (count_yes b 0 (by omega) 0 rfl c.a 1 _ _ _ H.out rfl (by omega) (by omega)).mono ?_
    rintro e w1 ⟨rfl, k1, h1⟩
    have K := Lib.hid k1
    have H1 := Lib.hid h1
    clear k1 h1
    go_wp2_with fail
    go_end0
    exact ⟨rfl, K.out, fun b' hb => by cases hb; exact H1.out⟩
theorem mvisit_any (m : Option Nat) (c : C4) (w : World) (h : MtrAt m c w) : Calls Try.prog 78 #[mV m, .int .i64 1] w (Cntd m c.vis w) := by
  cases m with
  | none =>
    go_enter Try.func78, Try.ntmps78
    simp only [mV, Option.map_none]
    go_wp2_with fail
    refine (count_nil _ _ _).mono ?_
    rintro e w1 ⟨rfl, rfl⟩
    go_wp2_with fail
    go_end0
    exact ⟨rfl, Keeps.refl _ _, MtrAt.nil _ _⟩
  | some b =>
    have H := Lib.hid (h b rfl)
    clear h
    go_enter Try.func78, Try.ntmps78
    simp only [mV, Option.map_some]
    go_wp2_with fail
    refine (count_yes b 1 (by omega) 1 rfl c.b 1 _ _ _ H.out rfl (by omega) (by omega)).mono ?_
    rintro e w1 ⟨rfl, k1, h1⟩
    have K := Lib.hid k1
    have H1 := Lib.hid h1
    clear k1 h1
    go_wp2_with fail
    go_end0
    exact ⟨rfl, K.out, fun b' hb => by cases hb; exact H1.out⟩
end Go.Proofs.Ytcakdmapnmneoaa
end

section
namespace Go.Proofs.Ytcakdmapnmneoaa
set_option linter.unusedVariables false

/-- The blocks that a slice stands on. -/
def blk : Option Addr → List Nat
  | some p => [p.block]
  | none => []
theorem blk_own (a : Option Addr) (m c : Nat) (x : Nat) (h : (Value.slice a m c).ownBlock = some x) : x ∈ blk a := by
  cases a with
  | none => simp [Value.ownBlock] at h
  | some p => simp [Value.ownBlock] at h; simp [blk, h]

/-- The first m values of V. -/
def valR (m : Nat) (V : Nat → Value) : List Value := (List.range m).map V
theorem valR_get {m : Nat} {V : Nat → Value} {k : Nat} (h : k < m) : (valR m V)[k]? = some (V k) := by simp [valR, h]
theorem valR_len (m : Nat) (V : Nat → Value) : (valR m V).length = m := by simp [valR]
theorem valR_congr {m : Nat} {V U : Nat → Value} (h : ∀ k, k < m → V k = U k) : valR m V = valR m U := by
  unfold valR
  exact List.map_congr_left fun v hv => h v (List.mem_range.1 hv)
/-- One value laid anew. -/
def putV (V : Nat → Value) (i : Nat) (x : Value) : Nat → Value := fun k => if k = i then x else V k
theorem valR_snoc (m : Nat) (V : Nat → Value) (x : Value) : valR m V ++ [x] = valR (m + 1) (putV V m x) := by
  simp only [valR, List.range_succ, List.map_append, List.map_cons, List.map_nil]
  congr 1
  · exact List.map_congr_left fun v hv => by have := List.mem_range.1 hv; simp [putV, show v ≠ m by omega]
  · simp [putV]
theorem valR_set (m : Nat) (V : Nat → Value) (i : Nat) (x : Value) : (valR m V).set i x = valR m (putV V i x) := by
  apply List.ext_getElem?
  intro k
  rw [List.getElem?_set]
  by_cases h : k < m
  · rw [valR_get (V := putV V i x) h]
    by_cases e : i = k
    · subst e; simp [valR_len, h, putV]
    · rw [if_neg e, valR_get h]; simp [putV, show ¬ k = i by omega]
  · have h1 : ∀ U : Nat → Value, (valR m U)[k]? = none := fun U => by simp [valR]; omega
    rw [h1, h1]
    split
    · rename_i e; subst e; rw [valR_len, if_neg h]
    · rfl

/-- A row of m values of one cell each, in a block of its own. -/
def ValRow (E : TypeId) (lo : Nat) (a : Option Addr) (m c : Nat) (V : Nat → Value) (w : World) : Prop := w.ownsRow lo E 1 (.slice a m c) m (valR m V)
section
variable {E : TypeId} {lo : Nat} {a : Option Addr} {m c : Nat} {V U : Nat → Value} {w w' : World}
theorem ValRow.nil (E : TypeId) (lo : Nat) (V : Nat → Value) (w : World) : ValRow E lo none 0 0 V w := World.ownsRow_nil _ _ _ _
theorem ValRow.blk_lt (h : ValRow E lo a m c V w) : ∀ x, x ∈ blk a → lo ≤ x ∧ x < w.heap.size := by
  intro x hx
  cases a with
  | none => simp [blk] at hx
  | some p =>
    simp [blk] at hx
    subst hx
    exact h.lt p.block (by simp [Value.ownBlock])
theorem ValRow.keeps {S : List Nat} (h : ValRow E lo a m c V w) (k : Keeps S w w') (hd : ∀ x, x ∈ blk a → x ∉ S) : ValRow E lo a m c V w' := by
  obtain ⟨h1, h2⟩ := h
  refine ⟨h1, ?_⟩
  rcases h2 with h2 | ⟨g, cap, cur, a1, a2, a3, a4⟩
  · exact .inl h2
  · refine .inr ⟨g, cap, cur, a1, a2, k.has a3 (hd g ?_), a4⟩
    simp at a1
    simp [a1.1, blk]
theorem ValRow.shape (h : ValRow E lo a m c V w) (hm : 0 < m) : ∃ g, a = some ⟨g, 0, none⟩ := by
  rcases h.2 with ⟨_, h2⟩ | ⟨g, cap, cur, a1, _⟩
  · omega
  · simp at a1; exact ⟨g, a1.1⟩
theorem ValRow.congr (h : ValRow E lo a m c V w) (hU : ∀ k, k < m → V k = U k) : ValRow E lo a m c U w := by
  unfold ValRow at h ⊢
  rw [← valR_congr hU]; exact h
theorem ValRow.cell {g : Nat} (h : ValRow E lo (some ⟨g, 0, none⟩) m c V w) {k : Nat} (hk : k < m) : w.cell? ⟨g, k, none⟩ = some (V k) := by
  have := World.ownsRow.cells h (g := g) (by simp [Value.ownBlock]) k (V k) (valR_get hk)
  have e : (⟨g, 0, none⟩ : Addr).add k = ⟨g, k, none⟩ := by unfold Addr.add; split <;> simp_all
  rwa [e] at this
theorem ValRow.free {g : Nat} (h : ValRow E lo (some ⟨g, 0, none⟩) m c V w) (k : Nat) : w.frozen? ⟨g, k, none⟩ = false := by
  rcases h.2 with ⟨h1, _⟩ | ⟨g', cap, cur, a1, a2, a3, _⟩
  · simp at h1
  · simp at a1
    obtain ⟨rfl, rfl⟩ := a1
    exact free_of_has a3 k
theorem ValRow.put {g : Nat} (h : ValRow E lo (some ⟨g, 0, none⟩) m c V w) (i : Nat) (x : Value) : ValRow E lo (some ⟨g, 0, none⟩) m c (putV V i x) (w.setCell ⟨g, i, none⟩ x) := by
  obtain ⟨h1, h2⟩ := h
  refine ⟨by simp [valR], ?_⟩
  rcases h2 with ⟨h2, _⟩ | ⟨g', cap, cur, a1, a2, a3, a4, a5, a6, a7⟩
  · simp at h2
  · simp at a1
    obtain ⟨rfl, rfl⟩ := a1
    refine .inr ⟨g, c, _, rfl, a2, has_setCell a3 i x, a4, a5, by simpa using a6, ?_⟩
    rw [← valR_set, ← a7]
    simp [List.take_set]
theorem ValRow.drew (h : ValRow E lo a m c V w) : ValRow E lo a m c V w.drew := h
theorem ValRow.drewN (h : ValRow E lo a m c V w) (n : Nat) : ValRow E lo a m c V (w.drewN n) := h
theorem ValRow.cut {g : Nat} (h : ValRow E lo (some ⟨g, 0, none⟩) m c V w) {n : Nat} (hn : n ≤ m) : ValRow E lo (some ⟨g, 0, none⟩) n c V w := by
  obtain ⟨h1, h2⟩ := h
  refine ⟨by simp [valR], ?_⟩
  rcases h2 with ⟨h2, _⟩ | ⟨g', cap, cur, a1, a2, a3, a4, a5, a6, a7⟩
  · simp at h2
  · refine .inr ⟨g', cap, cur, ?_, a2, a3, by omega, a5, a6, ?_⟩
    · simp at a1 ⊢; exact a1
    · have e : (cur.toList.take (m * 1)).take n = cur.toList.take (n * 1) := by rw [List.take_take]; congr 1; omega
      rw [← e, a7]
      simp only [valR, ← List.map_take, List.take_range, Nat.min_eq_left hn]
theorem ValRow.cap_le (h : ValRow E lo a m c V w) : m ≤ c ∧ c ≤ maxLen := by
  rcases h.2 with ⟨h1, h2⟩ | ⟨g, cap, cur, a1, a2, a3, a4, a5, _⟩
  · simp at h1; unfold maxLen; omega
  · simp at a1
    obtain ⟨_, rfl⟩ := a1
    exact ⟨a4, a5⟩
theorem ValRow.mono {lo' : Nat} (h : ValRow E lo a m c V w) (hl : lo' ≤ lo) : ValRow E lo' a m c V w := ownsRow_base h hl
theorem ValRow.lift {lo' : Nat} (h : ValRow E lo a m c V w) (hl : ∀ x, x ∈ blk a → lo' ≤ x) : ValRow E lo' a m c V w := by
  obtain ⟨h1, h2⟩ := h
  refine ⟨h1, ?_⟩
  rcases h2 with h2 | ⟨g, cap, cur, a1, a2, a3⟩
  · exact .inl h2
  · refine .inr ⟨g, cap, cur, a1, hl g ?_, a3⟩
    simp at a1; simp [a1.1, blk]
theorem ValRow.of_append {g cap : Nat} {x : Value} (h : w.ownsRow lo E 1 (.slice (some ⟨g, 0, none⟩) (m + 1) cap) (m + 1) (valR m V ++ [x])) : ValRow E lo (some ⟨g, 0, none⟩) (m + 1) cap (putV V m x) w := by
  unfold ValRow; rw [← valR_snoc]; exact h
end
/-- Two rows of unlike types lie in unlike blocks. -/
theorem ValRow.unlike {E E' : TypeId} {lo lo' : Nat} {g g' : Nat} {m m' c c' : Nat} {V V' : Nat → Value} {w : World} (h : ValRow E lo (some ⟨g, 0, none⟩) m c V w) (h' : ValRow E' lo' (some ⟨g', 0, none⟩) m' c' V' w) (he : E ≠ E') : g ≠ g' := by
  rcases h.2 with ⟨h2, _⟩ | ⟨g1, cap, cur, a1, a2, a3, _⟩
  · simp at h2
  · rcases h'.2 with ⟨h2', _⟩ | ⟨g2, cap', cur', b1, b2, b3, _⟩
    · simp at h2'
    · simp at a1 b1
      obtain ⟨rfl, _⟩ := a1
      obtain ⟨rfl, _⟩ := b1
      intro e
      subst e
      rw [a3] at b3
      simp at b3
      exact he b3.2
/-- A block of another type is none of the row's. -/
theorem ValRow.notin {E TY : TypeId} {lo : Nat} {a : Option Addr} {m c : Nat} {V : Nat → Value} {w : World} {b : Nat} {cs : Array Value} {f : Nat × Nat} (h : ValRow E lo a m c V w) (hb : w.heap[b]? = some (.cells cs TY f)) (he : E ≠ TY) : b ∉ blk a := by
  intro hx
  rcases h.2 with ⟨q, _⟩ | ⟨g1, cap, cur, a1, a2, a3, _⟩
  · simp at q; rw [q.1] at hx; simp [blk] at hx
  · simp at a1; rw [a1.1] at hx; simp [blk] at hx; rw [← hx, hb] at a3; simp at a3; exact he a3.2.1.symm
theorem ValRow.disj {E E' : TypeId} {lo lo' : Nat} {a a' : Option Addr} {m m' c c' : Nat} {V V' : Nat → Value} {w : World} (h : ValRow E lo a m c V w) (h' : ValRow E' lo' a' m' c' V' w) (he : E ≠ E') : ∀ x, x ∈ blk a → x ∉ blk a' := by
  intro x hx
  rcases h.2 with ⟨q, _⟩ | ⟨g1, cap, cur, a1, a2, a3, _⟩
  · simp at q; rw [q.1] at hx; simp [blk] at hx
  · simp at a1; rw [a1.1] at hx; simp [blk] at hx; subst hx; exact h'.notin a3 (fun e => he e.symm)
end Go.Proofs.Ytcakdmapnmneoaa
end

section
namespace Go
theorem Oper.wpIn_of_wp {P : Program} {l n : Nat} {o : Oper} {a : Act} {w : World} {K : Act → World → Prop} {Q : Exit → Act → World → Prop} (hd : ∀ c, o.op ≠ .defer c) (h : o.wp P a w K Q) : o.wpIn (Fence.wide.inRound l) n P a w K Q := by
  refine ⟨fun _ _ => trivial, ?_⟩
  rw [Fence.inRound_round, Oper.semAt_some l _ _ hd]
  unfold Oper.wp at h
  revert h
  cases hr : (execOp a.eval o).run P w with
  | ok v w' =>
    cases v with
    | value v => exact id
    | skip => exact id
    | defer d => exact id
    | enter f args => exact fun h => ⟨fun h => by simp [Fence.wide] at h, CallsIn.inRound l (callsIn_wide.2 h)⟩
    | row r args => exact fun h => ⟨fun h => by simp [Fence.wide] at h, fun c cs _ => let ⟨v, w', q, s⟩ := h c cs; ⟨v, w', q, stepsIn_wide.2 s⟩⟩
    | _ => exact fun h => h.elim
  | halt h w' => cases h <;> exact id
theorem wpAnyIn_of_any {P : Program} {l n : Nat} {md : Region.Mode} {ops : Array Oper} {Q : Exit → Act → World → Prop} (hd : ∀ (i : Nat) (o : Oper), ops[i]? = some o → ∀ c, o.op ≠ .defer c) (hQ : ¬ LetsOut Q) :
    ∀ (fuel : Nat) (listed : Array Bool) (a : Act) (w : World), wpAny P md ops Q fuel listed a w → wpAnyIn (Fence.wide.inRound l) n P md ops Q fuel listed a w
  | 0, _, _, _, h => h
  | fuel + 1, listed, a, w, h => by
    refine ⟨h.1, fun i hi => ?_⟩
    have h2 := h.2 i hi
    unfold wpOp at h2
    unfold wpOpIn
    cases ho : ops[i]? with
    | none => rw [ho] at h2; exact wpAnyIn_of_any hd hQ fuel _ _ _ h2
    | some o =>
      rw [ho] at h2
      simp only at h2 ⊢
      by_cases hw : Region.wanted o (yielded ops a.tmps) = true
      · rw [if_pos hw] at h2 ⊢
        rcases h2 with h2 | h2
        · exact Oper.wpIn_of_wp (hd i o ho) (Oper.wp_mono (fun a w h => wpAnyIn_of_any hd hQ fuel _ a w h) h2)
        · exact absurd h2.2 hQ
      · rw [if_neg hw] at h2 ⊢
        exact ⟨fun _ _ => trivial, wpAnyIn_of_any hd hQ fuel _ _ _ h2⟩
def noDefer (ops : Array Oper) : Bool := ops.all fun o => match o.op with | .defer _ => false | _ => true
theorem noDefer_spec {ops : Array Oper} (h : noDefer ops = true) (i : Nat) (o : Oper) (ho : ops[i]? = some o) (c : Call) : o.op ≠ .defer c := by
  intro e
  have h1 := Array.all_eq_true_iff_forall_mem.1 h o (Array.mem_of_getElem? ho)
  rw [e] at h1; simp at h1
/-- A drawn region within a round, S being held. -/
theorem wpIn_region_round {P : Program} {l n : Nat} {id : Nat} {ops : Array Oper} {Q : Exit → Act → World → Prop} {a : Act} {w : World} (S : World → Prop) (hm : P.follows .mixedOrders = true) (hd : noDefer ops = true) (hQ : ¬ LetsOut Q) (hS : S w.drew)
    (h : S w.drew → wpAnyH P .any ops Q S ops.size (Array.replicate ops.size false) a w.drew) : (Code.region id ops true).wpIn (Fence.wide.inRound l) n P Q a w :=
  wpIn_region_any hm (wpAnyIn_of_any (noDefer_spec hd) hQ _ _ _ _ (wpAny_of_held _ _ _ _ (h hS)))
/-! ### Loads are held till the store number s has come up -/
section
variable {P : Program} {ops : Array Oper} {Q : Exit → Act → World → Prop} {md : Region.Mode} {F : World → Prop} {s : Nat}
/-- Whatever order is picked, F holds behind each operation till number s has come up. -/
def wpAnyG (P : Program) (md : Region.Mode) (ops : Array Oper) (Q : Exit → Act → World → Prop) (F : World → Prop) (s : Nat) : Nat → Array Bool → Act → World → Prop
  | 0, listed, a, w => Region.ready md ops listed = [] ∧ Q .normal a w
  | fuel + 1, listed, a, w =>
    (Region.ready md ops listed = [] → Q .normal a w) ∧
    ∀ i ∈ Region.ready md ops listed, wpOp P ops Q i (fun a' w' => ((listed.setIfInBounds i true).getD s false = false → F w') ∧ wpAnyG P md ops Q F s fuel (listed.setIfInBounds i true) a' w') a w
theorem wpAny_of_g : ∀ (fuel : Nat) (listed : Array Bool) (a : Act) (w : World), wpAnyG P md ops Q F s fuel listed a w → wpAny P md ops Q fuel listed a w
  | 0, _, _, _, h => h
  | fuel + 1, _, _, _, h => ⟨h.1, fun i hi => wpOp_mono (fun a' w' h' => wpAny_of_g fuel _ a' w' h'.2) (h.2 i hi)⟩
def waitsFor (md : Region.Mode) (ops : Array Oper) (s i : Nat) : Bool := match ops[s]? with
  | some os => os.after.any fun e => Region.binds md e && e.on == i
  | none => true
theorem not_ready_of_waits {i : Nat} {listed : Array Bool} (h : waitsFor md ops s i = true) (hi : i ∈ Region.ready md ops listed) : s ∉ Region.ready md ops listed := by
  intro hs
  obtain ⟨h1, os, hos, hall⟩ := mem_ready.1 hs
  unfold waitsFor at h
  rw [hos] at h
  simp only [Array.any_eq_true, Bool.and_eq_true, beq_iff_eq] at h
  obtain ⟨j, hj, hb, he⟩ := h
  have h2 := hall _ (Array.getElem_mem hj) hb
  rw [he] at h2
  have h0 := (mem_ready.1 hi).1
  rcases Nat.lt_or_ge i listed.size with h' | h'
  · simp [h'] at h0 h2; rw [h0] at h2; cases h2
  · simp [Array.getElem?_eq_none h'] at h2
theorem wpAnyG_first {i : Nat} {oi : Oper} {v : Value} (hi : ops[i]? = some oi) (hsel : ∀ (j : Nat) (o : Oper) cs b, ops[j]? = some o → o.op ≠ .select cs b)
    (hQ : ∀ c a w, Q (.panic c) (a.put oi.dst v) w → Q (.panic c) a w) (his : waitsFor md ops s i = true) (hne : i ≠ s) :
    ∀ (fuel : Nat) (listed : Array Bool) (a : Act) (w : World),
      (∀ j oj, ops[j]? = some oj → j ≠ i → listed.getD j true = false → (∀ e ∈ oj.after, Region.binds md e = true → e.on ≠ i) → oi.apart ops oj = true) →
      i ∈ Region.ready md ops listed → YieldsIf P ops F oi v a → listed.getD s false = false → F w →
      wpAnyG P md ops Q F s fuel (listed.setIfInBounds i true) (a.put oi.dst v) w → wpAnyG P md ops Q F s (fuel + 1) listed a w := by
  intro fuel
  induction fuel with
  | zero =>
    intro listed a w _ hr hy hu hS H
    refine ⟨fun h => (by rw [h] at hr; cases hr), fun j hj => ?_⟩
    by_cases hji : j = i
    · subst hji; exact hy.wpOp hi hS ⟨fun _ => hS, H⟩
    · have := ready_mono hj hji
      rw [H.1] at this
      cases this
  | succ fuel ih =>
    intro listed a w hfree hr hy hu hS H
    refine ⟨fun h => (by rw [h] at hr; cases hr), fun j hj => ?_⟩
    by_cases hji : j = i
    · subst hji; exact hy.wpOp hi hS ⟨fun _ => hS, H⟩
    · have hjs : j ≠ s := fun e => not_ready_of_waits his hr (e ▸ hj)
      have h1 := H.2 j (ready_mono hj hji)
      obtain ⟨hjun, oj, hoj, hall⟩ := mem_ready.1 hj
      have hnot : ∀ e ∈ oj.after, Region.binds md e = true → e.on ≠ i := fun e he hb heq => by
        have h1 := hall e he hb
        have h0 := (mem_ready.1 hr).1
        rw [heq] at h1
        rcases Nat.lt_or_ge i listed.size with h' | h'
        · simp [h'] at h0 h1; rw [h0] at h1; cases h1
        · simp [Array.getElem?_eq_none h'] at h1
      have h2 := wpOp_putIf hoj (hfree j oj hoj hji hjun hnot) (fun cs b => hsel i oi cs b hi) (fun cs b => hsel j oj cs b hoj) hQ hy h1
      have hfree' : ∀ k ok, ops[k]? = some ok → k ≠ i → (listed.setIfInBounds j true).getD k true = false →
          (∀ e ∈ ok.after, Region.binds md e = true → e.on ≠ i) → oi.apart ops ok = true := fun k ok hk hki hun hno => by
        refine hfree k ok hk hki ?_ hno
        by_cases hjk : j = k
        · subst hjk; exact hjun
        · rw [getD_set_ne true hjk] at hun; exact hun
      have hu2 : (listed.setIfInBounds j true).getD s false = false := by rw [getD_set_ne false hjs]; exact hu
      have hu3 : ((listed.setIfInBounds i true).setIfInBounds j true).getD s false = false := by rw [getD_set_ne false hjs, getD_set_ne false hne]; exact hu
      refine wpOp_mono (fun a' w' h3 => ⟨fun _ => h3.2.1 hu3, ih (listed.setIfInBounds j true) a' w' hfree' (ready_mono hr (Ne.symm hji)) h3.1 hu2 (h3.2.1 hu3) ?_⟩) h2
      rw [Array.setIfInBounds_comm _ _ hji]
      exact h3.2.2
theorem wpAnyG_take {i : Nat} {oi : Oper} {v : Value} {fuel : Nat} {listed : Array Bool} {a : Act} {w : World} (hi : ops[i]? = some oi)
    (hs : Region.noSelect ops = true) (hf : Region.free md ops listed i = true) (hr : (Region.ready md ops listed).contains i = true) (his : waitsFor md ops s i = true) (hne : (i == s) = false)
    (hu : listed.getD s false = false)
    (hQ : ∀ c a w, Q (.panic c) (a.put oi.dst v) w → Q (.panic c) a w) (hw : Region.wanted oi (yielded ops a.tmps) = true) (hy : ∀ w, F w → (execOp a.eval oi).run P w = .ok (.value v) w) (hS : F w)
    (h : wpAnyG P md ops Q F s fuel (listed.setIfInBounds i true) (a.put oi.dst v) w) : wpAnyG P md ops Q F s (fuel + 1) listed a w :=
  wpAnyG_first hi (Region.noSelect_spec hs) hQ his (by simpa using hne) fuel listed a w (Region.free_spec hi hf) (by simpa using hr) (.inl ⟨hw, hy⟩) hu hS h
/-- An operation that yields its value in whatever world may be taken first, whether the store waits for it or not. -/
theorem wpAnyG_firstY {i : Nat} {oi : Oper} {v : Value} (hi : ops[i]? = some oi) (hsel : ∀ (j : Nat) (o : Oper) cs b, ops[j]? = some o → o.op ≠ .select cs b)
    (hQ : ∀ c a w, Q (.panic c) (a.put oi.dst v) w → Q (.panic c) a w) (hne : i ≠ s) :
    ∀ (fuel : Nat) (listed : Array Bool) (a : Act) (w : World),
      (∀ j oj, ops[j]? = some oj → j ≠ i → listed.getD j true = false → (∀ e ∈ oj.after, Region.binds md e = true → e.on ≠ i) → oi.apart ops oj = true) →
      i ∈ Region.ready md ops listed → YieldsIf P ops (fun _ => True) oi v a → (listed.getD s false = false → F w) →
      wpAnyG P md ops Q F s fuel (listed.setIfInBounds i true) (a.put oi.dst v) w → wpAnyG P md ops Q F s (fuel + 1) listed a w := by
  intro fuel
  induction fuel with
  | zero =>
    intro listed a w _ hr hy hS H
    refine ⟨fun h => (by rw [h] at hr; cases hr), fun j hj => ?_⟩
    by_cases hji : j = i
    · subst hji; exact hy.wpOp hi trivial ⟨fun h => hS (by rwa [getD_set_ne false hne] at h), H⟩
    · have := ready_mono hj hji
      rw [H.1] at this
      cases this
  | succ fuel ih =>
    intro listed a w hfree hr hy hS H
    refine ⟨fun h => (by rw [h] at hr; cases hr), fun j hj => ?_⟩
    by_cases hji : j = i
    · subst hji; exact hy.wpOp hi trivial ⟨fun h => hS (by rwa [getD_set_ne false hne] at h), H⟩
    · have h1 := H.2 j (ready_mono hj hji)
      obtain ⟨hjun, oj, hoj, hall⟩ := mem_ready.1 hj
      have hnot : ∀ e ∈ oj.after, Region.binds md e = true → e.on ≠ i := fun e he hb heq => by
        have h1 := hall e he hb
        have h0 := (mem_ready.1 hr).1
        rw [heq] at h1
        rcases Nat.lt_or_ge i listed.size with h' | h'
        · simp [h'] at h0 h1; rw [h0] at h1; cases h1
        · simp [Array.getElem?_eq_none h'] at h1
      have h2 := wpOp_putIf hoj (hfree j oj hoj hji hjun hnot) (fun cs b => hsel i oi cs b hi) (fun cs b => hsel j oj cs b hoj) hQ hy h1
      have hfree' : ∀ k ok, ops[k]? = some ok → k ≠ i → (listed.setIfInBounds j true).getD k true = false →
          (∀ e ∈ ok.after, Region.binds md e = true → e.on ≠ i) → oi.apart ops ok = true := fun k ok hk hki hun hno => by
        refine hfree k ok hk hki ?_ hno
        by_cases hjk : j = k
        · subst hjk; exact hjun
        · rw [getD_set_ne true hjk] at hun; exact hun
      have hc : (listed.setIfInBounds i true).setIfInBounds j true = (listed.setIfInBounds j true).setIfInBounds i true := Array.setIfInBounds_comm _ _ (Ne.symm hji)
      refine wpOp_mono (fun a' w' h3 => ?_) h2
      have h4 : (listed.setIfInBounds j true).getD s false = false → F w' := fun h => h3.2.1 (by rw [hc, getD_set_ne false hne]; exact h)
      refine ⟨h4, ih (listed.setIfInBounds j true) a' w' hfree' (ready_mono hr (Ne.symm hji)) h3.1 h4 ?_⟩
      rw [Array.setIfInBounds_comm _ _ hji]
      exact h3.2.2
theorem wpAnyG_takeY {i : Nat} {oi : Oper} {v : Value} {fuel : Nat} {listed : Array Bool} {a : Act} {w : World} (hi : ops[i]? = some oi)
    (hs : Region.noSelect ops = true) (hf : Region.free md ops listed i = true) (hr : (Region.ready md ops listed).contains i = true) (hne : (i == s) = false)
    (hQ : ∀ c a w, Q (.panic c) (a.put oi.dst v) w → Q (.panic c) a w) (hw : Region.wanted oi (yielded ops a.tmps) = true) (hy : ∀ w, (execOp a.eval oi).run P w = .ok (.value v) w) (hS : F w)
    (h : wpAnyG P md ops Q F s fuel (listed.setIfInBounds i true) (a.put oi.dst v) w) : wpAnyG P md ops Q F s (fuel + 1) listed a w :=
  wpAnyG_firstY hi (Region.noSelect_spec hs) hQ (by simpa using hne) fuel listed a w (Region.free_spec hi hf) (by simpa using hr) (.inl ⟨hw, fun w _ => hy w⟩) (fun _ => hS) h
/-- An operation whose guard passes it over. -/
theorem wpAnyG_takeU {i : Nat} {oi : Oper} {fuel : Nat} {listed : Array Bool} {a : Act} {w : World} (hi : ops[i]? = some oi)
    (hs : Region.noSelect ops = true) (hf : Region.free md ops listed i = true) (hr : (Region.ready md ops listed).contains i = true) (hne : (i == s) = false)
    (hQ : ∀ c a w, Q (.panic c) (a.put oi.dst undef) w → Q (.panic c) a w) (hw : Region.wanted oi (yielded ops a.tmps) = false) (hS : F w)
    (h : wpAnyG P md ops Q F s fuel (listed.setIfInBounds i true) (a.put oi.dst undef) w) : wpAnyG P md ops Q F s (fuel + 1) listed a w :=
  wpAnyG_firstY hi (Region.noSelect_spec hs) hQ (by simpa using hne) fuel listed a w (Region.free_spec hi hf) (by simpa using hr) (.inr ⟨hw, rfl⟩) (fun _ => hS) h
/-- One alone may come up, it is not the store: F is to be shown behind it. -/
theorem wpAnyG_one {i : Nat} {oi : Oper} {fuel : Nat} {listed : Array Bool} {a : Act} {w : World} (hi : ops[i]? = some oi) (hr : Region.ready md ops listed = [i]) (hw : Region.wanted oi (yielded ops a.tmps) = true)
    (h : ∀ K : Act → World → Prop, (∀ a w, F w → wpAnyG P md ops Q F s fuel (listed.setIfInBounds i true) a w → K a w) → Oper.wp P oi a w K Q) : wpAnyG P md ops Q F s (fuel + 1) listed a w := by
  refine ⟨(fun h0 => by rw [hr] at h0; cases h0), fun j hj => ?_⟩
  rw [hr] at hj
  obtain rfl : j = i := by simpa using hj
  exact wpOp_step hi (fun K' hK => by rw [if_pos hw]; exact h K' (fun a w hS hW => hK a w ⟨fun _ => hS, hW⟩))
/-- The store comes up. -/
theorem wpAnyG_last {oi : Oper} {fuel : Nat} {listed : Array Bool} {a : Act} {w : World} (hi : ops[s]? = some oi) (hr : Region.ready md ops listed = [s]) (hb : (listed.setIfInBounds s true).getD s false = true) (hw : Region.wanted oi (yielded ops a.tmps) = true)
    (h : ∀ K : Act → World → Prop, (∀ a w, wpAnyG P md ops Q F s fuel (listed.setIfInBounds s true) a w → K a w) → Oper.wp P oi a w K Q) : wpAnyG P md ops Q F s (fuel + 1) listed a w := by
  refine ⟨(fun h0 => by rw [hr] at h0; cases h0), fun j hj => ?_⟩
  rw [hr] at hj
  obtain rfl : j = s := by simpa using hj
  exact wpOp_step hi (fun K' hK => by rw [if_pos hw]; exact h K' (fun a w hW => hK a w ⟨(fun h9 => by rw [hb] at h9; cases h9), hW⟩))
theorem wpAnyG_done {listed : Array Bool} {a : Act} {w : World} (hr : Region.ready md ops listed = []) (h : Q .normal a w) : ∀ fuel, wpAnyG P md ops Q F s fuel listed a w
  | 0 => ⟨hr, h⟩
  | _ + 1 => ⟨fun _ => h, by rw [hr]; simp⟩
/-- A drawn region within a round, F being held till number s has come up. -/
theorem wpIn_region_roundG {l n : Nat} {id : Nat} {a : Act} {w : World} (F : World → Prop) (s : Nat) (hm : P.follows .mixedOrders = true) (hd : noDefer ops = true) (hQ : ¬ LetsOut Q) (hS : F w.drew)
    (h : F w.drew → wpAnyG P .any ops Q F s ops.size (Array.replicate ops.size false) a w.drew) : (Code.region id ops true).wpIn (Fence.wide.inRound l) n P Q a w :=
  wpIn_region_any hm (wpAnyIn_of_any (noDefer_spec hd) hQ _ _ _ _ (wpAny_of_g _ _ _ _ (h hS)))
/-- The same outside a round. -/
theorem wp_regionG {id : Nat} {a : Act} {w : World} (F : World → Prop) (s : Nat) (hm : P.follows .mixedOrders = true) (hS : F w.drew)
    (h : F w.drew → wpAnyG P .any ops Q F s ops.size (Array.replicate ops.size false) a w.drew) : (Code.region id ops true).wp P Q a w :=
  wp_region_any hm (wpAny_of_g _ _ _ _ (h hS))
end
theorem wp_append_run {P : Program} {o : Oper} {a : Act} {w : World} {K : Act → World → Prop} {Q : Exit → Act → World → Prop} (s x : Operand) (t : TypeId)
    (ho : o.op = .call { callee := .builtin .append, args := #[s, x], argTypes := #[t, t] }) (v1 v2 : Value) (hs : a.eval s = v1) (hx : a.eval x = v2) (r : Value) (w' : World) (hrun : (Builtin.append_ #[t, t] o.type #[v1, v2]).run P w = .ok r w')
    (h : K (a.put o.dst r) w') : Oper.wp P o a w K Q := by
  unfold Oper.wp execOp
  simp only [ho, resolve, invoke, builtin, Sem.run_bind, Sem.run_pure, Result.andThen_ok, List.map_toArray, List.map_cons, List.map_nil, hs, hx, hrun]
  exact h
theorem wpIn_gen {F : Fence} {n : Nat} {P : Program} {c : Code} {Q : Exit → Act → World → Prop} {a : Act} {W : World} (S : World → Prop) (h : S W) (H : ∀ W, S W → Code.wpIn F n P c Q a W) : Code.wpIn F n P c Q a W := H W h
end Go
end

section
namespace Go
section
variable {P : Program} {ops : Array Oper} {Q : Exit → Act → World → Prop} {md : Region.Mode} {F : World → Prop} {ss : List Nat}
def idle (ss : List Nat) (l : Array Bool) : Bool := ss.all fun s => !l.getD s false
theorem idle_set {l : Array Bool} {j : Nat} (h : j ∉ ss) : idle ss (l.setIfInBounds j true) = idle ss l := by
  induction ss with
  | nil => rfl
  | cons s ss ih =>
    simp only [List.mem_cons, not_or] at h
    unfold idle at ih ⊢
    simp only [List.all_cons]
    rw [getD_set_ne false h.1, ih h.2]
def waitsAll (md : Region.Mode) (ops : Array Oper) (ss : List Nat) (i : Nat) : Bool := ss.all fun s => waitsFor md ops s i
def wpAnyD (P : Program) (md : Region.Mode) (ops : Array Oper) (Q : Exit → Act → World → Prop) (F : World → Prop) (ss : List Nat) : Nat → Array Bool → Act → World → Prop
  | 0, listed, a, w => Region.ready md ops listed = [] ∧ Q .normal a w
  | fuel + 1, listed, a, w =>
    (Region.ready md ops listed = [] → Q .normal a w) ∧
    ∀ i ∈ Region.ready md ops listed, wpOp P ops Q i (fun a' w' => (idle ss (listed.setIfInBounds i true) = true → F w') ∧ wpAnyD P md ops Q F ss fuel (listed.setIfInBounds i true) a' w') a w
theorem wpAny_of_d : ∀ (fuel : Nat) (listed : Array Bool) (a : Act) (w : World), wpAnyD P md ops Q F ss fuel listed a w → wpAny P md ops Q fuel listed a w
  | 0, _, _, _, h => h
  | fuel + 1, _, _, _, h => ⟨h.1, fun i hi => wpOp_mono (fun a' w' h' => wpAny_of_d fuel _ a' w' h'.2) (h.2 i hi)⟩
theorem not_in_of_waits {i j : Nat} {listed : Array Bool} (h : waitsAll md ops ss i = true) (hi : i ∈ Region.ready md ops listed) (hj : j ∈ Region.ready md ops listed) : j ∉ ss := fun hs => by
  unfold waitsAll at h
  rw [List.all_eq_true] at h
  exact not_ready_of_waits (h j hs) hi hj
theorem wpAnyD_first {i : Nat} {oi : Oper} {v : Value} (hi : ops[i]? = some oi) (hsel : ∀ (j : Nat) (o : Oper) cs b, ops[j]? = some o → o.op ≠ .select cs b)
    (hQ : ∀ c a w, Q (.panic c) (a.put oi.dst v) w → Q (.panic c) a w) (his : waitsAll md ops ss i = true) (hne : i ∉ ss) :
    ∀ (fuel : Nat) (listed : Array Bool) (a : Act) (w : World),
      (∀ j oj, ops[j]? = some oj → j ≠ i → listed.getD j true = false → (∀ e ∈ oj.after, Region.binds md e = true → e.on ≠ i) → oi.apart ops oj = true) →
      i ∈ Region.ready md ops listed → YieldsIf P ops F oi v a → idle ss listed = true → F w →
      wpAnyD P md ops Q F ss fuel (listed.setIfInBounds i true) (a.put oi.dst v) w → wpAnyD P md ops Q F ss (fuel + 1) listed a w := by
  intro fuel
  induction fuel with
  | zero =>
    intro listed a w _ hr hy hu hS H
    refine ⟨fun h => (by rw [h] at hr; cases hr), fun j hj => ?_⟩
    by_cases hji : j = i
    · subst hji; exact hy.wpOp hi hS ⟨fun _ => hS, H⟩
    · have := ready_mono hj hji
      rw [H.1] at this
      cases this
  | succ fuel ih =>
    intro listed a w hfree hr hy hu hS H
    refine ⟨fun h => (by rw [h] at hr; cases hr), fun j hj => ?_⟩
    by_cases hji : j = i
    · subst hji; exact hy.wpOp hi hS ⟨fun _ => hS, H⟩
    · have hjs : j ∉ ss := not_in_of_waits his hr hj
      have h1 := H.2 j (ready_mono hj hji)
      obtain ⟨hjun, oj, hoj, hall⟩ := mem_ready.1 hj
      have hnot : ∀ e ∈ oj.after, Region.binds md e = true → e.on ≠ i := fun e he hb heq => by
        have h1 := hall e he hb
        have h0 := (mem_ready.1 hr).1
        rw [heq] at h1
        rcases Nat.lt_or_ge i listed.size with h' | h'
        · simp [h'] at h0 h1; rw [h0] at h1; cases h1
        · simp [Array.getElem?_eq_none h'] at h1
      have h2 := wpOp_putIf hoj (hfree j oj hoj hji hjun hnot) (fun cs b => hsel i oi cs b hi) (fun cs b => hsel j oj cs b hoj) hQ hy h1
      have hfree' : ∀ k ok, ops[k]? = some ok → k ≠ i → (listed.setIfInBounds j true).getD k true = false →
          (∀ e ∈ ok.after, Region.binds md e = true → e.on ≠ i) → oi.apart ops ok = true := fun k ok hk hki hun hno => by
        refine hfree k ok hk hki ?_ hno
        by_cases hjk : j = k
        · subst hjk; exact hjun
        · rw [getD_set_ne true hjk] at hun; exact hun
      have hu2 : idle ss (listed.setIfInBounds j true) = true := by rw [idle_set hjs]; exact hu
      have hu3 : idle ss ((listed.setIfInBounds i true).setIfInBounds j true) = true := by rw [idle_set hjs, idle_set hne]; exact hu
      refine wpOp_mono (fun a' w' h3 => ⟨fun _ => h3.2.1 hu3, ih (listed.setIfInBounds j true) a' w' hfree' (ready_mono hr (Ne.symm hji)) h3.1 hu2 (h3.2.1 hu3) ?_⟩) h2
      rw [Array.setIfInBounds_comm _ _ hji]
      exact h3.2.2
theorem wpAnyD_take {i : Nat} {oi : Oper} {v : Value} {fuel : Nat} {listed : Array Bool} {a : Act} {w : World} (hi : ops[i]? = some oi)
    (hs : Region.noSelect ops = true) (hf : Region.free md ops listed i = true) (hr : (Region.ready md ops listed).contains i = true) (his : waitsAll md ops ss i = true) (hne : ss.contains i = false)
    (hu : idle ss listed = true)
    (hQ : ∀ c a w, Q (.panic c) (a.put oi.dst v) w → Q (.panic c) a w) (hw : Region.wanted oi (yielded ops a.tmps) = true) (hy : ∀ w, F w → (execOp a.eval oi).run P w = .ok (.value v) w) (hS : F w)
    (h : wpAnyD P md ops Q F ss fuel (listed.setIfInBounds i true) (a.put oi.dst v) w) : wpAnyD P md ops Q F ss (fuel + 1) listed a w :=
  wpAnyD_first hi (Region.noSelect_spec hs) hQ his (by simpa using hne) fuel listed a w (Region.free_spec hi hf) (by simpa using hr) (.inl ⟨hw, hy⟩) hu hS h
theorem wpAnyD_firstY {i : Nat} {oi : Oper} {v : Value} (hi : ops[i]? = some oi) (hsel : ∀ (j : Nat) (o : Oper) cs b, ops[j]? = some o → o.op ≠ .select cs b)
    (hQ : ∀ c a w, Q (.panic c) (a.put oi.dst v) w → Q (.panic c) a w) (hne : i ∉ ss) :
    ∀ (fuel : Nat) (listed : Array Bool) (a : Act) (w : World),
      (∀ j oj, ops[j]? = some oj → j ≠ i → listed.getD j true = false → (∀ e ∈ oj.after, Region.binds md e = true → e.on ≠ i) → oi.apart ops oj = true) →
      i ∈ Region.ready md ops listed → YieldsIf P ops (fun _ => True) oi v a → (idle ss listed = true → F w) →
      wpAnyD P md ops Q F ss fuel (listed.setIfInBounds i true) (a.put oi.dst v) w → wpAnyD P md ops Q F ss (fuel + 1) listed a w := by
  intro fuel
  induction fuel with
  | zero =>
    intro listed a w _ hr hy hS H
    refine ⟨fun h => (by rw [h] at hr; cases hr), fun j hj => ?_⟩
    by_cases hji : j = i
    · subst hji; exact hy.wpOp hi trivial ⟨fun h => hS (by rwa [idle_set hne] at h), H⟩
    · have := ready_mono hj hji
      rw [H.1] at this
      cases this
  | succ fuel ih =>
    intro listed a w hfree hr hy hS H
    refine ⟨fun h => (by rw [h] at hr; cases hr), fun j hj => ?_⟩
    by_cases hji : j = i
    · subst hji; exact hy.wpOp hi trivial ⟨fun h => hS (by rwa [idle_set hne] at h), H⟩
    · have h1 := H.2 j (ready_mono hj hji)
      obtain ⟨hjun, oj, hoj, hall⟩ := mem_ready.1 hj
      have hnot : ∀ e ∈ oj.after, Region.binds md e = true → e.on ≠ i := fun e he hb heq => by
        have h1 := hall e he hb
        have h0 := (mem_ready.1 hr).1
        rw [heq] at h1
        rcases Nat.lt_or_ge i listed.size with h' | h'
        · simp [h'] at h0 h1; rw [h0] at h1; cases h1
        · simp [Array.getElem?_eq_none h'] at h1
      have h2 := wpOp_putIf hoj (hfree j oj hoj hji hjun hnot) (fun cs b => hsel i oi cs b hi) (fun cs b => hsel j oj cs b hoj) hQ hy h1
      have hfree' : ∀ k ok, ops[k]? = some ok → k ≠ i → (listed.setIfInBounds j true).getD k true = false →
          (∀ e ∈ ok.after, Region.binds md e = true → e.on ≠ i) → oi.apart ops ok = true := fun k ok hk hki hun hno => by
        refine hfree k ok hk hki ?_ hno
        by_cases hjk : j = k
        · subst hjk; exact hjun
        · rw [getD_set_ne true hjk] at hun; exact hun
      have hc : (listed.setIfInBounds i true).setIfInBounds j true = (listed.setIfInBounds j true).setIfInBounds i true := Array.setIfInBounds_comm _ _ (Ne.symm hji)
      refine wpOp_mono (fun a' w' h3 => ?_) h2
      have h4 : idle ss (listed.setIfInBounds j true) = true → F w' := fun h => h3.2.1 (by rw [hc, idle_set hne]; exact h)
      refine ⟨h4, ih (listed.setIfInBounds j true) a' w' hfree' (ready_mono hr (Ne.symm hji)) h3.1 h4 ?_⟩
      rw [Array.setIfInBounds_comm _ _ hji]
      exact h3.2.2
theorem wpAnyD_takeY {i : Nat} {oi : Oper} {v : Value} {fuel : Nat} {listed : Array Bool} {a : Act} {w : World} (hi : ops[i]? = some oi)
    (hs : Region.noSelect ops = true) (hf : Region.free md ops listed i = true) (hr : (Region.ready md ops listed).contains i = true) (hne : ss.contains i = false)
    (hQ : ∀ c a w, Q (.panic c) (a.put oi.dst v) w → Q (.panic c) a w) (hw : Region.wanted oi (yielded ops a.tmps) = true) (hy : ∀ w, (execOp a.eval oi).run P w = .ok (.value v) w) (hS : F w)
    (h : wpAnyD P md ops Q F ss fuel (listed.setIfInBounds i true) (a.put oi.dst v) w) : wpAnyD P md ops Q F ss (fuel + 1) listed a w :=
  wpAnyD_firstY hi (Region.noSelect_spec hs) hQ (by simpa using hne) fuel listed a w (Region.free_spec hi hf) (by simpa using hr) (.inl ⟨hw, fun w _ => hy w⟩) (fun _ => hS) h
theorem wpAnyD_one {i : Nat} {oi : Oper} {fuel : Nat} {listed : Array Bool} {a : Act} {w : World} (hi : ops[i]? = some oi) (hr : Region.ready md ops listed = [i]) (hw : Region.wanted oi (yielded ops a.tmps) = true)
    (h : ∀ K : Act → World → Prop, (∀ a w, F w → wpAnyD P md ops Q F ss fuel (listed.setIfInBounds i true) a w → K a w) → Oper.wp P oi a w K Q) : wpAnyD P md ops Q F ss (fuel + 1) listed a w := by
  refine ⟨(fun h0 => by rw [hr] at h0; cases h0), fun j hj => ?_⟩
  rw [hr] at hj
  obtain rfl : j = i := by simpa using hj
  exact wpOp_step hi (fun K' hK => by rw [if_pos hw]; exact h K' (fun a w hS hW => hK a w ⟨fun _ => hS, hW⟩))
/-- Two may come up, in either order: stores both. -/
theorem wpAnyD_two {i j : Nat} {oi oj : Oper} {fuel : Nat} {listed : Array Bool} {a : Act} {w : World} (hi : ops[i]? = some oi) (hj : ops[j]? = some oj) (hr : Region.ready md ops listed = [i, j]) (hu1 : idle ss (listed.setIfInBounds i true) = false) (hu2 : idle ss (listed.setIfInBounds j true) = false)
    (hw1 : Region.wanted oi (yielded ops a.tmps) = true) (hw2 : Region.wanted oj (yielded ops a.tmps) = true)
    (h1 : ∀ K : Act → World → Prop, (∀ a w, wpAnyD P md ops Q F ss fuel (listed.setIfInBounds i true) a w → K a w) → Oper.wp P oi a w K Q)
    (h2 : ∀ K : Act → World → Prop, (∀ a w, wpAnyD P md ops Q F ss fuel (listed.setIfInBounds j true) a w → K a w) → Oper.wp P oj a w K Q) : wpAnyD P md ops Q F ss (fuel + 1) listed a w := by
  refine ⟨(fun h0 => by rw [hr] at h0; cases h0), fun k hk => ?_⟩
  rw [hr] at hk
  simp only [List.mem_cons, List.not_mem_nil, or_false] at hk
  rcases hk with rfl | rfl
  · exact wpOp_step hi (fun K' hK => by rw [if_pos hw1]; exact h1 K' (fun a w hW => hK a w ⟨(fun h9 => by rw [hu1] at h9; cases h9), hW⟩))
  · exact wpOp_step hj (fun K' hK => by rw [if_pos hw2]; exact h2 K' (fun a w hW => hK a w ⟨(fun h9 => by rw [hu2] at h9; cases h9), hW⟩))
/-- One alone, behind a store. -/
theorem wpAnyD_oneZ {i : Nat} {oi : Oper} {fuel : Nat} {listed : Array Bool} {a : Act} {w : World} (hi : ops[i]? = some oi) (hr : Region.ready md ops listed = [i]) (hu : idle ss (listed.setIfInBounds i true) = false) (hw : Region.wanted oi (yielded ops a.tmps) = true)
    (h : ∀ K : Act → World → Prop, (∀ a w, wpAnyD P md ops Q F ss fuel (listed.setIfInBounds i true) a w → K a w) → Oper.wp P oi a w K Q) : wpAnyD P md ops Q F ss (fuel + 1) listed a w := by
  refine ⟨(fun h0 => by rw [hr] at h0; cases h0), fun j hj => ?_⟩
  rw [hr] at hj
  obtain rfl : j = i := by simpa using hj
  exact wpOp_step hi (fun K' hK => by rw [if_pos hw]; exact h K' (fun a w hW => hK a w ⟨(fun h9 => by rw [hu] at h9; cases h9), hW⟩))
theorem wpAnyD_done {listed : Array Bool} {a : Act} {w : World} (hr : Region.ready md ops listed = []) (h : Q .normal a w) : ∀ fuel, wpAnyD P md ops Q F ss fuel listed a w
  | 0 => ⟨hr, h⟩
  | _ + 1 => ⟨fun _ => h, by rw [hr]; simp⟩
theorem wp_regionD {id : Nat} {a : Act} {w : World} (F : World → Prop) (ss : List Nat) (hm : P.follows .mixedOrders = true) (hS : F w.drew)
    (h : F w.drew → wpAnyD P .any ops Q F ss ops.size (Array.replicate ops.size false) a w.drew) : (Code.region id ops true).wp P Q a w :=
  wp_region_any hm (wpAny_of_d _ _ _ _ (h hS))
end
end Go
end
