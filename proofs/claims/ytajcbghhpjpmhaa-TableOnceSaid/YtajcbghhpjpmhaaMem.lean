/- Small laws on memory that the proofs of this seat use: what a call keeps of the old blocks. No program in sight. -/
import Derived.WalkKit
import Derived.OneCell
import Derived.ProofKit
import Derived.BigQuiet
import Derived.Deep.QuietTactic
import Derived.Deep.Draws
import Derived.Lib.Hide
import Derived.Deep.AppendLies
import Derived.Maps.AppendAt
namespace Go.Proofs.Ytajcbghhpjpmhaa
open Go.RowKit

/-- Blocks that were there, other than those of S, are as they were. -/
structure Keeps (S : List Nat) (w w' : World) : Prop where
  os : w'.os = w.os
  tape : w'.tape = w.tape
  output : w'.output = w.output
  size : w.heap.size ≤ w'.heap.size
  block : ∀ k, k < w.heap.size → k ∉ S → w'.heap[k]? = w.heap[k]?

theorem Keeps.refl (S : List Nat) (w : World) : Keeps S w w := ⟨rfl, rfl, rfl, Nat.le_refl _, fun _ _ _ => rfl⟩
theorem Keeps.trans {S : List Nat} {a b c : World} (h : Keeps S a b) (k : Keeps S b c) : Keeps S a c :=
  ⟨k.os.trans h.os, k.tape.trans h.tape, k.output.trans h.output, Nat.le_trans h.size k.size,
    fun i hi hs => (k.block i (Nat.lt_of_lt_of_le hi h.size) hs).trans (h.block i hi hs)⟩
theorem Keeps.mono {S T : List Nat} {w w' : World} (h : Keeps S w w') (hs : ∀ x, x ∈ S → x ∈ T) : Keeps T w w' :=
  ⟨h.os, h.tape, h.output, h.size, fun k hk ht => h.block k hk (fun e => ht (hs k e))⟩
theorem Keeps.drew {S : List Nat} {a w : World} (h : Keeps S a w) : Keeps S a w.drew := ⟨h.os, h.tape, h.output, h.size, h.block⟩
theorem Keeps.drewN {S : List Nat} {a w : World} (h : Keeps S a w) (n : Nat) : Keeps S a (w.drewN n) := ⟨h.os, h.tape, h.output, h.size, h.block⟩
theorem Keeps.alloc {S : List Nat} {a w : World} (h : Keeps S a w) (o : Obj) : Keeps S a (w.alloc o) :=
  h.trans ⟨rfl, rfl, rfl, by simp, fun k hk _ => Below.heap_alloc _ _ _ hk⟩
theorem Keeps.setCell {S : List Nat} {a w : World} (h : Keeps S a w) {p : Addr} (hp : a.heap.size ≤ p.block ∨ p.block ∈ S) (v : Value) : Keeps S a (w.setCell p v) :=
  ⟨h.os, h.tape, h.output, by simpa [World.setCell] using h.size, fun k hk hs => by
    rw [Below.heap_setCell _ _ _ _ (by rcases hp with h1 | h1; · omega
                                       · intro e; exact hs (e ▸ h1))]; exact h.block k hk hs⟩
theorem Keeps.undrew {S : List Nat} {a w : World} (h : Keeps S a.drew w) : Keeps S a w := ⟨h.os, h.tape, h.output, h.size, h.block⟩
/-- What a callee kept of the world it began in is kept of the older world, where what it may have turned is new or in S. -/
theorem Keeps.then {S T : List Nat} {a b c : World} (h : Keeps S a b) (k : Keeps T b c) (ht : ∀ x, x ∈ T → a.heap.size ≤ x ∨ x ∈ S) : Keeps S a c :=
  ⟨k.os.trans h.os, k.tape.trans h.tape, k.output.trans h.output, Nat.le_trans h.size k.size,
    fun i hi hs => (k.block i (Nat.lt_of_lt_of_le hi h.size) (fun e => by rcases ht i e with h1 | h1; · omega
                                                                          · exact hs h1)).trans (h.block i hi hs)⟩
theorem Keeps.below {S : List Nat} {w w' : World} (h : Keeps S w w') {B : Nat} (hB : B ≤ w.heap.size) (hs : ∀ x, x ∈ S → B ≤ x) : Below B w w' :=
  ⟨h.os, h.tape, h.output, h.size, fun k hk => h.block k (by omega) (fun e => by have := hs k e; omega)⟩
theorem Below.keeps {w w' : World} (h : Below w.heap.size w w') (S : List Nat) : Keeps S w w' :=
  ⟨h.os, h.tape, h.output, h.size, fun k hk _ => h.block k hk⟩
theorem Keeps.has {S : List Nat} {w w' : World} (h : Keeps S w w') {b : Nat} {o : Obj} (hb : w.heap[b]? = some o) (hs : b ∉ S) : w'.heap[b]? = some o :=
  (h.block b (lt_of_block hb) hs).trans hb
theorem Keeps.cell {S : List Nat} {w w' : World} (h : Keeps S w w') {p : Addr} {v : Value} (hb : w.cell? p = some v) (hs : p.block ∉ S) : w'.cell? p = some v :=
  (World.cell?_of_block (w := w) (h.block p.block (World.block_lt_of_cell? _ _ hb) hs)).trans hb

/-- Below block lo, other than the blocks of S, all is as it was. -/
structure KeptLo (lo : Nat) (S : List Nat) (w w' : World) : Prop where
  os : w'.os = w.os
  tape : w'.tape = w.tape
  output : w'.output = w.output
  size : w.heap.size ≤ w'.heap.size
  block : ∀ k, k < lo → k ∉ S → w'.heap[k]? = w.heap[k]?
theorem KeptLo.refl (lo : Nat) (S : List Nat) (w : World) : KeptLo lo S w w := ⟨rfl, rfl, rfl, Nat.le_refl _, fun _ _ _ => rfl⟩
theorem KeptLo.trans {lo : Nat} {S : List Nat} {a b c : World} (h : KeptLo lo S a b) (k : KeptLo lo S b c) : KeptLo lo S a c :=
  ⟨k.os.trans h.os, k.tape.trans h.tape, k.output.trans h.output, Nat.le_trans h.size k.size, fun i hi hs => (k.block i hi hs).trans (h.block i hi hs)⟩
theorem KeptLo.drew {lo : Nat} {S : List Nat} {a w : World} (h : KeptLo lo S a w) : KeptLo lo S a w.drew := ⟨h.os, h.tape, h.output, h.size, h.block⟩
theorem KeptLo.alloc {lo : Nat} {S : List Nat} {a w : World} (h : KeptLo lo S a w) (hl : lo ≤ w.heap.size) (o : Obj) : KeptLo lo S a (w.alloc o) :=
  h.trans ⟨rfl, rfl, rfl, by simp, fun k hk _ => Below.heap_alloc _ _ _ (by omega)⟩
theorem KeptLo.setCell {lo : Nat} {S : List Nat} {a w : World} (h : KeptLo lo S a w) {p : Addr} (hp : lo ≤ p.block ∨ p.block ∈ S) (v : Value) : KeptLo lo S a (w.setCell p v) :=
  h.trans ⟨rfl, rfl, rfl, by simp [World.setCell], fun k hk hs => by
    refine Below.heap_setCell _ _ _ _ ?_
    rcases hp with h1 | h1
    · omega
    · intro e; exact hs (e ▸ h1)⟩
theorem KeptLo.grown {lo : Nat} {S : List Nat} {a w w' : World} {row : Option Nat} (h : KeptLo lo S a w) (hl : lo ≤ w.heap.size) (hg : w.grownBy w' row) (hr : ∀ k, row = some k → lo ≤ k) : KeptLo lo S a w' :=
  h.trans ⟨hg.os, hg.tape, hg.output, hg.size, fun k hk _ => hg.block k (by omega) (fun e => by have := hr k e.symm; omega)⟩
theorem KeptLo.has {lo : Nat} {S : List Nat} {w w' : World} (h : KeptLo lo S w w') {b : Nat} {o : Obj} (hb : w.heap[b]? = some o) (hl : b < lo) (hs : b ∉ S) : w'.heap[b]? = some o := (h.block b hl hs).trans hb
theorem KeptLo.below {lo B : Nat} {S : List Nat} {w w' : World} (h : KeptLo lo S w w') (hB : B ≤ lo) (hs : ∀ x, x ∈ S → B ≤ x) : Below B w w' :=
  ⟨h.os, h.tape, h.output, h.size, fun k hk => h.block k (by omega) (fun e => by have := hs k e; omega)⟩
theorem Below.keptLo {B : Nat} {w w' : World} (h : Below B w w') {lo : Nat} (hl : lo ≤ B) (S : List Nat) : KeptLo lo S w w' := ⟨h.os, h.tape, h.output, h.size, fun k hk _ => h.block k (by omega)⟩

/-- The shape of an owned row's value. -/
theorem own_shape {w : World} {base : Nat} {e : TypeId} {size : Nat} {v : Value} {n : Nat} {xs : List Value} (h : w.ownsRow base e size v n xs) : ∃ a cap, v = .slice a n cap := by
  rcases h.2 with ⟨rfl, rfl⟩ | ⟨g, cap, cur, rfl, _⟩
  · exact ⟨_, _, rfl⟩
  · exact ⟨_, _, rfl⟩

/-- An append to an owned row keeps what lies below the row's base. -/
theorem append_kept {w w1 : World} {lo : Nat} {e : TypeId} {size : Nat} {v : Value} {n : Nat} {xs : List Value} (h : w.ownsRow lo e size v n xs) (hl : lo ≤ w.heap.size) {o : Obj} (hg : (w.alloc o).grownBy w1 v.ownBlock) : KeptLo lo [] w w1 :=
  ((KeptLo.refl lo [] w).alloc hl _).grown (by simp <;> omega) hg (fun k hk => ((h.alloc o).lt k hk).1)
theorem KeptLo.mono {lo lo' : Nat} {S T : List Nat} {w w' : World} (h : KeptLo lo S w w') (hl : lo' ≤ lo) (hs : ∀ x, x ∈ S → x ∈ T) : KeptLo lo' T w w' :=
  ⟨h.os, h.tape, h.output, h.size, fun k hk ht => h.block k (by omega) (fun e => ht (hs k e))⟩

theorem ownsRow_base {w : World} {lo lo' : Nat} {e : TypeId} {size : Nat} {v : Value} {n : Nat} {xs : List Value} (h : w.ownsRow lo e size v n xs) (hl : lo' ≤ lo) : w.ownsRow lo' e size v n xs := by
  obtain ⟨h1, h2⟩ := h
  rcases h2 with h2 | ⟨g, cap, cur, h3, h4, h5⟩
  · exact ⟨h1, .inl h2⟩
  · exact ⟨h1, .inr ⟨g, cap, cur, h3, by omega, h5⟩⟩
theorem quietC {P : Program} {f : FuncId} {args : Array Value} {w : World} {v : Value} (h : Calls P f args w fun e w' => e = .returned v ∧ w = w') : Calls P f args w fun e w' => e = .returned v ∧ w' = w :=
  h.mono fun _ _ ⟨he, hm⟩ => ⟨he, hm.symm⟩

theorem ex_hid {α : Type} (a : α) : ∃ m, Hid (m = a) := ⟨a, Lib.hid rfl⟩

/-- A world that is spelt out gets a name: what is to be known of it is S. -/
theorem wp_gen {P : Program} {c : Code} {Q : Exit → Act → World → Prop} {a : Act} {W : World} (S : World → Prop) (h : S W) (H : ∀ W, S W → Code.wp P c Q a W) : Code.wp P c Q a W := H W h

/-- Blocks known whole. -/
theorem has_alloc {w : World} {b : Nat} {o : Obj} (h : w.heap[b]? = some o) (o' : Obj) : (w.alloc o').heap[b]? = some o :=
  (Below.heap_alloc w o' b (lt_of_block h)).trans h
theorem has_new (w : World) (o : Obj) : (w.alloc o).heap[w.heap.size]? = some o := by
  show (w.heap.push o)[w.heap.size]? = _
  simp
theorem has_new' (w : World) (o : Obj) {b : Nat} (hb : b = w.heap.size) : (w.alloc o).heap[b]? = some o := by subst hb; exact has_new w o
theorem has_three {w w1 : World} {A B C : Obj} {b : Nat} (hb : b < w.heap.size) (k : Keeps [b] (((w.alloc A).alloc B).alloc C) w1) :
    w1.heap[w.heap.size]? = some A ∧ w1.heap[w.heap.size + 1]? = some B ∧ w1.heap[w.heap.size + 2]? = some C :=
  ⟨k.has (has_alloc (has_alloc (has_new w A) B) C) (by simp; omega), k.has (has_alloc (has_new' (w.alloc A) B (by simp)) C) (by simp; omega), k.has (has_new' ((w.alloc A).alloc B) C (by simp)) (by simp; omega)⟩
theorem has_setCell_other {w : World} {b : Nat} {o : Obj} (h : w.heap[b]? = some o) {p : Addr} (hp : b ≠ p.block) (v : Value) : (w.setCell p v).heap[b]? = some o :=
  (Below.heap_setCell w p v b hp).trans h
theorem has_setCell {w : World} {b : Nat} {c : Array Value} {t : TypeId} {f : Nat × Nat} (h : w.heap[b]? = some (.cells c t f)) (i : Nat) (v : Value) :
    (w.setCell ⟨b, i, none⟩ v).heap[b]? = some (.cells (c.setIfInBounds i v) t f) := by
  have hlt := lt_of_block h
  have h' : w.heap[b] = .cells c t f := by simpa [Array.getElem?_eq_getElem hlt] using h
  show (w.heap.modify b _)[b]? = _
  rw [Array.getElem?_eq_getElem (by simpa using hlt), Array.getElem_modify_self, h']
  rfl
theorem has_drew {w : World} {b : Nat} {o : Obj} (h : w.heap[b]? = some o) : w.drew.heap[b]? = some o := h
theorem has_drewN {w : World} {b : Nat} {o : Obj} (h : w.heap[b]? = some o) (n : Nat) : (w.drewN n).heap[b]? = some o := h
theorem cell_of_has {w : World} {b : Nat} {c : Array Value} {t : TypeId} {f : Nat × Nat} (h : w.heap[b]? = some (.cells c t f)) (i : Nat) : w.cell? ⟨b, i, none⟩ = c[i]? := by
  simp [World.cell?, h]
theorem cell_has {w : World} {b : Nat} {c : Array Value} {t : TypeId} {f : Nat × Nat} (h : w.heap[b]? = some (.cells c t f)) {i : Nat} {v : Value} (hi : c[i]? = some v) : w.cell? ⟨b, i, none⟩ = some v :=
  (cell_of_has h i).trans hi
theorem free_of_has {w : World} {b : Nat} {c : Array Value} {t : TypeId} (h : w.heap[b]? = some (.cells c t (0, 0))) (i : Nat) : w.frozen? ⟨b, i, none⟩ = false := by
  simp [World.frozen?, h]
theorem cell_alloc {w : World} {p : Addr} {v : Value} (h : w.cell? p = some v) (o : Obj) : (w.alloc o).cell? p = some v :=
  (World.cell?_alloc_lt _ _ _ (World.block_lt_of_cell? _ _ h)).trans h
theorem cell_setCell_other {w : World} {p q : Addr} {v : Value} (h : w.cell? p = some v) (hn : q ≠ p) (u : Value) : (w.setCell q u).cell? p = some v :=
  (World.cell?_setCell_other _ _ _ _ hn).trans h
theorem frozen_alloc {w : World} {p : Addr} {f : Bool} (h : w.frozen? p = f) (hp : p.block < w.heap.size) (o : Obj) : (w.alloc o).frozen? p = f := by
  rw [World.frozen?_alloc_old _ _ _ (by omega)]; exact h
end Go.Proofs.Ytajcbghhpjpmhaa
