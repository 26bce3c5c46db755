/- Live entries and their numbers: a row of its own (chapter 7). A table of adds, of which some are killed, in plain numbers (chapter 7's laws). No program in sight. The live entries and their numbers: lived, All, Back (chapter 7). A table's live entries as iterators, both ways (chapter 7). All that a table is (chapter 7). -/
import Derived.Test.YtcakdmapnmneoaaB4
import Derived.Test.YtcakdmapnmneoaaBeg
import Derived.Laws.MakeOwn
import Derived.Test.YtcakdmapnmneoaaB1
import Derived.Deep.DeepMust
import Derived.Test.YtcakdmapnmneoaaB2
import Derived.Deep.RegionHeld3
import Derived.Deep.AppendLies
import Derived.Deep.Cut
import Derived.Deep.CutRange
section
namespace Go.Proofs.Ytcakdmapnmneoaa
open Go.RowKit
set_option linter.unusedVariables false

/-- The live entries and their numbers, i being the number of the first. -/
def numL : List Ent → Nat → List (Nat × Ent)
  | [], _ => []
  | x :: E, i => if x.live then (i, x) :: numL E (i + 1) else numL E (i + 1)
theorem numL_app (E F : List Ent) : ∀ i, numL (E ++ F) i = numL E i ++ numL F (i + E.length) := by
  induction E with
  | nil => intro i; simp [numL]
  | cons x E ih =>
    intro i
    simp only [List.cons_append, numL, ih]
    rw [show i + 1 + E.length = i + (x :: E).length by simp; omega]
    split <;> simp
theorem numL_succ {E : List Ent} {k : Nat} {x : Ent} (h : E[k]? = some x) : numL (E.take (k + 1)) 0 = numL (E.take k) 0 ++ if x.live then [(k, x)] else [] := by
  have hk := (List.getElem?_eq_some_iff.1 h).1
  rw [List.take_add_one, h, Option.toList_some, numL_app]
  simp [numL, List.length_take, Nat.min_eq_left (Nat.le_of_lt hk)]
theorem numL_snd (E : List Ent) : ∀ i, (numL E i).map (·.2) = liveL E := by
  induction E with
  | nil => intro i; rfl
  | cons x E ih =>
    intro i
    simp only [numL, liveL, List.filter_cons]
    split
    · simp only [List.map_cons]
      congr 1
      exact ih (i + 1)
    · exact ih (i + 1)
theorem numL_len (E : List Ent) (i : Nat) : (numL E i).length = liveN E := by
  rw [← liveL_len, ← numL_snd E i, List.length_map]
theorem numL_get {E : List Ent} {i k : Nat} {p : Nat × Ent} (h : (numL E i)[k]? = some p) : (liveL E)[k]? = some p.2 := by
  rw [← numL_snd E i, List.getElem?_map, h]; rfl
theorem numL_mem {E : List Ent} : ∀ {i : Nat} {p : Nat × Ent}, p ∈ numL E i → i ≤ p.1 ∧ p.1 < i + E.length ∧ E[p.1 - i]? = some p.2 ∧ p.2.live = true := by
  induction E with
  | nil => intro i p h; simp [numL] at h
  | cons x E ih =>
    intro i p h
    unfold numL at h
    have key : p ∈ numL E (i + 1) → i ≤ p.1 ∧ p.1 < i + (x :: E).length ∧ (x :: E)[p.1 - i]? = some p.2 ∧ p.2.live = true := fun h => by
      obtain ⟨h1, h2, h3, h4⟩ := ih h
      refine ⟨by omega, by simp; omega, ?_, h4⟩
      rw [show p.1 - i = (p.1 - (i + 1)) + 1 by omega]
      simpa using h3
    split at h
    · rcases List.mem_cons.1 h with rfl | h
      · rename_i hx; exact ⟨Nat.le_refl _, by simp, by simp, hx⟩
      · exact key h
    · exact key h

def cells6 (p : Nat × Ent) : List Value := .int .i64 p.1 :: p.2.cells
def flatN (N : List (Nat × Ent)) : List Value := N.flatMap cells6
theorem flatN_nil : flatN [] = [] := rfl
theorem flatN_cons (p : Nat × Ent) (N : List (Nat × Ent)) : flatN (p :: N) = cells6 p ++ flatN N := rfl
theorem flatN_len (N : List (Nat × Ent)) : (flatN N).length = N.length * 6 := by
  induction N with
  | nil => rfl
  | cons x E ih => rw [flatN_cons, List.length_append, ih]; simp [cells6, Ent.cells]; omega
theorem flatN_snoc (N : List (Nat × Ent)) (x : Nat × Ent) : flatN (N ++ [x]) = flatN N ++ cells6 x := by simp [flatN]
theorem flatN_get (N : List (Nat × Ent)) : ∀ (i : Nat) (p : Nat × Ent), N[i]? = some p → ∀ j, j < 6 → (flatN N)[i * 6 + j]? = (cells6 p)[j]? := by
  induction N with
  | nil => intro i x h; simp at h
  | cons y N ih =>
    intro i x h j hj
    rw [flatN_cons]
    cases i with
    | zero =>
      simp at h; subst h
      rw [List.getElem?_append_left (by simp [cells6, Ent.cells]; omega)]
      simp
    | succ i =>
      rw [List.getElem?_append_right (by simp [cells6, Ent.cells]; omega)]
      rw [show (i + 1) * 6 + j - (cells6 y).length = i * 6 + j by simp [cells6, Ent.cells]; omega]
      exact ih i x (by simpa using h) j hj
theorem cells6_one (p : Nat × Ent) : ∀ v ∈ cells6 p, v.oneCell' = true := by intro v hv; simp [cells6, Ent.cells] at hv; rcases hv with rfl | rfl | rfl | rfl | rfl | rfl <;> rfl

/-- A row of numbered entries in a block of its own. -/
def NumRow (lo : Nat) (a : Option Addr) (c : Nat) (N : List (Nat × Ent)) (w : World) : Prop := w.ownsRow lo 132 6 (.slice a N.length c) N.length (flatN N)
section
variable {lo : Nat} {a : Option Addr} {c : Nat} {N : List (Nat × Ent)} {w w' : World}
theorem NumRow.nil (lo : Nat) (w : World) : NumRow lo none 0 [] w := World.ownsRow_nil _ _ _ _
theorem NumRow.blk_lt (h : NumRow lo a c N w) : ∀ x, x ∈ blk a → lo ≤ x ∧ x < w.heap.size := by
  intro x hx
  cases a with
  | none => simp [blk] at hx
  | some p => simp [blk] at hx; subst hx; exact h.lt p.block (by simp [Value.ownBlock])
theorem NumRow.keeps {S : List Nat} (h : NumRow lo a c N w) (k : Keeps S w w') (hd : ∀ x, x ∈ blk a → x ∉ S) : NumRow lo a c N w' := by
  obtain ⟨h1, h2⟩ := h
  refine ⟨h1, ?_⟩
  rcases h2 with h2 | ⟨g, cap, cur, a1, a2, a3, a4⟩
  · exact .inl h2
  · refine .inr ⟨g, cap, cur, a1, a2, k.has a3 (hd g ?_), a4⟩
    simp at a1
    simp [a1.1, blk]
theorem NumRow.shape (h : NumRow lo a c N w) (hm : 0 < N.length) : ∃ g, a = some ⟨g, 0, none⟩ := by
  rcases h.2 with ⟨_, h2⟩ | ⟨g, cap, cur, a1, _⟩
  · omega
  · simp at a1; exact ⟨g, a1.1⟩
theorem NumRow.cell {g : Nat} (h : NumRow lo (some ⟨g, 0, none⟩) c N w) {i : Nat} {p : Nat × Ent} (hx : N[i]? = some p) (j : Nat) (hj : j < 6) : w.cell? ⟨g, i * 6 + j, none⟩ = (cells6 p)[j]? := by
  have hi := (List.getElem?_eq_some_iff.1 hx).1
  rw [World.ownsRow.cellAt h (i * 6 + j) (by omega)]
  exact flatN_get N i p hx j hj
theorem NumRow.lift {lo' : Nat} (h : NumRow lo a c N w) (hl : ∀ x, x ∈ blk a → lo' ≤ x) : NumRow lo' a c N w := by
  obtain ⟨h1, h2⟩ := h
  refine ⟨h1, ?_⟩
  rcases h2 with h2 | ⟨g, cap, cur, a1, a2, a3⟩
  · exact .inl h2
  · refine .inr ⟨g, cap, cur, a1, hl g ?_, a3⟩
    simp at a1; simp [a1.1, blk]
end
theorem _root_.Go.wpList_append_run {P : Program} {ops : Array Oper} {rest : List Oper} {o : Oper} {a : Act} {w : World} {Q : Exit → Act → World → Prop} (hgd : o.guard = none) (s x : Operand) (t : TypeId)
    (ho : o.op = .call { callee := .builtin .append, args := #[s, x], argTypes := #[t, t] }) (v1 v2 : Value) (hs : a.eval s = v1) (hx : a.eval x = v2) (r : Value) (w' : World) (hrun : (Builtin.append_ #[t, t] o.type #[v1, v2]).run P w = .ok r w')
    (h : wpList P ops Q rest (a.put o.dst r) w') : wpList P ops Q (o :: rest) a w := by
  refine wpList_plain hgd fun K hK => ?_
  unfold Oper.wp execOp
  simp only [ho, resolve, invoke, builtin, Sem.run_bind, Sem.run_pure, Result.andThen_ok, List.map_toArray, List.map_cons, List.map_nil, hs, hx, hrun]
  exact hK _ _ h
def noN : Value := .agg #[.int .i64 0, .bool false, .int .i64 0, .int .i64 0, .int .i64 0, .int .i64 0]
theorem infoNum : (Try.prog.info? 132).map (fun i => (i.zero, i.size, i.bytes)) = some (some noN, 6, 48) := by kernel_rfl
/-- A new row of none, with room. -/
theorem make_num (W : World) (n : Nat) (hn : n ≤ 1000000) :
    ∃ w', (Instr.makeSlice 128 (.int .i64 0) (.int .i64 (n : Int))).run Try.prog W = .ok (.slice (some ⟨W.heap.size, 0, none⟩) 0 n) w' ∧ NumRow W.heap.size (some ⟨W.heap.size, 0, none⟩) n [] w' ∧ Keeps [] W w' := by
  obtain ⟨j0, hi, hz0, hz1, hz2⟩ := info_parts infoNum
  obtain ⟨w', h1, h2, h3⟩ := run_make_own (P := Try.prog) W W.heap.size 128 132 j0 noN 6 Try.underlying128 hi hz0 hz1 .i64 .i64 n (by rw [hz2]; omega) (by unfold maxLen; omega) (Nat.le_refl _)
  exact ⟨w', h1, h2, ⟨h3.os, h3.tape, h3.output, h3.size, fun k hk _ => h3.block k hk (by simp)⟩⟩
theorem num_append (lo : Nat) (a : Option Addr) (c : Nat) (N : List (Nat × Ent)) (x : Nat × Ent) (W : World) (B : Nat) (h : NumRow lo a c N W) (hB : W.heap[B]? = some (.cells #[.int .i64 x.1, .bool x.2.live, .int .i64 x.2.hash, .int .i64 x.2.key, .int .i64 x.2.val, .int .i64 x.2.birth] 132 (0, 0))) (hl : N.length ≤ 1000000) (hlo : lo ≤ W.heap.size) :
    ∃ g cap w', (Builtin.append_ #[128, 128] 128 #[.slice a N.length c, .slice (some ⟨B, 0, none⟩) 1 1]).run Try.prog W = .ok (.slice (some ⟨g, 0, none⟩) (N.length + 1) cap) w' ∧ NumRow lo (some ⟨g, 0, none⟩) cap (N ++ [x]) w' ∧ Keeps (blk a) W w' ∧ (g ∈ blk a ∨ g = W.heap.size) ∧ g < w'.heap.size := by
  obtain ⟨j0, hi, hz0, hz1, hz2⟩ := info_parts infoNum
  obtain ⟨g, cap, w', r1, r2, r3, r4, r5⟩ := run_append_lies (P := Try.prog) W 128 128 lo 132 j0 noN 6 48 Try.underlying128 hi hz0 hz1 hz2 rfl (by decide) _ N.length (flatN N) h ⟨B, 0, none⟩ 1 1 (cells6 x) rfl
    (fun j u hj => by
      have hlt : j < 6 := by have := (List.getElem?_eq_some_iff.1 hj).1; simpa [cells6, Ent.cells] using this
      rw [show (⟨B, 0, none⟩ : Addr).add j = ⟨B, j, none⟩ by unfold Addr.add; split <;> simp_all, cell_of_has hB]
      match j, hlt with
      | 0, _ | 1, _ | 2, _ | 3, _ | 4, _ | 5, _ => simpa [cells6, Ent.cells] using hj) (cells6_one x) (by decide) (by unfold maxLen; omega) (by omega) hlo _ rfl
  refine ⟨g, cap, w', r1, ?_, ?_, ?_, r5⟩
  · unfold NumRow
    rw [flatN_snoc, List.length_append]
    exact r2
  · exact ⟨r3.os, r3.tape, r3.output, r3.size, fun k hk hn => r3.block k hk (fun e => hn (blk_own a _ _ k e.symm))⟩
  · rcases r4 with r4 | r4
    · exact .inl (blk_own a _ _ g r4)
    · exact .inr r4
end Go.Proofs.Ytcakdmapnmneoaa
end

section
namespace Go.Proofs.Ytcakdmapnmneoaa
open Go.RowKit
set_option linter.unusedVariables false

/-- The births of the live ones go up, and are below b. -/
structure Born (E : List Ent) (b : Nat) : Prop where
  up : ∀ (i j : Nat) (x y : Ent), i < j → E[i]? = some x → E[j]? = some y → x.live = true → y.live = true → x.birth < y.birth
  lt : ∀ (i : Nat) (x : Ent), E[i]? = some x → x.live = true → x.birth < b
theorem Born.nil (b : Nat) : Born [] b := ⟨fun i j x y _ h => by simp at h, fun i x h => by simp at h⟩
theorem Born.snoc {E : List Ent} {b : Nat} (h : Born E b) (x : Ent) (hx : x.birth = (b : Int)) : Born (E ++ [x]) (b + 1) := by
  have old : ∀ (i : Nat) (y : Ent), (E ++ [x])[i]? = some y → E[i]? = some y ∨ i = E.length ∧ y = x := fun i y hi => by
    by_cases h1 : i < E.length
    · rw [List.getElem?_append_left h1] at hi; exact .inl hi
    · rw [List.getElem?_append_right (by omega)] at hi
      have h2 := (List.getElem?_eq_some_iff.1 hi)
      obtain ⟨h3, h4⟩ := h2
      simp at h3 h4
      exact .inr ⟨by omega, h4.symm⟩
  refine ⟨fun i j y z hij hi hj hy hz => ?_, fun i y hi hy => ?_⟩
  · rcases old i y hi with h1 | ⟨h1, h2⟩
    · rcases old j z hj with h3 | ⟨h3, h4⟩
      · exact h.up i j y z hij h1 h3 hy hz
      · subst h4; rw [hx]; exact h.lt i y h1 hy
    · rcases old j z hj with h3 | ⟨h3, h4⟩
      · have := (List.getElem?_eq_some_iff.1 h3).1; omega
      · omega
  · rcases old i y hi with h1 | ⟨h1, h2⟩
    · have := h.lt i y h1 hy; omega
    · subst h2; omega
theorem Born.live {E : List Ent} {b : Nat} (h : Born E b) : Born (liveL E) b := by
  have sub : ∀ (l : List Ent), l.Sublist E → Born l b := fun l hl => by
    refine ⟨?_, ?_⟩
    · intro i j x y hij hi hj hx hy
      have hp : E.Pairwise fun x y => x.live = true → y.live = true → x.birth < y.birth := by
        rw [List.pairwise_iff_getElem]
        intro i j hi hj hij h1 h2
        exact h.up i j _ _ hij (List.getElem?_eq_getElem hi) (List.getElem?_eq_getElem hj) h1 h2
      have hp2 := hp.sublist hl
      rw [List.pairwise_iff_getElem] at hp2
      obtain ⟨h1, rfl⟩ := List.getElem?_eq_some_iff.1 hi
      obtain ⟨h2, rfl⟩ := List.getElem?_eq_some_iff.1 hj
      exact hp2 i j h1 h2 hij hx hy
    · intro i x hi hx
      obtain ⟨j, hj⟩ := List.getElem?_of_mem (hl.subset (List.mem_of_getElem? hi))
      exact h.lt j x hj hx
  exact sub _ List.filter_sublist
theorem Born.kill {E : List Ent} {b : Nat} (h : Born E b) (n : Nat) : Born (E.set n noE) b := by
  have old : ∀ (i : Nat) (y : Ent), (E.set n noE)[i]? = some y → y.live = true → E[i]? = some y := fun i y hi hy => by
    rw [List.getElem?_set] at hi
    split at hi
    · split at hi
      · simp at hi; rw [← hi] at hy; cases hy
      · cases hi
    · exact hi
  exact ⟨fun i j x y hij hi hj hx hy => h.up i j x y hij (old i x hi hx) (old j y hj hy) hx hy, fun i x hi hx => h.lt i x (old i x hi hx) hx⟩
/-- A live entry stands at one number alone. -/
theorem Born.one {E : List Ent} {b : Nat} (h : Born E b) {n j : Nat} {x : Ent} (hn : E[n]? = some x) (hx : x.live = true) (hj : j < n) : E[j]? ≠ some x := fun e => by
  have := h.up j n x x hj e hn hx hx
  omega
/-- Without number k of the live ones. -/
theorem numL_kill (E : List Ent) : ∀ (i k n : Nat) (x : Ent), (numL E i)[k]? = some (n, x) → liveL (E.set (n - i) noE) = (liveL E).take k ++ (liveL E).drop (k + 1) := by
  induction E with
  | nil => intro i k n x h; simp [numL] at h
  | cons y E ih =>
    intro i k n x h
    unfold numL at h
    by_cases hy : y.live = true
    · rw [if_pos hy] at h
      cases k with
      | zero =>
        simp at h
        obtain ⟨rfl, rfl⟩ := h
        simp [liveL, noE, hy]
      | succ k =>
        simp at h
        have h2 := ih (i + 1) k n x h
        have h3 := (numL_mem (List.mem_of_getElem? h)).1
        simp only at h3
        rw [show n - i = (n - (i + 1)) + 1 by omega, List.set_cons_succ]
        simp only [liveL, List.filter_cons, hy, if_true] at h2 ⊢
        rw [h2]; simp
    · rw [if_neg hy] at h
      have h2 := ih (i + 1) k n x h
      have h3 := (numL_mem (List.mem_of_getElem? h)).1
      simp only at h3
      rw [show n - i = (n - (i + 1)) + 1 by omega, List.set_cons_succ]
      simp only [liveL, List.filter_cons, hy] at h2 ⊢
      simpa using h2
/-- The number of the live entry number k. -/
def nthN (E : List Ent) (k : Nat) : Nat := ((numL E 0).getD k (0, noE)).1
theorem nthN_spec {E : List Ent} {k : Nat} {x : Ent} (h : (liveL E)[k]? = some x) : (numL E 0)[k]? = some (nthN E k, x) ∧ E[nthN E k]? = some x ∧ x.live = true := by
  have hk : k < (numL E 0).length := by rw [numL_len, ← liveL_len]; exact (List.getElem?_eq_some_iff.1 h).1
  obtain ⟨p, hp⟩ : ∃ p, (numL E 0)[k]? = some p := ⟨_, List.getElem?_eq_getElem hk⟩
  have h1 := numL_get hp
  rw [h] at h1
  have h2 : p.2 = x := by simpa using h1.symm
  have h3 : nthN E k = p.1 := by unfold nthN; simp [List.getD, hp]
  obtain ⟨_, _, h6, h7⟩ := numL_mem (List.mem_of_getElem? hp)
  rw [h3, ← h2]
  exact ⟨hp, by simpa using h6, h7⟩
/-- One step of laid: an entry is added; kv: which live one is killed. -/
def laidS (T : Tab) (h : Int) (i : Nat) (kv : Option Int) : Tab := match kv with
  | some v => if 0 ≤ v then (T.add h i (3 * i)).kill (nthN (T.add h i (3 * i)).E (v % (liveN (T.add h i (3 * i)).E : Int)).toNat) else T.add h i (3 * i)
  | none => T.add h i (3 * i)
def killA (K : Nat → Int) (kn i : Nat) : Option Int := if i < kn then some (K i) else none
def laidT (F K : Nat → Int) (kn : Nat) : Nat → Tab
  | 0 => newT
  | i + 1 => laidS (laidT F K kn i) (F i) i (killA K kn i)
theorem add_births (T : Tab) (h k v : Int) : (T.add h k v).births = T.births + 1 := by
  unfold Tab.add Tab.ready
  split <;> rfl
theorem kill_births (T : Tab) (e : Int) : (T.kill e).births = T.births := by unfold Tab.kill; split <;> rfl
theorem liveL_idem (E : List Ent) : liveL (liveL E) = liveL E := by simp [liveL]
theorem ready_live (T : Tab) : liveL T.ready.E = liveL T.E := by
  unfold Tab.ready
  split
  · exact liveL_idem _
  · rfl
theorem ready_births (T : Tab) : T.ready.births = T.births := by unfold Tab.ready; split <;> rfl
theorem add_live (T : Tab) (h k v : Int) : liveL (T.add h k v).E = liveL T.E ++ [⟨true, h, k, v, T.births⟩] := by
  show liveL (T.ready.E ++ [_]) = _
  simp only [liveL, List.filter_append]
  rw [show List.filter (fun x => x.live) T.ready.E = liveL T.E from ready_live T, ready_births]
  rfl
theorem Born.add {T : Tab} (h : Born T.E T.births) (a k v : Int) : Born (T.add a k v).E (T.add a k v).births := by
  rw [add_births]
  show Born (T.ready.E ++ [_]) _
  refine Born.snoc ?_ _ (by show (T.ready.births : Int) = _; rw [ready_births])
  unfold Tab.ready
  split
  · exact h.live
  · exact h
theorem Born.killT {T : Tab} (h : Born T.E T.births) (e : Int) : Born (T.kill e).E (T.kill e).births := by
  rw [kill_births]
  unfold Tab.kill
  split
  · exact h.kill _
  · exact h
structure LaidInv (k : Nat) (T : Tab) : Prop where
  inv : TInv (2 * k) T
  born : Born T.E T.births
  bi : T.births = k
theorem LaidInv.new : LaidInv 0 newT := ⟨TInv.new, Born.nil _, rfl⟩
theorem LaidInv.add {k : Nat} {T : Tab} (h : LaidInv k T) (hk : k ≤ 400) (a v w : Int) : TInv (2 * k + 1) (T.add a v w) ∧ Born (T.add a v w).E (T.add a v w).births ∧ (T.add a v w).births = k + 1 :=
  ⟨h.inv.add (by omega) a v w, h.born.add a v w, by rw [add_births, h.bi]⟩
theorem LaidInv.step {k : Nat} {T : Tab} (h : LaidInv k T) (hk : k ≤ 400) (a : Int) (kv : Option Int) : LaidInv (k + 1) (laidS T a k kv) := by
  obtain ⟨h1, h2, h3⟩ := h.add hk a k (3 * k)
  unfold laidS
  cases kv with
  | none => exact ⟨h1.mono (by omega), h2, h3⟩
  | some v =>
    simp only
    split
    · exact ⟨(h1.kill _).mono (by omega), h2.killT _, by rw [kill_births, h3]⟩
    · exact ⟨h1.mono (by omega), h2, h3⟩
theorem laidT_inv (F K : Nat → Int) (kn : Nat) : ∀ i, i ≤ 400 → LaidInv i (laidT F K kn i)
  | 0, _ => LaidInv.new
  | i + 1, hi => (laidT_inv F K kn i (by omega)).step (by omega) _ _
/-- What a kill of the live one number k leaves. -/
theorem kill_live {T : Tab} {k : Nat} {x : Ent} (h : (liveL T.E)[k]? = some x) : T.ent (nthN T.E k : Nat) = some x ∧ liveL (T.kill (nthN T.E k : Nat)).E = (liveL T.E).take k ++ (liveL T.E).drop (k + 1) := by
  obtain ⟨h1, h2, h3⟩ := nthN_spec h
  have he : T.ent (nthN T.E k : Nat) = some x := by
    unfold Tab.ent
    rw [if_pos (by omega)]
    simp [h2, Option.filter, h3]
  refine ⟨he, ?_⟩
  unfold Tab.kill
  rw [he]
  simp only [Int.toNat_natCast]
  have := numL_kill T.E 0 k _ x h1
  simpa using this
end Go.Proofs.Ytcakdmapnmneoaa
end

section
namespace Go.Proofs.Ytcakdmapnmneoaa
open Go.RowKit Go.Shelf
set_option linter.unusedVariables false

def LivedP (E : List Ent) (w : World) (r : Ending) (w' : World) : Prop :=
  ∃ a c, r = .returned (.slice a (liveN E) c) ∧ NumRow w.heap.size a c (numL E 0) w' ∧ Keeps [] w w'
set_option maxRecDepth 100000 in
set_option maxHeartbeats 2000000 in
theorem lived_gen (t lo : Nat) (a : Option Addr) (c : Nat) (E : List Ent) (w : World) (e1 : w.cell? ⟨t, 1, none⟩ = some (.slice a E.length c)) (e3 : w.cell? ⟨t, 3, none⟩ = some (.int .i64 (liveN E : Nat))) (h2 : EntRow lo a c E w) (hE1 : E.length ≤ 1000000) :
    Calls Try.prog 81 #[.pointer (some ⟨t, 0, none⟩)] w (LivedP E w) := by
  obtain ⟨n, hn⟩ := ex_hid E.length
  have lvn := liveN_le E
  rw [← hn.out] at e1 hE1 lvn
  obtain ⟨w1, hmk, hr1, hk1⟩ := make_num w (liveN E) (by omega)
  have HE := Lib.hid h2
  have R1 := Lib.hid hr1
  have K1 := Lib.hid hk1
  have e1' := hk1.cell e1 (by simp)
  clear h2 hr1 hk1
  go_enter Try.func81, Try.ntmps81
  go_wp2_with fail
  go_loopw [3, 18] (fun l i wr => ∃ (k : Nat) (b : Option Addr) (cc : Nat), k ≤ n ∧ i = .int .i64 (k : Nat) ∧ l = .slice b (numL (E.take k) 0).length cc ∧ NumRow w.heap.size b cc (numL (E.take k) 0) wr ∧ Keeps [] w wr) (fun _ i _ => n - (intOf i).toNat)
  case atStart => exact ⟨0, some ⟨w.heap.size, 0, none⟩, liveN E, by omega, rfl, by simp [numL], by simpa [numL] using R1.out, K1.out⟩
  case round =>
    obtain ⟨k, b, cc, hk, rfl, rfl, hR, hK⟩ := hrel
    have hk0 : (0 : Int) ≤ (k : Int) := by omega
    have HR := Lib.hid hR
    have HK := Lib.hid hK
    by_cases hlt : k < n
    · have hlt' : (k : Int) < (n : Int) := by omega
      obtain ⟨x, hxx⟩ : ∃ x, E[k]? = some x := ⟨_, List.getElem?_eq_getElem (by rw [← hn.out]; exact hlt)⟩
      obtain ⟨g, rfl⟩ := HE.out.shape (by have := hn.out; omega)
      have hE2 := HE.out.keeps hK (by simp)
      have q0 : wr.cell? ⟨g, k * 5, none⟩ = some (.bool x.live) := hE2.cell hxx 0 (by omega)
      have q1 : wr.cell? ⟨g, k * 5 + 1, none⟩ = some (.int .i64 x.hash) := hE2.cell hxx 1 (by omega)
      have q2 : wr.cell? ⟨g, k * 5 + 2, none⟩ = some (.int .i64 x.key) := hE2.cell hxx 2 (by omega)
      have q3 : wr.cell? ⟨g, k * 5 + 3, none⟩ = some (.int .i64 x.val) := hE2.cell hxx 3 (by omega)
      have q4 : wr.cell? ⟨g, k * 5 + 4, none⟩ = some (.int .i64 x.birth) := hE2.cell hxx 4 (by omega)
      have HX := Lib.hid hxx
      cases hlv : x.live
      · rw [hlv] at q0
        clear hR hK hE2 hxx
        go_wp2_with fail
        go_roundw
        case rel =>
          refine ⟨k + 1, b, cc, by omega, by go_num, ?_, ?_, HK.out.alloc _⟩
          · rw [numL_succ HX.out, hlv]; simp
          · rw [numL_succ HX.out, hlv]; simpa using HR.out.keeps ((Keeps.refl [] wr).alloc _) (by simp)
        case measure => simp [intOf]; omega
      · rw [hlv] at q0
        have k2 : Keeps [] wr ((wr.alloc (.cells #[.bool true, .int .i64 x.hash, .int .i64 x.key, .int .i64 x.val, .int .i64 x.birth] 36)).alloc (.cells #[.int .i64 (k : Nat), .bool true, .int .i64 x.hash, .int .i64 x.key, .int .i64 x.val, .int .i64 x.birth] 132)) := ((Keeps.refl [] wr).alloc _).alloc _
        obtain ⟨g2, cap, w3, hrun, r1, r2, r3, r4⟩ := num_append w.heap.size b cc (numL (E.take k) 0) (k, x) _ (wr.heap.size + 1) (hR.keeps k2 (by simp)) (by simp only [hlv]; exact has_new' _ _ (by simp)) (by have := numL_len (E.take k) 0; have := liveN_le (E.take k); simp at *; omega) (by have := hK.size; have := k2.size; omega)
        have R3 := Lib.hid r1
        have K3 := Lib.hid ((hK.trans k2).then r2 (by intro y hy; exact .inl (hR.blk_lt y hy).1))
        have q5 := hlv
        have HRun := Lib.hid hrun
        clear hR hK hE2 hxx k2 r1 r2 r3 r4 hlv hrun
        go_wp2_with (at_builtin; refine wpList_append_run rfl _ _ 128 rfl _ _ rfl rfl _ _ HRun.out ?_)
        go_roundw
        case rel =>
          refine ⟨k + 1, some ⟨g2, 0, none⟩, cap, by omega, by go_num, ?_, ?_, K3.out⟩
          · rw [numL_succ HX.out, q5]; simp
          · rw [numL_succ HX.out, q5]; exact R3.out
        case measure => simp [intOf]; omega
    · obtain rfl : k = n := by omega
      have hge : ¬ (k : Int) < (k : Int) := by omega
      have hall : numL (E.take k) 0 = numL E 0 := by rw [hn.out, List.take_length]
      have hlen := numL_len E 0
      have HR2 : Hid (NumRow w.heap.size b cc (numL E 0) wr) := Lib.hid (by rw [← hall]; exact HR.out)
      rw [hall, hlen]
      clear hR hK HR
      go_wp2_with fail
      go_ret
      exact ⟨b, cc, rfl, HR2.out, HK.out⟩
def SeqP (f : FuncId) (E : List Ent) (w : World) (r : Ending) (w' : World) : Prop :=
  ∃ b a c, r = .returned (.func (.func f) #[] #[.pointer (some ⟨b, 0, none⟩)]) ∧ w'.heap[b]? = some (.cells #[.slice a (liveN E) c] 128 (0, 0)) ∧ NumRow w.heap.size a c (numL E 0) w' ∧ w.heap.size ≤ b ∧ Keeps [] w w'
theorem all_gen (t lo : Nat) (a0 : Option Addr) (c0 : Nat) (E : List Ent) (w : World) (e1 : w.cell? ⟨t, 1, none⟩ = some (.slice a0 E.length c0)) (e3 : w.cell? ⟨t, 3, none⟩ = some (.int .i64 (liveN E : Nat))) (h2 : EntRow lo a0 c0 E w) (hE1 : E.length ≤ 1000000) :
    Calls Try.prog 44 #[.pointer (some ⟨t, 0, none⟩)] w (SeqP 82 E w) := by
  have HH := Lib.hid (And.intro e1 (And.intro e3 h2))
  clear e1 e3 h2
  go_enter Try.func44, Try.ntmps44
  go_wp2_with fail
  refine (lived_gen t lo a0 c0 E _ HH.out.1 HH.out.2.1 HH.out.2.2 hE1).mono ?_
  rintro r w1 ⟨a, c, rfl, r1, k1⟩
  have R1 := Lib.hid r1
  have K1 := Lib.hid k1
  clear r1 k1
  go_wp2_with fail
  go_ret
  exact ⟨w1.heap.size, a, c, rfl, has_new _ _, R1.out.keeps ((Keeps.refl [] w1).alloc _) (by simp), K1.out.size, K1.out.alloc _⟩
theorem back_gen (t lo : Nat) (a0 : Option Addr) (c0 : Nat) (E : List Ent) (w : World) (e1 : w.cell? ⟨t, 1, none⟩ = some (.slice a0 E.length c0)) (e3 : w.cell? ⟨t, 3, none⟩ = some (.int .i64 (liveN E : Nat))) (h2 : EntRow lo a0 c0 E w) (hE1 : E.length ≤ 1000000) :
    Calls Try.prog 62 #[.pointer (some ⟨t, 0, none⟩)] w (SeqP 87 E w) := by
  have HH := Lib.hid (And.intro e1 (And.intro e3 h2))
  clear e1 e3 h2
  go_enter Try.func62, Try.ntmps62
  go_wp2_with fail
  refine (lived_gen t lo a0 c0 E _ HH.out.1 HH.out.2.1 HH.out.2.2 hE1).mono ?_
  rintro r w1 ⟨a, c, rfl, r1, k1⟩
  have R1 := Lib.hid r1
  have K1 := Lib.hid k1
  clear r1 k1
  go_wp2_with fail
  go_ret
  exact ⟨w1.heap.size, a, c, rfl, has_new _ _, R1.out.keeps ((Keeps.refl [] w1).alloc _) (by simp), K1.out.size, K1.out.alloc _⟩
theorem lived_any (t lo : Nat) (S : List Nat) (m : Value) (E : List Ent) (V : Nat → Int) (L bi ma tu : Nat) (w : World) (H : TabC t lo S m E V L (liveN E) bi ma tu w) (hE1 : E.length ≤ 1000000) :
    Calls Try.prog 81 #[.pointer (some ⟨t, 0, none⟩)] w (LivedP E w) := by
  obtain ⟨a, c, cb, cr, h1, h2, _⟩ := H
  exact lived_gen t lo a c E w (cell_has h1 (i := 1) rfl) (cell_has h1 (i := 3) rfl) h2 hE1
theorem all_any (t lo : Nat) (S : List Nat) (m : Value) (E : List Ent) (V : Nat → Int) (L bi ma tu : Nat) (w : World) (H : TabC t lo S m E V L (liveN E) bi ma tu w) (hE1 : E.length ≤ 1000000) :
    Calls Try.prog 44 #[.pointer (some ⟨t, 0, none⟩)] w (SeqP 82 E w) := by
  obtain ⟨a, c, cb, cr, h1, h2, _⟩ := H
  exact all_gen t lo a c E w (cell_has h1 (i := 1) rfl) (cell_has h1 (i := 3) rfl) h2 hE1
theorem back_any (t lo : Nat) (S : List Nat) (m : Value) (E : List Ent) (V : Nat → Int) (L bi ma tu : Nat) (w : World) (H : TabC t lo S m E V L (liveN E) bi ma tu w) (hE1 : E.length ≤ 1000000) :
    Calls Try.prog 62 #[.pointer (some ⟨t, 0, none⟩)] w (SeqP 87 E w) := by
  obtain ⟨a, c, cb, cr, h1, h2, _⟩ := H
  exact back_gen t lo a c E w (cell_has h1 (i := 1) rfl) (cell_has h1 (i := 3) rfl) h2 hE1
end Go.Proofs.Ytcakdmapnmneoaa
end

section
namespace Go.Proofs.Ytcakdmapnmneoaa
open Go.RowKit Go.Shelf
set_option linter.unusedVariables false
attribute [local go_sem] Oper.semAt_some

theorem enters_tall : ∀ args w, (callFunc 82 args).run Try.prog w = .ok (.enter 82 args) w := entersF_of Try.func82 (by kernel_rfl) (by kernel_rfl)
theorem enters_tback : ∀ args w, (callFunc 87 args).run Try.prog w = .ok (.enter 87 args) w := entersF_of Try.func87 (by kernel_rfl) (by kernel_rfl)
/-- What an iterator of entries leans on. -/
def NuPriv (b lo : Nat) (a : Option Addr) (c : Nat) (N : List (Nat × Ent)) (W : World) : Prop := W.heap[b]? = some (.cells #[.slice a N.length c] 128 (0, 0)) ∧ NumRow lo a c N W
theorem NuPriv.keeps {b lo c : Nat} {a : Option Addr} {N : List (Nat × Ent)} {W W' : World} {S : List Nat} (h : NuPriv b lo a c N W) (k : Keeps S W W') (hb : b ∉ S) (ha : ∀ x, x ∈ blk a → x ∉ S) : NuPriv b lo a c N W' :=
  ⟨k.has h.1 hb, h.2.keeps k ha⟩
def encN (N : List (Nat × Ent)) (k : Nat) : Array Value := #[.int .i64 (N.getD k (0, noE)).1, (N.getD k (0, noE)).2.agg]
theorem nuget {N : List (Nat × Ent)} {k : Nat} (h : k < N.length) : N[k]? = some (N.getD k (0, noE)) := by simp [List.getD, List.getElem?_eq_getElem h]
theorem NumRow.six {lo g c : Nat} {N : List (Nat × Ent)} {W : World} (h : NumRow lo (some ⟨g, 0, none⟩) c N W) {k : Nat} {p : Nat × Ent} (hp : N[k]? = some p) :
    W.cell? ⟨g, k * 6, none⟩ = some (.int .i64 p.1) ∧ W.cell? ⟨g, k * 6 + 1, none⟩ = some (.bool p.2.live) ∧ W.cell? ⟨g, k * 6 + 2, none⟩ = some (.int .i64 p.2.hash) ∧ W.cell? ⟨g, k * 6 + 3, none⟩ = some (.int .i64 p.2.key) ∧ W.cell? ⟨g, k * 6 + 4, none⟩ = some (.int .i64 p.2.val) ∧ W.cell? ⟨g, k * 6 + 5, none⟩ = some (.int .i64 p.2.birth) :=
  ⟨h.cell hp 0 (by omega), h.cell hp 1 (by omega), h.cell hp 2 (by omega), h.cell hp 3 (by omega), h.cell hp 4 (by omega), h.cell hp 5 (by omega)⟩
set_option maxRecDepth 100000 in
set_option maxHeartbeats 2000000 in
theorem nuIter (b lo : Nat) (a : Option Addr) (c : Nat) (N : List (Nat × Ent)) (hN : N.length ≤ 1000000) :
    IterN Try.prog 82 #[.pointer (some ⟨b, 0, none⟩)] N.length (encN N) (NuPriv b lo a c N) := by
  intro l J Jx W hJ hJx hP hY h0
  have HJ := Lib.hid hJ
  have HP := Lib.hid hP
  have HY := Lib.hid hY
  have H0 := Lib.hid h0
  have p2 := (hP 0 W h0).2
  have c0 : W.cell? ⟨b, 0, none⟩ = some (.slice a N.length c) := cell_has (hP 0 W h0).1 (i := 0) rfl
  obtain ⟨n, hn⟩ := ex_hid N.length
  rw [← hn.out] at c0 hN ⊢
  have hsh : 0 < n → ∃ g, a = some ⟨g, 0, none⟩ := fun h => p2.shape (by rw [← hn.out]; exact h)
  have HSH := Lib.hid hsh
  clear hJ hJx hP hY h0 p2 hsh
  refine callsIn_of_wp Try.func82 rfl trivial ?_ rfl
  simp only [Try.ntmps82, List.size_toArray, List.length_cons, List.length_nil, Nat.reduceAdd, Nat.reduceSub, Array.replicate_succ, Array.replicate_zero, List.push_toArray, List.append_toArray, List.nil_append, List.cons_append]
  gi_wp2
  gi_loopw [7] (fun i wr => ∃ k : Nat, k ≤ n ∧ i = .int .i64 k ∧ J k wr) (fun i _ => n - (intOf i).toNat)
  case atStart => exact ⟨0, by omega, rfl, H0.out⟩
  case round =>
    obtain ⟨k, hk, rfl, hj⟩ := hrel
    have k0 : (0 : Int) ≤ (k : Int) := by omega
    by_cases hlt : k < n
    · have hlt' : (k : Int) < (n : Int) := by omega
      obtain ⟨g, rfl⟩ := HSH.out (by omega)
      have hlN : k < N.length := by rw [← hn.out]; exact hlt
      obtain ⟨q0, q1, q2, q3, q4, q5⟩ := (HP.out k wr hj).2.six (nuget hlN)
      have J2 := HJ.out k wr _ hj ((Keeps.refl [] wr).alloc (.cells #[.int .i64 (N.getD k (0, noE)).1, .bool (N.getD k (0, noE)).2.live, .int .i64 (N.getD k (0, noE)).2.hash, .int .i64 (N.getD k (0, noE)).2.key, .int .i64 (N.getD k (0, noE)).2.val, .int .i64 (N.getD k (0, noE)).2.birth] 132))
      obtain ⟨fn, tmps, assign, body, hy, hR⟩ := HY.out k _ hlN J2
      simp only [encN, Ent.agg] at hy
      generalize N.getD k (0, noE) = p at *
      obtain ⟨x0, x1, x2, x3, x4, x5⟩ := p
      simp only at q0 q1 q2 q3 q4 q5 hy
      clear hj J2
      gi_wp2
      refine hR.mono ?_
      rintro e W3 (⟨rfl, hJ3⟩ | ⟨rfl, hJx3⟩)
      · gi_wp2
        go_roundw
        case rel => exact ⟨k + 1, by omega, by go_num, hJ3⟩
        case measure => simp [intOf]; omega
      · gi_wp2
        refine bodyPost_ret (results_none rfl _ _ _) rfl ?_
        exact ⟨⟨_, rfl⟩, .inr ⟨k, hlt, hJx3⟩⟩
    · obtain rfl : k = n := by omega
      have hge : ¬ (k : Int) < (k : Int) := by omega
      gi_wp2
      go_end0
      exact ⟨⟨_, rfl⟩, .inl hj⟩
end Go.Proofs.Ytcakdmapnmneoaa
end

section
namespace Go.Proofs.Ytcakdmapnmneoaa
open Go.RowKit Go.Shelf
set_option linter.unusedVariables false
attribute [local go_sem] Oper.semAt_some

def sightAgg (T : Tab) (c e : Value) : Value := .agg #[.int .i64 T.L, .int .i64 (wdOf T.L), c, e, .int .i64 (liveN T.E : Nat), .int .i64 T.births, .int .i64 T.made]
def sightO (T : Tab) (c e : Value) : Obj := .cells #[.int .i64 T.L, .int .i64 (wdOf T.L), c, e, .int .i64 (liveN T.E : Nat), .int .i64 T.births, .int .i64 T.made] 43 (0, 0)
theorem sight_store {W : World} {b : Nat} (T : Tab) (c e : Value) (h : W.heap[b]? = some (.cells #[.int .i64 0, .int .i64 0, .slice none 0 0, .slice none 0 0, .int .i64 0, .int .i64 0, .int .i64 0] 43 (0, 0))) :
    (((((((W.setCell ⟨b, 0, none⟩ (.int .i64 T.L)).setCell ⟨b, 1, none⟩ (.int .i64 (wdOf T.L))).setCell ⟨b, 2, none⟩ c).setCell ⟨b, 3, none⟩ e).setCell ⟨b, 4, none⟩ (.int .i64 (liveN T.E : Nat))).setCell ⟨b, 5, none⟩ (.int .i64 T.births)).setCell ⟨b, 6, none⟩ (.int .i64 T.made)).heap[b]? = some (sightO T c e) := by
  have h0 := has_setCell h 0 (.int .i64 T.L)
  simp only [List.setIfInBounds_toArray, List.set_cons_zero] at h0
  have h1 := has_setCell h0 1 (.int .i64 (wdOf T.L))
  simp only [List.setIfInBounds_toArray, List.set_cons_zero, List.set_cons_succ] at h1
  have h2 := has_setCell h1 2 c
  simp only [List.setIfInBounds_toArray, List.set_cons_zero, List.set_cons_succ] at h2
  have h3 := has_setCell h2 3 e
  simp only [List.setIfInBounds_toArray, List.set_cons_zero, List.set_cons_succ] at h3
  have h4 := has_setCell h3 4 (.int .i64 (liveN T.E : Nat))
  simp only [List.setIfInBounds_toArray, List.set_cons_zero, List.set_cons_succ] at h4
  have h5 := has_setCell h4 5 (.int .i64 T.births)
  simp only [List.setIfInBounds_toArray, List.set_cons_zero, List.set_cons_succ] at h5
  have h6 := has_setCell h5 6 (.int .i64 T.made)
  simp only [List.setIfInBounds_toArray, List.set_cons_zero, List.set_cons_succ] at h6
  exact h6
theorem ent_copy (lo lo2 cc : Nat) (a : Option Addr) (E : List Ent) (W : World) (h : EntRow lo a cc E W) (hl : E.length ≤ 1000000) (hlo : lo2 ≤ W.heap.size) :
    ∃ ae ce W3, (Builtin.append_ #[33, 33] 33 #[.slice none 0 0, .slice a E.length cc]).run Try.prog W = .ok (.slice ae E.length ce) W3 ∧ EntRow lo2 ae ce E W3 ∧ Keeps [] W W3 := by
  obtain ⟨j0, hi, hz0, hz1, hz2⟩ := info_parts infoEnt5
  cases E with
  | nil =>
    refine ⟨none, 0, W, ?_, EntRow.nil _ _, Keeps.refl _ _⟩
    cases a with
    | none => simp [Builtin.append_, run_underlying Try.underlying33, sizeOf, typeInfo, hi, Builtin.lenOf, Builtin.firstCells]
    | some p =>
      have hl0 := run_loadCells_list (P := Try.prog) W p [] (fun j v hv => by simp at hv)
      simp only [List.length_nil] at hl0
      simp [Builtin.append_, run_underlying Try.underlying33, sizeOf, typeInfo, hi, Builtin.lenOf, Builtin.firstCells, hl0]
  | cons x E =>
    obtain ⟨g, rfl⟩ := h.shape (by simp)
    obtain ⟨g', cap, w', r1, r2, r3, r4, r5⟩ := run_append_lies (P := Try.prog) W 33 33 lo2 36 j0 noE.agg 5 40 Try.underlying33 hi hz0 hz1 hz2 rfl (by decide) (.slice none 0 0) 0 [] (World.ownsRow_nil _ _ _ _) ⟨g, 0, none⟩ (x :: E).length cc (flatE (x :: E)) (flatE_len _)
      (fun j u hj => by
        have hlt := (List.getElem?_eq_some_iff.1 hj).1
        rw [flatE_len] at hlt
        rw [show (⟨g, 0, none⟩ : Addr).add j = ⟨g, j, none⟩ by unfold Addr.add; split <;> simp_all, World.ownsRow.cellAt h j hlt]
        exact hj) (by intro v hv; simp only [flatE, List.mem_flatMap] at hv; obtain ⟨y, _, hy⟩ := hv; exact y.one v hy) (by simp) (by unfold maxLen; omega) (by omega) hlo _ rfl
    simp only [Nat.zero_add, List.nil_append] at r1 r2
    exact ⟨some ⟨g', 0, none⟩, cap, w', r1, r2, ⟨r3.os, r3.tape, r3.output, r3.size, fun k hk _ => r3.block k hk (by simp [Value.ownBlock])⟩⟩
/-- A sight's rows. -/
def SightP (T : Tab) (w : World) (r : Ending) (w' : World) : Prop :=
  ∃ a c ae ce, r = .returned (sightAgg T (.slice a (2 ^ T.L) c) (.slice ae T.E.length ce)) ∧ ValRow 3 w.heap.size a (2 ^ T.L) c (fun k => .int .i64 (T.V k)) w' ∧ EntRow w.heap.size ae ce T.E w' ∧ Below w.heap.size w w'
def SightG (t lo : Nat) (S Q : List Nat) (m : Value) (T : Tab) (w : World) (r : Ending) (w' : World) : Prop :=
  ∃ a c ae ce S', r = .returned (sightAgg T (.slice a (2 ^ T.L) c) (.slice ae T.E.length ce)) ∧ ValRow 3 w.heap.size a (2 ^ T.L) c (fun k => .int .i64 (T.V k)) w' ∧ EntRow w.heap.size ae ce T.E w' ∧ Keeps Q w w' ∧ TabAt t lo S' m T w' ∧ Grew S w S'

set_option maxRecDepth 100000 in
set_option maxHeartbeats 4000000 in
theorem sight_gen (t lo : Nat) (S Q : List Nat) (m : Value) (T : Tab) (w : World) (hB : Calls Try.prog 74 #[.pointer (some ⟨t, 0, none⟩)] (w.alloc (.cells #[.int .i64 0, .int .i64 0, .slice none 0 0, .slice none 0 0, .int .i64 0, .int .i64 0, .int .i64 0] 43)) (BegP t lo S Q m T (w.alloc (.cells #[.int .i64 0, .int .i64 0, .slice none 0 0, .slice none 0 0, .int .i64 0, .int .i64 0, .int .i64 0] 43)))) (hQ : ∀ x, x ∈ Q → x ∈ S) (hS : ∀ x, x ∈ S → x < w.heap.size) (hL : T.L ≤ 20) (hF : Fits (2 ^ T.L) T.V) (hl : T.E.length ≤ 1000000) :
    Calls Try.prog 47 #[.pointer (some ⟨t, 0, none⟩)] w (SightG t lo S Q m T w) := by
  have HB := Lib.hid hB
  have HF := Lib.hid hF
  clear hF hB
  refine calls_of_wp_ranges Try.func47 rfl ?_
  simp only [Try.ntmps47, List.size_toArray, List.length_cons, List.length_nil, Nat.reduceAdd, Nat.reduceSub, Array.replicate_succ, Array.replicate_zero, List.push_toArray, List.append_toArray, List.nil_append, List.cons_append]
  go_wp2_with fail
  refine HB.out.mono ?_
  rintro r WA ⟨rfl, S1, t1, k1, g1⟩
  have T1 := Lib.hid t1
  obtain ⟨a, cc, cb, cr, h1, h2, h3, h4, h5, h6, h7, h8⟩ := t1
  have H1 := Lib.hid h1
  have H2 := Lib.hid h2
  have H3 := Lib.hid h3
  have nQ : w.heap.size ∉ Q := fun hx => by have := hS _ (hQ _ hx); omega
  have bA : WA.heap[w.heap.size]? = some (.cells #[.int .i64 0, .int .i64 0, .slice none 0 0, .slice none 0 0, .int .i64 0, .int .i64 0, .int .i64 0] 43 (0, 0)) := k1.has (has_new _ _) nQ
  have zA : w.heap.size < WA.heap.size := lt_of_block bA
  have hT := h1
  have e2 : WA.cell? ⟨t, 2, none⟩ = some (.pointer (some ⟨cb, 0, none⟩)) := cell_has hT (i := 2) rfl
  have e3 : WA.cell? ⟨t, 3, none⟩ = some (.int .i64 (liveN T.E : Nat)) := cell_has hT (i := 3) rfl
  have e4 : WA.cell? ⟨t, 4, none⟩ = some (.int .i64 T.births) := cell_has hT (i := 4) rfl
  have e5 : WA.cell? ⟨t, 5, none⟩ = some (.int .i64 T.made) := cell_has hT (i := 5) rfl
  have KA0 := Lib.hid (((Keeps.refl Q w).alloc _).trans k1)
  have KA := Lib.hid (Keeps.refl [] WA)
  have BA := Lib.hid bA
  have HC := Lib.hid h3
  have zk := k1.size
  simp only [World.size_alloc] at zk
  have GA := Lib.hid (show Grew S w S1 ∧ w.heap.size ∉ S1 from ⟨fun x hx => by
    rcases g1 x hx with q | q
    · exact .inl q
    · exact .inr (by simp at q; omega), fun hx => by
    rcases g1 _ hx with q | q
    · have := hS _ q; omega
    · simp at q; omega⟩)
  have nt0 := lt_of_block H1.out
  have nt1 : ¬ WA.heap.size = t := by omega
  have nt2 : ¬ t = WA.heap.size := by omega
  have n2 := World.new_ne WA ⟨t, 2, none⟩ e2
  have n3 := World.new_ne WA ⟨t, 3, none⟩ e3
  have n4 := World.new_ne WA ⟨t, 4, none⟩ e4
  have n5 := World.new_ne WA ⟨t, 5, none⟩ e5
  obtain ⟨WB, hWB⟩ : ∃ WB, WA.alloc (.cells #[.int .i64 0, .int .i64 0, .slice none 0 0, .slice none 0 0, .int .i64 0, .int .i64 0, .int .i64 0] 43) = WB := ⟨_, rfl⟩
  have kB : Keeps [] WA WB := by rw [← hWB]; exact (Keeps.refl [] WA).alloc _
  have bB : WB.heap[WA.heap.size]? = some (.cells #[.int .i64 0, .int .i64 0, .slice none 0 0, .slice none 0 0, .int .i64 0, .int .i64 0, .int .i64 0] 43 (0, 0)) := by rw [← hWB]; exact has_new _ _
  have KB := Lib.hid kB
  have HWB := Lib.hid hWB
  have BB := Lib.hid bB
  have HCB := Lib.hid (HC.out.keeps kB (by simp) (by simp))
  have DB : WB.drew = (WA.alloc (.cells #[.int .i64 0, .int .i64 0, .slice none 0 0, .slice none 0 0, .int .i64 0, .int .i64 0, .int .i64 0] 43)).drew := by rw [hWB]
  have DBH := Lib.hid DB
  clear bA hT kB bB hWB DB k1 g1 h1 h2 h3 h4 h5 h6 h7 h8 nQ hQ hS
  go_wp2_with fail
  go_cut [3] from 11 to 33 (fun z3 wx => ∃ D, z3 = .pointer (some ⟨D, 0, none⟩) ∧ wx.heap[D]? = some (sightO T (.slice none 0 0) (.slice none 0 0)) ∧ Keeps [] WA wx ∧ WA.heap.size ≤ D)
  case first =>
    go_region_held3 (fun w' => w'.cell? ⟨t, 2, none⟩ = some (.pointer (some ⟨cb, 0, none⟩)) ∧ w'.cell? ⟨t, 3, none⟩ = some (.int .i64 (liveN T.E : Nat)) ∧ w'.cell? ⟨t, 4, none⟩ = some (.int .i64 T.births) ∧ w'.cell? ⟨t, 5, none⟩ = some (.int .i64 T.made)) (go_keep)
      (first
        | (go_at_call 76; refine (log_any cb cr T.L (2 ^ T.L) T.V _ (HC.out.keeps ((Keeps.refl [] WA).drew) (by simp) (by simp))).mono ?_; rintro r w1 ⟨rfl, rfl⟩)
        | (go_at_call 76; refine (log_any cb cr T.L (2 ^ T.L) T.V _ (HC.out.keeps (((Keeps.refl [] WA).alloc _).drew) (by simp) (by simp))).mono ?_; rintro r w1 ⟨rfl, rfl⟩)
        | (go_at_call 83; refine (width_any cb cr T.L (2 ^ T.L) T.V WA.drew (HC.out.keeps ((Keeps.refl [] WA).drew) (by simp) (by simp))).mono ?_; rintro r w1 ⟨rfl, b1⟩; have k1 := Below.keeps b1 []; have p2 := k1.cell (w := WA.drew) e2 (by simp); have p3 := k1.cell (w := WA.drew) e3 (by simp); have p4 := k1.cell (w := WA.drew) e4 (by simp); have p5 := k1.cell (w := WA.drew) e5 (by simp); have K1 := Lib.hid (((Keeps.refl [] WA).drew).trans k1); have n2 := World.new_ne w1 ⟨t, 2, none⟩ p2; have n3 := World.new_ne w1 ⟨t, 3, none⟩ p3; have n4 := World.new_ne w1 ⟨t, 4, none⟩ p4; have n5 := World.new_ne w1 ⟨t, 5, none⟩ p5; clear b1 k1)
        | (go_at_call 83; rw [← DBH.out]; refine (width_any cb cr T.L (2 ^ T.L) T.V _ (HCB.out.keeps (Keeps.refl [] WB).drew (by simp) (by simp))).mono ?_; rintro r w1 ⟨rfl, b1⟩; have k1 := Below.keeps b1 []; have p2 := k1.cell (w := WB.drew) (KB.out.cell e2 (by simp)) (by simp); have p3 := k1.cell (w := WB.drew) (KB.out.cell e3 (by simp)) (by simp); have p4 := k1.cell (w := WB.drew) (KB.out.cell e4 (by simp)) (by simp); have p5 := k1.cell (w := WB.drew) (KB.out.cell e5 (by simp)) (by simp); have pb := k1.has (has_drew BB.out) (by simp); have K1 := Lib.hid (KB.out.drew.trans k1); have u0 := cell_has pb (i := 0) rfl; have u1 := cell_has pb (i := 1) rfl; have u2 := cell_has pb (i := 2) rfl; have u3 := cell_has pb (i := 3) rfl; have u4 := cell_has pb (i := 4) rfl; have u5 := cell_has pb (i := 5) rfl; have u6 := cell_has pb (i := 6) rfl; have v0 := free_of_has pb 0; have v1 := free_of_has pb 1; have v2 := free_of_has pb 2; have v3 := free_of_has pb 3; have v4 := free_of_has pb 4; have v5 := free_of_has pb 5; have v6 := free_of_has pb 6; have PB := Lib.hid pb; clear b1 k1 pb))
    all_goals go_wp2_with fail
    all_goals go_meet
    · refine ⟨w1.heap.size, rfl, ?_, K1.out.alloc _, K1.out.size⟩
      exact has_new w1 _
    all_goals
      refine ⟨WA.heap.size, rfl, sight_store T _ _ PB.out, ?_, Nat.le_refl _⟩
      exact ((((((K1.out.setCell (.inl (by simp)) _).setCell (.inl (by simp)) _).setCell (.inl (by simp)) _).setCell (.inl (by simp)) _).setCell (.inl (by simp)) _).setCell (.inl (by simp)) _).setCell (.inl (by simp)) _
  case rest =>
    obtain ⟨D, rfl, hD, kC, zD⟩ := hcut
    have KC := Lib.hid (KA.out.trans kC)
    have HD := Lib.hid hD
    have x2 := kC.cell e2 (by simp)
    have BA2 := Lib.hid (kC.has BA.out (by simp))
    clear hD kC e2 e3 e4 e5 n2 n3 n4 n5 nt0 nt1 nt2
    go_wp2_with fail
    refine (allc_any cb cr T.L (2 ^ T.L) T.V _ (H3.out.keeps KC.out (by simp) (by simp)) HF.out (pow_le hL)).mono ?_
    rintro r w2 ⟨bl, gl, rfl, hbl, hgl, zb, zg, b2⟩
    have k2 := Below.keeps b2 []
    have hD2 := k2.has HD.out (by simp)
    have HD2 := Lib.hid hD2
    have K2 := Lib.hid (KC.out.trans k2)
    have BA3 := Lib.hid (k2.has BA2.out (by simp))
    have PL := Lib.hid (And.intro hbl hgl)
    have ZZ := Lib.hid (show (w.heap.size + 1 ≤ WA.heap.size ∧ WA.heap.size ≤ D) ∧ D < wc.heap.size ∧ wc.heap.size ≤ w2.heap.size ∧ bl < w2.heap.size ∧ gl < w2.heap.size from ⟨⟨by omega, by omega⟩, lt_of_block HD.out, k2.size, lt_of_block hbl, lt_of_block hgl⟩)
    clear hbl hgl k2 b2 hD2 x2
    go_wp2_with fail
    refine wp_rangeN (gf := 103) (lb := #[.pointer (some ⟨bl, 0, none⟩)]) rfl enters_cells (ceIter bl gl (2 ^ T.L) T.V (pow_le hL)) (fun _ => rfl)
      (fun i W => ∃ a c, W.heap[D]? = some (sightO T (.slice a i c) (.slice none 0 0)) ∧ ValRow 3 (w2.heap.size + 2) a i c (fun k => .int .i64 (T.V k)) W ∧ Keeps [D] w2 W) (fun _ _ _ => False)
      (fun i A B h k => by
        obtain ⟨a, c, q1, q2, q3⟩ := h
        have z := ZZ.out
        exact ⟨a, c, k.has q1 (by simp <;> omega), q2.keeps k (fun x hx => by have := (q2.blk_lt x hx).1; simp; omega), q3.then k (by intro y hy; simp at hy; left; omega)⟩)
      (fun _ _ _ _ h _ => h) ?priv ⟨none, 0, HD2.out, ValRow.nil _ _ _ _, Keeps.refl _ _⟩ ?round ?done ?stop
    case priv =>
      intro i A h
      obtain ⟨a, c, q1, q2, q3⟩ := h
      have z := ZZ.out
      exact ⟨q3.cell (cell_has PL.out.1 (i := 0) rfl) (by simp; omega), q3.has PL.out.2 (by simp; omega)⟩
    case stop => intro c i W _ h; exact h.elim
    case round =>
      intro l i W K hi hW hsz hK
      gi_wp2
      refine hK _ _ (fun _ => True) (fun _ _ h _ => h) trivial (Keeps.refl _ _) ?_
      clear hK hW hsz
      intro W hW _ hsz
      obtain ⟨a1, c1, q1, q2, q3⟩ := hW
      have hc1 := q2.cap_le
      have hi1 : i ≤ 1048576 := by have := pow_le hL; omega
      have y2 : W.cell? ⟨D, 2, none⟩ = some (.slice a1 i c1) := cell_has q1 (i := 2) rfl
      have f2 := free_of_has q1 2
      have Q1 := Lib.hid q1
      have Q2 := Lib.hid q2
      have Q3 := Lib.hid q3
      have zD2 := ZZ.out
      have g1 : i + 1 ≤ maxLen := by unfold maxLen; omega
      have g2 : (i + 1) * 8 ≤ 140737488355328 := by omega
      have GG := Lib.hid (And.intro g1 g2)
      have hDb : D ∉ blk a1 := fun hx => by have := (q2.blk_lt D hx).1; omega
      have HDb := Lib.hid hDb
      obtain ⟨j0, hj, hz0, hz1, hz2⟩ := info_parts info64
      have HJ := Lib.hid (And.intro hj (And.intro hz0 (And.intro hz1 hz2)))
      clear q1 q2 q3 g1 g2 hj hz0 hz1 hz2 hDb
      gi_wp2_with (gi_at_builtin; go_must (refine wpListIn_append_lies _ rfl _ _ 22 rfl (w2.heap.size + 2) 3 j0 (.int .i64 0) 1 8 Try.underlying22 HJ.out.1 HJ.out.2.1 HJ.out.2.2.1 HJ.out.2.2.2 rfl (by decide) _ i (valR i (fun k => .int .i64 (T.V k))) rfl (Q2.out.alloc _) ⟨W.heap.size, 0, none⟩ 1 1 [_] rfl rfl (cell_one_new _ _ _) (by intro u hu; simp at hu; subst hu; rfl) (by decide) GG.out.1 GG.out.2 (by simp <;> omega) (W.heap.size + 1) (by simp) ?_); go_must (intro g cap1 w3 hown hgrow hat hlt1; have K3 : Keeps (blk a1) W w3 := (((Keeps.refl (blk a1) W).alloc _)).trans ⟨hgrow.os, hgrow.tape, hgrow.output, hgrow.size, fun k hk hn => hgrow.block k hk (fun e => hn (blk_own a1 _ _ k e.symm))⟩; have B3 := K3.has Q1.out HDb.out; have f3 := free_of_has B3 2; have y3 : w3.cell? ⟨D, 2, none⟩ = some (.slice a1 i c1) := cell_has B3 (i := 2) rfl; have z3 := lt_of_block B3; have P1 := Lib.hid K3; have P2 := Lib.hid hown; have PB := Lib.hid B3; clear hgrow hown hat K3 B3))
      have kz : Keeps [D] w3 (w3.setCell ⟨D, 2, none⟩ (.slice (some ⟨g, 0, none⟩) (i + 1) cap1)) := (Keeps.refl _ _).setCell (.inr (by simp)) _
      have row : ValRow 3 (w2.heap.size + 2) (some ⟨g, 0, none⟩) (i + 1) cap1 (fun k => .int .i64 (T.V k)) w3 := (ValRow.of_append P2.out).congr (fun k _ => by unfold putV; split <;> simp_all)
      have hgD : D ∉ blk (some (⟨g, 0, none⟩ : Addr)) := fun hx => by have := (row.blk_lt D hx).1; omega
      have hno : ∀ x, x < w2.heap.size + 2 → x ∉ blk a1 := fun x hx hy => by have := (Q2.out.blk_lt x hy).1; omega
      have hs3 := P1.out.size
      refine ⟨⟨some ⟨g, 0, none⟩, cap1, ?_, row.keeps kz (by intro x hx hx2; simp at hx2; subst hx2; exact hgD hx), ?_⟩, (kz.block _ (by omega) (by simp <;> omega)).trans (P1.out.block _ (by omega) (hno _ (by omega))), (kz.block _ (by omega) (by simp <;> omega)).trans (P1.out.block _ (by omega) (hno _ (by omega)))⟩
      · have h9 := has_setCell PB.out 2 (.slice (some ⟨g, 0, none⟩) (i + 1) cap1)
        simp only [List.setIfInBounds_toArray, List.set_cons_zero, List.set_cons_succ] at h9
        exact h9
      · exact (Q3.out.then P1.out (fun x hx => .inl (by have := (Q2.out.blk_lt x hx).1; omega))).trans kz
    case done =>
      intro W hW hDD
      obtain ⟨a1, c1, q1, q2, q3⟩ := hW
      have hT := (K2.out.then q3 (by intro x hx; simp at hx; have := ZZ.out; left; omega) : Keeps [] WA W)
      have y1 : W.cell? ⟨t, 1, none⟩ = some (.slice a T.E.length cc) := cell_has (hT.has H1.out (by simp)) (i := 1) rfl
      have y3 : W.cell? ⟨D, 3, none⟩ = some (.slice none 0 0) := cell_has q1 (i := 3) rfl
      have hE := H2.out.keeps hT (by simp)
      obtain ⟨ae, ce, W3, hrun, r1, r2⟩ := ent_copy lo w.heap.size cc a T.E W.drew (EntRow.drew hE) hl (by have := hT.size; have := ZZ.out; show w.heap.size ≤ W.heap.size; omega)
      have k3 : Keeps [] W W3 := ((Keeps.refl [] W).drew).trans r2
      have y33 := k3.cell y3 (by simp)
      have f33 : W3.frozen? ⟨D, 3, none⟩ = false := free_of_has (k3.has q1 (by simp)) 3
      obtain ⟨ml, hml⟩ := ex_hid T.E.length
      rw [← hml.out] at y1 hrun
      go_wp2_with fail
      apply wp_region_noPanic
      go_region_law (refine step_append_run (o := ⟨some 53, _, _, _, _, _⟩) rfl (.tmp 48) (.tmp 52) 33 rfl _ _ rfl rfl _ _ hrun ?_)
      all_goals refine NoPanic.normal ?_
      all_goals
        have S0 : W3.heap[D]? = some (sightO T (.slice a1 (2 ^ T.L) c1) (.slice none 0 0)) := k3.has q1 (by simp)
        have S1 := has_setCell S0 3 (.slice ae ml ce)
        simp only [List.setIfInBounds_toArray, List.set_cons_zero, List.set_cons_succ] at S1
        have kD : Keeps [D] W3 (W3.setCell ⟨D, 3, none⟩ (.slice ae ml ce)) := (Keeps.refl _ _).setCell (.inr (by simp)) _
        obtain ⟨W4, hW4⟩ : ∃ W4, W3.setCell ⟨D, 3, none⟩ (.slice ae ml ce) = W4 := ⟨_, rfl⟩
        rw [hW4] at S1 kD ⊢
        have zz := ZZ.out
        have hD4 := Lib.hid (kD.has (k3.has hDD (by simp)) (by simp; omega))
        have bx := kD.has (k3.has (q3.has BA3.out (by simp; omega)) (by simp)) (by simp; omega)
        have KF := Lib.hid ((hT.trans k3).then (S := []) (k := kD) (by intro x hx; simp at hx; left; omega))
        have RW := Lib.hid (And.intro ((q2.keeps k3 (by simp)).keeps kD (by intro x hx hx2; simp at hx2; subst hx2; have := (q2.blk_lt x hx).1; omega)) (r1.keeps kD (by intro x hx hx2; simp at hx2; subst hx2; have h9 := r1.notin S0 (by decide); exact h9 hx)))
        have d0 : W4.cell? ⟨D, 0, none⟩ = some (.int .i64 T.L) := cell_has S1 (i := 0) rfl
        have d1 : W4.cell? ⟨D, 1, none⟩ = some (.int .i64 (wdOf T.L)) := cell_has S1 (i := 1) rfl
        have d2 : W4.cell? ⟨D, 2, none⟩ = some (.slice a1 (2 ^ T.L) c1) := cell_has S1 (i := 2) rfl
        have d3 : W4.cell? ⟨D, 3, none⟩ = some (.slice ae ml ce) := cell_has S1 (i := 3) rfl
        have d4 : W4.cell? ⟨D, 4, none⟩ = some (.int .i64 (liveN T.E : Nat)) := cell_has S1 (i := 4) rfl
        have d5 : W4.cell? ⟨D, 5, none⟩ = some (.int .i64 T.births) := cell_has S1 (i := 5) rfl
        have d6 : W4.cell? ⟨D, 6, none⟩ = some (.int .i64 T.made) := cell_has S1 (i := 6) rfl
        have b0 := cell_has bx (i := 0) rfl
        have b1 := cell_has bx (i := 1) rfl
        have b2 := cell_has bx (i := 2) rfl
        have b3 := cell_has bx (i := 3) rfl
        have b4 := cell_has bx (i := 4) rfl
        have b5 := cell_has bx (i := 5) rfl
        have b6 := cell_has bx (i := 6) rfl
        have w0 := free_of_has bx 0
        have w1 := free_of_has bx 1
        have w2' := free_of_has bx 2
        have w3 := free_of_has bx 3
        have w4 := free_of_has bx 4
        have w5 := free_of_has bx 5
        have w6 := free_of_has bx 6
        have BX := Lib.hid bx
        clear S0 S1 kD hW4 bx q1 q2 q3 r1 r2 k3 hT hE hDD hrun y1 y3 y33 f33
        go_wp2_with fail
        have bF := sight_store T (.slice a1 (2 ^ T.L) c1) (.slice ae ml ce) BX.out
        have kF : Keeps [w.heap.size] W4 (((((((W4.setCell ⟨w.heap.size, 0, none⟩ (.int .i64 T.L)).setCell ⟨w.heap.size, 1, none⟩ (.int .i64 (wdOf T.L))).setCell ⟨w.heap.size, 2, none⟩ (.slice a1 (2 ^ T.L) c1)).setCell ⟨w.heap.size, 3, none⟩ (.slice ae ml ce)).setCell ⟨w.heap.size, 4, none⟩ (.int .i64 (liveN T.E : Nat))).setCell ⟨w.heap.size, 5, none⟩ (.int .i64 T.births)).setCell ⟨w.heap.size, 6, none⟩ (.int .i64 T.made)) := (((((((Keeps.refl _ _).setCell (.inr (by simp)) _).setCell (.inr (by simp)) _).setCell (.inr (by simp)) _).setCell (.inr (by simp)) _).setCell (.inr (by simp)) _).setCell (.inr (by simp)) _).setCell (.inr (by simp)) _
        obtain ⟨WF, hWF⟩ : ∃ WF, ((((((W4.setCell ⟨w.heap.size, 0, none⟩ (.int .i64 T.L)).setCell ⟨w.heap.size, 1, none⟩ (.int .i64 (wdOf T.L))).setCell ⟨w.heap.size, 2, none⟩ (.slice a1 (2 ^ T.L) c1)).setCell ⟨w.heap.size, 3, none⟩ (.slice ae ml ce)).setCell ⟨w.heap.size, 4, none⟩ (.int .i64 (liveN T.E : Nat))).setCell ⟨w.heap.size, 5, none⟩ (.int .i64 T.births)).setCell ⟨w.heap.size, 6, none⟩ (.int .i64 T.made) = WF := ⟨_, rfl⟩
        rw [hWF] at bF kF ⊢
        have hm0 : WF.heap[w2.heap.size]? = some (.deferred (some [])) := kF.has hD4.out (by simp; omega)
        have bP : (WF.putObj w2.heap.size (.deferred none)).heap[w.heap.size]? = _ := (World.putObj_heap_other (by omega)).trans bF
        have rc := cell_of_has bP
        refine (bodyPostR_end [w2.heap.size] rfl (by simpa using hm0) (by simp) (v := sightAgg T (.slice a1 (2 ^ T.L) c1) (.slice ae ml ce)) ?_ ?_).1
        · show (results _ _).run _ (WF.putObj w2.heap.size (.deferred none)) = _
          simp [results, Try.results47, go_sem, rc, sightAgg, unmark]
        · show SightG t lo S Q m T w _ (WF.putObj w2.heap.size (.deferred none))
          have kP : Keeps [w2.heap.size] WF (WF.putObj w2.heap.size (.deferred none)) := Keeps.putObj _ _ _
          have hnd : ∀ x, x ∈ blk ae → x ≠ w2.heap.size := by
            intro x hx e9
            rcases RW.out.2.2 with ⟨q, _⟩ | ⟨g1, cap, cur, u1, u2, u3, _⟩
            · simp at q; rw [q.1] at hx; simp [blk] at hx
            · simp at u1; rw [u1.1] at hx; simp [blk] at hx; rw [← hx, e9, hD4.out] at u3; simp at u3
          have kAll : Keeps [w.heap.size, w2.heap.size] WA (WF.putObj w2.heap.size (.deferred none)) := ((KF.out.mono (T := [w.heap.size, w2.heap.size]) (by simp)).trans (kF.mono (by simp))).trans (kP.mono (by simp))
          refine ⟨a1, c1, ae, ce, S1, by rw [hml.out], ?_, ?_, ?_, ?_, GA.out.1⟩
          · exact ((RW.out.1.keeps kF (fun x hx => by have := (RW.out.1.blk_lt x hx).1; simp; omega)).keeps kP (fun x hx => by have := (RW.out.1.blk_lt x hx).1; simp; omega)).mono (by omega)
          · exact (RW.out.2.keeps kF (fun x hx hx2 => by simp at hx2; subst hx2; exact RW.out.2.notin BX.out (by decide) hx)).keeps kP (fun x hx => by simpa using hnd x hx)
          · exact KA0.out.then kAll (fun x hx => by simp at hx; rcases hx with rfl | rfl <;> (left; omega))
          · exact T1.out.keeps kAll (fun x hx hx2 => by
              simp at hx2
              rcases hx2 with rfl | rfl
              · exact GA.out.2 hx
              · have := (T1.out.foot _ hx).2; omega)
theorem sight_any (t lo : Nat) (S : List Nat) (m : Value) (T : Tab) (w : World) (H : TabAt t lo S m T w) (hL : T.L ≤ 20) (hF : Fits (2 ^ T.L) T.V) (hl : T.E.length ≤ 1000000) :
    Calls Try.prog 47 #[.pointer (some ⟨t, 0, none⟩)] w (SightP T w) := by
  refine (sight_gen t lo S [] m T w (begin_beg t lo S m T _ (H.keeps ((Keeps.refl [] w).alloc _) (by simp))) (by simp) (fun x hx => (H.foot x hx).2) hL hF hl).mono ?_
  rintro r w' ⟨a, c, ae, ce, S', h1, h2, h3, h4, _⟩
  exact ⟨a, c, ae, ce, h1, h2, h3, h4.below (Nat.le_refl _) (by simp)⟩
end Go.Proofs.Ytcakdmapnmneoaa
end
