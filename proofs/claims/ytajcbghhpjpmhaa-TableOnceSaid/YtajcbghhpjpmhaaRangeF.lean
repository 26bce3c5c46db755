/- A range over a function: the law in the form that these proofs use. No program in sight. -/
import Derived.RangeFuncNested
import Derived.RangeFuncBound
import Derived.RangeFuncCalls
import Derived.RangeFuncLeaves
import Derived.Shelf.Abstract
import Derived.Shelf.RegionOpen
import Derived.WalkKit
import Derived.OwnWalkIn
import Derived.TacticsInMore
import Derived.LoopNIn
import Derived.LoopIn
import Derived.Test.YtajcbghhpjpmhaaMem
namespace Go.Proofs.Ytajcbghhpjpmhaa
open Go.RowKit

/-- An iterator that hands on n things, the i-th as 'enc i'; what it leans on between two rounds: Priv. -/
def IterN (P : Program) (gf : Nat) (lb : Array Value) (n : Nat) (enc : Nat → Array Value) (Priv : World → Prop) : Prop :=
  ∀ (l : Nat) (J Jx : Nat → World → Prop) (W : World),
    (∀ i A B, J i A → Keeps [] A B → J i B) → (∀ i A B, Jx i A → Keeps [] A B → Jx i B) → (∀ i A, J i A → Priv A) →
    (∀ i A, i < n → J i A → YieldAt Fence.wide 8 P l (enc i) A fun e B => (e = .returned (.bool true) ∧ J (i + 1) B) ∨ (e = .returned (.bool false) ∧ Jx i B)) →
    J 0 W → CallsIn Fence.wide 9 P gf (#[.func (.yield l) #[] #[]] ++ lb) W fun e B => (∃ v, e = .returned v) ∧ (J n B ∨ ∃ i, i < n ∧ Jx i B)

/-- What a round's body achieves. -/
def RoundEnd (D : Nat) (I : Nat → World → Prop) (Ix : Code → Nat → World → Prop) (i : Nat) (W : World) : Exit → Act → World → Prop
  | .normal, _, W' => I (i + 1) W' ∧ W'.heap[D]? = W.heap[D]? ∧ W'.heap[D + 1]? = W.heap[D + 1]?
  | .ret, _, W' => Ix .ret i W' ∧ W'.heap[D]? = W.heap[D]? ∧ W'.heap[D + 1]? = W.heap[D + 1]?
  | .exit id, _, W' => Ix (.exit id) i W' ∧ W'.heap[D]? = W.heap[D]? ∧ W'.heap[D + 1]? = W.heap[D + 1]?
  | .goto t, _, W' => Ix (.goto t) i W' ∧ W'.heap[D]? = W.heap[D]? ∧ W'.heap[D + 1]? = W.heap[D + 1]?
  | .panic _, _, _ => False
  | .outgrown, _, _ => False

theorem Keeps.putObj (W : World) (l : Nat) (o : Obj) : Keeps [l] W (W.putObj l o) :=
  ⟨rfl, rfl, rfl, by simp, fun _ _ hs => World.putObj_heap_other (by simpa using hs)⟩

theorem wp_rangeN {P : Program} {g : Operand} {ps : Array Tmp} {assign body : Code} {Q : Exit → Act → World → Prop} {a : Act} {w : World}
    {gf : Nat} {lb : Array Value} (hg : a.eval g = .func (.func gf) #[] lb) (eg : ∀ args w, (callFunc gf args).run P w = .ok (.enter gf args) w)
    {n : Nat} {enc : Nat → Array Value} {Priv : World → Prop} (hseq : IterN P gf lb n enc Priv) (hps : ∀ i, (enc i).size = ps.size)
    (I : Nat → World → Prop) (Ix : Code → Nat → World → Prop)
    (hI : ∀ i A B, I i A → Keeps [w.heap.size, w.heap.size + 1] A B → I i B)
    (hIx : ∀ c i A B, Ix c i A → Keeps [w.heap.size, w.heap.size + 1] A B → Ix c i B)
    (hp : ∀ i A, I i A → Priv A) (h0 : I 0 w)
    (hround : ∀ (l i : Nat) (W : World) (K : Act → World → Prop), i < n → I i W → w.heap.size + 1 < W.heap.size →
      (∀ (a₁ : Act) (W1 : World) (Ax : World → Prop), (∀ A B, Ax A → Keeps [w.heap.size, w.heap.size + 1] A B → Ax B) → Ax W1 → Keeps [] W W1 →
        (∀ W', I i W' → Ax W' → w.heap.size + 1 < W'.heap.size → body.wpIn (Fence.wide.inRound l) 8 P (RoundEnd w.heap.size I Ix i W') a₁ W') → K a₁ W1) →
      assign.wpIn (Fence.wide.inRound l) 8 P (Exit.then K (fun _ _ _ => False)) { tmps := (ps.zip (enc i)).foldl (fun t (p, v) => t.setIfInBounds p v) a.tmps, defers := [] } W)
    (hdone : ∀ W, I n W → W.heap[w.heap.size]? = some (.deferred (some [])) → Q .normal { a with defers := { target := .collected w.heap.size, args := #[] } :: a.defers } W)
    (hstop : ∀ c i W, i < n → Ix c i W → W.heap[w.heap.size]? = some (.deferred (some [])) → c.wp P Q { a with defers := { target := .collected w.heap.size, args := #[] } :: a.defers } W) :
    (Code.rangeFunc g ps assign body).wp P Q a w := by
  refine (wpIn_wide (n := 10)).1 (wpIn_rangeFunc ?_)
  intro fn _
  obtain ⟨rec, hrec⟩ : ∃ rec : LoopState → Option Code → Loop, rec = fun st pe => { state := st, pending := pe, fn, tmps := a.tmps, params := ps, assign, body, defers := w.heap.size } := ⟨_, rfl⟩
  obtain ⟨W1, hW1⟩ : ∃ W1, (w.alloc (.deferred (some []))).alloc (.loop (rec .ready none)) = W1 := ⟨_, rfl⟩
  have hL1 : W1.heap[w.heap.size + 1]? = some (.loop (rec .ready none)) := by rw [← hW1]; exact has_new' _ _ (by simp)
  have hK1 : W1.heap[w.heap.size]? = some (.deferred (some [])) := by rw [← hW1]; exact has_alloc (has_new _ _) _
  have hI1 : I 0 W1 := by rw [← hW1]; exact hI _ _ _ h0 (((Keeps.refl _ _).alloc _).alloc _)
  refine ⟨w.heap.size + 1, [{ target := .collected w.heap.size, args := #[] }], W1, { target := .fn (.func gf) lb, args := #[.func (.yield (w.heap.size + 1)) #[] #[]] }, W1, gf,
    #[.func (.yield (w.heap.size + 1)) #[] #[]] ++ lb, W1, ?_, ?_, fun _ _ => trivial, ?_, fun h => by simp [Fence.wide] at h, ?_⟩
  · rw [← hW1, hrec]; exact run_enterLoop_outer _ _ _ _ _
  · simp only [resolve, hg]
    simp [go_sem]
  · simp [invoke, go_sem, eg]
  · refine (hseq (w.heap.size + 1)
      (fun i W => I i W ∧ W.heap[w.heap.size + 1]? = some (.loop (rec .ready none)) ∧ W.heap[w.heap.size]? = some (.deferred (some [])))
      (fun i W => ∃ c, Ix c i W ∧ W.heap[w.heap.size + 1]? = some (.loop (rec .done (some c))) ∧ W.heap[w.heap.size]? = some (.deferred (some [])))
      W1 (fun i A B h k => ⟨hI _ _ _ h.1 (k.mono (by simp)), k.has h.2.1 (by simp), k.has h.2.2 (by simp)⟩)
      (fun i A B ⟨c, h1, h2, h3⟩ k => ⟨c, hIx _ _ _ _ h1 (k.mono (by simp)), k.has h2 (by simp), k.has h3 (by simp)⟩)
      (fun i A h => hp i A h.1) ?_ ⟨hI1, hL1, hK1⟩).mono ?_
    · rintro i W hin ⟨hi, hl, hk⟩
      have hlt : w.heap.size + 1 < W.heap.size := lt_of_block hl
      have hy := run_yield (P := P) (args := enc i) hl (by rw [hrec]; exact hps i)
      rw [hrec] at hy
      refine ⟨fn, _, assign, body, hy, roundIn_of_wpIn trivial (hround _ i W _ hin hi hlt ?_)⟩
      clear hy
      intro a₁ Wa Ax hax ax0 ka hb
      replace hl := ka.has hl (by simp)
      replace hk := ka.has hk (by simp)
      replace hlt : w.heap.size + 1 < Wa.heap.size := lt_of_block hl
      replace hi : I i Wa := hI _ _ _ hi (ka.mono (by simp))
      clear ka
      clear W
      obtain ⟨W, rfl⟩ : ∃ W, W = Wa := ⟨_, rfl⟩
      refine ⟨_, run_beginRound hl (by rw [hrec]), ?_⟩
      have kp : Keeps [w.heap.size, w.heap.size + 1] W (W.putObj (w.heap.size + 1) (.loop { rec .ready none with state := .busy })) := (Keeps.putObj _ _ _).mono (by simp)
      have hl2 : (W.putObj (w.heap.size + 1) (.loop { rec .ready none with state := .busy })).heap[w.heap.size + 1]? = some (.loop { rec .ready none with state := .busy }) := World.putObj_heap_same hlt
      have hk2 : (W.putObj (w.heap.size + 1) (.loop { rec .ready none with state := .busy })).heap[w.heap.size]? = some (.deferred (some [])) := (World.putObj_heap_other (by omega)).trans hk
      refine wpIn_mono (hb _ (hI _ _ _ hi kp) (hax _ _ ax0 kp) (by simpa using hlt)) ?_
      have fin : ∀ (jump : Option Code) (W3 : World), W3.heap[w.heap.size]? = (W.putObj (w.heap.size + 1) (.loop { rec .ready none with state := .busy })).heap[w.heap.size]? → W3.heap[w.heap.size + 1]? = (W.putObj (w.heap.size + 1) (.loop { rec .ready none with state := .busy })).heap[w.heap.size + 1]? →
          (Instr.endRound (w.heap.size + 1) jump).run P W3 = .ok (.bool jump.isNone) (W3.putObj (w.heap.size + 1) (.loop (rec (if jump.isNone then .ready else .done) jump))) ∧
          Keeps [w.heap.size, w.heap.size + 1] W3 (W3.putObj (w.heap.size + 1) (.loop (rec (if jump.isNone then .ready else .done) jump))) ∧
          (W3.putObj (w.heap.size + 1) (.loop (rec (if jump.isNone then .ready else .done) jump))).heap[w.heap.size + 1]? = some (.loop (rec (if jump.isNone then .ready else .done) jump)) ∧
          (W3.putObj (w.heap.size + 1) (.loop (rec (if jump.isNone then .ready else .done) jump))).heap[w.heap.size]? = some (.deferred (some [])) := fun jump W3 hd hl3' => by
        have hl3 := hl3'.trans hl2
        have := run_endRound (P := P) jump hl3
        rw [hrec] at this ⊢
        exact ⟨this, (Keeps.putObj _ _ _).mono (by simp), World.putObj_heap_same (lt_of_block hl3), (World.putObj_heap_other (by omega)).trans (hd.trans hk2)⟩
      rintro e a3 W3 hpost
      cases e with
      | normal =>
        obtain ⟨hi3, q1, q2⟩ := hpost
        obtain ⟨hr, kk, hl4, hk4⟩ := fin none W3 q1 q2
        exact ⟨_, _, hr, .inl ⟨rfl, hI _ _ _ hi3 kk, hl4, hk4⟩⟩
      | ret =>
        obtain ⟨hi3, q1, q2⟩ := hpost
        obtain ⟨hr, kk, hl4, hk4⟩ := fin (some .ret) W3 q1 q2
        exact ⟨_, _, hr, .inr ⟨rfl, .ret, hIx _ _ _ _ hi3 kk, hl4, hk4⟩⟩
      | exit id =>
        obtain ⟨hi3, q1, q2⟩ := hpost
        obtain ⟨hr, kk, hl4, hk4⟩ := fin (some (.exit id)) W3 q1 q2
        exact ⟨_, _, hr, .inr ⟨rfl, .exit id, hIx _ _ _ _ hi3 kk, hl4, hk4⟩⟩
      | goto t =>
        obtain ⟨hi3, q1, q2⟩ := hpost
        obtain ⟨hr, kk, hl4, hk4⟩ := fin (some (.goto t)) W3 q1 q2
        exact ⟨_, _, hr, .inr ⟨rfl, .goto t, hIx _ _ _ _ hi3 kk, hl4, hk4⟩⟩
      | panic ch => exact hpost.elim
      | outgrown => exact hpost.elim
    · rintro e W2 ⟨⟨v, rfl⟩, (⟨hi, hl, hk⟩ | ⟨i, hin, c, hi, hl, hk⟩)⟩
      · exact ⟨none, _, by have := run_endLoop (P := P) hl (by rw [hrec]; simp); rw [hrec] at this; exact this, hdone _ (hI _ _ _ hi ((Keeps.putObj _ _ _).mono (by simp))) ((World.putObj_heap_other (by omega)).trans hk)⟩
      · exact ⟨some c, _, by have := run_endLoop (P := P) hl (by rw [hrec]; simp); rw [hrec] at this; exact this, wpIn_wide.2 (hstop c i _ hin (hIx _ _ _ _ hi ((Keeps.putObj _ _ _).mono (by simp))) ((World.putObj_heap_other (by omega)).trans hk))⟩

theorem wpListIn_append_lies {F : Fence} {n : Nat} {P : Program} (w : World) {ops : Array Oper} {rest : List Oper} {o : Oper} {a : Act} {Q : Exit → Act → World → Prop}
    (hg : o.guard = none) (s x : Operand) (t : TypeId) (hop : o.op = Op.call { callee := Callee.builtin Builtin.append, args := #[s, x], argTypes := #[t, t] })
    (base : Nat) (e : TypeId) (i : TypeInfo) (z : Value) (size bytes : Nat) (h1 : P.underlying t = some (.slice e)) (h2 : P.info? e = some i) (h3 : i.zero = some z) (h4 : i.size = size) (h5 : i.bytes = bytes) (h6 : z.cells.size = size) (h7 : 0 < size)
    (v : Value) (k : Nat) (xs : List Value) (hs : a.eval s = v) (hown : w.ownsRow base e size v k xs) (ad : Addr) (m c : Nat) (news : List Value) (hx : a.eval x = .slice (some ad) m c) (hn : news.length = m * size)
    (hc : ∀ j u, news[j]? = some u → w.cell? (ad.add j) = some u) (h1c : ∀ u ∈ news, u.oneCell' = true) (hm : 0 < m) (b1 : k + m ≤ maxLen) (b2 : (k + m) * bytes ≤ 140737488355328) (b3 : base ≤ w.heap.size) (H : Nat) (hH : w.heap.size = H)
    (hK : ∀ g cap w', w'.ownsRow base e size (.slice (some ⟨g, 0, none⟩) (k + m) cap) (k + m) (xs ++ news) → w.grownBy w' v.ownBlock → (v.ownBlock = some g ∨ g = H) → g < w'.heap.size → wpListIn F n P ops Q rest (a.put o.dst (.slice (some ⟨g, 0, none⟩) (k + m) cap)) w') :
    wpListIn F n P ops Q (o :: rest) a w := by
  refine wpListIn_plain hg fun K hK' => ?_
  obtain ⟨g, cap, w', hrun, r1, r2, r3, r4⟩ := run_append_lies (P := P) w t o.type base e i z size bytes h1 h2 h3 h4 h5 h6 h7 v k xs hown ad m c news hn hc h1c hm b1 b2 b3 H hH
  unfold Oper.wpIn
  refine ⟨?_, ?_⟩
  · simp [Oper.about, hop, resolve, Target.leads, Sem.run_pure]
  · rw [Oper.semAt_plain F _ _ (by rw [hop]; intro c hc'; cases hc')]
    simp [execOp, hop, resolve, invoke, builtin, hs, hx, hrun, Result.andThen]
    exact hK' _ _ (hK g cap w' r1 r2 r3 r4)

/-- What the body of a function achieves that holds a range over a function. -/
def bodyPostR (P : Program) (fn : Func) (R : Ending → World → Prop) : Exit → Act → World → Prop := bodyPostM Fence.wide 10 P fn R
theorem calls_of_wp_ranges {P : Program} {f : FuncId} {fn : Func} {c : Code} {args : Array Value} {w : World} {R : Ending → World → Prop} (hf : P.funcs[f]? = some fn) (hb : fn.body = some c)
    (h : c.wp P (bodyPostR P fn R) { tmps := args ++ Array.replicate (fn.ntmps - args.size) undef, defers := [] } w) : Calls P f args w R :=
  callsIn_wide.1 (callsIn_of_wp_marks hf hb trivial (wpIn_wide.2 h))
/-- Behind the marks. -/
def unmark : List Nat → World → World
  | [], w => w
  | D :: l, w => unmark l (w.putObj D (.deferred none))
theorem bodyPostR_end {P : Program} {fn : Func} {R : Ending → World → Prop} {a : Act} {w : World} {v : Value} (l : List Nat) (hd : a.defers = l.map fun D => { target := .collected D, args := #[] })
    (hk : ∀ D, D ∈ l → w.heap[D]? = some (.deferred (some []))) (hn : l.Nodup) (hr : (results fn a.tmps).run P (unmark l w) = .ok v (unmark l w)) (hR : R (.returned v) (unmark l w)) : bodyPostR P fn R .ret a w ∧ bodyPostR P fn R .normal a w := by
  have key : ∀ (l : List Nat) (w : World), (∀ D, D ∈ l → w.heap[D]? = some (.deferred (some []))) → l.Nodup → (results fn a.tmps).run P (unmark l w) = .ok v (unmark l w) → R (.returned v) (unmark l w) →
      LeavesInM Fence.wide 10 P fn a.tmps R (l.map fun D => { target := .collected D, args := #[] }) .returning w := by
    intro l
    induction l with
    | nil => intro w _ _ hr hR; exact ⟨v, hr, hR⟩
    | cons D l ih =>
      intro w hk hn hr hR
      refine ⟨by simp, .inl ⟨D, _, rfl, run_takeDeferred (hk D (by simp)), ih _ (fun E hE => ?_) (List.nodup_cons.1 hn).2 hr hR⟩⟩
      have : E ≠ D := fun e => (List.nodup_cons.1 hn).1 (e ▸ hE)
      exact (World.putObj_heap_other this).trans (hk E (List.mem_cons_of_mem _ hE))
  have h := key l w hk hn hr hR
  rw [← hd] at h
  exact ⟨h, h⟩
theorem bodyPostR_ret0 {P : Program} {fn : Func} {R : Ending → World → Prop} {a : Act} {w : World} {v : Value} (hr : (results fn a.tmps).run P w = .ok v w) (hd : a.defers = []) (hR : R (.returned v) w) : bodyPostR P fn R .ret a w :=
  (bodyPostR_end [] hd (by simp) (by simp) hr hR).1
theorem bodyPostR_ret1 {P : Program} {fn : Func} {R : Ending → World → Prop} {a : Act} {w : World} {v : Value} {D : Nat} (hr : ∀ w, (results fn a.tmps).run P w = .ok v w) (hd : a.defers = [{ target := .collected D, args := #[] }])
    (hk : w.heap[D]? = some (.deferred (some []))) (hR : ∀ w', Keeps [D] w w' → R (.returned v) w') : bodyPostR P fn R .ret a w :=
  (bodyPostR_end [D] hd (by simpa using hk) (by simp) (hr _) (hR _ (Keeps.putObj _ _ _))).1
theorem bodyPostR_end1 {P : Program} {fn : Func} {R : Ending → World → Prop} {a : Act} {w : World} {v : Value} {D : Nat} (hr : ∀ w, (results fn a.tmps).run P w = .ok v w) (hd : a.defers = [{ target := .collected D, args := #[] }])
    (hk : w.heap[D]? = some (.deferred (some []))) (hR : ∀ w', Keeps [D] w w' → R (.returned v) w') : bodyPostR P fn R .normal a w :=
  (bodyPostR_end [D] hd (by simpa using hk) (by simp) (hr _) (hR _ (Keeps.putObj _ _ _))).2

end Go.Proofs.Ytajcbghhpjpmhaa
