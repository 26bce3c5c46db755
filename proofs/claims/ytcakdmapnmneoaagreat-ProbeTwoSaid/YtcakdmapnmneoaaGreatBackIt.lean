/- An iterator from the last one on; a range that a round may leave. -/
import Derived.Test.YtcakdmapnmneoaaGreatRgnIn
namespace Go.Proofs.YtcakdmapnmneoaaGreat
open Go.RowKit
set_option linter.unusedVariables false
set_option linter.unusedSimpArgs false
/-- As IterN; what the iterator leans on holds behind a round that stops it, too. -/
def IterNx (P : Program) (gf : Nat) (lb : Array Value) (n : Nat) (enc : Nat → Array Value) (Priv : World → Prop) : Prop :=
  ∀ (l : Nat) (J Jx : Nat → World → Prop) (W : World),
    (∀ i A B, J i A → Keeps [] A B → J i B) → (∀ i A B, Jx i A → Keeps [] A B → Jx i B) → (∀ i A, J i A → Priv A) → (∀ i A, Jx i A → Priv A) →
    (∀ i A, i < n → J i A → YieldAt Fence.wide 8 P l (enc i) A fun e B => (e = .returned (.bool true) ∧ J (i + 1) B) ∨ (e = .returned (.bool false) ∧ Jx i B)) →
    J 0 W → CallsIn Fence.wide 9 P gf (#[.func (.yield l) #[] #[]] ++ lb) W fun e B => (∃ v, e = .returned v) ∧ (J n B ∨ ∃ i, i < n ∧ Jx i B)
theorem IterN.x {P : Program} {gf : Nat} {lb : Array Value} {n : Nat} {enc : Nat → Array Value} {Priv : World → Prop} (h : IterN P gf lb n enc Priv) : IterNx P gf lb n enc Priv :=
  fun l J Jx W h1 h2 h3 _ h5 h6 => h l J Jx W h1 h2 h3 h5 h6
theorem wp_rangeNx {P : Program} {g : Operand} {ps : Array Tmp} {assign body : Code} {Q : Exit → Act → World → Prop} {a : Act} {w : World}
    {gf : Nat} {lb : Array Value} (hg : a.eval g = .func (.func gf) #[] lb) (eg : ∀ args w, (callFunc gf args).run P w = .ok (.enter gf args) w)
    {n : Nat} {enc : Nat → Array Value} {Priv : World → Prop} (hseq : IterNx P gf lb n enc Priv) (hps : ∀ i, (enc i).size = ps.size)
    (I : Nat → World → Prop) (Ix : Code → Nat → World → Prop)
    (hI : ∀ i A B, I i A → Keeps [w.heap.size, w.heap.size + 1] A B → I i B)
    (hIx : ∀ c i A B, Ix c i A → Keeps [w.heap.size, w.heap.size + 1] A B → Ix c i B)
    (hp : ∀ i A, I i A → Priv A) (hpx : ∀ c i A, Ix c i A → Priv A) (h0 : I 0 w)
    (hround : ∀ (l i : Nat) (W : World) (K : Act → World → Prop), i < n → I i W → w.heap.size + 1 < W.heap.size →
      (∀ (a₁ : Act) (W1 : World) (Ax : World → Prop), (∀ A B, Ax A → Keeps [w.heap.size, w.heap.size + 1] A B → Ax B) → Ax W1 → Keeps [] W W1 →
        (∀ W', I i W' → Ax W' → w.heap.size + 1 < W'.heap.size → body.wpIn (Fence.wide.inRound l) 8 P (RoundEnd w.heap.size I Ix i W') a₁ W') → K a₁ W1) →
      assign.wpIn (Fence.wide.inRound l) 8 P (Exit.then K (fun _ _ _ => False)) { tmps := (ps.zip (enc i)).foldl (fun t (p, v) => t.setIfInBounds p v) a.tmps, defers := [] } W)
    (hdone : ∀ W, I n W → W.heap[w.heap.size]? = some (.deferred (some [])) → Q .normal { a with defers := { target := .collected w.heap.size, args := #[] } :: a.defers } W)
    (hstop : ∀ c i W, i < n → Ix c i W → W.heap[w.heap.size]? = some (.deferred (some [])) → c.wp P Q { a with defers := { target := .collected w.heap.size, args := #[] } :: a.defers } W) :
    (Code.rangeFunc g ps assign body).wp P Q a w := by
  refine (wpIn_wide (n := 10)).1 (wpIn_rangeFunc ?_)
  intro fn _
  obtain ⟨rec, hrec⟩ : ∃ rec : LoopState → Option Code → Loop, rec = fun st pe => { state := st, pending := pe, fn, tmps := a.tmps, params := ps, assign, body, defers := w.heap.size } := ⟨_, rfl⟩
  obtain ⟨W1, hW1⟩ : ∃ W1, (w.alloc (.deferred (some []))).alloc (.loop (rec .ready none)) = W1 := ⟨_, rfl⟩
  have hL1 : W1.heap[w.heap.size + 1]? = some (.loop (rec .ready none)) := by rw [← hW1]; exact has_new' _ _ (by simp)
  have hK1 : W1.heap[w.heap.size]? = some (.deferred (some [])) := by rw [← hW1]; exact has_alloc (has_new _ _) _
  have hI1 : I 0 W1 := by rw [← hW1]; exact hI _ _ _ h0 (((Keeps.refl _ _).alloc _).alloc _)
  refine ⟨w.heap.size + 1, [{ target := .collected w.heap.size, args := #[] }], W1, { target := .fn (.func gf) lb, args := #[.func (.yield (w.heap.size + 1)) #[] #[]] }, W1, gf,
    #[.func (.yield (w.heap.size + 1)) #[] #[]] ++ lb, W1, ?_, ?_, fun _ _ => trivial, ?_, fun h => by simp [Fence.wide] at h, ?_⟩
  · rw [← hW1, hrec]; exact run_enterLoop_outer _ _ _ _ _
  · simp only [resolve, hg]
    simp [go_sem]
  · simp [invoke, go_sem, eg]
  · refine (hseq (w.heap.size + 1)
      (fun i W => I i W ∧ W.heap[w.heap.size + 1]? = some (.loop (rec .ready none)) ∧ W.heap[w.heap.size]? = some (.deferred (some [])))
      (fun i W => ∃ c, Ix c i W ∧ W.heap[w.heap.size + 1]? = some (.loop (rec .done (some c))) ∧ W.heap[w.heap.size]? = some (.deferred (some [])))
      W1 (fun i A B h k => ⟨hI _ _ _ h.1 (k.mono (by simp)), k.has h.2.1 (by simp), k.has h.2.2 (by simp)⟩)
      (fun i A B ⟨c, h1, h2, h3⟩ k => ⟨c, hIx _ _ _ _ h1 (k.mono (by simp)), k.has h2 (by simp), k.has h3 (by simp)⟩)
      (fun i A h => hp i A h.1) (fun i A ⟨c, h1, _⟩ => hpx c i A h1) ?_ ⟨hI1, hL1, hK1⟩).mono ?_
    · rintro i W hin ⟨hi, hl, hk⟩
      have hlt : w.heap.size + 1 < W.heap.size := lt_of_block hl
      have hy := run_yield (P := P) (args := enc i) hl (by rw [hrec]; exact hps i)
      rw [hrec] at hy
      refine ⟨fn, _, assign, body, hy, roundIn_of_wpIn trivial (hround _ i W _ hin hi hlt ?_)⟩
      clear hy
      intro a₁ Wa Ax hax ax0 ka hb
      replace hl := ka.has hl (by simp)
      replace hk := ka.has hk (by simp)
      replace hlt : w.heap.size + 1 < Wa.heap.size := lt_of_block hl
      replace hi : I i Wa := hI _ _ _ hi (ka.mono (by simp))
      clear ka
      clear W
      obtain ⟨W, rfl⟩ : ∃ W, W = Wa := ⟨_, rfl⟩
      refine ⟨_, run_beginRound hl (by rw [hrec]), ?_⟩
      have kp : Keeps [w.heap.size, w.heap.size + 1] W (W.putObj (w.heap.size + 1) (.loop { rec .ready none with state := .busy })) := (Keeps.putObj _ _ _).mono (by simp)
      have hl2 : (W.putObj (w.heap.size + 1) (.loop { rec .ready none with state := .busy })).heap[w.heap.size + 1]? = some (.loop { rec .ready none with state := .busy }) := World.putObj_heap_same hlt
      have hk2 : (W.putObj (w.heap.size + 1) (.loop { rec .ready none with state := .busy })).heap[w.heap.size]? = some (.deferred (some [])) := (World.putObj_heap_other (by omega)).trans hk
      refine wpIn_mono (hb _ (hI _ _ _ hi kp) (hax _ _ ax0 kp) (by simpa using hlt)) ?_
      have fin : ∀ (jump : Option Code) (W3 : World), W3.heap[w.heap.size]? = (W.putObj (w.heap.size + 1) (.loop { rec .ready none with state := .busy })).heap[w.heap.size]? → W3.heap[w.heap.size + 1]? = (W.putObj (w.heap.size + 1) (.loop { rec .ready none with state := .busy })).heap[w.heap.size + 1]? →
          (Instr.endRound (w.heap.size + 1) jump).run P W3 = .ok (.bool jump.isNone) (W3.putObj (w.heap.size + 1) (.loop (rec (if jump.isNone then .ready else .done) jump))) ∧
          Keeps [w.heap.size, w.heap.size + 1] W3 (W3.putObj (w.heap.size + 1) (.loop (rec (if jump.isNone then .ready else .done) jump))) ∧
          (W3.putObj (w.heap.size + 1) (.loop (rec (if jump.isNone then .ready else .done) jump))).heap[w.heap.size + 1]? = some (.loop (rec (if jump.isNone then .ready else .done) jump)) ∧
          (W3.putObj (w.heap.size + 1) (.loop (rec (if jump.isNone then .ready else .done) jump))).heap[w.heap.size]? = some (.deferred (some [])) := fun jump W3 hd hl3' => by
        have hl3 := hl3'.trans hl2
        have := run_endRound (P := P) jump hl3
        rw [hrec] at this ⊢
        exact ⟨this, (Keeps.putObj _ _ _).mono (by simp), World.putObj_heap_same (lt_of_block hl3), (World.putObj_heap_other (by omega)).trans (hd.trans hk2)⟩
      rintro e a3 W3 hpost
      cases e with
      | normal =>
        obtain ⟨hi3, q1, q2⟩ := hpost
        obtain ⟨hr, kk, hl4, hk4⟩ := fin none W3 q1 q2
        exact ⟨_, _, hr, .inl ⟨rfl, hI _ _ _ hi3 kk, hl4, hk4⟩⟩
      | ret =>
        obtain ⟨hi3, q1, q2⟩ := hpost
        obtain ⟨hr, kk, hl4, hk4⟩ := fin (some .ret) W3 q1 q2
        exact ⟨_, _, hr, .inr ⟨rfl, .ret, hIx _ _ _ _ hi3 kk, hl4, hk4⟩⟩
      | exit id =>
        obtain ⟨hi3, q1, q2⟩ := hpost
        obtain ⟨hr, kk, hl4, hk4⟩ := fin (some (.exit id)) W3 q1 q2
        exact ⟨_, _, hr, .inr ⟨rfl, .exit id, hIx _ _ _ _ hi3 kk, hl4, hk4⟩⟩
      | goto t =>
        obtain ⟨hi3, q1, q2⟩ := hpost
        obtain ⟨hr, kk, hl4, hk4⟩ := fin (some (.goto t)) W3 q1 q2
        exact ⟨_, _, hr, .inr ⟨rfl, .goto t, hIx _ _ _ _ hi3 kk, hl4, hk4⟩⟩
      | panic ch => exact hpost.elim
      | outgrown => exact hpost.elim
    · rintro e W2 ⟨⟨v, rfl⟩, (⟨hi, hl, hk⟩ | ⟨i, hin, c, hi, hl, hk⟩)⟩
      · exact ⟨none, _, by have := run_endLoop (P := P) hl (by rw [hrec]; simp); rw [hrec] at this; exact this, hdone _ (hI _ _ _ hi ((Keeps.putObj _ _ _).mono (by simp))) ((World.putObj_heap_other (by omega)).trans hk)⟩
      · exact ⟨some c, _, by have := run_endLoop (P := P) hl (by rw [hrec]; simp); rw [hrec] at this; exact this, wpIn_wide.2 (hstop c i _ hin (hIx _ _ _ _ hi ((Keeps.putObj _ _ _).mono (by simp))) ((World.putObj_heap_other (by omega)).trans hk))⟩

end Go.Proofs.YtcakdmapnmneoaaGreat
namespace Go.Proofs.YtcakdmapnmneoaaGreat.RI
open Go Go.RowKit Go.Shelf
set_option linter.unusedVariables false
set_option linter.unusedSimpArgs false
attribute [local go_sem] Oper.semAt_some
def encB (N : List (Nat × Ent)) (k : Nat) : Array Value := encN N (N.length - 1 - k)
set_option maxRecDepth 100000 in
set_option maxHeartbeats 2000000 in
theorem backIter (b lo : Nat) (a : Option Addr) (c : Nat) (N : List (Nat × Ent)) (hN : N.length ≤ 1000000) :
    IterNx Tryz.prog 112 #[.pointer (some ⟨b, 0, none⟩)] N.length (encB N) (NuPriv b lo a c N) := by
  intro l J Jx W hJ hJx hP hPx hY h0
  have HJ := Lib.hid hJ
  have HP := Lib.hid hP
  have HPX := Lib.hid hPx
  have HY := Lib.hid hY
  have H0 := Lib.hid h0
  have p2 := (hP 0 W h0).2
  have c0 : W.cell? ⟨b, 0, none⟩ = some (.slice a N.length c) := cell_has (hP 0 W h0).1 (i := 0) rfl
  obtain ⟨n, hn⟩ := ex_hid N.length
  rw [← hn.out] at c0 hN ⊢
  have hsh : 0 < n → ∃ g, a = some ⟨g, 0, none⟩ := fun h => p2.shape (by rw [← hn.out]; exact h)
  have HSH := Lib.hid hsh
  have nb : (n : Int) ≤ 1000000 := by omega
  clear hJ hJx hP hPx hY h0 p2 hsh
  refine callsIn_of_wp Tryz.func112 rfl trivial ?_ rfl
  simp only [Tryz.ntmps112, List.size_toArray, List.length_cons, List.length_nil, Nat.reduceAdd, Nat.reduceSub, Array.replicate_succ, Array.replicate_zero, List.push_toArray, List.append_toArray, List.nil_append, List.cons_append]
  gi_wp2
  gi_loopw [3] (fun i wr => ∃ k : Nat, k ≤ n ∧ i = .int .i64 ((n : Int) - 1 - k) ∧ J k wr) (fun i _ => (intOf i + 1).toNat)
  case atStart => exact ⟨0, by omega, by go_num, H0.out⟩
  case round =>
    obtain ⟨k, hk, rfl, hj⟩ := hrel
    by_cases hlt : k < n
    · obtain ⟨m, hmh⟩ := ex_hid (n - 1 - k)
      have hm := hmh.out
      have hmi : (n : Int) - 1 - k = (m : Int) := by omega
      have hmn : (m : Int) < (n : Int) := by omega
      have m0 : (0 : Int) ≤ (m : Int) := by omega
      have d0 : decide ((0 : Int) ≤ (m : Int)) = true := by simp
      rw [hmi]
      obtain ⟨g, rfl⟩ := HSH.out (by omega)
      have hlN : k < N.length := by rw [← hn.out]; exact hlt
      have hmN : m < N.length := by rw [← hn.out]; omega
      have P2 := HP.out k wr hj
      have c1 : wr.cell? ⟨b, 0, none⟩ = some (.slice (some ⟨g, 0, none⟩) n c) := by rw [hn.out]; exact cell_has P2.1 (i := 0) rfl
      obtain ⟨q0, q1, q2, q3, q4, q5⟩ := P2.2.six (nuget hmN)
      have J2 := HJ.out k wr wr.drew hj (Keeps.refl [] wr).drew
      obtain ⟨fn, tmps, assign, cbody, hC, hR⟩ := HY.out k _ hlN J2
      simp only [encB, encN, Ent.agg] at hC
      rw [← hn.out, ← hm] at hC
      have HR := Lib.hid hR
      clear hR
      have nh : m < n := by omega
      have hnu := Lib.hid (nuget hmN)
      generalize N.getD m (0, noE) = p at *
      obtain ⟨x0, x1, x2, x3, x4, x5⟩ := p
      simp only at q0 q1 q2 q3 q4 q5 hC
      have HC := Lib.hid hC
      clear hj J2 hC P2 hm
      have hold : ∀ w' : World, NuPriv b lo (some ⟨g, 0, none⟩) c N w' → (w'.cell? ⟨b, 0, none⟩ = some (.slice (some ⟨g, 0, none⟩) n c) ∧ w'.cell? ⟨g, m * 6, none⟩ = some (.int .i64 (x0 : Nat)) ∧ w'.cell? ⟨g, m * 6 + 1, none⟩ = some (.bool x1) ∧ w'.cell? ⟨g, m * 6 + 2, none⟩ = some (.int .i64 x2) ∧ w'.cell? ⟨g, m * 6 + 3, none⟩ = some (.int .i64 x3) ∧ w'.cell? ⟨g, m * 6 + 4, none⟩ = some (.int .i64 x4) ∧ w'.cell? ⟨g, m * 6 + 5, none⟩ = some (.int .i64 x5)) := fun w' P => ⟨by rw [hn.out]; exact cell_has P.1 (i := 0) rfl, P.2.six hnu.out⟩
      have hF0 : wr.cell? ⟨b, 0, none⟩ = some (.slice (some ⟨g, 0, none⟩) n c) ∧ wr.cell? ⟨g, m * 6, none⟩ = some (.int .i64 (x0 : Nat)) ∧ wr.cell? ⟨g, m * 6 + 1, none⟩ = some (.bool x1) ∧ wr.cell? ⟨g, m * 6 + 2, none⟩ = some (.int .i64 x2) ∧ wr.cell? ⟨g, m * 6 + 3, none⟩ = some (.int .i64 x3) ∧ wr.cell? ⟨g, m * 6 + 4, none⟩ = some (.int .i64 x4) ∧ wr.cell? ⟨g, m * 6 + 5, none⟩ = some (.int .i64 x5) := ⟨c1, q0, q1, q2, q3, q4, q5⟩
      gi_wp2
      refine wpIn_regionG (fun w' => w'.cell? ⟨b, 0, none⟩ = some (.slice (some ⟨g, 0, none⟩) n c) ∧ w'.cell? ⟨g, m * 6, none⟩ = some (.int .i64 (x0 : Nat)) ∧ w'.cell? ⟨g, m * 6 + 1, none⟩ = some (.bool x1) ∧ w'.cell? ⟨g, m * 6 + 2, none⟩ = some (.int .i64 x2) ∧ w'.cell? ⟨g, m * 6 + 3, none⟩ = some (.int .i64 x3) ∧ w'.cell? ⟨g, m * 6 + 4, none⟩ = some (.int .i64 x4) ∧ w'.cell? ⟨g, m * 6 + 5, none⟩ = some (.int .i64 x5)) 13 (by kernel_rfl) hF0 (fun hF => ?_)
      refine wpAnyG_takeY (i := 0) (v := ?_) rfl (by kernel_rfl) (by decide +kernel) (by decide +kernel) (by decide +kernel) (fun _ _ _ h => h) (by kernel_rfl) ?_ (by assumption) ?_
      rotate_left
      · (intro wz; go_simp; with_reducible rfl)
      try simp only [Act.put, List.setIfInBounds_toArray, List.set_cons_zero, List.set_cons_succ]
      refine wpAnyG_take (i := 1) (v := ?_) rfl (by kernel_rfl) (by decide +kernel) (by decide +kernel) (by decide +kernel) (by decide +kernel) (by rfl) (fun _ _ _ h => h) (by kernel_rfl) ?_ (by assumption) ?_
      rotate_left
      · (intro wz hSw; (try dsimp only at hSw); go_simp; with_reducible rfl)
      try simp only [Act.put, List.setIfInBounds_toArray, List.set_cons_zero, List.set_cons_succ]
      refine wpAnyG_takeY (i := 2) (v := ?_) rfl (by kernel_rfl) (by decide +kernel) (by decide +kernel) (by decide +kernel) (fun _ _ _ h => h) (by kernel_rfl) ?_ (by assumption) ?_
      rotate_left
      · (intro wz; go_simp; with_reducible rfl)
      try simp only [Act.put, List.setIfInBounds_toArray, List.set_cons_zero, List.set_cons_succ]
      refine wpAnyG_takeY (i := 3) (v := ?_) rfl (by kernel_rfl) (by decide +kernel) (by decide +kernel) (by decide +kernel) (fun _ _ _ h => h) (by kernel_rfl) ?_ (by assumption) ?_
      rotate_left
      · (intro wz; go_simp; with_reducible rfl)
      try simp only [Act.put, List.setIfInBounds_toArray, List.set_cons_zero, List.set_cons_succ]
      refine wpAnyG_takeY (i := 4) (v := ?_) rfl (by kernel_rfl) (by decide +kernel) (by decide +kernel) (by decide +kernel) (fun _ _ _ h => h) (by kernel_rfl) ?_ (by assumption) ?_
      rotate_left
      · (intro wz; go_simp; with_reducible rfl)
      try simp only [Act.put, List.setIfInBounds_toArray, List.set_cons_zero, List.set_cons_succ]
      refine wpAnyG_take (i := 5) (v := ?_) rfl (by kernel_rfl) (by decide +kernel) (by decide +kernel) (by decide +kernel) (by decide +kernel) (by rfl) (fun _ _ _ h => h) (by kernel_rfl) ?_ (by assumption) ?_
      rotate_left
      · (intro wz hSw; (try dsimp only at hSw); go_simp; with_reducible rfl)
      try simp only [Act.put, List.setIfInBounds_toArray, List.set_cons_zero, List.set_cons_succ]
      refine wpAnyG_take (i := 6) (v := ?_) rfl (by kernel_rfl) (by decide +kernel) (by decide +kernel) (by decide +kernel) (by decide +kernel) (by rfl) (fun _ _ _ h => h) (by kernel_rfl) ?_ (by assumption) ?_
      rotate_left
      · (intro wz hSw; (try dsimp only at hSw); go_simp; with_reducible rfl)
      try simp only [Act.put, List.setIfInBounds_toArray, List.set_cons_zero, List.set_cons_succ]
      refine wpAnyG_takeY (i := 7) (v := ?_) rfl (by kernel_rfl) (by decide +kernel) (by decide +kernel) (by decide +kernel) (fun _ _ _ h => h) (by kernel_rfl) ?_ (by assumption) ?_
      rotate_left
      · (intro wz; go_simp; with_reducible rfl)
      try simp only [Act.put, List.setIfInBounds_toArray, List.set_cons_zero, List.set_cons_succ]
      refine wpAnyG_takeY (i := 8) (v := ?_) rfl (by kernel_rfl) (by decide +kernel) (by decide +kernel) (by decide +kernel) (fun _ _ _ h => h) (by kernel_rfl) ?_ (by assumption) ?_
      rotate_left
      · (intro wz; go_simp; with_reducible rfl)
      try simp only [Act.put, List.setIfInBounds_toArray, List.set_cons_zero, List.set_cons_succ]
      refine wpAnyG_takeY (i := 9) (v := ?_) rfl (by kernel_rfl) (by decide +kernel) (by decide +kernel) (by decide +kernel) (fun _ _ _ h => h) (by kernel_rfl) ?_ (by assumption) ?_
      rotate_left
      · (intro wz; go_simp; with_reducible rfl)
      try simp only [Act.put, List.setIfInBounds_toArray, List.set_cons_zero, List.set_cons_succ]
      refine wpAnyG_take (i := 10) (v := ?_) rfl (by kernel_rfl) (by decide +kernel) (by decide +kernel) (by decide +kernel) (by decide +kernel) (by rfl) (fun _ _ _ h => h) (by kernel_rfl) ?_ (by assumption) ?_
      rotate_left
      · (intro wz hSw; (try dsimp only at hSw); go_simp; with_reducible rfl)
      try simp only [Act.put, List.setIfInBounds_toArray, List.set_cons_zero, List.set_cons_succ]
      refine wpAnyG_one (i := 11) rfl (by kernel_rfl) (by kernel_rfl) (fun K hK => ?_)
      have HK := Lib.hid hK
      clear hK
      unfold Oper.wpIn
      refine ⟨fun _ _ => trivial, ?_⟩
      have hy := HC.out
      go_simp
      refine HR.out.mono ?_
      rintro e W3 (⟨rfl, hJ3⟩ | ⟨rfl, hJx3⟩)
      · have hF3 := hold W3 (HP.out _ _ hJ3)
        refine HK.out _ _ hF3 ?_
        clear HK K
        try simp only [Act.put, List.setIfInBounds_toArray, List.set_cons_zero, List.set_cons_succ]
        refine wpAnyG_takeY (i := 12) (v := ?_) rfl (by kernel_rfl) (by decide +kernel) (by decide +kernel) (by decide +kernel) (fun _ _ _ h => h) (by kernel_rfl) ?_ (by assumption) ?_
        rotate_left
        · (intro wz; go_simp; with_reducible rfl)
        try simp only [Act.put, List.setIfInBounds_toArray, List.set_cons_zero, List.set_cons_succ]
        refine wpAnyG_done (by kernel_rfl) ?_ _
        go_simp
        gi_wp2
        go_roundw
        case rel => exact ⟨k + 1, by omega, by go_num, hJ3⟩
        case measure => simp [intOf] <;> omega
      · have hF3 := hold W3 (HPX.out _ _ hJx3)
        refine HK.out _ _ hF3 ?_
        clear HK K
        try simp only [Act.put, List.setIfInBounds_toArray, List.set_cons_zero, List.set_cons_succ]
        refine wpAnyG_takeY (i := 12) (v := ?_) rfl (by kernel_rfl) (by decide +kernel) (by decide +kernel) (by decide +kernel) (fun _ _ _ h => h) (by kernel_rfl) ?_ (by assumption) ?_
        rotate_left
        · (intro wz; go_simp; with_reducible rfl)
        try simp only [Act.put, List.setIfInBounds_toArray, List.set_cons_zero, List.set_cons_succ]
        refine wpAnyG_done (by kernel_rfl) ?_ _
        go_simp
        gi_wp2
        refine bodyPost_ret (results_none rfl _ _ _) rfl ?_
        exact ⟨⟨_, rfl⟩, .inr ⟨k, hlt, hJx3⟩⟩
    · obtain rfl : k = n := by omega
      have hge : (k : Int) - 1 - k = -1 := by omega
      rw [hge]
      have d0 : decide ((0 : Int) ≤ (-1 : Int)) = false := rfl
      gi_wp2
      go_end0
      exact ⟨⟨_, rfl⟩, .inl hj⟩
end Go.Proofs.YtcakdmapnmneoaaGreat.RI
