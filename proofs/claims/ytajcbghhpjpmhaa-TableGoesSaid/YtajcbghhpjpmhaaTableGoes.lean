/- TableGoes, walked (chapter 7). -/
import Derived.Test.YtajcbghhpjpmhaaTabGoes
import Derived.Test.YtajcbghhpjpmhaaTableTwo
namespace Go.Proofs.Ytajcbghhpjpmhaa
open Go.RowKit
set_option linter.unusedVariables false
set_option linter.unusedSimpArgs false

theorem enters_goesf : EntersF Try.prog 73 := entersF_of Try.func73 (by kernel_rfl) (by kernel_rfl)
theorem NumRow.low {lo c : Nat} {a : Option Addr} {N : List (Nat × Ent)} {W : World} (h : NumRow lo a c N W) : ∀ x, x ∈ blk a → x < W.heap.size := fun x hx => (h.blk_lt x hx).2
set_option maxRecDepth 100000 in
set_option maxHeartbeats 4000000 in
/-- An iterator goes through just the live entries. -/
theorem goes_any (g : FuncId) (bk : Bool) (hg : EntersF Try.prog g) (b lo1 : Nat) (ra : Option Addr) (rc : Nat) (E : List Ent) (hC : CallN g b lo1 ra rc (numL E 0) (if bk then encB (numL E 0) else encN (numL E 0))) (hl : E.length ≤ 1000000)
    (t lo L c : Nat) (a : Option Addr) (cl lv bi ma tu m : Value) (stop : Int) (w : World) (hP : NuPriv b lo1 ra rc (numL E 0) w) (hb : w.heap[t]? = some (rtabO (.slice a E.length c) L cl lv bi ma tu m)) (hE : EntRow lo a c E w) :
    Calls Try.prog 33 #[.func (.func g) #[] #[.pointer (some ⟨b, 0, none⟩)], .pointer (some ⟨t, 0, none⟩), .bool bk, .int .i64 stop] w fun e w' => e = .returned (.bool true) ∧ Below w.heap.size w w' := by
  have HC := Lib.hid hC
  have HP := Lib.hid hP
  have HB := Lib.hid hb
  have HE := Lib.hid hE
  have hrun := fun args W => hg args W
  have zb := lt_of_block hP.1
  have zr := hP.2.low
  have ZR := Lib.hid zr
  have hlv : liveN E ≤ 1000000 := by have := liveN_le E; omega
  have hN : (numL E 0).length = liveN E := numL_len E 0
  clear hC hP hb hE zr
  go_enter Try.func33, Try.ntmps33
  go_wp2_with fail
  have k0 : Keeps [] w ((w.alloc (.cells #[.bool bk] 4)).alloc (.cells #[.int .i64 stop] 3)) := ((Keeps.refl [] w).alloc _).alloc _
  refine (rall_any t lo L c a E cl lv bi ma tu m _ (k0.has HB.out (by simp)) (HE.out.keeps k0 (by simp)) hl).mono ?_
  rintro r w1 ⟨a1, c1, rfl, e1, k1⟩
  have K1 := Lib.hid (k0.trans k1)
  have B0 := Lib.hid (k1.has (has_alloc (has_new w (.cells #[.bool bk] 4)) (.cells #[.int .i64 stop] 3)) (by simp))
  have S0 := Lib.hid (k1.has (has_new' (w.alloc (.cells #[.bool bk] 4)) (.cells #[.int .i64 stop] 3) (b := w.heap.size + 1) (by simp)) (by simp))
  have E1 := Lib.hid e1
  have z1 := k1.size
  simp only [World.size_alloc] at z1
  clear k0 k1 e1
  go_wp2_with fail
  have ka : Keeps [] w1 (w1.alloc (.cells #[.slice a1 (liveN E) c1] 25)) := (Keeps.refl [] w1).alloc _
  refine (rnumbers_any t lo L c a E cl lv bi ma tu m _ (ka.has (K1.out.has HB.out (by simp)) (by simp)) ((HE.out.keeps K1.out (by simp)).keeps ka (by simp)) hl).mono ?_
  rintro r w2 ⟨a2, c2, rfl, e2, k2⟩
  have K2 := Lib.hid (ka.trans k2)
  have L0 := Lib.hid (k2.has (has_new w1 (.cells #[.slice a1 (liveN E) c1] 25)) (by simp))
  have E2 := Lib.hid e2
  have z2 := k2.size
  simp only [World.size_alloc] at z2
  clear ka k2 e2
  go_wp2_with fail
  obtain ⟨W5, hW5⟩ : ∃ W5, (((w2.alloc (.cells #[.slice a2 (liveN E) c2] 22)).alloc (.cells #[.int .i64 0] 3)).alloc (.cells #[.bool true] 4)).alloc (.cells #[.bool false] 4) = W5 := ⟨_, rfl⟩
  have k5 : Keeps [] w2 W5 := by rw [← hW5]; exact ((((Keeps.refl [] w2).alloc _).alloc _).alloc _).alloc _
  have m5 : W5.heap[w2.heap.size]? = some (.cells #[.slice a2 (liveN E) c2] 22 (0, 0)) := by rw [← hW5]; exact has_alloc (has_alloc (has_alloc (has_new _ _) _) _) _
  have n5 : W5.heap[w2.heap.size + 1]? = some (.cells #[.int .i64 0] 3 (0, 0)) := by rw [← hW5]; exact has_alloc (has_alloc (has_new' _ _ (by simp)) _) _
  have o5 : W5.heap[w2.heap.size + 1 + 1]? = some (.cells #[.bool true] 4 (0, 0)) := by rw [← hW5]; exact has_alloc (has_new' _ _ (by simp)) _
  have v5 : W5.heap[w2.heap.size + 1 + 1 + 1]? = some (.cells #[.bool false] 4 (0, 0)) := by rw [← hW5]; exact has_new' _ _ (by simp)
  have K5 := Lib.hid k5
  have KW := Lib.hid ((K1.out.trans K2.out).trans k5)
  rw [hW5]
  have GO : GoAt w.heap.size (w.heap.size + 1) w1.heap.size w2.heap.size (w2.heap.size + 1) (w2.heap.size + 1 + 1) (w2.heap.size + 1 + 1 + 1) w.heap.size bk stop a1 c1 a2 c2 (numL E 0) 0 false W5 := by
    refine ⟨k5.has (K2.out.has B0.out (by simp)) (by simp), k5.has (K2.out.has S0.out (by simp)) (by simp), ?_, ?_, n5, o5, v5, ?_, ?_⟩
    · rw [hN]; exact k5.has L0.out (by simp)
    · rw [hN]; exact m5
    · rw [numL_snd]
      have h9 := E1.out
      exact ((h9.lift (fun x hx => by have := (h9.blk_lt x hx).1; simp at this; omega)).keeps K2.out (by simp)).keeps k5 (by simp)
    · rw [hN]
      have h9 := E2.out
      exact (h9.mono (by simp; omega)).keeps k5 (by simp)
  have OR : GoOrd w.heap.size (w.heap.size + 1) w1.heap.size w2.heap.size (w2.heap.size + 1) (w2.heap.size + 1 + 1) (w2.heap.size + 1 + 1 + 1) w.heap.size a1 a2 := by
    refine ⟨by omega, by omega, by omega, by omega, by omega, by omega, fun x hx => ?_, fun x hx => ?_⟩
    · have := E1.out.blk_lt x hx; simp at this; omega
    · have := (E2.out.blk_lt x hx).2; omega
  have GOH := Lib.hid GO
  have ORH := Lib.hid OR
  clear k5 m5 n5 o5 v5 hW5 GO OR
  have NP : ∀ A : World, Keeps [w2.heap.size + 1, w2.heap.size + 1 + 1, w2.heap.size + 1 + 1 + 1] W5 A → NuPriv b lo1 ra rc (numL E 0) A := fun A k => (HP.out.keeps KW.out (by simp) (by simp)).keeps k (by simp; omega) (fun x hx => by have := ZR.out x hx; simp; omega)
  have NPH := Lib.hid NP
  clear NP
  refine (HC.out 73 #[.pointer (some ⟨w2.heap.size + 1, 0, none⟩), .pointer (some ⟨w.heap.size, 0, none⟩), .pointer (some ⟨w1.heap.size, 0, none⟩), .pointer (some ⟨w2.heap.size + 1 + 1, 0, none⟩), .pointer (some ⟨w2.heap.size + 1 + 1 + 1, 0, none⟩), .pointer (some ⟨w2.heap.size, 0, none⟩), .pointer (some ⟨w.heap.size + 1, 0, none⟩)]
    (fun i A => GoAt w.heap.size (w.heap.size + 1) w1.heap.size w2.heap.size (w2.heap.size + 1) (w2.heap.size + 1 + 1) (w2.heap.size + 1 + 1 + 1) w.heap.size bk stop a1 c1 a2 c2 (numL E 0) i false A ∧ Keeps [w2.heap.size + 1, w2.heap.size + 1 + 1, w2.heap.size + 1 + 1 + 1] W5 A)
    (fun i A => GoAt w.heap.size (w.heap.size + 1) w1.heap.size w2.heap.size (w2.heap.size + 1) (w2.heap.size + 1 + 1) (w2.heap.size + 1 + 1 + 1) w.heap.size bk stop a1 c1 a2 c2 (numL E 0) (i + 1) true A ∧ ((i + 1 : Nat) : Int) = stop ∧ Keeps [w2.heap.size + 1, w2.heap.size + 1 + 1, w2.heap.size + 1 + 1 + 1] W5 A)
    _ enters_goesf (fun i A B h k => ⟨h.1.keeps k, h.2.trans (k.mono (by simp))⟩) (fun i A h => NPH.out A h.2) (fun i A h => NPH.out A h.2.2) ?_ ⟨GOH.out, Keeps.refl _ _⟩).mono ?_
  · intro i W hi hJ
    have hk : (if bk then encB (numL E 0) else encN (numL E 0)) i = encN (numL E 0) (if bk then (numL E 0).length - 1 - i else i) := by cases bk <;> rfl
    rw [hk]
    refine (goesf_any _ _ _ _ _ _ _ _ bk stop a1 c1 a2 c2 (numL E 0) i _ W (by rw [hN]; exact hlv) hi rfl ORH.out hJ.1).mono ?_
    rintro e B ⟨h1, rfl, h3⟩
    by_cases hs : ((i + 1 : Nat) : Int) = stop
    · have h9 : (((i + 1 : Nat) : Int) == stop) = true := by simpa using hs
      rw [h9] at h1 ⊢
      exact .inr ⟨rfl, h1, hs, hJ.2.trans h3⟩
    · have h9 : (((i + 1 : Nat) : Int) == stop) = false := by simpa using hs
      rw [h9] at h1 ⊢
      exact .inl ⟨rfl, h1, hJ.2.trans h3⟩
  · rintro r W6 ⟨rfl, hfin⟩
    obtain ⟨nn, hgo, hcase, k6⟩ : ∃ nn : Nat, (∃ over, GoAt w.heap.size (w.heap.size + 1) w1.heap.size w2.heap.size (w2.heap.size + 1) (w2.heap.size + 1 + 1) (w2.heap.size + 1 + 1 + 1) w.heap.size bk stop a1 c1 a2 c2 (numL E 0) nn over W6) ∧ (((nn : Nat) : Int) = (liveN E : Nat) ∨ (((nn : Nat) : Int) = stop ∧ 0 < stop)) ∧ Keeps [w2.heap.size + 1, w2.heap.size + 1 + 1, w2.heap.size + 1 + 1 + 1] W5 W6 := by
      rcases hfin with h | ⟨i, hi, h1, h2, h3⟩
      · exact ⟨_, ⟨_, h.1⟩, .inl (by rw [hN]), h.2⟩
      · exact ⟨_, ⟨_, h1⟩, .inr ⟨h2, by omega⟩, h3⟩
    obtain ⟨over, hgo⟩ := hgo
    have y1 : W6.cell? ⟨w2.heap.size + 1 + 1, 0, none⟩ = some (.bool true) := cell_has hgo.o (i := 0) rfl
    have y2 : W6.cell? ⟨w2.heap.size + 1, 0, none⟩ = some (.int .i64 nn) := cell_has hgo.n (i := 0) rfl
    have y3 : W6.cell? ⟨w.heap.size + 1, 0, none⟩ = some (.int .i64 stop) := cell_has hgo.s (i := 0) rfl
    obtain ⟨lv, hlve⟩ := ex_hid (liveN E)
    have y4 : W6.cell? ⟨w1.heap.size, 0, none⟩ = some (.slice a1 lv c1) := by have h9 := cell_has hgo.l (i := 0) rfl; rw [hN, ← hlve.out] at h9; exact h9
    rw [← hlve.out] at hcase
    have FIN : Hid (Below w.heap.size w W6) := Lib.hid ((KW.out.then k6 (by intro x hx; simp at hx; left; omega) : Keeps [] w W6).below (Nat.le_refl _) (by simp))
    clear hfin hgo k6
    by_cases h1 : (nn : Int) = stop
    · have e1 : ((nn : Int) == stop) = true := by simpa using h1
      by_cases h2 : 0 < stop
      · have e2 : decide (0 < stop) = true := by simpa using h2
        clear hcase h1
        go_wp2_with fail
        go_ret
        exact ⟨rfl, FIN.out⟩
      · have e2 : decide (0 < stop) = false := by simpa using h2
        have h3 : (nn : Int) = (lv : Int) := by rcases hcase with q | q <;> omega
        have e3 : ((nn : Int) == (lv : Int)) = true := by simpa using h3
        clear hcase h1 h3
        go_wp2_with fail
        go_ret
        exact ⟨rfl, FIN.out⟩
    · have e1 : ((nn : Int) == stop) = false := by simpa using h1
      have h3 : (nn : Int) = (lv : Int) := by rcases hcase with q | q <;> omega
      have e3 : ((nn : Int) == (lv : Int)) = true := by simpa using h3
      clear hcase h1 h3
      go_wp2_with fail
      go_ret
      exact ⟨rfl, FIN.out⟩

theorem ent_copy2 (lo lo2 cc B : Nat) (a : Option Addr) (E : List Ent) (W : World) (h : EntRow lo a cc E W) (hl : E.length ≤ 1000000) (hB : W.heap[B]? = some (.cells #[] 32 (0, 0))) (hlo : lo2 ≤ B) :
    ∃ ae ce W3, (Builtin.append_ #[25, 25] 25 #[.slice (some ⟨B, 0, none⟩) 0 0, .slice a E.length cc]).run Try.prog W = .ok (.slice ae E.length ce) W3 ∧ EntRow lo2 ae ce E W3 ∧ Keeps [B] W W3 := by
  obtain ⟨j0, hi, hz0, hz1, hz2⟩ := info_parts infoEnt5
  have hb0 : W.ownsRow lo2 32 5 (.slice (some ⟨B, 0, none⟩) 0 0) 0 [] := ⟨by simp, .inr ⟨B, 0, #[], rfl, hlo, hB, by omega, by unfold maxLen; omega, by simp, by simp⟩⟩
  have hlt := lt_of_block hB
  cases E with
  | nil =>
    refine ⟨some ⟨B, 0, none⟩, 0, W, ?_, hb0, Keeps.refl _ _⟩
    cases a with
    | none => simp [Builtin.append_, run_underlying Try.underlying25, sizeOf, typeInfo, hi, Builtin.lenOf, Builtin.firstCells, storeCells]
    | some p =>
      have hl0 := run_loadCells_list (P := Try.prog) W p [] (fun j v hv => by simp at hv)
      simp only [List.length_nil] at hl0
      simp [Builtin.append_, run_underlying Try.underlying25, sizeOf, typeInfo, hi, Builtin.lenOf, Builtin.firstCells, hl0, storeCells]
  | cons x E =>
    obtain ⟨g, rfl⟩ := h.shape (by simp)
    obtain ⟨g', cap, w', r1, r2, r3, r4, r5⟩ := run_append_lies (P := Try.prog) W 25 25 lo2 32 j0 noE.agg 5 40 Try.underlying25 hi hz0 hz1 hz2 rfl (by decide) (.slice (some ⟨B, 0, none⟩) 0 0) 0 [] hb0 ⟨g, 0, none⟩ (x :: E).length cc (flatE (x :: E)) (flatE_len _)
      (fun j u hj => by
        have hlt := (List.getElem?_eq_some_iff.1 hj).1
        rw [flatE_len] at hlt
        rw [show (⟨g, 0, none⟩ : Addr).add j = ⟨g, j, none⟩ by unfold Addr.add; split <;> simp_all, World.ownsRow.cellAt h j hlt]
        exact hj) (by intro v hv; simp only [flatE, List.mem_flatMap] at hv; obtain ⟨y, _, hy⟩ := hv; exact y.one v hy) (by simp) (by unfold maxLen; omega) (by omega) (by omega) _ rfl
    simp only [Nat.zero_add, List.nil_append] at r1 r2
    exact ⟨some ⟨g', 0, none⟩, cap, w', r1, r2, ⟨r3.os, r3.tape, r3.output, r3.size, fun k hk hn => r3.block k hk (by simp [Value.ownBlock]; intro e; simp at hn; omega)⟩⟩
/-- Two iterators and the document's copy, as they lie. -/
structure Held (b1 lo1 : Nat) (r1 : Option Addr) (c1 : Nat) (b2 lo2 : Nat) (r2 : Option Addr) (c2 : Nat) (N : List (Nat × Ent)) (tw lo3 L : Nat) (a : Option Addr) (c : Nat) (cl lv bi ma tu m : Value) (E : List Ent) (W : World) : Prop where
  p1 : NuPriv b1 lo1 r1 c1 N W
  p2 : NuPriv b2 lo2 r2 c2 N W
  t : W.heap[tw]? = some (rtabO (.slice a E.length c) L cl lv bi ma tu m)
  e : EntRow lo3 a c E W
def heldS (b1 : Nat) (r1 : Option Addr) (b2 : Nat) (r2 : Option Addr) (tw : Nat) (a : Option Addr) : List Nat := b1 :: b2 :: tw :: (blk r1 ++ blk r2 ++ blk a)
section
variable {b1 lo1 c1 b2 lo2 c2 tw lo3 L c : Nat} {r1 r2 a : Option Addr} {N : List (Nat × Ent)} {cl lv bi ma tu m : Value} {E : List Ent} {W W' : World} {S : List Nat}
theorem Held.keeps (h : Held b1 lo1 r1 c1 b2 lo2 r2 c2 N tw lo3 L a c cl lv bi ma tu m E W) (k : Keeps S W W') (hd : ∀ x, x ∈ heldS b1 r1 b2 r2 tw a → x ∉ S) : Held b1 lo1 r1 c1 b2 lo2 r2 c2 N tw lo3 L a c cl lv bi ma tu m E W' :=
  ⟨h.p1.keeps k (hd _ (by simp [heldS])) (fun x hx => hd _ (by simp [heldS, hx])), h.p2.keeps k (hd _ (by simp [heldS])) (fun x hx => hd _ (by simp [heldS, hx])), k.has h.t (hd _ (by simp [heldS])), h.e.keeps k (fun x hx => hd _ (by simp [heldS, hx]))⟩
theorem Held.lt (h : Held b1 lo1 r1 c1 b2 lo2 r2 c2 N tw lo3 L a c cl lv bi ma tu m E W) : ∀ x, x ∈ heldS b1 r1 b2 r2 tw a → x < W.heap.size := by
  intro x hx
  simp only [heldS, List.mem_cons, List.mem_append] at hx
  rcases hx with rfl | rfl | rfl | (hx | hx) | hx
  · exact lt_of_block h.p1.1
  · exact lt_of_block h.p2.1
  · exact lt_of_block h.t
  · exact h.p1.2.low x hx
  · exact h.p2.2.low x hx
  · exact (h.e.blk_lt x hx).2
end
theorem eql_seqE_nil (f : Fn) (a b : Array Value) (w : World) : (binOp .eql 80 (.func f a b) .nilFunc).run Try.prog w = .ok (.bool false) w := by kernel_rfl
theorem tableGoes_early (a1 a2 : Option Addr) (n1 n2 c1 c2 : Nat) (stop : Int) (w : World) (h : 400 < n1 ∨ (n1 ≤ 400 ∧ 400 < n2)) :
    Calls Try.prog 11 #[.slice a1 n1 c1, .slice a2 n2 c2, .int .i64 stop] w fun e w' => e = .returned (.bool true) ∧ Below w.heap.size w w' := by
  rcases h with h | ⟨h, h2⟩
  · have d1 : decide ((400 : Int) < (n1 : Int)) = true := by simp; omega
    go_enter Try.func11, Try.ntmps11
    go_wp2_with (go_at_call 13; refine (awake7 _).mono ?_; rintro e w' ⟨rfl, hb⟩)
    go_ret
    exact ⟨rfl, hb⟩
  · have d1 : decide ((400 : Int) < (n1 : Int)) = false := by simp; omega
    have d2 : decide ((400 : Int) < (n2 : Int)) = true := by simp; omega
    go_enter Try.func11, Try.ntmps11
    go_wp2_with (go_at_call 13; refine (awake7 _).mono ?_; rintro e w' ⟨rfl, hb⟩)
    go_ret
    exact ⟨rfl, hb⟩
set_option maxRecDepth 100000 in
set_option maxHeartbeats 8000000 in
theorem tableGoes_main (a1 a2 : Option Addr) (n1 n2 c1 c2 : Nat) (stop : Int) (F1 F2 : Nat → Int) (w : World) (h1 : n1 ≤ 400) (h2 : n2 ≤ 400) (s1 : IntRow .i64 5 w a1 n1 F1) (s2 : IntRow .i64 5 w a2 n2 F2) :
    Calls Try.prog 11 #[.slice a1 n1 c1, .slice a2 n2 c2, .int .i64 stop] w fun e w' => e = .returned (.bool true) ∧ Below w.heap.size w w' := by
  have d1 : decide ((400 : Int) < (n1 : Int)) = false := by simp; omega
  have d2 : decide ((400 : Int) < (n2 : Int)) = false := by simp; omega
  have Z1 := Lib.hid s1
  have Z2 := Lib.hid s2
  clear s1 s2
  go_enter Try.func11, Try.ntmps11
  go_wp2_with fail
  refine (plays_any a1 n1 c1 F1 none none ⟨0, 0, 0, 0⟩ _ Z1.out h1 (mtrNone _ _) (ctrNone _ _) (by simp) (by simp [mS])).mono ?_
  rintro r w1 ⟨xb, F, c, T, so, rfl, t9, hI9, k9⟩
  have T9 := Lib.hid t9
  have I9 := Lib.hid hI9
  have K9 := Lib.hid (show Keeps [] w w1 from k9.mono (by simp [mS]))
  obtain ⟨t, tw, S, R, sp, kp, g1, g2, g3, g4, g5, g6, g7⟩ := t9
  have TA := Lib.hid g2
  have RA := Lib.hid g3
  have y0 : w1.cell? ⟨xb, 0, none⟩ = some (.pointer (some ⟨t, 0, none⟩)) := cell_has g1 (i := 0) rfl
  have y1 : w1.cell? ⟨xb, 1, none⟩ = some (.pointer (some ⟨tw, 0, none⟩)) := cell_has g1 (i := 1) rfl
  have e6 : T.E.length ≤ 1000000 := by have := hI9.ek; omega
  clear g1 g2 g3 g4 g5 g6 g7 k9 hI9
  obtain ⟨ta, tc, tcp, tma, tb, tr⟩ := TA.out.block
  have TB := Lib.hid (And.intro tb tr)
  clear tb tr
  go_wp2_with fail
  refine (all_gen t w.heap.size ta tc T.E w1 (cell_has TB.out.1 (i := 1) rfl) (cell_has TB.out.1 (i := 3) rfl) TB.out.2 e6).mono ?_
  rintro r w2 ⟨b1, r1, q1, rfl, hb1, hr1, zb1, k2⟩
  have P1 : Hid (NuPriv b1 w1.heap.size r1 q1 (numL T.E 0) w2) := Lib.hid ⟨by rw [numL_len]; exact hb1, hr1⟩
  have K2 := Lib.hid k2
  replace y0 := k2.cell y0 (by simp)
  replace y1 := k2.cell y1 (by simp)
  clear hb1 hr1 k2
  go_wp2_with fail
  refine (back_gen t w.heap.size ta tc T.E w2 (K2.out.cell (cell_has TB.out.1 (i := 1) rfl) (by simp)) (K2.out.cell (cell_has TB.out.1 (i := 3) rfl) (by simp)) (TB.out.2.keeps K2.out (by simp)) e6).mono ?_
  rintro r w3 ⟨b2, r2, q2, rfl, hb2, hr2, zb2, k3⟩
  have P2 : Hid (NuPriv b2 w2.heap.size r2 q2 (numL T.E 0) w3) := Lib.hid ⟨by rw [numL_len]; exact hb2, hr2⟩
  have K3 := Lib.hid k3
  replace y0 := k3.cell y0 (by simp)
  replace y1 := k3.cell y1 (by simp)
  clear hb2 hr2 k3
  go_wp2_with fail
  refine (rcopy_any tw w.heap.size R none c T w3 (RA.out.keeps (K2.out.trans K3.out) (by simp)) (ctrNone _ _) (I9.out.mono (by omega))).mono ?_
  rintro r w4 ⟨t4, S4, rfl, u4, _, k4'⟩
  have k4 : Keeps [] w3 w4 := k4'.mono (by simp [mS])
  have K4 := Lib.hid k4
  replace y0 := k4.cell y0 (by simp)
  replace y1 := k4.cell y1 (by simp)
  obtain ⟨a4, c4, q4, v1, v2, v3, v4, v5, v6, v7⟩ := u4
  have z4 := (v7 t4 v4).1
  obtain ⟨ra, rc, rq, rb, rr, _⟩ := RA.out
  have hbW : (w4.alloc (.cells #[] 32)).heap[w4.heap.size]? = some (.cells #[] 32 (0, 0)) := has_new _ _
  have krw : Keeps [] w1 (w4.alloc (.cells #[] 32)) := (((K2.out.trans K3.out).trans k4).alloc _)
  obtain ⟨ae, ce, W5, hrun, n1', n2'⟩ := ent_copy2 w.heap.size w4.heap.size rc w4.heap.size ra T.E _ (rr.keeps krw (by simp)) e6 hbW (Nat.le_refl _)
  have HRun := Lib.hid hrun
  have yw0 : w4.cell? ⟨tw, 0, none⟩ = some (.slice ra T.E.length rc) := ((K2.out.trans K3.out).trans k4).cell (cell_has rb (i := 0) rfl) (by simp)
  have x4 : w4.cell? ⟨t4, 0, none⟩ = some (.slice a4 T.copy.E.length c4) := cell_has v1 (i := 0) rfl
  have z3 := lt_of_block v1
  have k5 : Keeps [] w4 W5 := ((Keeps.refl [] w4).alloc _).then n2' (by intro x hx; simp at hx; left; omega)
  have x45 := k5.cell x4 (by simp)
  have f45 := free_of_has (k5.has v1 (by simp)) 0
  have y05 := k5.cell y0 (by simp)
  have y15 := k5.cell y1 (by simp)
  have V1 := Lib.hid (k5.has v1 (by simp))
  have K5 := Lib.hid k5
  have EW := Lib.hid n1'
  clear v1 v2 v3 v4 v5 v6 v7 hbW krw hrun n1' n2' k4 k4' rb rr k5
  obtain ⟨en, hen⟩ := ex_hid T.E.length
  rw [← hen.out] at yw0 HRun
  have y1a : (w4.alloc (.cells #[] 32)).cell? ⟨xb, 1, none⟩ = some (.pointer (some ⟨tw, 0, none⟩)) := cell_alloc y1 _
  have ywa : (w4.alloc (.cells #[] 32)).cell? ⟨tw, 0, none⟩ = some (.slice ra en rc) := cell_alloc yw0 _
  go_wp2_with (at_builtin; refine wpList_append_run rfl _ _ 25 rfl _ _ rfl rfl _ _ HRun.out ?_)
  obtain ⟨W6, hW6⟩ : ∃ W6, W5.setCell ⟨t4, 0, none⟩ (.slice ae en ce) = W6 := ⟨_, rfl⟩
  have kS : Keeps [t4] W5 W6 := by rw [← hW6]; exact (Keeps.refl _ _).setCell (.inr (by simp)) _
  have vS := rtabO_set0 (v := .slice ae en ce) V1.out
  rw [hW6] at vS ⊢
  have zz1 := lt_of_block P1.out.1
  have zz2 := lt_of_block P2.out.1
  have zk3 := K3.out.size
  have zk2 := K2.out.size
  have zk4 := K4.out.size
  have zk9 := K9.out.size
  have hld : Held b1 w1.heap.size r1 q1 b2 w2.heap.size r2 q2 (numL T.E 0) t4 w4.heap.size T.copy.L ae ce (.slice (some ⟨q4, 0, none⟩) (2 ^ T.copy.L) (2 ^ T.copy.L)) (.int .i64 (liveN T.copy.E : Nat)) (.int .i64 (T.copy.births : Nat)) (.int .i64 (T.copy.made : Nat)) (.int .i64 (T.copy.turns : Nat)) (mV none) T.E W6 := by
    refine ⟨((P1.out.keeps (K3.out.trans (K4.out.trans K5.out)) (by simp) (by simp)).keeps kS (by simp; omega) (fun x hx => by have := P1.out.2.low x hx; simp; omega)), ((P2.out.keeps (K4.out.trans K5.out) (by simp) (by simp)).keeps kS (by simp; omega) (fun x hx => by have := P2.out.2.low x hx; simp; omega)), ?_, EW.out.keeps kS (fun x hx => by have := (EW.out.blk_lt x hx).1; simp; omega)⟩
    rw [← hen.out]; exact vS
  have K16 : Keeps [] w W6 := ((((K9.out.trans K2.out).trans K3.out).trans K4.out).trans K5.out).then kS (by intro x hx; simp at hx; left; omega)
  have TW6 : TwoAt xb w.heap.size F none none c T so W6 := (T9.out.keeps (((K2.out.trans K3.out).trans K4.out).trans K5.out) (by simp)).keeps kS (fun x hx => by
    simp at hx; subst hx
    exact ⟨fun hf => by have := (T9.out.foot _ hf).2; omega, by simp [mS], by simp [mS]⟩)
  have hdis : ∀ x, x ∈ heldS b1 r1 b2 r2 t4 ae → x ∉ F := fun x hx hf => by
    have h0 := (T9.out.foot x hf).2
    simp only [heldS, List.mem_cons, List.mem_append] at hx
    rcases hx with rfl | rfl | rfl | (hx | hx) | hx
    · omega
    · omega
    · omega
    · have := (P1.out.2.blk_lt x hx).1; omega
    · have := (P2.out.2.blk_lt x hx).1; omega
    · have := (EW.out.blk_lt x hx).1; omega
  have HLD := Lib.hid hld
  have HK6 := Lib.hid K16
  have HT6 := Lib.hid TW6
  have HDS := Lib.hid hdis
  have hC1 : CallN 70 b1 w1.heap.size r1 q1 (numL T.E 0) (if false then encB (numL T.E 0) else encN (numL T.E 0)) := all1_call _ _ _ _ _ (by rw [numL_len]; have := liveN_le T.E; omega)
  have hC2 : CallN 71 b2 w2.heap.size r2 q2 (numL T.E 0) (if true then encB (numL T.E 0) else encN (numL T.E 0)) := back1_call _ _ _ _ _ (by rw [numL_len]; have := liveN_le T.E; omega)
  have HC := Lib.hid (And.intro hC1 hC2)
  have hq := eql_seqE_nil
  clear hW6 kS vS hld K16 TW6 hdis hC1 hC2 y0 y1 yw0 x4 x45 f45 y05 y15 HRun P1 P2 V1 EW K5 K4 K3 K2 T9 TA RA TB y1a ywa
  go_wp2_with fail
  refine (goes_any _ false enters_tall b1 _ r1 q1 T.E HC.out.1 e6 t4 _ _ ce ae _ _ _ _ _ _ stop W6 HLD.out.p1 HLD.out.t HLD.out.e).mono ?_
  rintro r w7 ⟨rfl, b7⟩
  have HLD7 := Lib.hid (HLD.out.keeps (Below.keeps b7 []) (by simp))
  have K7 := Lib.hid (Below.keeps b7 [])
  clear b7
  go_wp2_with fail
  refine (goes_any _ true enters_tback b2 _ r2 q2 T.E HC.out.2 e6 t4 _ _ ce ae _ _ _ _ _ _ stop w7 HLD7.out.p2 HLD7.out.t HLD7.out.e).mono ?_
  rintro r w8 ⟨rfl, b8⟩
  have K68 := Lib.hid (K7.out.trans (Below.keeps b8 []))
  clear b8
  go_wp2_with fail
  go_loopw [12] (fun i wr => ∃ (k : Nat) (F : List Nat) (c : C4) (U : Tab) (so : Option Sk), k ≤ n2 ∧ i = .int .i64 k ∧ TwoAt xb w.heap.size F none none c U so wr ∧ TInv (400 + k) U ∧ Held b1 w1.heap.size r1 q1 b2 w2.heap.size r2 q2 (numL T.E 0) t4 w4.heap.size T.copy.L ae ce (.slice (some ⟨q4, 0, none⟩) (2 ^ T.copy.L) (2 ^ T.copy.L)) (.int .i64 (liveN T.copy.E : Nat)) (.int .i64 (T.copy.births : Nat)) (.int .i64 (T.copy.made : Nat)) (.int .i64 (T.copy.turns : Nat)) (mV none) T.E wr ∧ (∀ x, x ∈ heldS b1 r1 b2 r2 t4 ae → x ∉ F) ∧ Keeps [] w wr) (fun i _ => n2 - (intOf i).toNat)
  case atStart => exact ⟨0, F, c, T, so, by omega, rfl, HT6.out.keeps K68.out (by simp), I9.out, HLD.out.keeps K68.out (by simp), HDS.out, HK6.out.trans K68.out⟩
  case round =>
    obtain ⟨k, F, c, U, so, hk, rfl, hT, hI, hH, hD, hK⟩ := hrel
    clear HT6 HLD HLD7 K7 K68 HDS I9
    have hk0 : (0 : Int) ≤ (k : Int) := by omega
    have HT := Lib.hid hT
    have HI := Lib.hid hI
    have HH := Lib.hid hH
    have HD := Lib.hid hD
    have HK0 := Lib.hid hK
    clear hT hI hH hD
    by_cases hlt : k < n2
    · have hlt' : (k : Int) < (n2 : Int) := by omega
      rcases Z2.out with h0 | ⟨b, off, rfl, hb1, hb2, hcl⟩
      · omega
      have hcell : ∀ i, i < 5 → wr.cell? ⟨b, off + (k * 5 + i), none⟩ = some (.int .i64 (F2 (k * 5 + i))) := fun i hi => hK.cell (hcl (k * 5 + i) (by omega)).1 (by simp)
      obtain ⟨x0, hx0⟩ := ex_hid (F2 (k * 5 + 0))
      obtain ⟨x1, hx1⟩ := ex_hid (F2 (k * 5 + 1))
      obtain ⟨x2, hx2⟩ := ex_hid (F2 (k * 5 + 2))
      obtain ⟨x3, hx3⟩ := ex_hid (F2 (k * 5 + 3))
      obtain ⟨x4, hx4⟩ := ex_hid (F2 (k * 5 + 4))
      have e0 : wr.cell? ⟨b, off + k * 5, none⟩ = some (.int .i64 x0) := by rw [hx0.out]; exact hcell 0 (by omega)
      have e1 : wr.cell? ⟨b, off + k * 5 + 1, none⟩ = some (.int .i64 x1) := by rw [hx1.out]; exact hcell 1 (by omega)
      have e2 : wr.cell? ⟨b, off + k * 5 + 2, none⟩ = some (.int .i64 x2) := by rw [hx2.out]; exact hcell 2 (by omega)
      have e3 : wr.cell? ⟨b, off + k * 5 + 3, none⟩ = some (.int .i64 x3) := by rw [hx3.out]; exact hcell 3 (by omega)
      have e4 : wr.cell? ⟨b, off + k * 5 + 4, none⟩ = some (.int .i64 x4) := by rw [hx4.out]; exact hcell 4 (by omega)
      clear hcell hcl hK
      go_wp2_with fail
      refine (does_any xb w.heap.size (400 + k) F none none c U so _ HT.out (by omega) HI.out x0 x1 x2 x3 x4).mono ?_
      rintro r w5 ⟨rfl, F', c', T', so', t9, hI9, k9, g9⟩
      have T5 := Lib.hid t9
      have I5 := Lib.hid hI9
      have hd1 : ∀ x, x ∈ heldS b1 r1 b2 r2 t4 ae → x ∉ F ++ mS none ++ mS none := fun x hx hf => by simp [mS] at hf; exact HD.out x hx hf
      have H5 := Lib.hid (HH.out.keeps k9 hd1)
      have D5 := Lib.hid (show ∀ x, x ∈ heldS b1 r1 b2 r2 t4 ae → x ∉ F' from fun x hx hf => by
        rcases g9 x hf with q | q
        · exact HD.out x hx q
        · have := HH.out.lt x hx; omega)
      have K5 := Lib.hid (HK0.out.then k9 (fun x hx => by simp [mS] at hx; left; exact (HT.out.foot x hx).1))
      clear t9 hI9 k9 g9 hd1
      go_wp2_with fail
      go_roundw
      case rel => exact ⟨k + 1, F', c', T', so', by omega, by go_num, T5.out, I5.out, H5.out, D5.out, K5.out⟩
      case measure => simp [intOf]; omega
    · obtain rfl : k = n2 := by omega
      have hge : ¬ (k : Int) < (k : Int) := by omega
      obtain ⟨t', tw', S, R, sp1, kp, g1, g2, g3, g4, g5, g6, g7⟩ := HT.out
      have RA := Lib.hid g3
      obtain ⟨ta, tc, tcp, tma, tb, tr⟩ := g2.block
      have TB := Lib.hid (And.intro tb tr)
      have y0 : wr.cell? ⟨xb, 0, none⟩ = some (.pointer (some ⟨t', 0, none⟩)) := cell_has g1 (i := 0) rfl
      have y1 : wr.cell? ⟨xb, 1, none⟩ = some (.pointer (some ⟨tw', 0, none⟩)) := cell_has g1 (i := 1) rfl
      have hE : U.E.length ≤ 1000000 := by have := HI.out.ek; omega
      clear g1 g2 g3 g4 g5 g6 g7 hK tb tr
      go_upto_region 17 with (fail)
      refine wp_regionG (fun w' => w'.cell? ⟨xb, 0, none⟩ = some (.pointer (some ⟨t', 0, none⟩)) ∧ w'.cell? ⟨xb, 1, none⟩ = some (.pointer (some ⟨tw', 0, none⟩))) 24 (by kernel_rfl) ⟨y0, y1⟩ (fun hF => ?_)
      refine wpAnyG_takeY (i := 0) (v := ?_) rfl (by kernel_rfl) (by decide +kernel) (by decide +kernel) (by decide +kernel) (fun _ _ _ h => h) (by kernel_rfl) ?_ (by assumption) ?_
      rotate_left
      · (intro wz; go_simp; with_reducible rfl)
      try simp only [Act.put, List.setIfInBounds_toArray, List.set_cons_zero, List.set_cons_succ]
      refine wpAnyG_takeY (i := 1) (v := ?_) rfl (by kernel_rfl) (by decide +kernel) (by decide +kernel) (by decide +kernel) (fun _ _ _ h => h) (by kernel_rfl) ?_ (by assumption) ?_
      rotate_left
      · (intro wz; go_simp; with_reducible rfl)
      try simp only [Act.put, List.setIfInBounds_toArray, List.set_cons_zero, List.set_cons_succ]
      refine wpAnyG_one (i := 2) rfl (by kernel_rfl) (by kernel_rfl) (fun K hK => ?_)
      have HK := Lib.hid hK
      clear hK
      go_simp
      refine (goes_any _ false enters_tall b1 _ r1 q1 T.E HC.out.1 e6 t4 _ _ ce ae _ _ _ _ _ _ 0 wr.drew (HH.out.keeps (Keeps.refl [] wr).drew (by simp)).p1 HH.out.t (HH.out.keeps (Keeps.refl [] wr).drew (by simp)).e).mono ?_
      rintro r w7 ⟨rfl, b7⟩
      have k7 := Below.keeps b7 []
      have hF7 : (fun w' => w'.cell? ⟨xb, 0, none⟩ = some (.pointer (some ⟨t', 0, none⟩)) ∧ w'.cell? ⟨xb, 1, none⟩ = some (.pointer (some ⟨tw', 0, none⟩))) w7 := ⟨k7.cell (w := wr.drew) y0 (by simp), k7.cell (w := wr.drew) y1 (by simp)⟩
      have K7 := Lib.hid ((Keeps.refl [] wr).drew.trans k7)
      clear b7 k7
      refine HK.out _ _ hF7 ?_
      clear HK K
      try simp only [Act.put, List.setIfInBounds_toArray, List.set_cons_zero, List.set_cons_succ]
      refine wpAnyG_takeY (i := 3) (v := ?_) rfl (by kernel_rfl) (by decide +kernel) (by decide +kernel) (by decide +kernel) (fun _ _ _ h => h) (by kernel_rfl) ?_ (by assumption) ?_
      rotate_left
      · (intro wz; go_simp; with_reducible rfl)
      try simp only [Act.put, List.setIfInBounds_toArray, List.set_cons_zero, List.set_cons_succ]
      refine wpAnyG_takeY (i := 4) (v := ?_) rfl (by kernel_rfl) (by decide +kernel) (by decide +kernel) (by decide +kernel) (fun _ _ _ h => h) (by kernel_rfl) ?_ (by assumption) ?_
      rotate_left
      · (intro wz; go_simp; with_reducible rfl)
      try simp only [Act.put, List.setIfInBounds_toArray, List.set_cons_zero, List.set_cons_succ]
      refine wpAnyG_takeY (i := 5) (v := ?_) rfl (by kernel_rfl) (by decide +kernel) (by decide +kernel) (by decide +kernel) (fun _ _ _ h => h) (by kernel_rfl) ?_ (by assumption) ?_
      rotate_left
      · (intro wz; go_simp; with_reducible rfl)
      try simp only [Act.put, List.setIfInBounds_toArray, List.set_cons_zero, List.set_cons_succ]
      refine wpAnyG_one (i := 6) rfl (by kernel_rfl) (by kernel_rfl) (fun K hK => ?_)
      have HK := Lib.hid hK
      clear hK
      go_simp
      refine (goes_any _ true enters_tback b2 _ r2 q2 T.E HC.out.2 e6 t4 _ _ ce ae _ _ _ _ _ _ 0 w7 (HH.out.keeps K7.out (by simp)).p2 (HH.out.keeps K7.out (by simp)).t (HH.out.keeps K7.out (by simp)).e).mono ?_
      rintro r w8 ⟨rfl, b8⟩
      have k8 := Below.keeps b8 []
      obtain ⟨i0, i1⟩ := id hF7
      have hF8 : (fun w' => w'.cell? ⟨xb, 0, none⟩ = some (.pointer (some ⟨t', 0, none⟩)) ∧ w'.cell? ⟨xb, 1, none⟩ = some (.pointer (some ⟨tw', 0, none⟩))) w8 := ⟨k8.cell i0 (by simp), k8.cell i1 (by simp)⟩
      have K8 := Lib.hid (K7.out.trans k8)
      clear b8 k8 i0 i1
      refine HK.out _ _ hF8 ?_
      clear HK K
      try simp only [Act.put, List.setIfInBounds_toArray, List.set_cons_zero, List.set_cons_succ]
      refine wpAnyG_takeY (i := 7) (v := ?_) rfl (by kernel_rfl) (by decide +kernel) (by decide +kernel) (by decide +kernel) (fun _ _ _ h => h) (by kernel_rfl) ?_ (by assumption) ?_
      rotate_left
      · (intro wz; go_simp; with_reducible rfl)
      try simp only [Act.put, List.setIfInBounds_toArray, List.set_cons_zero, List.set_cons_succ]
      refine wpAnyG_takeY (i := 8) (v := ?_) rfl (by kernel_rfl) (by decide +kernel) (by decide +kernel) (by decide +kernel) (fun _ _ _ h => h) (by kernel_rfl) ?_ (by assumption) ?_
      rotate_left
      · (intro wz; go_simp; with_reducible rfl)
      try simp only [Act.put, List.setIfInBounds_toArray, List.set_cons_zero, List.set_cons_succ]
      refine wpAnyG_takeY (i := 9) (v := ?_) rfl (by kernel_rfl) (by decide +kernel) (by decide +kernel) (by decide +kernel) (fun _ _ _ h => h) (by kernel_rfl) ?_ (by assumption) ?_
      rotate_left
      · (intro wz; go_simp; with_reducible rfl)
      try simp only [Act.put, List.setIfInBounds_toArray, List.set_cons_zero, List.set_cons_succ]
      refine wpAnyG_takeY (i := 10) (v := ?_) rfl (by kernel_rfl) (by decide +kernel) (by decide +kernel) (by decide +kernel) (fun _ _ _ h => h) (by kernel_rfl) ?_ (by assumption) ?_
      rotate_left
      · (intro wz; go_simp; with_reducible rfl)
      try simp only [Act.put, List.setIfInBounds_toArray, List.set_cons_zero, List.set_cons_succ]
      refine wpAnyG_takeY (i := 11) (v := ?_) rfl (by kernel_rfl) (by decide +kernel) (by decide +kernel) (by decide +kernel) (fun _ _ _ h => h) (by kernel_rfl) ?_ (by assumption) ?_
      rotate_left
      · (intro wz; go_simp; with_reducible rfl)
      try simp only [Act.put, List.setIfInBounds_toArray, List.set_cons_zero, List.set_cons_succ]
      refine wpAnyG_take (i := 12) (v := ?_) rfl (by kernel_rfl) (by decide +kernel) (by decide +kernel) (by decide +kernel) (by decide +kernel) (by rfl) (fun _ _ _ h => h) (by kernel_rfl) ?_ (by assumption) ?_
      rotate_left
      · (intro wz hSw; (try dsimp only at hSw); go_simp; with_reducible rfl)
      try simp only [Act.put, List.setIfInBounds_toArray, List.set_cons_zero, List.set_cons_succ]
      refine wpAnyG_takeY (i := 14) (v := ?_) rfl (by kernel_rfl) (by decide +kernel) (by decide +kernel) (by decide +kernel) (fun _ _ _ h => h) (by kernel_rfl) ?_ (by assumption) ?_
      rotate_left
      · (intro wz; go_simp; with_reducible rfl)
      try simp only [Act.put, List.setIfInBounds_toArray, List.set_cons_zero, List.set_cons_succ]
      refine wpAnyG_takeY (i := 15) (v := ?_) rfl (by kernel_rfl) (by decide +kernel) (by decide +kernel) (by decide +kernel) (fun _ _ _ h => h) (by kernel_rfl) ?_ (by assumption) ?_
      rotate_left
      · (intro wz; go_simp; with_reducible rfl)
      try simp only [Act.put, List.setIfInBounds_toArray, List.set_cons_zero, List.set_cons_succ]
      refine wpAnyG_takeY (i := 16) (v := ?_) rfl (by kernel_rfl) (by decide +kernel) (by decide +kernel) (by decide +kernel) (fun _ _ _ h => h) (by kernel_rfl) ?_ (by assumption) ?_
      rotate_left
      · (intro wz; go_simp; with_reducible rfl)
      try simp only [Act.put, List.setIfInBounds_toArray, List.set_cons_zero, List.set_cons_succ]
      refine wpAnyG_take (i := 17) (v := ?_) rfl (by kernel_rfl) (by decide +kernel) (by decide +kernel) (by decide +kernel) (by decide +kernel) (by rfl) (fun _ _ _ h => h) (by kernel_rfl) ?_ (by assumption) ?_
      rotate_left
      · (intro wz hSw; (try dsimp only at hSw); go_simp; with_reducible rfl)
      try simp only [Act.put, List.setIfInBounds_toArray, List.set_cons_zero, List.set_cons_succ]
      refine wpAnyG_one (i := 13) rfl (by kernel_rfl) (by kernel_rfl) (fun K hK => ?_)
      have HK := Lib.hid hK
      clear hK
      go_simp
      refine (all_gen t' w.heap.size ta tc U.E w8 (K8.out.cell (cell_has TB.out.1 (i := 1) rfl) (by simp)) (K8.out.cell (cell_has TB.out.1 (i := 3) rfl) (by simp)) (TB.out.2.keeps K8.out (by simp)) hE).mono ?_
      rintro r w9 ⟨b3, r3, q3, rfl, hb3, hr3, zb3, k9⟩
      have P3 : Hid (NuPriv b3 w8.heap.size r3 q3 (numL U.E 0) w9) := Lib.hid ⟨by rw [numL_len]; exact hb3, hr3⟩
      obtain ⟨i0, i1⟩ := id hF8
      have hF9 : (fun w' => w'.cell? ⟨xb, 0, none⟩ = some (.pointer (some ⟨t', 0, none⟩)) ∧ w'.cell? ⟨xb, 1, none⟩ = some (.pointer (some ⟨tw', 0, none⟩))) w9 := ⟨k9.cell i0 (by simp), k9.cell i1 (by simp)⟩
      have K9 := Lib.hid (K8.out.trans k9)
      clear k9 i0 i1 hb3 hr3
      refine HK.out _ _ hF9 ?_
      clear HK K
      try simp only [Act.put, List.setIfInBounds_toArray, List.set_cons_zero, List.set_cons_succ]
      refine wpAnyG_one (i := 18) rfl (by kernel_rfl) (by kernel_rfl) (fun K hK => ?_)
      have HK := Lib.hid hK
      clear hK
      go_simp
      obtain ⟨ra, rc, rq, rb, rr, _⟩ := RA.out.keeps K9.out (by simp)
      have hC3 : CallN 70 b3 w8.heap.size r3 q3 (numL U.E 0) (if false then encB (numL U.E 0) else encN (numL U.E 0)) := all1_call _ _ _ _ _ (by rw [numL_len]; have := liveN_le U.E; omega)
      refine (goes_any _ false enters_tall b3 _ r3 q3 U.E hC3 hE tw' _ _ rc ra _ _ _ _ _ _ 0 w9 P3.out rb rr).mono ?_
      rintro r w10 ⟨rfl, b10⟩
      have k10 := Below.keeps b10 []
      obtain ⟨i0, i1⟩ := id hF9
      have hF10 : (fun w' => w'.cell? ⟨xb, 0, none⟩ = some (.pointer (some ⟨t', 0, none⟩)) ∧ w'.cell? ⟨xb, 1, none⟩ = some (.pointer (some ⟨tw', 0, none⟩))) w10 := ⟨k10.cell i0 (by simp), k10.cell i1 (by simp)⟩
      have K10 := Lib.hid (K9.out.trans k10)
      clear b10 k10 i0 i1 rb rr hC3
      refine HK.out _ _ hF10 ?_
      clear HK K
      try simp only [Act.put, List.setIfInBounds_toArray, List.set_cons_zero, List.set_cons_succ]
      refine wpAnyG_takeY (i := 19) (v := ?_) rfl (by kernel_rfl) (by decide +kernel) (by decide +kernel) (by decide +kernel) (fun _ _ _ h => h) (by kernel_rfl) ?_ (by assumption) ?_
      rotate_left
      · (intro wz; go_simp; with_reducible rfl)
      try simp only [Act.put, List.setIfInBounds_toArray, List.set_cons_zero, List.set_cons_succ]
      refine wpAnyG_takeY (i := 20) (v := ?_) rfl (by kernel_rfl) (by decide +kernel) (by decide +kernel) (by decide +kernel) (fun _ _ _ h => h) (by kernel_rfl) ?_ (by assumption) ?_
      rotate_left
      · (intro wz; go_simp; with_reducible rfl)
      try simp only [Act.put, List.setIfInBounds_toArray, List.set_cons_zero, List.set_cons_succ]
      refine wpAnyG_one (i := 21) rfl (by kernel_rfl) (by kernel_rfl) (fun K hK => ?_)
      have HK := Lib.hid hK
      clear hK
      go_simp
      refine (awake7 _).mono ?_
      rintro r w11 ⟨rfl, b11⟩
      have k11 := Below.keeps b11 []
      obtain ⟨i0, i1⟩ := id hF10
      have hF11 : (fun w' => w'.cell? ⟨xb, 0, none⟩ = some (.pointer (some ⟨t', 0, none⟩)) ∧ w'.cell? ⟨xb, 1, none⟩ = some (.pointer (some ⟨tw', 0, none⟩))) w11 := ⟨k11.cell i0 (by simp), k11.cell i1 (by simp)⟩
      have K11 := Lib.hid (K10.out.trans k11)
      clear b11 k11 i0 i1
      refine HK.out _ _ hF11 ?_
      clear HK K
      try simp only [Act.put, List.setIfInBounds_toArray, List.set_cons_zero, List.set_cons_succ]
      refine wpAnyG_takeY (i := 22) (v := ?_) rfl (by kernel_rfl) (by decide +kernel) (by decide +kernel) (by decide +kernel) (fun _ _ _ h => h) (by kernel_rfl) ?_ (by assumption) ?_
      rotate_left
      · (intro wz; go_simp; with_reducible rfl)
      try simp only [Act.put, List.setIfInBounds_toArray, List.set_cons_zero, List.set_cons_succ]
      refine wpAnyG_takeY (i := 23) (v := ?_) rfl (by kernel_rfl) (by decide +kernel) (by decide +kernel) (by decide +kernel) (fun _ _ _ h => h) (by kernel_rfl) ?_ (by assumption) ?_
      rotate_left
      · (intro wz; go_simp; with_reducible rfl)
      try simp only [Act.put, List.setIfInBounds_toArray, List.set_cons_zero, List.set_cons_succ]
      refine wpAnyG_done (by kernel_rfl) ?_ _
      go_simp
      go_wp2_with fail
      go_ret
      exact ⟨rfl, (HK0.out.trans K11.out).below (Nat.le_refl _) (by simp)⟩
theorem tableGoes_walk (a0 : Option Addr) (len0 cap0 : Nat) (F0 : Nat → Int) (a1 : Option Addr) (len1 cap1 : Nat) (F1 : Nat → Int) (a2 : Int) (w : World) (w0 : IntRow .i64 5 w a0 len0 F0) (w1 : IntRow .i64 5 w a1 len1 F1) :
    Calls Try.prog 11 #[.slice a0 len0 cap0, .slice a1 len1 cap1, .int .i64 a2] w fun e w' => e = .returned (.bool true) ∧ Below w.heap.size w w' := by
  by_cases h1 : 400 < len0
  · exact tableGoes_early a0 a1 len0 len1 cap0 cap1 a2 w (.inl h1)
  by_cases h2 : 400 < len1
  · exact tableGoes_early a0 a1 len0 len1 cap0 cap1 a2 w (.inr ⟨by omega, h2⟩)
  exact tableGoes_main a0 a1 len0 len1 cap0 cap1 a2 F0 F1 w (by omega) (by omega) w0 w1
end Go.Proofs.Ytajcbghhpjpmhaa
