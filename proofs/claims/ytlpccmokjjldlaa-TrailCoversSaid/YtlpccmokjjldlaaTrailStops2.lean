/- TrailStops, walked (chapter 5): its two turns. -/
import Derived.Test.YtlpccmokjjldlaaTrailStops
import Derived.Laws.EntriesVeiled
namespace Go.Proofs.Ytlpccmokjjldlaa
open Go.RowKit
set_option linter.unusedVariables false

theorem OuterPre.step {lo bo bv bn bw bi bs bl bh : Nat} {L h : Nat} {hi s : Int} {i n cap : Nat} {a : Option Addr} {w w' : World} (H : OuterPre lo bo bv bn bw bi bs bl bh L h hi s i n cap a w) (k : Keeps [bo, bv, bn] w w') {i' : Nat}
    (h1 : w'.heap[bn]? = some (.cells #[.int .i64 i'] 3 (0, 0))) (h2 : w'.heap[bo]? = some (.cells #[.bool true] 4 (0, 0))) (h3 : w'.heap[bv]? = some (.cells #[.bool false] 4 (0, 0)))
    (hd : ∀ x, x ∈ [bo, bv, bn] → lo ≤ x ∧ x ≠ bw ∧ x ≠ bi ∧ x ≠ bs ∧ x ≠ bl ∧ x ≠ bh) : OuterPre lo bo bv bn bw bi bs bl bh L h hi s i' n cap a w' :=
  ⟨h2, h3, h1, k.has H.hw (fun e => (hd _ e).2.1 rfl), k.has H.hit (fun e => (hd _ e).2.2.1 rfl), k.has H.hs (fun e => (hd _ e).2.2.2.1 rfl), k.has H.hl (fun e => (hd _ e).2.2.2.2.1 rfl), k.has H.hh (fun e => (hd _ e).2.2.2.2.2 rfl), H.hr.keeps k (fun x e => (hd x e).1)⟩

/-- Behind a turn. -/
def Turned (bo bv bn : Nat) (s : Int) (n : Nat) (w : World) (e : Ending) (w' : World) : Prop :=
  e = .returned (.tuple #[]) ∧ ∃ m : Nat, ((m : Int) = s ∨ m = n) ∧ w'.heap[bn]? = some (.cells #[.int .i64 m] 3 (0, 0)) ∧ w'.heap[bo]? = some (.cells #[.bool true] 4 (0, 0)) ∧ Keeps [bo, bv, bn] w w'

theorem turn_once (lo bo bv bn bw bi bs bl bh : Nat) (L h : Nat) (hL : L ≤ 10) (hi s : Int) (hs1 : 1 ≤ s) (hhi : IntKind.u64.wrap hi = (h : Int)) (hh64 : h < 18446744073709551616) (n cap : Nat) (hn : n = 2 ^ L + 13) (a : Option Addr) (w : World) (H : OuterPre lo bo bv bn bw bi bs bl bh L h hi s 0 n cap a w)
    (hd : ∀ x, x ∈ [bo, bv, bn] → lo ≤ x ∧ x ≠ bw ∧ x ≠ bi ∧ x ≠ bs ∧ x ≠ bl ∧ x ≠ bh) (d1 : bo ≠ bv) (d2 : bo ≠ bn) (d3 : bv ≠ bn) :
    Calls Try.prog 57 #[.func (.func 28) #[] #[.pointer (some ⟨bo, 0, none⟩), .pointer (some ⟨bv, 0, none⟩), .pointer (some ⟨bn, 0, none⟩), .pointer (some ⟨bw, 0, none⟩), .pointer (some ⟨bi, 0, none⟩), .pointer (some ⟨bs, 0, none⟩)], .pointer (some ⟨bl, 0, none⟩), .pointer (some ⟨bh, 0, none⟩)] w
      (Turned bo bv bn s n w) := by
  have ho := hd bo (by simp)
  have hv := hd bv (by simp)
  have hb := hd bn (by simp)
  refine (all1_any 28 #[.pointer (some ⟨bo, 0, none⟩), .pointer (some ⟨bv, 0, none⟩), .pointer (some ⟨bn, 0, none⟩), .pointer (some ⟨bw, 0, none⟩), .pointer (some ⟨bi, 0, none⟩), .pointer (some ⟨bs, 0, none⟩)] enters28 L h (by omega) hi hhi hh64 bl bh
    (fun i W => OuterPre lo bo bv bn bw bi bs bl bh L h hi s i n cap a W ∧ Keeps [bo, bv, bn] w W)
    (fun i W => (i : Int) = s ∧ W.heap[bn]? = some (.cells #[.int .i64 i] 3 (0, 0)) ∧ W.heap[bo]? = some (.cells #[.bool true] 4 (0, 0)) ∧ Keeps [bo, bv, bn] w W) ?_ w (cell_has H.hl rfl) (cell_has H.hh rfl) ⟨H, Keeps.refl _ _⟩).mono ?_
  · rintro i W hi' ⟨HW, kW⟩
    rw [← hn] at hi'
    have key : Calls Try.prog 28 #[.int .i64 (trC L h i : Nat), .pointer (some ⟨bo, 0, none⟩), .pointer (some ⟨bv, 0, none⟩), .pointer (some ⟨bn, 0, none⟩), .pointer (some ⟨bw, 0, none⟩), .pointer (some ⟨bi, 0, none⟩), .pointer (some ⟨bs, 0, none⟩)] W (Outer bo bv bn (i + 1) ((i : Int) + 1 == s) W) := by
      by_cases h1 : i = 1
      · subst h1
        exact outer_one lo bo bv bn bw bi bs bl bh L h hL hi s hhi hh64 n cap hn a _ _ W HW (Lib.hid rfl) (Lib.hid rfl) ho.1 d1 d2 d3 (fun e => ho.2.1 e.symm) (fun e => ho.2.2.2.1 e.symm) (fun e => hb.2.2.2.1 e.symm) (fun e => hv.2.2.2.1 e.symm) (fun e => ho.2.2.1 e.symm) (fun e => ho.2.2.2.2.1 e.symm) (fun e => ho.2.2.2.2.2 e.symm)
      · exact outer_other lo bo bv bn bw bi bs bl bh L h hL hi s i n cap hn a _ _ W HW hi' (Lib.hid rfl) (Lib.hid rfl) (by simp; omega) ho.1 d1 d2 d3 (fun e => ho.2.1 e.symm) (fun e => ho.2.2.2.1 e.symm) (fun e => hb.2.2.2.1 e.symm) (fun e => hv.2.2.2.1 e.symm)
    refine key.mono ?_
    rintro e W' ⟨rfl, q1, q2, q3, q4⟩
    by_cases hx : (i : Int) + 1 = s
    · exact .inr ⟨by rw [show ((i : Int) + 1 == s) = true by simpa using hx]; rfl, by omega, q1, q2, kW.trans q4⟩
    · have hf : ((i : Int) + 1 == s) = false := by simpa using hx
      rw [hf] at q3
      exact .inl ⟨by rw [hf]; rfl, HW.step q4 q1 q2 q3 hd, kW.trans q4⟩
  · rintro e w' ⟨rfl, ⟨h3, h4⟩ | ⟨i, _, _, h3, h4, h5, h6⟩⟩
    · rw [← hn] at h3
      exact ⟨rfl, n, .inr rfl, h3.hn, h3.ho, h4⟩
    · exact ⟨rfl, i, .inl h3, h4, h5, h6⟩

/-- What stands between the two turns. -/
structure StopInv (N A : Nat) (L h : Nat) (hi s : Int) (n cap : Nat) (a : Option Addr) (w wr : World) : Prop where
  hs : wr.heap[N]? = some (.cells #[.int .i64 s] 3 (0, 0))
  hw : wr.heap[A]? = some (.cells #[.slice a n cap] 42 (0, 0))
  hh : wr.heap[A + 1]? = some (.cells #[.int .i64 hi] 3 (0, 0))
  hl : wr.heap[A + 1 + 1]? = some (.cells #[.int .i64 L] 3 (0, 0))
  hit : wr.heap[A + 1 + 1 + 1]? = some (.cells #[.func (.func 57) #[] #[.pointer (some ⟨A + 1 + 1, 0, none⟩), .pointer (some ⟨A + 1, 0, none⟩)]] 51 (0, 0))
  hr : ReadsLo A wr a n (trL L h n)
  hb : Below N w wr
  hN : w.heap.size = N

theorem StopInv.keeps {N A : Nat} {L h : Nat} {hi s : Int} {n cap : Nat} {a : Option Addr} {w wr w' : World} (H : StopInv N A L h hi s n cap a w wr) (k : Keeps [] wr w') : StopInv N A L h hi s n cap a w w' :=
  ⟨k.has H.hs (by simp), k.has H.hw (by simp), k.has H.hh (by simp), k.has H.hl (by simp), k.has H.hit (by simp), H.hr.keeps k (by simp), H.hb.trans (k.below (by have := lt_of_block H.hs; omega) (by simp)), H.hN⟩

theorem trailStops_early (h l s : Int) (w : World) (hc : l < 0 ∨ 10 < l) :
    Calls Try.prog 7 #[.int .i64 h, .int .i64 l, .int .i64 s] w fun e w' => e = .returned (.bool true) ∧ Below w.heap.size w w' := by
  rcases hc with h1 | h1
  · have d1 : decide (l < 0) = true := by simpa using h1
    go_enter Try.func7, Try.ntmps7
    go_wp2_with (go_at_call 26; refine (awake5 _).mono ?_; rintro e w' ⟨rfl, rfl⟩)
    go_ret
    exact ⟨rfl, (Below.refl _ _).alloc (Nat.le_refl _) _⟩
  · have d1 : decide (l < 0) = false := by simp; omega
    have d2 : decide (10 < l) = true := by simpa using h1
    go_enter Try.func7, Try.ntmps7
    go_wp2_with (go_at_call 26; refine (awake5 _).mono ?_; rintro e w' ⟨rfl, rfl⟩)
    go_ret
    exact ⟨rfl, (Below.refl _ _).alloc (Nat.le_refl _) _⟩

set_option maxHeartbeats 1000000 in
theorem trailStops_main (h : Int) (L : Nat) (s s' : Int) (w : World) (hL : L ≤ 10) (hs : (s < 1 ∧ s' = 1) ∨ (1 ≤ s ∧ s' = s)) :
    Calls Try.prog 7 #[.int .i64 h, .int .i64 L, .int .i64 s] w fun e w' => e = .returned (.bool true) ∧ Below w.heap.size w w' := by
  have d1 : decide ((L : Int) < 0) = false := by simp
  have d2 : decide ((10 : Int) < (L : Int)) = false := by simp; omega
  have g0 : (0 : Int) ≤ (L : Int) := by omega
  have g1 : (L : Int) ≤ 10 := by omega
  have hM := Lib.hid (show 2 ^ L ≤ 1024 from Nat.pow_le_pow_right (by omega) hL (n := 2))
  have e2 : wrap64 ((2 : Int) ^ L) = ((2 ^ L : Nat) : Int) := by rw [← IntWalk.i64_left]; exact i64_pow L (by omega)
  have hs1 : 1 ≤ s' := by omega
  have hq := eql_seq_nil
  have HSS := Lib.hid hs
  obtain ⟨M, hM2⟩ := ex_hid (2 ^ L)
  rw [← hM2.out] at e2
  have hM3 : (M : Int) ≤ 1024 := by have := hM.out; rw [← hM2.out] at this; omega
  have hM4 : (0 : Int) ≤ (M : Int) := by omega
  clear hs
  go_enter Try.func7, Try.ntmps7
  go_wp2_with fail
  refine (ref_some h L L (M + 13) rfl (by omega) _ (by omega) (by omega) _).mono ?_
  rintro e w1 ⟨a, cap, rfl, o1, b1⟩
  obtain ⟨n, hn⟩ := ex_hid (2 ^ L + 13)
  rw [hM2.out, Nat.min_self, trL_len, ← hn.out] at o1 ⊢
  have hnn : n ≤ 1037 := by have := hM.out; have := hn.out; omega
  have z0 : w.heap.size < w1.heap.size := by have := b1.size; simp at this; omega
  have p0 := b1.block w.heap.size (by simp)
  rw [has_new] at p0
  have O1 := Lib.hid o1
  have B1 := Lib.hid (((Below.refl _ _).alloc (Nat.le_refl _) _).trans (b1.mono (by simp)))
  have P0 := Lib.hid p0
  have c0 := cell_has p0 (i := 0) rfl
  have f0 := free_of_has p0 0
  clear o1 b1 p0
  rcases HSS.out with ⟨h1, h2⟩ | ⟨h1, h2⟩
  · have hs2 := Lib.hid h2
    clear h2
    go_wp2_with (go_at_call 27; refine (all_any _ _ _).mono ?_; rintro e w' ⟨rfl, rfl⟩)
    have hI : StopInv w.heap.size w1.heap.size L (uh h) h s' n cap a w (((((w1.setCell ⟨w.heap.size, 0, none⟩ (.int .i64 1)).alloc (.cells #[.slice a n cap] 42)).alloc (.cells #[.int .i64 h] 3)).alloc (.cells #[.int .i64 L] 3)).alloc (.cells #[.func (.func 57) #[] #[.pointer (some ⟨w1.heap.size + 1 + 1, 0, none⟩), .pointer (some ⟨w1.heap.size + 1, 0, none⟩)]] 51)) := by
      refine ⟨by rw [hs2.out]; exact has_alloc (has_alloc (has_alloc (has_alloc (has_setCell P0.out 0 _) _) _) _) _, has_alloc (has_alloc (has_alloc (has_new' _ _ (by simp)) _) _) _, has_alloc (has_alloc (has_new' _ _ (by simp)) _) _, has_alloc (has_new' _ _ (by simp)) _, has_new' _ _ (by simp), ?_, ?_, rfl⟩
      · exact (readsLo_own (ownsRow_setCell_below O1.out (by simp) _) (by simp)).keeps (((((Keeps.refl [] (w1.setCell ⟨w.heap.size, 0, none⟩ (.int .i64 1))).alloc _).alloc _).alloc _).alloc _) (by simp)
      · exact ((((B1.out.setCell (Nat.le_refl _) _).alloc (by simp <;> omega) _).alloc (by simp <;> omega) _).alloc (by simp <;> omega) _).alloc (by simp <;> omega) _
    have HI := Lib.hid hI
    clear hI c0 f0 d1 d2 e2
    go_loopw [9] (fun i wr => ∃ k : Nat, k ≤ 2 ∧ i = .int .i64 k ∧ StopInv w.heap.size w1.heap.size L (uh h) h s' n cap a w wr) (fun i _ => 2 - (intOf i).toNat)
    case atStart => exact ⟨0, by omega, rfl, HI.out⟩
    case round =>
      obtain ⟨k, hk, rfl, hJ⟩ := hrel
      clear HI
      have hk0 : (0 : Int) ≤ (k : Int) := by omega
      by_cases hlt : k < 2
      · have hlt' : (k : Int) < 2 := by omega
        have z1 := lt_of_block hJ.hs
        have z2 := lt_of_block hJ.hw
        have z3 := lt_of_block hJ.hit
        have z4 := lt_of_block hJ.hl
        have z5 := lt_of_block hJ.hh
        have y1 := cell_has hJ.hs (i := 0) rfl
        have y2 := cell_has hJ.hw (i := 0) rfl
        have y3 := cell_has hJ.hit (i := 0) rfl
        have HJ := Lib.hid hJ
        clear hJ
        go_wp2_with fail
        have kk := (((Keeps.refl [] wr).alloc (.cells #[.int .i64 0] 3)).alloc (.cells #[.bool true] 4)).alloc (.cells #[.bool false] 4)
        refine (turn_once w1.heap.size (wr.heap.size + 1) (wr.heap.size + 1 + 1) wr.heap.size w1.heap.size (w1.heap.size + 1 + 1 + 1) w.heap.size (w1.heap.size + 1 + 1) (w1.heap.size + 1) L (uh h) hL h s' hs1 (uh_cast h) (uh_lt h) n cap hn.out a _
          ⟨has_alloc (has_new' _ _ (by simp)) _, has_new' _ _ (by simp), has_alloc (has_alloc (has_new _ _) _) _, kk.has HJ.out.hw (by simp), kk.has HJ.out.hit (by simp), kk.has HJ.out.hs (by simp), kk.has HJ.out.hl (by simp), kk.has HJ.out.hh (by simp), HJ.out.hr.keeps kk (by simp)⟩
          (by intro x hx; simp at hx; omega) (by omega) (by omega) (by omega)).mono ?_
        rintro e w4 ⟨rfl, m, hm, q1, q2, q3⟩
        have kq := kk.then q3 (by intro x hx; simp at hx; left; omega)
        have HQ := Lib.hid (HJ.out.keeps kq)
        have x1 := cell_has HQ.out.hs (i := 0) rfl
        have x2 := cell_has HQ.out.hw (i := 0) rfl
        have x3 := cell_has q1 (i := 0) rfl
        have x4 := cell_has q2 (i := 0) rfl
        clear kk kq q1 q2 q3 y1 y2 y3
        rcases hm with hm | hm
        · rw [← hm] at x1
          clear hm
          go_wp2_with fail
          go_roundw
          case rel => exact ⟨k + 1, by omega, by go_num, HQ.out⟩
          case measure => simp [intOf]; omega
        · subst hm
          go_wp2_with fail
          all_goals
            go_roundw
            case rel => exact ⟨k + 1, by omega, by go_num, HQ.out⟩
            case measure => simp [intOf]; omega
      · have hge : (2 : Int) ≤ (k : Int) := by omega
        have HB := Lib.hid hJ.hb
        clear hJ
        go_wp2_with (go_at_call 26; refine (awake5 _).mono ?_; rintro e w' ⟨rfl, rfl⟩)
        go_ret
        exact ⟨rfl, HB.out⟩
  · have hs2 := Lib.hid h2
    clear h2
    go_wp2_with (go_at_call 27; refine (all_any _ _ _).mono ?_; rintro e w' ⟨rfl, rfl⟩)
    have hI : StopInv w.heap.size w1.heap.size L (uh h) h s' n cap a w ((((w1.alloc (.cells #[.slice a n cap] 42)).alloc (.cells #[.int .i64 h] 3)).alloc (.cells #[.int .i64 L] 3)).alloc (.cells #[.func (.func 57) #[] #[.pointer (some ⟨w1.heap.size + 1 + 1, 0, none⟩), .pointer (some ⟨w1.heap.size + 1, 0, none⟩)]] 51)) := by
      refine ⟨by rw [hs2.out]; exact has_alloc (has_alloc (has_alloc (has_alloc P0.out _) _) _) _, has_alloc (has_alloc (has_alloc (has_new' _ _ (by simp)) _) _) _, has_alloc (has_alloc (has_new' _ _ (by simp)) _) _, has_alloc (has_new' _ _ (by simp)) _, has_new' _ _ (by simp), ?_, ?_, rfl⟩
      · exact (readsLo_own O1.out (Nat.le_refl _)).keeps (((((Keeps.refl [] w1).alloc _).alloc _).alloc _).alloc _) (by simp)
      · exact (((B1.out.alloc (by omega) _).alloc (by simp <;> omega) _).alloc (by simp <;> omega) _).alloc (by simp <;> omega) _
    have HI := Lib.hid hI
    clear hI c0 f0 d1 d2 e2
    go_loopw [9] (fun i wr => ∃ k : Nat, k ≤ 2 ∧ i = .int .i64 k ∧ StopInv w.heap.size w1.heap.size L (uh h) h s' n cap a w wr) (fun i _ => 2 - (intOf i).toNat)
    case atStart => exact ⟨0, by omega, rfl, HI.out⟩
    case round =>
      obtain ⟨k, hk, rfl, hJ⟩ := hrel
      clear HI
      have hk0 : (0 : Int) ≤ (k : Int) := by omega
      by_cases hlt : k < 2
      · have hlt' : (k : Int) < 2 := by omega
        have z1 := lt_of_block hJ.hs
        have z2 := lt_of_block hJ.hw
        have z3 := lt_of_block hJ.hit
        have z4 := lt_of_block hJ.hl
        have z5 := lt_of_block hJ.hh
        have y1 := cell_has hJ.hs (i := 0) rfl
        have y2 := cell_has hJ.hw (i := 0) rfl
        have y3 := cell_has hJ.hit (i := 0) rfl
        have HJ := Lib.hid hJ
        clear hJ
        go_wp2_with fail
        have kk := (((Keeps.refl [] wr).alloc (.cells #[.int .i64 0] 3)).alloc (.cells #[.bool true] 4)).alloc (.cells #[.bool false] 4)
        refine (turn_once w1.heap.size (wr.heap.size + 1) (wr.heap.size + 1 + 1) wr.heap.size w1.heap.size (w1.heap.size + 1 + 1 + 1) w.heap.size (w1.heap.size + 1 + 1) (w1.heap.size + 1) L (uh h) hL h s' hs1 (uh_cast h) (uh_lt h) n cap hn.out a _
          ⟨has_alloc (has_new' _ _ (by simp)) _, has_new' _ _ (by simp), has_alloc (has_alloc (has_new _ _) _) _, kk.has HJ.out.hw (by simp), kk.has HJ.out.hit (by simp), kk.has HJ.out.hs (by simp), kk.has HJ.out.hl (by simp), kk.has HJ.out.hh (by simp), HJ.out.hr.keeps kk (by simp)⟩
          (by intro x hx; simp at hx; omega) (by omega) (by omega) (by omega)).mono ?_
        rintro e w4 ⟨rfl, m, hm, q1, q2, q3⟩
        have kq := kk.then q3 (by intro x hx; simp at hx; left; omega)
        have HQ := Lib.hid (HJ.out.keeps kq)
        have x1 := cell_has HQ.out.hs (i := 0) rfl
        have x2 := cell_has HQ.out.hw (i := 0) rfl
        have x3 := cell_has q1 (i := 0) rfl
        have x4 := cell_has q2 (i := 0) rfl
        clear kk kq q1 q2 q3 y1 y2 y3
        rcases hm with hm | hm
        · rw [← hm] at x1
          clear hm
          go_wp2_with fail
          go_roundw
          case rel => exact ⟨k + 1, by omega, by go_num, HQ.out⟩
          case measure => simp [intOf]; omega
        · subst hm
          go_wp2_with fail
          all_goals
            go_roundw
            case rel => exact ⟨k + 1, by omega, by go_num, HQ.out⟩
            case measure => simp [intOf]; omega
      · have hge : (2 : Int) ≤ (k : Int) := by omega
        have HB := Lib.hid hJ.hb
        clear hJ
        go_wp2_with (go_at_call 26; refine (awake5 _).mono ?_; rintro e w' ⟨rfl, rfl⟩)
        go_ret
        exact ⟨rfl, HB.out⟩

theorem trailStops_walk (h l s : Int) (w : World) (_ : (Lit.int .i64 h).wf = true) (_ : (Lit.int .i64 l).wf = true) (_ : (Lit.int .i64 s).wf = true) :
    Calls Try.prog 7 #[.int .i64 h, .int .i64 l, .int .i64 s] w fun e w' => e = .returned (.bool true) ∧ Below w.heap.size w w' := by
  by_cases h1 : l < 0 ∨ 10 < l
  · exact trailStops_early h l s w h1
  · obtain ⟨L, rfl⟩ := Int.eq_ofNat_of_zero_le (show 0 ≤ l by omega)
    by_cases h2 : s < 1
    · exact trailStops_main h L s 1 w (by omega) (.inl ⟨h2, rfl⟩)
    · exact trailStops_main h L s s w (by omega) (.inr ⟨by omega, rfl⟩)
end Go.Proofs.Ytlpccmokjjldlaa
