/- TrailStops, walked (chapter 5). -/
import Derived.Test.YtlpccmokjjldlaaTrailAlike
namespace Go.Proofs.Ytlpccmokjjldlaa
open Go.RowKit
set_option linter.unusedVariables false

/-- A slice of ints that reads as a list, in a block below lo. -/
def ReadsLo (lo : Nat) (w : World) (a : Option Addr) (n : Nat) (xs : List Int) : Prop :=
  xs.length = n ∧ (n = 0 ∨ ∃ b off, a = some ⟨b, off, none⟩ ∧ b < lo ∧ ∀ i, i < n → w.cell? ⟨b, off + i, none⟩ = some (.int .i64 (xs.getD i 0)))
theorem ReadsLo.kept {lo lo' : Nat} {w w' : World} {a : Option Addr} {n : Nat} {xs : List Int} (h : ReadsLo lo w a n xs) (k : KeptLo lo' [] w w') (hl : lo ≤ lo') : ReadsLo lo w' a n xs := by
  refine ⟨h.1, ?_⟩
  rcases h.2 with h0 | ⟨b, off, h1, h2, h3⟩
  · exact .inl h0
  · exact .inr ⟨b, off, h1, h2, fun i hi => (World.cell?_of_block (w := w) (a := ⟨b, off + i, none⟩) (k.block b (by omega) List.not_mem_nil)).trans (h3 i hi)⟩
theorem readsLo_own {w : World} {base lo : Nat} {e : TypeId} {a : Option Addr} {n cap : Nat} {xs : List Int} (h : w.ownsRow base e 1 (.slice a n cap) n (ints xs)) (hl : w.heap.size ≤ lo) : ReadsLo lo w a n xs := by
  obtain ⟨h1, h2⟩ := reads_own h
  refine ⟨h1, ?_⟩
  rcases h2 with h0 | ⟨b, off, rfl, h3⟩
  · exact .inl h0
  · rcases Nat.eq_zero_or_pos n with hz | hz
    · exact .inl hz
    · exact .inr ⟨b, off, rfl, Nat.lt_of_lt_of_le (World.block_lt_of_cell? _ _ (h3 0 hz)) hl, h3⟩

/-- Behind a round of the inner closure. -/
def Inner (lo bo bk : Nat) (k : Nat) (b : Bool) (w : World) (e : Ending) (w' : World) : Prop :=
  e = .returned (.bool b) ∧ w'.heap[bk]? = some (.cells #[.int .i64 k] 3 (0, 0)) ∧ w'.heap[bo]? = some (.cells #[.bool true] 4 (0, 0)) ∧ Keeps [bo, bk] w w'

theorem inner_any (lo bo bk bw : Nat) (k n cap : Nat) (a : Option Addr) (xs : List Int) (c : Int) (b : Bool) (w : World) (ho : w.heap[bo]? = some (.cells #[.bool true] 4 (0, 0))) (hk : w.heap[bk]? = some (.cells #[.int .i64 k] 3 (0, 0)))
    (hw : w.heap[bw]? = some (.cells #[.slice a n cap] 42 (0, 0))) (hr : ReadsLo lo w a n xs) (hkn : k < n) (hn : n ≤ 2000000) (hc : Hid (c = xs.getD k 0)) (hlo : lo ≤ bo) (hlk : lo ≤ bk) (hok : bo ≠ bk) (hwo : bw ≠ bo) (hwk : bw ≠ bk) (hb : Hid (decide ((k : Int) + 1 < 3) = b)) :
    Calls Try.prog 29 #[.int .i64 c, .pointer (some ⟨bo, 0, none⟩), .pointer (some ⟨bk, 0, none⟩), .pointer (some ⟨bw, 0, none⟩)] w (Inner lo bo bk (k + 1) b w) := by
  obtain ⟨_, h0 | ⟨g, off, rfl, hg, hcell⟩⟩ := hr
  · omega
  have c1 := cell_has ho (i := 0) rfl
  have c2 := cell_has hk (i := 0) rfl
  have c3 := cell_has hw (i := 0) rfl
  have f1 := free_of_has ho 0
  have f2 := free_of_has hk 0
  have c4 := hcell k hkn
  rw [← hc.out] at c4
  have hlt : (k : Int) < (n : Int) := by omega
  have hk0 : (0 : Int) ≤ (k : Int) := by omega
  have n1 : bk ≠ bo := fun e => hok e.symm
  have n2 : g ≠ bo := by omega
  have HO := Lib.hid ho
  have HK := Lib.hid hk
  clear hcell ho hk hw
  go_enter Try.func29, Try.ntmps29
  go_wp2_with fail
  go_ret
  refine ⟨ret_bool hb.out, ?_, ?_, ?_⟩
  · exact has_setCell (has_setCell_other HK.out n1 _) 0 _
  · exact has_setCell_other (has_setCell HO.out 0 _) hok _
  · exact ((Keeps.refl _ _).setCell (.inr (by simp)) _).setCell (.inr (by simp)) _

theorem enters29 : Enters Try.prog 29 := enters_of Try.func29 (by kernel_rfl) (by kernel_rfl)
theorem enters28 : Enters Try.prog 28 := enters_of Try.func28 (by kernel_rfl) (by kernel_rfl)

theorem ReadsLo.keeps {lo : Nat} {S : List Nat} {w w' : World} {a : Option Addr} {n : Nat} {xs : List Int} (h : ReadsLo lo w a n xs) (k : Keeps S w w') (hs : ∀ x, x ∈ S → lo ≤ x) : ReadsLo lo w' a n xs := by
  refine ⟨h.1, ?_⟩
  rcases h.2 with h0 | ⟨b, off, h1, h2, h3⟩
  · exact .inl h0
  · exact .inr ⟨b, off, h1, h2, fun i hi => k.cell (h3 i hi) (fun hm => by have := hs _ hm; simp at this; omega)⟩

theorem trL_getD (L h n k : Nat) (hk : k < n) : (trL L h n).getD k 0 = ((trC L h k : Nat) : Int) := by
  simp [trL, List.getD_eq_getElem?_getD, hk]

/-- A trail gone through within itself: three cells of it. -/
theorem inner_all (lo bo bk bw bl bh : Nat) (L h : Nat) (hL : L ≤ 10) (hi : Int) (hh : IntKind.u64.wrap hi = (h : Int)) (hlt : h < 18446744073709551616) (n cap : Nat) (a : Option Addr) (w : World)
    (ho : w.heap[bo]? = some (.cells #[.bool true] 4 (0, 0))) (hk : w.heap[bk]? = some (.cells #[.int .i64 0] 3 (0, 0)))
    (hw : w.heap[bw]? = some (.cells #[.slice a n cap] 42 (0, 0))) (hn : n = 2 ^ L + 13) (hr : ReadsLo lo w a n (trL L h n)) (hlo : lo ≤ bo) (hlk : lo ≤ bk) (hok : bo ≠ bk) (hwo : bw ≠ bo) (hwk : bw ≠ bk)
    (h1 : w.cell? ⟨bl, 0, none⟩ = some (.int .i64 L)) (h2 : w.cell? ⟨bh, 0, none⟩ = some (.int .i64 hi)) :
    Calls Try.prog 57 #[.func (.func 29) #[] #[.pointer (some ⟨bo, 0, none⟩), .pointer (some ⟨bk, 0, none⟩), .pointer (some ⟨bw, 0, none⟩)], .pointer (some ⟨bl, 0, none⟩), .pointer (some ⟨bh, 0, none⟩)] w
      fun e w' => e = .returned (.tuple #[]) ∧ w'.heap[bo]? = some (.cells #[.bool true] 4 (0, 0)) ∧ Keeps [bo, bk] w w' := by
  have hM : 2 ^ L ≤ 1024 := Nat.pow_le_pow_right (by omega) hL (n := 2)
  have h14 : 14 ≤ n := by rw [hn]; have := pow_pos L; generalize 2 ^ L = M at *; omega
  have hn5 : n ≤ 1037 := by omega
  refine (all1_any 29 #[.pointer (some ⟨bo, 0, none⟩), .pointer (some ⟨bk, 0, none⟩), .pointer (some ⟨bw, 0, none⟩)] enters29 L h (by omega) hi hh hlt bl bh
    (fun k W => k < 3 ∧ W.heap[bk]? = some (.cells #[.int .i64 k] 3 (0, 0)) ∧ W.heap[bo]? = some (.cells #[.bool true] 4 (0, 0)) ∧ Keeps [bo, bk] w W)
    (fun k W => W.heap[bo]? = some (.cells #[.bool true] 4 (0, 0)) ∧ Keeps [bo, bk] w W) ?_ w h1 h2 ⟨by omega, hk, ho, Keeps.refl _ _⟩).mono ?_
  · rintro k W hkM ⟨k3, g1, g2, g3⟩
    refine (inner_any lo bo bk bw k n cap a (trL L h n) _ (decide ((k : Int) + 1 < 3)) W g2 g1 (g3.has hw (by simp <;> omega)) (hr.keeps g3 (by simp <;> omega)) (by omega) (by omega) (Lib.hid (trL_getD L h n k (by omega)).symm) hlo hlk hok hwo hwk (Lib.hid rfl)).mono ?_
    rintro e W' ⟨rfl, q1, q2, q3⟩
    by_cases hx : k + 1 < 3
    · exact .inl ⟨by rw [show decide ((k : Int) + 1 < 3) = true by simp; omega], hx, q1, q2, g3.trans q3⟩
    · exact .inr ⟨by rw [show decide ((k : Int) + 1 < 3) = false by simp; omega], q2, g3.trans q3⟩
  · rintro e w' ⟨rfl, ⟨h3, _⟩ | ⟨_, _, _, q1, q2⟩⟩
    · exfalso; have := pow_pos L; generalize 2 ^ L = M at *; omega
    · exact ⟨rfl, q1, q2⟩

/-- Behind a round of the outer closure. -/
def Outer (bo bv bn : Nat) (i : Nat) (v : Bool) (w : World) (e : Ending) (w' : World) : Prop :=
  e = .returned (.bool (!v)) ∧ w'.heap[bn]? = some (.cells #[.int .i64 i] 3 (0, 0)) ∧ w'.heap[bo]? = some (.cells #[.bool true] 4 (0, 0)) ∧ w'.heap[bv]? = some (.cells #[.bool v] 4 (0, 0)) ∧ Keeps [bo, bv, bn] w w'

structure OuterPre (lo bo bv bn bw bi bs bl bh : Nat) (L h : Nat) (hi : Int) (s : Int) (i n cap : Nat) (a : Option Addr) (w : World) : Prop where
  ho : w.heap[bo]? = some (.cells #[.bool true] 4 (0, 0))
  hv : w.heap[bv]? = some (.cells #[.bool false] 4 (0, 0))
  hn : w.heap[bn]? = some (.cells #[.int .i64 i] 3 (0, 0))
  hw : w.heap[bw]? = some (.cells #[.slice a n cap] 42 (0, 0))
  hit : w.heap[bi]? = some (.cells #[.func (.func 57) #[] #[.pointer (some ⟨bl, 0, none⟩), .pointer (some ⟨bh, 0, none⟩)]] 51 (0, 0))
  hs : w.heap[bs]? = some (.cells #[.int .i64 s] 3 (0, 0))
  hl : w.heap[bl]? = some (.cells #[.int .i64 L] 3 (0, 0))
  hh : w.heap[bh]? = some (.cells #[.int .i64 hi] 3 (0, 0))
  hr : ReadsLo lo w a n (trL L h n)

theorem outer_other (lo bo bv bn bw bi bs bl bh : Nat) (L h : Nat) (hL : L ≤ 10) (hi s : Int) (i n cap : Nat) (hn : n = 2 ^ L + 13) (a : Option Addr) (c : Int) (v : Bool) (w : World) (H : OuterPre lo bo bv bn bw bi bs bl bh L h hi s i n cap a w)
    (hin : i < n) (hc : Hid (c = ((trC L h i : Nat) : Int))) (hvv : Hid (((i : Int) + 1 == s) = v)) (h1 : ((i : Int) == 1) = false) (hlo : lo ≤ bo) (d1 : bo ≠ bv) (d2 : bo ≠ bn) (d3 : bv ≠ bn) (d4 : bw ≠ bo) (d5 : bs ≠ bo) (d6 : bs ≠ bn) (d7 : bs ≠ bv) :
    Calls Try.prog 28 #[.int .i64 c, .pointer (some ⟨bo, 0, none⟩), .pointer (some ⟨bv, 0, none⟩), .pointer (some ⟨bn, 0, none⟩), .pointer (some ⟨bw, 0, none⟩), .pointer (some ⟨bi, 0, none⟩), .pointer (some ⟨bs, 0, none⟩)] w (Outer bo bv bn (i + 1) v w) := by
  have hM : 2 ^ L ≤ 1024 := Nat.pow_le_pow_right (by omega) hL (n := 2)
  have hnn : n ≤ 1037 := by omega
  clear hM
  obtain ⟨_, h0 | ⟨g, off, rfl, hg, hcell⟩⟩ := H.hr
  · omega
  have c1 := cell_has H.ho (i := 0) rfl
  have c2 := cell_has H.hv (i := 0) rfl
  have c3 := cell_has H.hn (i := 0) rfl
  have c4 := cell_has H.hw (i := 0) rfl
  have c5 := cell_has H.hs (i := 0) rfl
  have f1 := free_of_has H.ho 0
  have f2 := free_of_has H.hv 0
  have f3 := free_of_has H.hn 0
  have c6 := hcell i hin
  rw [trL_getD L h n i hin, ← hc.out] at c6
  have hlt : (i : Int) < (n : Int) := by omega
  have hi0 : (0 : Int) ≤ (i : Int) := by omega
  have e1 : bv ≠ bo := fun e => d1 e.symm
  have e2 : bn ≠ bo := fun e => d2 e.symm
  have e3 : bn ≠ bv := fun e => d3 e.symm
  have n2 : g ≠ bo := by omega
  have HO := Lib.hid H.ho
  have HV := Lib.hid H.hv
  have HN := Lib.hid H.hn
  clear hcell H hn
  go_enter Try.func28, Try.ntmps28
  go_wp2_with fail
  go_ret
  rw [← hvv.out]
  refine ⟨rfl, ?_, ?_, ?_, ?_⟩
  · exact has_setCell_other (has_setCell (has_setCell_other HN.out e2 _) 0 _) e3 _
  · exact has_setCell_other (has_setCell_other (has_setCell HO.out 0 _) d2 _) d1 _
  · exact has_setCell (has_setCell_other (has_setCell_other HV.out e1 _) d3 _) 0 _
  · exact (((Keeps.refl _ _).setCell (.inr (by simp)) _).setCell (.inr (by simp)) _).setCell (.inr (by simp)) _

set_option maxHeartbeats 400000 in
theorem outer_one (lo bo bv bn bw bi bs bl bh : Nat) (L h : Nat) (hL : L ≤ 10) (hi s : Int) (hhi : IntKind.u64.wrap hi = (h : Int)) (hh64 : h < 18446744073709551616) (n cap : Nat) (hn : n = 2 ^ L + 13) (a : Option Addr) (c : Int) (v : Bool) (w : World) (H : OuterPre lo bo bv bn bw bi bs bl bh L h hi s 1 n cap a w)
    (hc : Hid (c = ((trC L h 1 : Nat) : Int))) (hvv : Hid (((2 : Int) == s) = v)) (hlo : lo ≤ bo) (d1 : bo ≠ bv) (d2 : bo ≠ bn) (d3 : bv ≠ bn) (d4 : bw ≠ bo) (d5 : bs ≠ bo) (d6 : bs ≠ bn) (d7 : bs ≠ bv) (d8 : bi ≠ bo) (d9 : bl ≠ bo) (d10 : bh ≠ bo) :
    Calls Try.prog 28 #[.int .i64 c, .pointer (some ⟨bo, 0, none⟩), .pointer (some ⟨bv, 0, none⟩), .pointer (some ⟨bn, 0, none⟩), .pointer (some ⟨bw, 0, none⟩), .pointer (some ⟨bi, 0, none⟩), .pointer (some ⟨bs, 0, none⟩)] w (Outer bo bv bn 2 v w) := by
  have h14 : 14 ≤ n := by rw [hn]; have := pow_pos L; generalize 2 ^ L = M at *; omega
  have hM : 2 ^ L ≤ 1024 := Nat.pow_le_pow_right (by omega) hL (n := 2)
  have hnn : n ≤ 1037 := by omega
  clear hM
  obtain ⟨_, h0 | ⟨g, off, ha, hg, hcell⟩⟩ := H.hr
  · omega
  have c1 := cell_has H.ho (i := 0) rfl
  have c2 := cell_has H.hv (i := 0) rfl
  have c3 := cell_has H.hn (i := 0) rfl
  have c4 := cell_has H.hw (i := 0) rfl
  have c5 := cell_has H.hs (i := 0) rfl
  have c7 := cell_has H.hit (i := 0) rfl
  have f1 := free_of_has H.ho 0
  have f2 := free_of_has H.hv 0
  have f3 := free_of_has H.hn 0
  have c6 := hcell 1 (by omega)
  rw [trL_getD L h n 1 (by omega), ← hc.out] at c6
  subst ha
  have hlt : (1 : Int) < (n : Int) := by omega
  have e1 : bv ≠ bo := fun e => d1 e.symm
  have e2 : bn ≠ bo := fun e => d2 e.symm
  have e3 : bn ≠ bv := fun e => d3 e.symm
  have n2 : g ≠ bo := by omega
  have n3 : bo < w.heap.size := lt_of_block H.ho
  have n4 : bn < w.heap.size := lt_of_block H.hn
  have n5 : bv < w.heap.size := lt_of_block H.hv
  have n6 : bi < w.heap.size := lt_of_block H.hit
  have n7 : bs < w.heap.size := lt_of_block H.hs
  have HH := Lib.hid H
  have HN := Lib.hid hn
  clear hcell H hn
  go_enter Try.func28, Try.ntmps28
  go_wp2_with fail
  have q0 : ((w.setCell ⟨bo, 0, none⟩ (.bool true)).alloc (.cells #[.int .i64 0] 3)).heap[bo]? = some (.cells #[.bool true] 4 (0, 0)) := has_alloc (has_setCell HH.out.ho 0 _) _
  have qn : ((w.setCell ⟨bo, 0, none⟩ (.bool true)).alloc (.cells #[.int .i64 0] 3)).heap[bn]? = some (.cells #[.int .i64 1] 3 (0, 0)) := has_alloc (has_setCell_other HH.out.hn e2 _) _
  have qv : ((w.setCell ⟨bo, 0, none⟩ (.bool true)).alloc (.cells #[.int .i64 0] 3)).heap[bv]? = some (.cells #[.bool false] 4 (0, 0)) := has_alloc (has_setCell_other HH.out.hv e1 _) _
  have qs : ((w.setCell ⟨bo, 0, none⟩ (.bool true)).alloc (.cells #[.int .i64 0] 3)).heap[bs]? = some (.cells #[.int .i64 s] 3 (0, 0)) := has_alloc (has_setCell_other HH.out.hs d5 _) _
  have kk : Keeps [bo] w ((w.setCell ⟨bo, 0, none⟩ (.bool true)).alloc (.cells #[.int .i64 0] 3)) := ((Keeps.refl _ _).setCell (.inr (by simp)) _).alloc _
  refine (inner_all lo bo w.heap.size bw bl bh L h hL hi hhi hh64 n cap _ _ q0 (has_new' _ _ (by simp)) (kk.has HH.out.hw (by simpa using d4)) HN.out (HH.out.hr.keeps kk (by simpa using hlo)) hlo (by omega) (by omega) d4 (by have := lt_of_block HH.out.hw; omega)
    (kk.cell (cell_has HH.out.hl rfl) (by simpa using d9)) (kk.cell (cell_has HH.out.hh rfl) (by simpa using d10))).mono ?_
  rintro e w1 ⟨rfl, r1, k1⟩
  have s1 := k1.has qn (by simp <;> omega)
  have s2 := k1.has qv (by simp <;> omega)
  have s3 := k1.has qs (by have := lt_of_block HH.out.hs; simp <;> omega)
  have t1 := cell_has r1 (i := 0) rfl
  have t2 := cell_has s1 (i := 0) rfl
  have t3 := cell_has s2 (i := 0) rfl
  have t4 := cell_has s3 (i := 0) rfl
  have f4 := free_of_has s1 0
  have f5 := free_of_has s2 0
  have K1 := Lib.hid ((kk.mono (T := [bo, bv, bn]) (by simp)).then k1 (by simp))
  have R1 := Lib.hid r1
  have S1 := Lib.hid s1
  have S2 := Lib.hid s2
  clear r1 k1 s1 s2 s3 q0 qn qv qs kk
  go_wp2_with fail
  go_ret
  rw [← hvv.out]
  refine ⟨rfl, ?_, ?_, ?_, ?_⟩
  · exact has_setCell_other (has_setCell S1.out 0 _) e3 _
  · exact has_setCell_other (has_setCell_other R1.out d2 _) d1 _
  · exact has_setCell (has_setCell_other S2.out d3 _) 0 _
  · exact (K1.out.setCell (.inr (by simp)) _).setCell (.inr (by simp)) _
end Go.Proofs.Ytlpccmokjjldlaa
