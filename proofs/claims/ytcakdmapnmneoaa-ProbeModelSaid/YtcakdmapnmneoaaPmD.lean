/- ProbeModel: the model in memory; its one, put, out (chapter 8's laws). -/
import Derived.Test.YtcakdmapnmneoaaPmC
namespace Go.Proofs.Ytcakdmapnmneoaa
open Go.RowKit
set_option linter.unusedVariables false
set_option linter.unusedSimpArgs false

def one8 (same a b : Int) : Bool := decide (a = b) || (decide (1 ≤ same) && ((wrap64 (a - b)).tmod same == 0))
set_option maxRecDepth 100000 in
theorem one_any8 (mo : Nat) (same a b : Int) (w : World) (h : w.cell? ⟨mo, 5, none⟩ = some (.int .i64 same)) :
    Calls Try.prog 86 #[.pointer (some ⟨mo, 0, none⟩), .int .i64 a, .int .i64 b] w fun r w' => r = .returned (.bool (one8 same a b)) ∧ w = w' := by
  by_cases hab : a = b
  · subst hab
    have e : one8 same a a = true := by simp [one8]
    rw [e]
    go_enter Try.func86, Try.ntmps86
    go_wp2_with fail
    go_ret
    exact ⟨rfl, rfl⟩
  · have hb : (a == b) = false := by simpa using hab
    by_cases hs : same < 1
    · have ds : decide (same < 1) = true := by simpa using hs
      have e : one8 same a b = false := by simp [one8, hab]; omega
      rw [e]
      clear hab
      go_enter Try.func86, Try.ntmps86
      go_wp2_with fail
      go_ret
      exact ⟨rfl, rfl⟩
    · have ds : decide (same < 1) = false := by simpa using hs
      have hs0 : ¬ same = 0 := by omega
      have hs1 : (same == 0) = false := by simpa using hs0
      have e : one8 same a b = ((wrap64 (a - b)).tmod same == 0) := by simp [one8, hab]; omega
      rw [e]
      clear hab e
      go_enter Try.func86, Try.ntmps86
      go_wp2_with fail
      go_ret
      exact ⟨rfl, rfl⟩
/-- The model in memory. -/
def modO (lv : Value) (most : Int) (V : Nat) (av acv : Value) (same : Int) (inner : Bool) : Obj := .cells #[lv, .int .i64 most, .int .i64 V, av, acv, .int .i64 same, .bool inner] 69 (0, 0)
def MdAt (lo mo : Nat) (M : List Nat) (most same : Int) (acv : Value) (inner : Bool) (s : Ms8) (W : World) : Prop :=
  ∃ la lc aa ac, W.heap[mo]? = some (modO (.slice la s.L.length lc) most s.V (.slice aa s.A.length ac) acv same inner) ∧ P8Row lo la lc s.L W ∧ A8Row lo aa ac s.A W ∧ M = mo :: (blk la ++ blk aa) ∧ lo ≤ mo
section
variable {lo mo : Nat} {M : List Nat} {most same : Int} {acv : Value} {inner : Bool} {s : Ms8} {w w' : World}
theorem MdAt.foot (h : MdAt lo mo M most same acv inner s w) : ∀ x, x ∈ M → lo ≤ x ∧ x < w.heap.size := by
  obtain ⟨la, lc, aa, ac, h1, h2, h3, rfl, h5⟩ := h
  intro x hx
  simp only [List.mem_cons, List.mem_append] at hx
  rcases hx with rfl | hx | hx
  · exact ⟨h5, lt_of_block h1⟩
  · exact own_lt8 h2 x hx
  · exact own_lt8 h3 x hx
theorem MdAt.keeps {S : List Nat} (h : MdAt lo mo M most same acv inner s w) (k : Keeps S w w') (hd : ∀ x, x ∈ M → x ∉ S) : MdAt lo mo M most same acv inner s w' := by
  obtain ⟨la, lc, aa, ac, h1, h2, h3, rfl, h5⟩ := h
  exact ⟨la, lc, aa, ac, k.has h1 (hd _ (by simp)), own_keeps8 h2 k (fun x hx => hd x (by simp [hx])), own_keeps8 h3 k (fun x hx => hd x (by simp [hx])), rfl, h5⟩
theorem MdAt.mem (h : MdAt lo mo M most same acv inner s w) : mo ∈ M := by
  obtain ⟨la, lc, aa, ac, h1, h2, h3, rfl, h5⟩ := h
  simp
end
/-- What a call on the model comes to. -/
def Md8 (lo mo : Nat) (M : List Nat) (most same : Int) (acv : Value) (inner : Bool) (s' : Ms8) (w w' : World) : Prop := ∃ M', MdAt lo mo M' most same acv inner s' w' ∧ Keeps M w w' ∧ Grew M w M'
theorem has_V8 {w : World} {mo : Nat} {lv : Value} {most : Int} {V : Nat} {av acv : Value} {same : Int} {inner : Bool} (h : w.heap[mo]? = some (modO lv most V av acv same inner)) (n : Nat) (x : Int) (hx : x = (n : Int)) : (w.setCell ⟨mo, 2, none⟩ (.int .i64 x)).heap[mo]? = some (modO lv most n av acv same inner) := by
  subst hx
  have h1 := has_setCell h 2 (.int .i64 n)
  simpa [modO] using h1
theorem has_L8 {w : World} {mo : Nat} {lv : Value} {most : Int} {V : Nat} {av acv : Value} {same : Int} {inner : Bool} (h : w.heap[mo]? = some (modO lv most V av acv same inner)) (l2 : Value) : (w.setCell ⟨mo, 0, none⟩ l2).heap[mo]? = some (modO l2 most V av acv same inner) := by
  have h1 := has_setCell h 0 l2
  simpa [modO] using h1
theorem has_A8 {w : World} {mo : Nat} {lv : Value} {most : Int} {V : Nat} {av acv : Value} {same : Int} {inner : Bool} (h : w.heap[mo]? = some (modO lv most V av acv same inner)) (l2 : Value) : (w.setCell ⟨mo, 3, none⟩ l2).heap[mo]? = some (modO lv most V l2 acv same inner) := by
  have h1 := has_setCell h 3 l2
  simpa [modO] using h1
theorem has_I8 {w : World} {mo : Nat} {lv : Value} {most : Int} {V : Nat} {av acv : Value} {same : Int} {inner : Bool} (h : w.heap[mo]? = some (modO lv most V av acv same inner)) (b : Bool) : (w.setCell ⟨mo, 6, none⟩ (.bool b)).heap[mo]? = some (modO lv most V av acv same b) := by
  have h1 := has_setCell h 6 (.bool b)
  simpa [modO] using h1
theorem up8 {V : Nat} (h : V ≤ 100000) : wrap64 ((V : Int) + 1) = (V : Int) + 1 := IntWalk.wrap64_in _ (by omega)
set_option maxRecDepth 100000 in
set_option maxHeartbeats 4000000 in
theorem put_new8 (lo mo : Nat) (M : List Nat) (most same : Int) (acv : Value) (inner : Bool) (s : Ms8) (p : Pr8) (w : World) (H : MdAt lo mo M most same acv inner s w) (hV : s.V ≤ 1000) (hl : s.L.length ≤ 1000) :
    Calls Try.prog 55 #[.pointer (some ⟨mo, 0, none⟩), .int .i64 (-1), .agg #[.int .i64 p.h, .int .i64 p.k, .int .i64 p.v]] w fun r w' => r = .returned (.tuple #[]) ∧ Md8 lo mo M most same acv inner ⟨s.L ++ [p], s.V + 1, s.A⟩ w w' := by
  obtain ⟨la, lc, aa, ac, m1, p1, q1, rfl, l1⟩ := H
  obtain ⟨ph, pk, pv⟩ := p
  have hmo : mo < w.heap.size := lt_of_block m1
  obtain ⟨n, hn⟩ := ex_hid s.L.length
  rw [← hn.out] at m1 hl
  have M1 := Lib.hid m1
  have P1 := Lib.hid p1
  have Q1 := Lib.hid q1
  have y2 : w.cell? ⟨mo, 2, none⟩ = some (.int .i64 s.V) := cell_has m1 (i := 2) rfl
  have y2' : (w.alloc (.cells #[.int .i64 ph, .int .i64 pk, .int .i64 pv] 113)).cell? ⟨mo, 2, none⟩ = some (.int .i64 s.V) := cell_alloc y2 _
  have f2 := free_of_has m1 2
  have hw := up8 (V := s.V) (by omega)
  clear m1 p1 q1
  go_enter Try.func55, Try.ntmps55
  go_upto_region 3 with (fail)
  refine wp_gen (fun V => V.heap[w.heap.size]? = some (.cells #[.int .i64 ph, .int .i64 pk, .int .i64 pv] 113 (0, 0)) ∧ V.heap[mo]? = some (modO (.slice la n lc) most (s.V + 1 : Nat) (.slice aa s.A.length ac) acv same inner) ∧ Keeps [mo] w V) ⟨has_new' _ _ (by simp [World.setCell]), has_alloc (has_V8 M1.out (s.V + 1) _ (by omega)) _, ((Keeps.refl _ _).setCell (.inr (by simp)) _).alloc _⟩ ?_
  rintro W2 ⟨b2, m2, k2⟩
  obtain ⟨bx, hbx⟩ := ex_hid w.heap.size
  have hbm : bx ≠ mo := by rw [hbx.out]; omega
  rw [← hbx.out] at b2 ⊢
  have nml : mo ∉ blk la := own_notin8 P1.out M1.out (by decide)
  have nma : mo ∉ blk aa := own_notin8 Q1.out M1.out (by decide)
  have nbl : bx ∉ blk la := fun hx => by have := (own_lt8 P1.out _ hx).2; have := hbx.out; omega
  have nba : bx ∉ blk aa := fun hx => by have := (own_lt8 Q1.out _ hx).2; have := hbx.out; omega
  have P2 := Lib.hid (show P8Row lo la lc s.L W2 from own_keeps8 P1.out k2 (fun x hx h => by simp at h; subst h; exact nml hx))
  have Q2 := Lib.hid (show A8Row lo aa ac s.A W2 from own_keeps8 Q1.out k2 (fun x hx h => by simp at h; subst h; exact nma hx))
  have z0 : W2.cell? ⟨mo, 0, none⟩ = some (.slice la n lc) := cell_has m2 (i := 0) rfl
  have x0 : W2.cell? ⟨bx, 0, none⟩ = some (.int .i64 ph) := cell_has b2 (i := 0) rfl
  have x1 : W2.cell? ⟨bx, 1, none⟩ = some (.int .i64 pk) := cell_has b2 (i := 1) rfl
  have x2 : W2.cell? ⟨bx, 2, none⟩ = some (.int .i64 pv) := cell_has b2 (i := 2) rfl
  have zW : w.heap.size ≤ W2.heap.size := k2.size
  have zb := lt_of_block b2
  have B2 := Lib.hid b2
  have M2 := Lib.hid m2
  have K2 := Lib.hid k2
  obtain ⟨g, cap, W5, run5, v5, k5, g5, l5⟩ := p8_append lo la lc s.L ⟨ph, pk, pv⟩ (W2.drew.alloc (.cells #[.int .i64 ph, .int .i64 pk, .int .i64 pv] 113)) W2.heap.size (own_keeps8 P2.out (((Keeps.refl [] W2).drew).alloc _) (by simp)) (has_new _ _) (by rw [← hn.out]; omega) (by simp; omega)
  rw [← hn.out] at run5
  have RUN := Lib.hid run5
  have K5 := Lib.hid (show Keeps (blk la) W2 W5 from (((Keeps.refl (blk la) W2).drew).alloc _).trans k5)
  have q5 : W5.cell? ⟨mo, 0, none⟩ = some (.slice la n lc) ∧ W5.cell? ⟨bx, 0, none⟩ = some (.int .i64 ph) ∧ W5.cell? ⟨bx, 1, none⟩ = some (.int .i64 pk) ∧ W5.cell? ⟨bx, 2, none⟩ = some (.int .i64 pv) := ⟨K5.out.cell z0 nml, K5.out.cell x0 nbl, K5.out.cell x1 nbl, K5.out.cell x2 nbl⟩
  have Q5 := Lib.hid q5
  have M5 := Lib.hid (K5.out.has M2.out nml)
  have f5 : W5.frozen? ⟨mo, 0, none⟩ = false := free_of_has M5.out 0
  have FIN := Lib.hid (show ∀ W6, W6 = W5.setCell ⟨mo, 0, none⟩ (.slice (some ⟨g, 0, none⟩) (n + 1) cap) → Md8 lo mo (mo :: (blk la ++ blk aa)) most same acv inner ⟨s.L ++ [⟨ph, pk, pv⟩], s.V + 1, s.A⟩ w W6 from by
    rintro W6 rfl
    have k6 : Keeps [mo] W5 (W5.setCell ⟨mo, 0, none⟩ (.slice (some ⟨g, 0, none⟩) (n + 1) cap)) := (Keeps.refl _ _).setCell (.inr (by simp)) _
    have hg : g ∈ blk la ∨ w.heap.size ≤ g := by
      rcases g5 with h | h
      · exact .inl h
      · right; rw [h]; simp; omega
    have hga : g ∉ blk aa := fun hx => by
      rcases hg with h | h
      · exact own_disj8 P1.out Q1.out (by decide) g h hx
      · have := (own_lt8 Q1.out _ hx).2; omega
    have hgm : g ≠ mo := fun e => by
      rcases hg with h | h
      · rw [e] at h; exact nml h
      · omega
    refine ⟨mo :: (blk (some (⟨g, 0, none⟩ : Addr)) ++ blk aa), ⟨some ⟨g, 0, none⟩, cap, aa, ac, ?_, own_keeps8 v5 k6 (fun x hx h => by simp [blk] at hx h; subst hx; exact hgm h), own_keeps8 (own_keeps8 Q2.out K5.out (fun x hx h => own_disj8 P1.out Q1.out (by decide) x h hx)) k6 (fun x hx h => by simp at h; subst h; exact nma hx), rfl, l1⟩, ?_, ?_⟩
    · have h6 := has_L8 M5.out (.slice (some ⟨g, 0, none⟩) (n + 1) cap)
      rw [h6, List.length_append, ← hn.out]
      rfl
    · exact ((K2.out.mono (by simp)).trans (K5.out.mono (fun x hx => by simp [hx]))).trans (k6.mono (by simp))
    · intro x hx
      simp only [List.mem_cons, List.mem_append, blk, List.not_mem_nil, or_false] at hx ⊢
      rcases hx with rfl | rfl | hx
      · exact .inl (.inl rfl)
      · rcases hg with h | h
        · exact .inl (.inr (.inl h))
        · exact .inr h
      · exact .inl (.inr (.inr hx)))
  clear run5 v5 k5 g5 b2 m2 k2 q5 y2 y2' f2 nml nma nbl nba zW zb
  refine wp_regionG (fun w' => w'.cell? ⟨mo, 0, none⟩ = some (.slice la n lc) ∧ w'.cell? ⟨bx, 0, none⟩ = some (.int .i64 ph) ∧ w'.cell? ⟨bx, 1, none⟩ = some (.int .i64 pk) ∧ w'.cell? ⟨bx, 2, none⟩ = some (.int .i64 pv)) 10 (by kernel_rfl) ⟨z0, x0, x1, x2⟩ (fun hF => ?_)
  refine wpAnyG_takeY (i := 0) (v := ?_) rfl (by kernel_rfl) (by decide +kernel) (by decide +kernel) (by decide +kernel) (fun _ _ _ h => h) (by kernel_rfl) ?_ (by assumption) ?_
  rotate_left
  · (intro wz; go_simp; with_reducible rfl)
  try simp only [Act.put, List.setIfInBounds_toArray, List.set_cons_zero, List.set_cons_succ]
  refine wpAnyG_takeY (i := 1) (v := ?_) rfl (by kernel_rfl) (by decide +kernel) (by decide +kernel) (by decide +kernel) (fun _ _ _ h => h) (by kernel_rfl) ?_ (by assumption) ?_
  rotate_left
  · (intro wz; go_simp; with_reducible rfl)
  try simp only [Act.put, List.setIfInBounds_toArray, List.set_cons_zero, List.set_cons_succ]
  refine wpAnyG_takeY (i := 2) (v := ?_) rfl (by kernel_rfl) (by decide +kernel) (by decide +kernel) (by decide +kernel) (fun _ _ _ h => h) (by kernel_rfl) ?_ (by assumption) ?_
  rotate_left
  · (intro wz; go_simp; with_reducible rfl)
  try simp only [Act.put, List.setIfInBounds_toArray, List.set_cons_zero, List.set_cons_succ]
  refine wpAnyG_takeY (i := 3) (v := ?_) rfl (by kernel_rfl) (by decide +kernel) (by decide +kernel) (by decide +kernel) (fun _ _ _ h => h) (by kernel_rfl) ?_ (by assumption) ?_
  rotate_left
  · (intro wz; go_simp; with_reducible rfl)
  try simp only [Act.put, List.setIfInBounds_toArray, List.set_cons_zero, List.set_cons_succ]
  refine wpAnyG_take (i := 4) (v := ?_) rfl (by kernel_rfl) (by decide +kernel) (by decide +kernel) (by decide +kernel) (by decide +kernel) (by rfl) (fun _ _ _ h => h) (by kernel_rfl) ?_ (by assumption) ?_
  rotate_left
  · (intro wz hSw; (try dsimp only at hSw); go_simp; with_reducible rfl)
  try simp only [Act.put, List.setIfInBounds_toArray, List.set_cons_zero, List.set_cons_succ]
  refine wpAnyG_take (i := 5) (v := ?_) rfl (by kernel_rfl) (by decide +kernel) (by decide +kernel) (by decide +kernel) (by decide +kernel) (by rfl) (fun _ _ _ h => h) (by kernel_rfl) ?_ (by assumption) ?_
  rotate_left
  · (intro wz hSw; (try dsimp only at hSw); go_simp; with_reducible rfl)
  try simp only [Act.put, List.setIfInBounds_toArray, List.set_cons_zero, List.set_cons_succ]
  refine wpAnyG_one (i := 6) rfl (by kernel_rfl) (by kernel_rfl) (fun K hK => ?_)
  have HK := Lib.hid hK
  clear hK
  go_simp
  refine HK.out _ _ ⟨cell_alloc hF.1 _, cell_alloc hF.2.1 _, cell_alloc hF.2.2.1 _, cell_alloc hF.2.2.2 _⟩ ?_
  clear HK K hF
  refine wpAnyG_one (i := 7) rfl (by kernel_rfl) (by kernel_rfl) (fun K hK => ?_)
  have HK := Lib.hid hK
  clear hK
  refine wp_append_run (.tmp 19) (.tmp 21) 67 rfl _ _ rfl rfl _ _ RUN.out ?_
  have hF := Q5.out
  refine HK.out _ _ hF ?_
  clear HK K
  try simp only [Act.put, List.setIfInBounds_toArray, List.set_cons_zero, List.set_cons_succ]
  refine wpAnyG_takeY (i := 8) (v := ?_) rfl (by kernel_rfl) (by decide +kernel) (by decide +kernel) (by decide +kernel) (fun _ _ _ h => h) (by kernel_rfl) ?_ (by assumption) ?_
  rotate_left
  · (intro wz; go_simp; with_reducible rfl)
  try simp only [Act.put, List.setIfInBounds_toArray, List.set_cons_zero, List.set_cons_succ]
  refine wpAnyG_takeY (i := 9) (v := ?_) rfl (by kernel_rfl) (by decide +kernel) (by decide +kernel) (by decide +kernel) (fun _ _ _ h => h) (by kernel_rfl) ?_ (by assumption) ?_
  rotate_left
  · (intro wz; go_simp; with_reducible rfl)
  try simp only [Act.put, List.setIfInBounds_toArray, List.set_cons_zero, List.set_cons_succ]
  refine wpAnyG_last rfl (by kernel_rfl) (by rfl) (by rfl) (fun K hK => ?_)
  have HK := Lib.hid hK
  clear hK
  go_simp
  refine HK.out _ _ ?_
  clear HK K
  refine wpAnyG_done (by kernel_rfl) ?_ _
  go_wp2_with fail
  refine bodyPost_ret (results_none rfl _ _ _) rfl ?_
  exact ⟨rfl, FIN.out _ rfl⟩
set_option maxRecDepth 100000 in
set_option maxHeartbeats 4000000 in
theorem put_at8 (lo mo : Nat) (M : List Nat) (most same : Int) (acv : Value) (inner : Bool) (s : Ms8) (i : Nat) (p : Pr8) (w : World) (H : MdAt lo mo M most same acv inner s w) (hV : s.V ≤ 1000) (hl : s.L.length ≤ 1000) (hi : i < s.L.length) :
    Calls Try.prog 55 #[.pointer (some ⟨mo, 0, none⟩), .int .i64 i, .agg #[.int .i64 p.h, .int .i64 p.k, .int .i64 p.v]] w fun r w' => r = .returned (.tuple #[]) ∧ Md8 lo mo M most same acv inner ⟨s.L.set i ⟨(s.L.getD i noP8).h, (s.L.getD i noP8).k, p.v⟩, s.V + 1, s.A⟩ w w' := by
  obtain ⟨la, lc, aa, ac, m1, p1, q1, rfl, l1⟩ := H
  obtain ⟨ph, pk, pv⟩ := p
  have hmo : mo < w.heap.size := lt_of_block m1
  obtain ⟨g, rfl⟩ := own_shape8 p1 (by omega)
  obtain ⟨x, hx⟩ : ∃ x, s.L[i]? = some x := ⟨_, List.getElem?_eq_getElem hi⟩
  have hgd : s.L.getD i noP8 = x := by simp [List.getD, hx]
  have HX := Lib.hid hx
  have HG := Lib.hid hgd
  obtain ⟨n, hn⟩ := ex_hid s.L.length
  rw [← hn.out] at m1 hl hi
  have M1 := Lib.hid m1
  have P1 := Lib.hid p1
  have Q1 := Lib.hid q1
  have y2 : w.cell? ⟨mo, 2, none⟩ = some (.int .i64 s.V) := cell_has m1 (i := 2) rfl
  have f2 := free_of_has m1 2
  have hw := up8 (V := s.V) (by omega)
  have i0 : (0 : Int) ≤ (i : Int) := by omega
  have i1 : (i : Int) < (n : Int) := by omega
  clear m1 p1 q1 hx hgd
  go_enter Try.func55, Try.ntmps55
  go_upto_region 4 with (fail)
  refine wp_gen (fun V => V.heap[w.heap.size]? = some (.cells #[.int .i64 ph, .int .i64 pk, .int .i64 pv] 113 (0, 0)) ∧ V.heap[mo]? = some (modO (.slice (some ⟨g, 0, none⟩) n lc) most (s.V + 1 : Nat) (.slice aa s.A.length ac) acv same inner) ∧ Keeps [mo] w V) ⟨has_new' _ _ (by simp [World.setCell]), has_alloc (has_V8 M1.out (s.V + 1) _ (by omega)) _, ((Keeps.refl _ _).setCell (.inr (by simp)) _).alloc _⟩ ?_
  rintro W2 ⟨b2, m2, k2⟩
  obtain ⟨bx, hbx⟩ := ex_hid w.heap.size
  rw [← hbx.out] at b2 ⊢
  have nml : mo ∉ blk (some (⟨g, 0, none⟩ : Addr)) := own_notin8 P1.out M1.out (by decide)
  have nma : mo ∉ blk aa := own_notin8 Q1.out M1.out (by decide)
  have nbl : bx ∉ blk (some (⟨g, 0, none⟩ : Addr)) := fun hx => by have := (own_lt8 P1.out _ hx).2; have := hbx.out; omega
  have hgm : g ≠ mo := fun e => nml (by simp [blk, e])
  have hgb : g ≠ bx := fun e => nbl (by simp [blk, e])
  have P2 := Lib.hid (show P8Row lo (some ⟨g, 0, none⟩) lc s.L W2 from own_keeps8 P1.out k2 (fun x hx h => by simp at h; subst h; exact nml hx))
  have Q2 := Lib.hid (show A8Row lo aa ac s.A W2 from own_keeps8 Q1.out k2 (fun x hx h => by simp at h; subst h; exact nma hx))
  have z0 : W2.cell? ⟨mo, 0, none⟩ = some (.slice (some ⟨g, 0, none⟩) n lc) := cell_has m2 (i := 0) rfl
  have x2 : W2.cell? ⟨bx, 2, none⟩ = some (.int .i64 pv) := cell_has b2 (i := 2) rfl
  have c2 : W2.cell? ⟨g, i * 3 + 2, none⟩ = some (.int .i64 x.v) := P2.out.cell HX.out 2 (by omega)
  have fg : W2.frozen? ⟨g, i * 3 + 2, none⟩ = false := P2.out.free _
  have M2h := Lib.hid m2
  have k2h := Lib.hid k2
  have FIN := Lib.hid (show ∀ W6, W6 = (W2.drew).setCell ⟨g, i * 3 + 2, none⟩ (.int .i64 pv) → Md8 lo mo (mo :: (blk (some (⟨g, 0, none⟩ : Addr)) ++ blk aa)) most same acv inner ⟨s.L.set i ⟨(s.L.getD i noP8).h, (s.L.getD i noP8).k, pv⟩, s.V + 1, s.A⟩ w W6 from by
    rintro W6 rfl
    have k6 : Keeps [g] W2 ((W2.drew).setCell ⟨g, i * 3 + 2, none⟩ (.int .i64 pv)) := ((Keeps.refl _ _).drew).setCell (.inr (by simp)) _
    have h9 := P8Row.put (w := W2.drew) (own_keeps8 P2.out ((Keeps.refl [] W2).drew) (by simp)) HX.out pv
    rw [HG.out]
    refine ⟨mo :: (blk (some (⟨g, 0, none⟩ : Addr)) ++ blk aa), ⟨some ⟨g, 0, none⟩, lc, aa, ac, ?_, h9, own_keeps8 Q2.out k6 (fun x hx h => by simp at h; subst h; exact own_disj8 P1.out Q1.out (by decide) x (by simp [blk]) hx), rfl, l1⟩, ?_, fun x hx => .inl hx⟩
    · have h6 := k6.has M2h.out (by simp; exact fun e => hgm e.symm)
      rw [h6, List.length_set, ← hn.out]
    · exact (k2h.out.mono (by simp)).trans (k6.mono (by simp [blk])))
  clear b2 m2 k2 y2 f2 nml nma nbl
  refine wp_regionG (fun w' => w'.cell? ⟨mo, 0, none⟩ = some (.slice (some ⟨g, 0, none⟩) n lc) ∧ w'.cell? ⟨bx, 2, none⟩ = some (.int .i64 pv) ∧ w'.cell? ⟨g, i * 3 + 2, none⟩ = some (.int .i64 x.v)) 9 (by kernel_rfl) ⟨z0, x2, c2⟩ (fun hF => ?_)
  refine wpAnyG_takeY (i := 0) (v := ?_) rfl (by kernel_rfl) (by decide +kernel) (by decide +kernel) (by decide +kernel) (fun _ _ _ h => h) (by kernel_rfl) ?_ (by assumption) ?_
  rotate_left
  · (intro wz; go_simp; with_reducible rfl)
  try simp only [Act.put, List.setIfInBounds_toArray, List.set_cons_zero, List.set_cons_succ]
  refine wpAnyG_takeY (i := 1) (v := ?_) rfl (by kernel_rfl) (by decide +kernel) (by decide +kernel) (by decide +kernel) (fun _ _ _ h => h) (by kernel_rfl) ?_ (by assumption) ?_
  rotate_left
  · (intro wz; go_simp; with_reducible rfl)
  try simp only [Act.put, List.setIfInBounds_toArray, List.set_cons_zero, List.set_cons_succ]
  refine wpAnyG_takeY (i := 2) (v := ?_) rfl (by kernel_rfl) (by decide +kernel) (by decide +kernel) (by decide +kernel) (fun _ _ _ h => h) (by kernel_rfl) ?_ (by assumption) ?_
  rotate_left
  · (intro wz; go_simp; with_reducible rfl)
  try simp only [Act.put, List.setIfInBounds_toArray, List.set_cons_zero, List.set_cons_succ]
  refine wpAnyG_take (i := 3) (v := ?_) rfl (by kernel_rfl) (by decide +kernel) (by decide +kernel) (by decide +kernel) (by decide +kernel) (by rfl) (fun _ _ _ h => h) (by kernel_rfl) ?_ (by assumption) ?_
  rotate_left
  · (intro wz hSw; (try dsimp only at hSw); go_simp; with_reducible rfl)
  try simp only [Act.put, List.setIfInBounds_toArray, List.set_cons_zero, List.set_cons_succ]
  refine wpAnyG_takeY (i := 4) (v := ?_) rfl (by kernel_rfl) (by decide +kernel) (by decide +kernel) (by decide +kernel) (fun _ _ _ h => h) (by kernel_rfl) ?_ (by assumption) ?_
  rotate_left
  · (intro wz; go_simp; with_reducible rfl)
  try simp only [Act.put, List.setIfInBounds_toArray, List.set_cons_zero, List.set_cons_succ]
  refine wpAnyG_takeY (i := 5) (v := ?_) rfl (by kernel_rfl) (by decide +kernel) (by decide +kernel) (by decide +kernel) (fun _ _ _ h => h) (by kernel_rfl) ?_ (by assumption) ?_
  rotate_left
  · (intro wz; go_simp; with_reducible rfl)
  try simp only [Act.put, List.setIfInBounds_toArray, List.set_cons_zero, List.set_cons_succ]
  refine wpAnyG_take (i := 6) (v := ?_) rfl (by kernel_rfl) (by decide +kernel) (by decide +kernel) (by decide +kernel) (by decide +kernel) (by rfl) (fun _ _ _ h => h) (by kernel_rfl) ?_ (by assumption) ?_
  rotate_left
  · (intro wz hSw; (try dsimp only at hSw); go_simp; with_reducible rfl)
  try simp only [Act.put, List.setIfInBounds_toArray, List.set_cons_zero, List.set_cons_succ]
  refine wpAnyG_takeY (i := 7) (v := ?_) rfl (by kernel_rfl) (by decide +kernel) (by decide +kernel) (by decide +kernel) (fun _ _ _ h => h) (by kernel_rfl) ?_ (by assumption) ?_
  rotate_left
  · (intro wz; go_simp; with_reducible rfl)
  try simp only [Act.put, List.setIfInBounds_toArray, List.set_cons_zero, List.set_cons_succ]
  refine wpAnyG_takeY (i := 8) (v := ?_) rfl (by kernel_rfl) (by decide +kernel) (by decide +kernel) (by decide +kernel) (fun _ _ _ h => h) (by kernel_rfl) ?_ (by assumption) ?_
  rotate_left
  · (intro wz; go_simp; with_reducible rfl)
  try simp only [Act.put, List.setIfInBounds_toArray, List.set_cons_zero, List.set_cons_succ]
  refine wpAnyG_last rfl (by kernel_rfl) (by rfl) (by rfl) (fun K hK => ?_)
  have HK := Lib.hid hK
  clear hK
  go_simp
  refine HK.out _ _ ?_
  clear HK K
  refine wpAnyG_done (by kernel_rfl) ?_ _
  go_wp2_with fail
  refine bodyPost_end (results_none rfl _ _ _) rfl ?_
  exact ⟨rfl, FIN.out _ rfl⟩
end Go.Proofs.Ytcakdmapnmneoaa
