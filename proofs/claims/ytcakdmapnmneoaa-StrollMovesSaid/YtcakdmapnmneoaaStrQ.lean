/- A dictionary as the sequence of its pairs, and a stroll through it (chapter 9's laws). No program in sight. -/
import Derived.Test.YtcakdmapnmneoaaStrPut
namespace Go.Proofs.Ytcakdmapnmneoaa
open Go.RowKit
set_option linter.unusedVariables false
set_option linter.unusedSimpArgs false

theorem numL_put (E : List Ent) (y : Ent) (hy' : y.live = true) : ∀ (i k n : Nat) (x : Ent), (numL E i)[k]? = some (n, x) → liveL (E.set (n - i) y) = (liveL E).set k y := by
  induction E with
  | nil => intro i k n x h; simp [numL] at h
  | cons z E ih =>
    intro i k n x h
    unfold numL at h
    by_cases hy : z.live = true
    · rw [if_pos hy] at h
      cases k with
      | zero =>
        simp at h
        obtain ⟨rfl, rfl⟩ := h
        simp [liveL, hy', hy]
      | succ k =>
        simp at h
        have h2 := ih (i + 1) k n x h
        have h3 := (numL_mem (List.mem_of_getElem? h)).1
        simp only at h3
        rw [show n - i = (n - (i + 1)) + 1 by omega, List.set_cons_succ]
        simp only [liveL, List.filter_cons, hy, if_true] at h2 ⊢
        rw [h2]; simp
    · rw [if_neg hy] at h
      have h2 := ih (i + 1) k n x h
      have h3 := (numL_mem (List.mem_of_getElem? h)).1
      simp only at h3
      rw [show n - i = (n - (i + 1)) + 1 by omega, List.set_cons_succ]
      simp only [liveL, List.filter_cons, hy] at h2 ⊢
      simpa using h2
theorem mem_live {E : List Ent} {y : Ent} {f : Nat} (h : E[f]? = some y) (hl : y.live = true) : y ∈ liveL E := List.mem_filter.2 ⟨List.mem_of_getElem? h, hl⟩
/-- A key that no pair has. -/
theorem tgt_none {d : Dic} (g : Nat) (h k v : Int) (ha : ∀ y, y ∈ liveL d.T.E → y.key ≠ k) : Tgt d (newM g h k v) none := fun f y hf hl _ hk => ha y (mem_live hf hl) hk
/-- A key that the pair number i has. -/
theorem tgt_some {d : Dic} (hb : BirOk d) (g : Nat) (h k v : Int) {i : Nat} {y : Ent} (hi : (liveL d.T.E)[i]? = some y) (hh : y.hash = h) (hk : y.key = k) (hu : ∀ z, z ∈ liveL d.T.E → z.key = k → z = y) :
    Tgt d (newM g h k v) (some (nthN d.T.E i)) ∧ d.at_ (nthN d.T.E i : Nat) = y ∧ d.T.ent (nthN d.T.E i : Nat) = some y ∧ (numL d.T.E 0)[i]? = some (nthN d.T.E i, y) := by
  obtain ⟨h1, h2, h3⟩ := nthN_spec hi
  refine ⟨⟨⟨y, h2, h3, hh, hk⟩, fun f z hf hz hl _ he => ?_⟩, by simp [Dic.at_, List.getD, h2], by unfold Tab.ent; rw [if_pos (by omega)]; simp [h2, Option.filter, h3], h1⟩
  have := hb.up.up f _ z y hf hz h2 hl h3
  rw [hu z (mem_live hz hl) he] at this
  omega
/-- Its value is turned. -/
theorem live_put {d : Dic} (h k v : Int) {i : Nat} {y : Ent} (he : d.T.ent (nthN d.T.E i : Nat) = some y) (hn : (numL d.T.E 0)[i]? = some (nthN d.T.E i, y)) : liveL (d.hit (newM 2 h k v) (nthN d.T.E i : Nat)).T.E = (liveL d.T.E).set i { y with val := v } := by
  have e1 : d.hit (newM 2 h k v) (nthN d.T.E i : Nat) = { d with T := d.T.put (nthN d.T.E i : Nat) v, ver := d.ver + 1 } := rfl
  rw [e1]
  show liveL (d.T.put (nthN d.T.E i : Nat) v).E = _
  unfold Tab.put; rw [he]
  have := numL_put d.T.E { y with val := v } (ent_some he).2.2 0 i (nthN d.T.E i) y hn
  simpa using this
/-- It is taken out. -/
theorem live_kill {d : Dic} (h k v : Int) {i : Nat} {y : Ent} (he : d.T.ent (nthN d.T.E i : Nat) = some y) (hn : (numL d.T.E 0)[i]? = some (nthN d.T.E i, y)) : liveL (d.hit (newM 3 h k v) (nthN d.T.E i : Nat)).T.E = (liveL d.T.E).take i ++ (liveL d.T.E).drop (i + 1) := by
  have e1 : d.hit (newM 3 h k v) (nthN d.T.E i : Nat) = { d with T := d.T.kill (nthN d.T.E i : Nat), ver := d.ver + 1 } := rfl
  rw [e1]
  show liveL (d.T.kill (nthN d.T.E i : Nat)).E = _
  unfold Tab.kill; rw [he]
  have := numL_kill d.T.E 0 i (nthN d.T.E i) y hn
  simpa using this
/-- A pair is put in behind the others. -/
theorem live_add {d : Dic} (h k v : Int) (hf : d.full = false) : liveL (d.miss (newM 2 h k v)).T.E = liveL d.T.E ++ [⟨true, h, k, v, d.T.births⟩] ∧ (d.miss (newM 2 h k v)).T.births = d.T.births + 1 ∧ (d.miss (newM 2 h k v)).ver = d.ver + 1 ∧ (d.miss (newM 2 h k v)).most = d.most ∧ (missT d (newM 2 h k v)).kind = 2 := by
  have hg : ¬ ((newM 2 h k v).g = 1 ∨ (newM 2 h k v).g = 3) := by show ¬ ((2 : Nat) = 1 ∨ (2 : Nat) = 3); omega
  have e1 : d.miss (newM 2 h k v) = { d with T := d.T.add h k v, ver := d.ver + 1 } := by unfold Dic.miss; rw [if_neg hg, hf, if_neg (by simp)]; rfl
  rw [e1]
  exact ⟨add_live _ _ _ _, add_births _ _ _ _, rfl, rfl, by unfold missT; rw [if_neg hg, hf, if_neg (by simp)]⟩
/-- A stroll's pairs are those of its dictionary, if it has the same version. -/
structure Sees (d : Dic) (s : Str) : Prop where
  le : s.ver ≤ d.ver
  eq : s.ver = d.ver → s.prs = liveL d.T.E
theorem Sees.new (db : Nat) (d : Dic) (back : Bool) : Sees d (newS db d back) := ⟨Nat.le_refl _, fun _ => rfl⟩
theorem Sees.prs {d : Dic} {s : Str} (h : Sees d s) : (s.seen d).prs = liveL d.T.E := by
  unfold Str.seen
  show (if s.ver = d.ver then s.prs else liveL d.T.E) = _
  split
  · rename_i e; exact h.eq e
  · rfl
theorem Sees.later {d e : Dic} {s : Str} (h : Sees d s) (hv : d.ver < e.ver) : Sees e s := ⟨by have := h.le; omega, fun he => by have := h.le; omega⟩
theorem strN_ver (d : Dic) (s : Str) (hb : ¬ (s.broken = true ∨ liveN d.T.E ≠ s.size)) : (strN d s).ver = d.ver ∧ (strN d s).prs = (s.seen d).prs ∧ (strN d s).size = s.size ∧ (strN d s).back = s.back ∧ (strN d s).broken = false := by
  unfold strN; rw [if_neg hb]
  split
  · exact ⟨rfl, rfl, rfl, rfl, rfl⟩
  · exact ⟨rfl, rfl, rfl, rfl, rfl⟩
theorem Sees.next {d : Dic} {s : Str} (h : Sees d s) (hb : ¬ (s.broken = true ∨ liveN d.T.E ≠ s.size)) : Sees d (strN d s) := by
  obtain ⟨h1, h2, _⟩ := strN_ver d s hb
  exact ⟨by omega, fun _ => by rw [h2, h.prs]⟩
/-- What a Next of a stroll tells that has not broken: the pair at the place among the dictionary's own. -/
theorem str_in {d : Dic} {s : Str} (h : Sees d s) (hb : ¬ (s.broken = true ∨ liveN d.T.E ≠ s.size)) {p : Nat} {x : Ent} (hp : (s.seen d).place = p) (hx : (liveL d.T.E)[p]? = some x) :
    strE d s = 0 ∧ strX d s = x ∧ (strN d s).told = true ∧ (strN d s).last = x.birth ∧ (strN d s).dp = s.dp := by
  have ho : ¬ (s.seen d).out (s.seen d).prs (s.seen d).place = true := by
    rw [h.prs, hp]
    have := (List.getElem?_eq_some_iff.1 hx).1
    simp [Str.out]; omega
  have hg : (s.seen d).prs.getD (s.seen d).place.toNat noE = x := by rw [h.prs, hp]; simp [List.getD, hx]
  unfold strE strX strN
  simp only [if_neg hb, if_neg ho]
  exact ⟨trivial, hg, trivial, by rw [hg], rfl⟩
theorem str_end {d : Dic} {s : Str} (h : Sees d s) (hb : ¬ (s.broken = true ∨ liveN d.T.E ≠ s.size)) (hp : (s.seen d).place < 0 ∨ ((liveL d.T.E).length : Int) ≤ (s.seen d).place) :
    strE d s = 10 ∧ (strN d s).dp = none := by
  have ho : (s.seen d).out (s.seen d).prs (s.seen d).place = true := by
    rw [h.prs]; simp [Str.out]; exact hp
  unfold strE strN
  simp only [if_neg hb, if_pos ho]
  exact ⟨trivial, trivial⟩
/-- The place in plain words. -/
theorem place_is (d : Dic) (s : Str) (h : Sees d s) : (s.seen d).place = if s.told = false then (if s.back = true then ((liveL d.T.E).length : Int) - 1 else 0) else if s.back = true then (cntL (liveL d.T.E) (s.last - 1) : Int) - 1 else (cntL (liveL d.T.E) s.last : Int) := by
  have h1 := h.prs
  show (if s.told = false then (if s.back = true then ((s.seen d).prs.length : Int) - 1 else 0) else if s.back = true then (cntL (s.seen d).prs (s.last - 1) : Int) - 1 else (cntL (s.seen d).prs s.last : Int)) = _
  rw [h1]
/-- A dictionary of the keys 0, 1, 2, .. -/
def entI (F V : Nat → Int) (i : Nat) : Ent := ⟨true, F i, i, V i, i⟩
def rowI (F V : Nat → Int) (n : Nat) : List Ent := (List.range n).map (entI F V)
theorem rowI_get (F V : Nat → Int) {n i : Nat} (h : i < n) : (rowI F V n)[i]? = some (entI F V i) := by simp [rowI, h]
theorem rowI_len (F V : Nat → Int) (n : Nat) : (rowI F V n).length = n := by simp [rowI]
theorem rowI_mem {F V : Nat → Int} {n : Nat} {y : Ent} (h : y ∈ rowI F V n) : ∃ i, i < n ∧ y = entI F V i := by
  simp [rowI] at h
  obtain ⟨i, h1, h2⟩ := h
  exact ⟨i, h1, h2.symm⟩
def putI (V : Nat → Int) (x : Nat) (v : Int) : Nat → Int := fun i => if i = x then v else V i
theorem rowI_put (F V : Nat → Int) (n x : Nat) (v : Int) : (rowI F V n).set x { entI F V x with val := v } = rowI F (putI V x v) n := by
  apply List.ext_getElem?
  intro j
  by_cases hj : j < n
  · rw [rowI_get _ _ hj]
    by_cases hx : x = j
    · subst hx
      rw [List.getElem?_set_self (by rw [rowI_len]; exact hj)]
      simp [entI, putI]
    · rw [List.getElem?_set_ne hx, rowI_get _ _ hj]
      simp only [entI, putI, if_neg (fun e : j = x => hx e.symm)]
  · rw [List.getElem?_eq_none (by rw [List.length_set, rowI_len]; omega), List.getElem?_eq_none (by rw [rowI_len]; omega)]
theorem rowI_snoc (F V : Nat → Int) (n : Nat) : rowI F V (n + 1) = rowI F V n ++ [entI F V n] := by simp [rowI, List.range_succ]
structure Run9 (F V : Nat → Int) (n : Nat) (d : Dic) : Prop where
  l : liveL d.T.E = rowI F V n
  b : d.T.births = n
  m : d.most = 1000
  o : BirOk d
theorem Run9.new (F V : Nat → Int) : Run9 F V 0 (newD 1000) := ⟨rfl, rfl, rfl, BirOk.new _⟩
theorem Run9.liveN {F V : Nat → Int} {n : Nat} {d : Dic} (r : Run9 F V n d) : liveN d.T.E = n := by rw [← liveL_len, r.l, rowI_len]
theorem Run9.full {F V : Nat → Int} {n : Nat} {d : Dic} (r : Run9 F V n d) (hn : n < 1000) : d.full = false := by unfold Dic.full; rw [r.liveN, r.m]; simp; omega
theorem Run9.absent {F V : Nat → Int} {n : Nat} {d : Dic} (r : Run9 F V n d) (g : Nat) (h k v : Int) (hk : k < 0 ∨ (n : Int) ≤ k) : Tgt d (newM g h k v) none := tgt_none g h k v fun y hy he => by
  rw [r.l] at hy
  obtain ⟨i, h1, rfl⟩ := rowI_mem hy
  have : (i : Int) = k := he
  omega
theorem Run9.add {F V : Nat → Int} {n : Nat} {d : Dic} (r : Run9 F V n d) (hn : n < 1000) : Run9 F V (n + 1) (finD d (newM 2 (F n) n (V n)) none) ∧ (finT d (newM 2 (F n) n (V n)) none).kind = 2 := by
  obtain ⟨h1, h2, h3, h4, h5⟩ := live_add (F n) n (V n) (r.full hn)
  refine ⟨⟨?_, ?_, h4.trans r.m, r.o.miss _⟩, h5⟩
  · show liveL (d.miss (newM 2 (F n) n (V n))).T.E = _
    rw [h1, r.l, rowI_snoc, r.b]; rfl
  · show (d.miss (newM 2 (F n) n (V n))).T.births = _
    rw [h2, r.b]
theorem Run9.put {F V : Nat → Int} {n : Nat} {d : Dic} (r : Run9 F V n d) {x : Nat} (hx : x < n) (v : Int) : ∃ e : Nat, Tgt d (newM 2 (F x) x v) (some e) ∧ Run9 F (putI V x v) n (finD d (newM 2 (F x) x v) (some e)) ∧ (finT d (newM 2 (F x) x v) (some e)).kind = 2 ∧ (finD d (newM 2 (F x) x v) (some e)).ver = d.ver + 1 := by
  have hi : (liveL d.T.E)[x]? = some (entI F V x) := by rw [r.l]; exact rowI_get F V hx
  obtain ⟨h1, h2, h3, h4⟩ := tgt_some r.o 2 (F x) x v hi rfl rfl (fun z hz hk => by
    rw [r.l] at hz
    obtain ⟨i, g1, rfl⟩ := rowI_mem hz
    have : (i : Int) = x := hk
    rw [show i = x by omega])
  refine ⟨_, h1, ⟨?_, ?_, r.m, r.o.hit _ _⟩, rfl, rfl⟩
  · show liveL (d.hit (newM 2 (F x) x v) (nthN d.T.E x : Nat)).T.E = _
    rw [live_put (F x) x v h3 h4, r.l, rowI_put]
  · show (d.T.put (nthN d.T.E x : Nat) v).births = n
    unfold Tab.put; rw [h3]; exact r.b
/-- A stroll that has told m pairs. -/
structure StrI (db n m : Nat) (back : Bool) (d : Dic) (s : Str) : Prop where
  dp : s.dp = some db
  sz : s.size = n
  br : s.broken = false
  bk : s.back = back
  td : s.told = decide (0 < m)
  ls : 0 < m → s.last = if back = true then (n : Int) - m else (m : Int) - 1
  se : Sees d s
  ok : StrOk s
theorem StrI.later {db n m : Nat} {back : Bool} {d e : Dic} {s : Str} (h : StrI db n m back d s) (hv : d.ver < e.ver) : StrI db n m back e s := ⟨h.dp, h.sz, h.br, h.bk, h.td, h.ls, h.se.later hv, h.ok⟩
theorem rowI_ups (F V : Nat → Int) (n : Nat) : Ups (rowI F V n) := by
  intro i j x y hij hi hj
  have h1 := (List.getElem?_eq_some_iff.1 hi).1
  have h2 := (List.getElem?_eq_some_iff.1 hj).1
  rw [rowI_len] at h1 h2
  rw [rowI_get F V h1] at hi
  rw [rowI_get F V h2] at hj
  cases hi; cases hj
  show (i : Int) < j
  omega
theorem rowI_cnt (F V : Nat → Int) {n : Nat} (b : Int) (h0 : -1 ≤ b) (h1 : b < n) : (cntL (rowI F V n) b : Int) = b + 1 := by
  have := (rowI_ups F V n).cnt_is b (b + 1).toNat (by rw [rowI_len]; omega) (fun j x hj hx => by
    have h2 := (List.getElem?_eq_some_iff.1 hx).1
    rw [rowI_len] at h2
    rw [rowI_get F V h2] at hx; cases hx
    show ¬ b < (j : Int); omega) (fun j x hj hx => by
    have h2 := (List.getElem?_eq_some_iff.1 hx).1
    rw [rowI_len] at h2
    rw [rowI_get F V h2] at hx; cases hx
    show b < (j : Int); omega)
  omega
theorem StrI.nb {db n m : Nat} {back : Bool} {d : Dic} {s : Str} (h : StrI db n m back d s) {F V : Nat → Int} (r : Run9 F V n d) : ¬ (s.broken = true ∨ Go.Proofs.Ytcakdmapnmneoaa.liveN d.T.E ≠ s.size) := by
  rw [h.br, r.liveN, h.sz]; simp
theorem StrI.next {db n m : Nat} {back : Bool} {d : Dic} {s : Str} (h : StrI db n m back d s) {F V : Nat → Int} (r : Run9 F V n d) (hm : m < n) {k : Nat} (hI : DicOk k d) (hk : k ≤ 1000) :
    strE d s = 0 ∧ strX d s = entI F V (if back = true then n - 1 - m else m) ∧ StrI db n (m + 1) back d (strN d s) := by
  have hb := h.nb r
  have hp : (s.seen d).place = ((if back = true then n - 1 - m else m : Nat) : Int) := by
    rw [place_is d s h.se, h.td, h.bk, r.l, rowI_len]
    rcases Nat.eq_zero_or_pos m with h0 | h0
    · subst h0
      simp only [Nat.lt_irrefl, decide_false, if_true]
      cases back
      · simp
      · simp only [if_true]; omega
    · have h1 := h.ls h0
      simp only [h0, decide_true, Bool.true_eq_false, if_false]
      rw [h1]
      cases back
      · simp only [Bool.false_eq_true, if_false]
        rw [rowI_cnt F V _ (by omega) (by omega)]; omega
      · simp only [if_true]
        rw [rowI_cnt F V _ (by omega) (by omega)]; omega
  have hlt : (if back = true then n - 1 - m else m) < n := by split <;> omega
  obtain ⟨h1, h2, h3, h4, h5⟩ := str_in h.se hb hp (by rw [r.l]; exact rowI_get F V hlt)
  obtain ⟨g1, g2, g3, g4, g5⟩ := strN_ver d s hb
  refine ⟨h1, h2, h5.trans h.dp, g3.trans h.sz, g5, g4.trans h.bk, by rw [h3]; simp, fun _ => ?_, h.se.next hb, h.ok.next r.o hI hk⟩
  rw [h4]
  show (((if back = true then n - 1 - m else m) : Nat) : Int) = _
  cases back
  · simp
  · simp only [if_true]; omega
theorem StrI.end_ {db n : Nat} {back : Bool} {d : Dic} {s : Str} (h : StrI db n n back d s) {F V : Nat → Int} (r : Run9 F V n d) : strE d s = 10 ∧ (strN d s).dp = none := by
  refine str_end h.se (h.nb r) ?_
  rw [place_is d s h.se, h.td, h.bk, r.l, rowI_len]
  rcases Nat.eq_zero_or_pos n with h0 | h0
  · subst h0
    simp only [Nat.lt_irrefl, decide_false, if_true]
    cases back
    · simp
    · left; simp
  · have h1 := h.ls h0
    simp only [h0, decide_true, Bool.true_eq_false, if_false]
    rw [h1]
    cases back
    · simp only [Bool.false_eq_true, if_false]
      rw [rowI_cnt F V _ (by omega) (by omega)]; right; omega
    · simp only [if_true]
      rw [rowI_cnt F V _ (by omega) (by omega)]; left; omega
theorem StrI.new {db n : Nat} {F V : Nat → Int} {d : Dic} (r : Run9 F V n d) {k : Nat} (hI : DicOk k d) (hk : k ≤ 1000) (back : Bool) : StrI db n 0 back d (newS db d back) :=
  ⟨rfl, r.liveN, rfl, rfl, rfl, fun h => by omega, Sees.new _ _ _, StrOk.new r.o hI hk _ _⟩
theorem DicOk.fin {k : Nat} (hk : k ≤ 1000) {d : Dic} (h : DicOk k d) (q : Mac) (tg : Option Nat) : DicOk (k + 1) (finD d q tg) := by
  cases tg with
  | none => exact h.miss hk q
  | some x => exact h.hit q x
end Go.Proofs.Ytcakdmapnmneoaa
