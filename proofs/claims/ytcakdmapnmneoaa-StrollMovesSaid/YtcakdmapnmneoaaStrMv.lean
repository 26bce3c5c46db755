/- A key is taken out and put in again during a walk: what is told then (chapter 9's laws). No program in sight. -/
import Derived.Test.YtcakdmapnmneoaaStrQ
namespace Go.Proofs.Ytcakdmapnmneoaa
open Go.RowKit
set_option linter.unusedVariables false
set_option linter.unusedSimpArgs false

/-- The place of the key that is told at step i, if nothing is moved; the step of a key. -/
def kAt (n : Nat) (back : Bool) (i : Nat) : Nat := if back = true then n - 1 - i else i
/-- The rest of the others, number i of the list. -/
def wNo (n at_ key : Nat) (back : Bool) (i : Nat) : Int := (kAt n back (if i < at_ ∨ kAt n back key < at_ ∨ i < kAt n back key then i else i + 1) : Nat)
def wLen (n at_ key : Nat) (back : Bool) (j : Nat) : Nat := if at_ ≤ kAt n back key ∧ kAt n back key < j then j - 1 else j
theorem wLen_le (n at_ key : Nat) (back : Bool) (j : Nat) : wLen n at_ key back j ≤ j := by unfold wLen; split <;> omega
theorem wLen_0 (n at_ key : Nat) (back : Bool) : wLen n at_ key back 0 = 0 := by unfold wLen; split <;> omega
theorem kAt_key {n i key : Nat} {back : Bool} (hi : i < n) (hk : key < n) : kAt n back i = key ↔ i = kAt n back key := by
  unfold kAt; split <;> omega
theorem wLen_yes {n at_ key j : Nat} {back : Bool} (hj : j < n) (hk : key < n) (h : j < at_ ∨ kAt n back j ≠ key) : wLen n at_ key back (j + 1) = wLen n at_ key back j + 1 ∧ wNo n at_ key back (wLen n at_ key back j) = (kAt n back j : Nat) := by
  have h1 := kAt_key (back := back) hj hk
  have h2 : j < at_ ∨ j ≠ kAt n back key := by rcases h with h | h; exact .inl h; exact .inr (fun e => h (h1.2 e))
  unfold wNo wLen
  generalize kAt n back key = ik at *
  constructor
  · split <;> split <;> omega
  · congr 2
    split <;> split <;> omega
theorem wLen_no {n at_ key j : Nat} {back : Bool} (hj : j < n) (hk : key < n) (h : ¬ (j < at_ ∨ kAt n back j ≠ key)) : wLen n at_ key back (j + 1) = wLen n at_ key back j := by
  have h1 := kAt_key (back := back) hj hk
  have h2 : at_ ≤ j ∧ j = kAt n back key := ⟨by omega, h1.1 (by omega)⟩
  unfold wLen
  generalize kAt n back key = ik at *
  split <;> split <;> omega
/-- The key of the place p behind the move. -/
def kfM (n key p : Nat) : Nat := if p = n - 1 then key else if p < key then p else p + 1
/-- The first place behind the move. -/
def cM (n at_ key : Nat) (back : Bool) : Nat := if back = true then (if at_ = 0 then n else if key < n - at_ then n - at_ - 1 else n - at_) else if key < at_ then at_ - 1 else at_
def pM (n at_ key : Nat) (back : Bool) (i : Nat) : Nat := if back = true then cM n at_ key back - 1 - (i - at_) else cM n at_ key back + (i - at_)
/-- How many are told in all. -/
def lenM (n at_ key : Nat) (back : Bool) : Nat := if back = true then at_ + cM n at_ key back else at_ + (n - cM n at_ key back)
/-- What is told at step i. -/
def keyM (n at_ key : Nat) (back : Bool) (i : Nat) : Nat := if i < at_ then kAt n back i else kfM n key (pM n at_ key back i)
theorem pM_lt {n at_ key i : Nat} {back : Bool} (ha : at_ < n) (hk : key < n) (hi : at_ ≤ i) (hl : i < lenM n at_ key back) : pM n at_ key back i < n := by
  unfold pM lenM cM at *
  cases back
  · simp only [Bool.false_eq_true, if_false] at *; split at hl <;> split <;> omega
  · simp only [if_true] at *
    by_cases h1 : at_ = 0
    · simp only [h1, if_true] at *; omega
    · simp only [h1, if_false] at *
      by_cases h2 : key < n - at_
      · simp only [h2, if_true] at *; omega
      · simp only [h2, if_false] at *; omega
theorem pM_succ {n at_ key i : Nat} {back : Bool} (ha : at_ < n) (hk : key < n) (hi : at_ ≤ i) : (back = false → pM n at_ key back (i + 1) = pM n at_ key back i + 1) ∧ (back = true → i + 1 < lenM n at_ key back → pM n at_ key back (i + 1) + 1 = pM n at_ key back i) := by
  constructor
  · rintro rfl; unfold pM; simp only [Bool.false_eq_true, if_false]; omega
  · rintro rfl hl; unfold pM lenM at *; simp only [if_true] at *; omega
theorem wFin_fwd {n at_ key i : Nat} (ha : at_ < n) (hk : key < n) (hi : i < lenM n at_ key false) : (if i = wLen n at_ key false n then (key : Int) else wNo n at_ key false i) = (keyM n at_ key false i : Nat) := by
  unfold lenM keyM pM kfM cM wNo wLen kAt at *
  simp only [Bool.false_eq_true, if_false] at *
  split at hi <;> (repeat' split) <;> omega
theorem lenM_fwd (n at_ key : Nat) (ha : at_ < n) (hk : key < n) : lenM n at_ key false = wLen n at_ key false n + 1 := by
  unfold lenM cM wLen kAt
  simp only [Bool.false_eq_true, if_false]
  split <;> split <;> omega
theorem lenM_back (n at_ key : Nat) (ha : at_ < n) (h0 : 0 < at_) (hk : key < n) : lenM n at_ key true = wLen n at_ key true n := by
  unfold lenM cM wLen kAt
  simp only [if_true]
  rw [if_neg (by omega)]
  split <;> split <;> omega
theorem lenM_back0 (n key : Nat) (hk : key < n) : lenM n 0 key true = wLen n 0 key true n + 1 := by
  unfold lenM cM wLen kAt
  simp only [if_true]
  split <;> omega
theorem wFin_back {n at_ key i : Nat} (ha : at_ < n) (h0 : 0 < at_) (hk : key < n) (hi : i < lenM n at_ key true) : wNo n at_ key true i = (keyM n at_ key true i : Nat) := by
  unfold lenM keyM pM kfM cM wNo kAt at *
  simp only [if_true] at *
  have h9 : ¬ at_ = 0 := by omega
  simp only [h9, if_false] at hi ⊢
  by_cases h2 : key < n - at_
  · simp only [h2, if_true] at hi ⊢; (repeat' split) <;> omega
  · simp only [h2, if_false] at hi ⊢; (repeat' split) <;> omega
theorem wFin_back0 {n key i : Nat} (hk : key < n) (hi : i < n) : (if i = 0 then (key : Int) else wNo n 0 key true (i - 1)) = (keyM n 0 key true i : Nat) := by
  unfold keyM pM kfM cM wNo kAt
  simp only [if_true]
  (repeat' split) <;> omega
/-- The dictionary behind t moves. -/
def V5 (i : Nat) : Int := 5 * i
def moved (F : Nat → Int) (n key t : Nat) : List Ent := if t = 0 then rowI F V5 n else (rowI F V5 n).eraseIdx key ++ [⟨true, F key, key, 7, (n + t - 1 : Nat)⟩]
structure Mv9 (F : Nat → Int) (n key t : Nat) (d : Dic) : Prop where
  l : liveL d.T.E = moved F n key t
  b : d.T.births = n + t
  m : d.most = 1000
  o : BirOk d
theorem erase_get (F : Nat → Int) {n key p : Nat} (hk : key < n) (hp : p < n - 1) : ((rowI F V5 n).eraseIdx key)[p]? = some (entI F V5 (if p < key then p else p + 1)) := by
  rw [List.getElem?_eraseIdx]
  split
  · rw [rowI_get _ _ (by omega)]
  · rw [rowI_get _ _ (by omega)]
theorem erase_len (F : Nat → Int) {n key : Nat} (hk : key < n) : ((rowI F V5 n).eraseIdx key).length = n - 1 := by
  rw [List.length_eraseIdx, if_pos (by rw [rowI_len]; exact hk), rowI_len]
theorem moved_len (F : Nat → Int) {n key t : Nat} (hk : key < n) : (moved F n key t).length = n := by
  unfold moved; split
  · exact rowI_len _ _ _
  · rw [List.length_append, erase_len F hk]; simp; omega
theorem moved_get (F : Nat → Int) {n key t p : Nat} (hk : key < n) (ht : 0 < t) (hp : p < n) : ∃ y, (moved F n key t)[p]? = some y ∧ y.key = (kfM n key p : Nat) ∧ y.birth = (if p = n - 1 then ((n + t - 1 : Nat) : Int) else ((if p < key then p else p + 1 : Nat) : Int)) := by
  unfold moved kfM
  rw [if_neg (by omega)]
  by_cases h1 : p = n - 1
  · rw [List.getElem?_append_right (by rw [erase_len F hk]; omega), erase_len F hk, if_pos h1, if_pos h1, show p - (n - 1) = 0 by omega]
    exact ⟨_, rfl, rfl, rfl⟩
  · rw [List.getElem?_append_left (by rw [erase_len F hk]; omega), erase_get F hk (by omega), if_neg h1, if_neg h1]
    exact ⟨_, rfl, rfl, rfl⟩
theorem Mv9.liveN {F : Nat → Int} {n key t : Nat} {d : Dic} (r : Mv9 F n key t d) (hk : key < n) : liveN d.T.E = n := by rw [← liveL_len, r.l, moved_len F hk]
theorem erase_mem {F : Nat → Int} {n key : Nat} {z : Ent} (hk : key < n) (h : z ∈ (rowI F V5 n).eraseIdx key) : z.key ≠ (key : Int) := by
  obtain ⟨p, hp⟩ := List.getElem?_of_mem h
  have h1 := (List.getElem?_eq_some_iff.1 hp).1
  rw [erase_len F hk] at h1
  rw [erase_get F hk h1] at hp
  cases hp
  show ((if p < key then p else p + 1 : Nat) : Int) ≠ key
  split <;> omega
/-- The key goes out. -/
theorem Mv9.kill {F : Nat → Int} {n key t : Nat} {d : Dic} (r : Mv9 F n key t d) (hk : key < n) : ∃ e : Nat, Tgt d (newM 3 (F key) key 0) (some e) ∧ liveL (finD d (newM 3 (F key) key 0) (some e)).T.E = (rowI F V5 n).eraseIdx key ∧ (finD d (newM 3 (F key) key 0) (some e)).T.births = n + t ∧ (finD d (newM 3 (F key) key 0) (some e)).most = 1000 ∧ BirOk (finD d (newM 3 (F key) key 0) (some e)) ∧ (finD d (newM 3 (F key) key 0) (some e)).ver = d.ver + 1 := by
  have go : ∀ (i : Nat) (y : Ent), (liveL d.T.E)[i]? = some y → y.hash = F key → y.key = key → (∀ z, z ∈ liveL d.T.E → z.key = (key : Int) → z = y) → (liveL d.T.E).take i ++ (liveL d.T.E).drop (i + 1) = (rowI F V5 n).eraseIdx key → ∃ e : Nat, Tgt d (newM 3 (F key) key 0) (some e) ∧ liveL (finD d (newM 3 (F key) key 0) (some e)).T.E = (rowI F V5 n).eraseIdx key ∧ (finD d (newM 3 (F key) key 0) (some e)).T.births = n + t ∧ (finD d (newM 3 (F key) key 0) (some e)).most = 1000 ∧ BirOk (finD d (newM 3 (F key) key 0) (some e)) ∧ (finD d (newM 3 (F key) key 0) (some e)).ver = d.ver + 1 := fun i y hi h1 h2 h3 h4 => by
    obtain ⟨g1, g2, g3, g4⟩ := tgt_some r.o 3 (F key) key 0 hi h1 h2 h3
    refine ⟨_, g1, ?_, ?_, r.m, r.o.hit _ _, rfl⟩
    · show liveL (d.hit (newM 3 (F key) key 0) (nthN d.T.E i : Nat)).T.E = _
      rw [live_kill (F key) key 0 g3 g4, h4]
    · show (d.T.kill (nthN d.T.E i : Nat)).births = n + t
      rw [kill_births]; exact r.b
  have hl := r.l
  unfold moved at hl
  split at hl
  · refine go key (entI F V5 key) (by rw [hl]; exact rowI_get F V5 hk) rfl rfl (fun z hz he => ?_) (by rw [hl, List.eraseIdx_eq_take_drop_succ])
    rw [hl] at hz
    obtain ⟨i, g1, rfl⟩ := rowI_mem hz
    have : (i : Int) = key := he
    rw [show i = key by omega]
  · refine go (n - 1) ⟨true, F key, key, 7, (n + t - 1 : Nat)⟩ (by rw [hl, List.getElem?_append_right (by rw [erase_len F hk]; omega), erase_len F hk, show n - 1 - (n - 1) = 0 by omega]; rfl) rfl rfl (fun z hz he => ?_) ?_
    · rw [hl, List.mem_append] at hz
      rcases hz with hz | hz
      · exact absurd he (erase_mem hk hz)
      · simpa using hz
    · rw [hl, List.take_append_of_le_length (by rw [erase_len F hk]; omega), List.take_of_length_le (by rw [erase_len F hk]; omega), List.drop_eq_nil_of_le (by rw [List.length_append, erase_len F hk]; simp only [List.length_cons, List.length_nil]; omega), List.append_nil]
/-- And in again. -/
theorem Mv9.again {F : Nat → Int} {n key t : Nat} {d : Dic} (hk : key < n) (hn : n ≤ 100) (l : liveL d.T.E = (rowI F V5 n).eraseIdx key) (b : d.T.births = n + t) (m : d.most = 1000) (o : BirOk d) : Tgt d (newM 2 (F key) key 7) none ∧ (finT d (newM 2 (F key) key 7) none).kind = 2 ∧ Mv9 F n key (t + 1) (finD d (newM 2 (F key) key 7) none) ∧ (finD d (newM 2 (F key) key 7) none).ver = d.ver + 1 := by
  have hf : d.full = false := by
    unfold Dic.full; rw [← liveL_len, l, erase_len F hk, m]; simp; omega
  obtain ⟨h1, h2, h3, h4, h5⟩ := live_add (F key) key 7 hf
  refine ⟨tgt_none 2 (F key) key 7 (fun y hy => by rw [l] at hy; exact erase_mem hk hy), h5, ⟨?_, h2.trans (by rw [b]; omega), h4.trans m, o.miss _⟩, h3⟩
  show liveL (d.miss (newM 2 (F key) key 7)).T.E = _
  rw [h1, l, b]
  unfold moved
  rw [if_neg (by omega)]
  rfl
/-- A stroll that has not broken, of a dictionary of n pairs. -/
structure StrJ (db n : Nat) (back : Bool) (d : Dic) (s : Str) : Prop where
  dp : s.dp = some db
  sz : s.size = n
  br : s.broken = false
  bk : s.back = back
  se : Sees d s
  ok : StrOk s
theorem StrJ.later {db n : Nat} {back : Bool} {d e : Dic} {s : Str} (h : StrJ db n back d s) (hv : d.ver < e.ver) : StrJ db n back e s := ⟨h.dp, h.sz, h.br, h.bk, h.se.later hv, h.ok⟩
theorem StrJ.new {db n : Nat} {d : Dic} (hn : liveN d.T.E = n) (o : BirOk d) {k : Nat} (hI : DicOk k d) (hk : k ≤ 1000) (back : Bool) : StrJ db n back d (newS db d back) := ⟨rfl, hn, rfl, rfl, Sees.new _ _ _, StrOk.new o hI hk _ _⟩
theorem StrJ.nb {db n : Nat} {back : Bool} {d : Dic} {s : Str} (h : StrJ db n back d s) (hn : liveN d.T.E = n) : ¬ (s.broken = true ∨ liveN d.T.E ≠ s.size) := by rw [h.br, hn, h.sz]; simp
theorem StrJ.next {db n : Nat} {back : Bool} {d : Dic} {s : Str} (h : StrJ db n back d s) (hn : liveN d.T.E = n) (o : BirOk d) {k : Nat} (hI : DicOk k d) (hk : k ≤ 1000) {p : Nat} {x : Ent} (hp : (s.seen d).place = p) (hx : (liveL d.T.E)[p]? = some x) :
    strE d s = 0 ∧ strX d s = x ∧ StrJ db n back d (strN d s) ∧ (strN d s).told = true ∧ (strN d s).last = x.birth := by
  have hb := h.nb hn
  obtain ⟨h1, h2, h3, h4, h5⟩ := str_in h.se hb hp hx
  obtain ⟨g1, g2, g3, g4, g5⟩ := strN_ver d s hb
  exact ⟨h1, h2, ⟨h5.trans h.dp, g3.trans h.sz, g5, g4.trans h.bk, h.se.next hb, h.ok.next o hI hk⟩, h3, h4⟩
theorem StrJ.stop {db n : Nat} {back : Bool} {d : Dic} {s : Str} (h : StrJ db n back d s) (hn : liveN d.T.E = n) (hp : (s.seen d).place < 0 ∨ (n : Int) ≤ (s.seen d).place) : strE d s = 10 :=
  (str_end h.se (h.nb hn) (by rw [liveL_len, hn]; exact hp)).1
/-- The place behind what was told last. -/
theorem StrJ.place {db n : Nat} {back : Bool} {d : Dic} {s : Str} (h : StrJ db n back d s) (o : BirOk d) (ht : s.told = true) {p : Nat} {x : Ent} (hx : (liveL d.T.E)[p]? = some x) (hl : s.last = x.birth) : (s.seen d).place = if back = true then (p : Int) - 1 else (p : Int) + 1 := by
  rw [place_is d s h.se, ht, h.bk, hl]
  simp only [Bool.true_eq_false, if_false]
  have hu := o.up.ups
  have hlen := (List.getElem?_eq_some_iff.1 hx).1
  have c1 : cntL (liveL d.T.E) x.birth = p + 1 := hu.cnt_is _ _ (by omega) (fun j y hj hy => by
    rcases Nat.lt_or_ge j p with h1 | h1
    · have := hu j p y x h1 hy hx; omega
    · obtain rfl : j = p := by omega
      rw [hx] at hy; cases hy; omega) (fun j y hj hy => by have := hu p j x y (by omega) hx hy; omega)
  have c2 : cntL (liveL d.T.E) (x.birth - 1) = p := hu.cnt_is _ _ (by omega) (fun j y hj hy => by have := hu j p y x hj hy hx; omega) (fun j y hj hy => by
    rcases Nat.lt_or_ge p j with h1 | h1
    · have := hu p j x y h1 hx hy; omega
    · obtain rfl : j = p := by omega
      rw [hx] at hy; cases hy; omega)
  rw [c1, c2]
  cases back <;> simp
/-- The first place behind the move. -/
theorem StrJ.turned {db n : Nat} {back : Bool} {d : Dic} {s : Str} (h : StrJ db n back d s) {F : Nat → Int} {key t at_ : Nat} (r : Mv9 F n key t d) (ht : 0 < t) (hk : key < n) (ha : at_ < n) (hs : (at_ = 0 ∧ s.told = false) ∨ (0 < at_ ∧ s.told = true ∧ s.last = (kAt n back (at_ - 1) : Nat))) : (s.seen d).place = if back = true then (cM n at_ key back : Int) - 1 else (cM n at_ key back : Int) := by
  rw [place_is d s h.se, h.bk, r.l, moved_len F hk]
  have hu : Ups (moved F n key t) := by rw [← r.l]; exact r.o.up.ups
  have cnt : ∀ (b : Int) (i : Nat), i ≤ n → (∀ p, p < i → ¬ b < (if p = n - 1 then ((n + t - 1 : Nat) : Int) else ((if p < key then p else p + 1 : Nat) : Int))) → (∀ p, i ≤ p → p < n → b < (if p = n - 1 then ((n + t - 1 : Nat) : Int) else ((if p < key then p else p + 1 : Nat) : Int))) → cntL (moved F n key t) b = i := fun b i hi h1 h2 => by
    refine hu.cnt_is b i (by rw [moved_len F hk]; exact hi) (fun j x hj hx => ?_) (fun j x hj hx => ?_)
    · obtain ⟨y, g1, _, g3⟩ := moved_get F (t := t) (p := j) hk ht (by omega)
      rw [hx] at g1; cases g1
      rw [g3]; exact h1 j hj
    · have hl := (List.getElem?_eq_some_iff.1 hx).1
      rw [moved_len F hk] at hl
      obtain ⟨y, g1, _, g3⟩ := moved_get F (t := t) (p := j) hk ht hl
      rw [hx] at g1; cases g1
      rw [g3]; exact h2 j hj hl
  rcases hs with ⟨rfl, h1⟩ | ⟨h0, h1, h2⟩
  · rw [h1]
    cases back
    · simp [cM]
    · simp [cM]
  · rw [h1, h2]
    simp only [Bool.true_eq_false, if_false]
    unfold kAt
    cases back
    · simp only [Bool.false_eq_true, if_false]
      rw [cnt (((at_ - 1 : Nat)) : Int) (cM n at_ key false) (by unfold cM; simp only [Bool.false_eq_true, if_false]; split <;> omega)]
      · intro p hp; unfold cM at hp; simp only [Bool.false_eq_true, if_false] at hp
        split at hp <;> (repeat' split) <;> omega
      · intro p hp hpn; unfold cM at hp; simp only [Bool.false_eq_true, if_false] at hp
        split at hp <;> (repeat' split) <;> omega
    · simp only [if_true]
      rw [cnt _ (cM n at_ key true) (by unfold cM; simp only [if_true]; (repeat' split) <;> omega)]
      · intro p hp; unfold cM at hp; simp only [if_true] at hp
        rw [if_neg (by omega)] at hp
        split at hp <;> (repeat' split) <;> omega
      · intro p hp hpn; unfold cM at hp; simp only [if_true] at hp
        rw [if_neg (by omega)] at hp
        split at hp <;> (repeat' split) <;> omega
end Go.Proofs.Ytcakdmapnmneoaa
