/- ProbeModel, its plain law: what a machine does is the scan of the sequence (chapter 8). No program in sight. -/
import Derived.Test.YtcakdmapnmneoaaPmA
import Derived.Test.YtcakdmapnmneoaaDictR
import Derived.Test.YtcakdmapnmneoaaDictE
namespace Go.Proofs.Ytcakdmapnmneoaa
open Go.RowKit
set_option linter.unusedVariables false
set_option linter.unusedSimpArgs false

def pr8 (x : Ent) : Pr8 := ⟨x.hash, x.key, x.val⟩
def lv8 (E : List Ent) : List Pr8 := (liveL E).map pr8
theorem lv8_app (E F : List Ent) : lv8 (E ++ F) = lv8 E ++ lv8 F := by simp [lv8, liveL]
theorem lv8_len (E : List Ent) : (lv8 E).length = liveN E := by rw [lv8, List.length_map, liveL_len]
theorem lv8_cons {y : Ent} (hl : y.live = true) (E : List Ent) : lv8 (y :: E) = pr8 y :: lv8 E := by simp [lv8, liveL, List.filter_cons, hl]
theorem liveN_app (E F : List Ent) : liveN (E ++ F) = liveN E + liveN F := by simp [liveN, List.countP_append]
theorem lv8_drop {E : List Ent} {f : Nat} {y : Ent} (hy : E[f]? = some y) (hl : y.live = true) : lv8 (E.drop f) = pr8 y :: lv8 (E.drop (f + 1)) := by
  obtain ⟨hf, rfl⟩ := List.getElem?_eq_some_iff.1 hy
  rw [List.drop_eq_getElem_cons hf, lv8_cons hl]
theorem lv8_split {E : List Ent} {f : Nat} {y : Ent} (hy : E[f]? = some y) (hl : y.live = true) : lv8 E = lv8 (E.take f) ++ pr8 y :: lv8 (E.drop (f + 1)) := by
  rw [← lv8_drop hy hl, ← lv8_app, List.take_append_drop]
theorem lv8_at {E : List Ent} {f : Nat} {y : Ent} (hy : E[f]? = some y) (hl : y.live = true) : (lv8 E)[liveN (E.take f)]? = some (pr8 y) := by
  rw [lv8_split hy hl, List.getElem?_append_right (by rw [lv8_len]; exact Nat.le_refl _), lv8_len]
  simp
theorem set_split {α : Type} {E : List α} {f : Nat} {y : α} (hy : E[f]? = some y) (z : α) : E.set f z = E.take f ++ z :: E.drop (f + 1) := by
  have hf := (List.getElem?_eq_some_iff.1 hy).1
  rw [List.set_eq_take_append_cons_drop, if_pos hf]
theorem lv8_put {E : List Ent} {f : Nat} {y : Ent} (hy : E[f]? = some y) (hl : y.live = true) (v : Int) : lv8 (E.set f { y with val := v }) = (lv8 E).set (liveN (E.take f)) ⟨y.hash, y.key, v⟩ := by
  rw [set_split hy, lv8_app, lv8_cons (by exact hl), lv8_split hy hl, List.set_append_right _ _ (by rw [lv8_len]; exact Nat.le_refl _), lv8_len]
  simp [pr8]
theorem lv8_kill {E : List Ent} {f : Nat} {y : Ent} (hy : E[f]? = some y) (hl : y.live = true) : lv8 (E.set f noE) = (lv8 E).take (liveN (E.take f)) ++ (lv8 E).drop (liveN (E.take f) + 1) := by
  rw [set_split hy, lv8_app]
  have h0 : lv8 (noE :: E.drop (f + 1)) = lv8 (E.drop (f + 1)) := by simp [lv8, liveL, List.filter_cons, noE]
  rw [h0, lv8_split hy hl]
  rw [← lv8_len (E.take f), List.take_left', List.drop_append]
  · simp
  · rfl
theorem scanL_skip (ask : Ms8 → Int → Ms8) (one : Int → Int → Bool) (h k : Int) : ∀ (R1 R2 : List Pr8) (i : Nat) (s : Ms8), (∀ x, x ∈ R1 → x.h ≠ h) → scanL ask one h k (R1 ++ R2) i s = scanL ask one h k R2 (i + R1.length) s := by
  intro R1
  induction R1 with
  | nil => intro R2 i s _; rfl
  | cons x R1 ih =>
    intro R2 i s hx
    rw [List.cons_append]
    show (if x.h = h then _ else scanL ask one h k (R1 ++ R2) (i + 1) s) = _
    rw [if_neg (hx x (by simp)), ih R2 (i + 1) s (fun y hy => hx y (by simp [hy]))]
    congr 1
    simp; omega
theorem lv8_hash {E : List Ent} {n f : Nat} {h : Int} (hn : ∀ (j : Nat) (x : Ent), n ≤ j → j < f → E[j]? = some x → x.live = true → x.hash ≠ h) : ∀ x, x ∈ lv8 ((E.take f).drop n) → x.h ≠ h := by
  intro x hx
  obtain ⟨e, he, rfl⟩ := List.mem_map.1 hx
  obtain ⟨h1, h2⟩ := List.mem_filter.1 he
  obtain ⟨j, hj⟩ := List.mem_iff_getElem?.1 h1
  rw [List.getElem?_drop, List.getElem?_take] at hj
  split at hj
  · exact hn (n + j) e (by omega) (by omega) hj h2
  · cases hj
/-- Where a scan goes on: to the next entry of its hash, or it misses. -/
theorem scan_go {kk : Nat} {d : Dic} (hI : DicOk kk d) {q : Mac} (mid : Mid d.T q.h q.sk) (ok : SkOk d.T q.sk) (ask : Ms8 → Int → Ms8) (one : Int → Int → Bool) (s : Ms8) (t : Nat) (ht : q.sk.told + 1 = t) :
    (∃ (f : Nat) (y : Ent), d.T.E[f]? = some y ∧ y.live = true ∧ y.hash = q.h ∧ Mid d.T q.h (d.T.next q.sk) ∧ (d.T.next q.sk).told = f ∧ t ≤ f ∧
      scanL ask one q.h q.k (lv8 (d.T.E.drop t)) (liveN (d.T.E.take t)) s = scanL ask one q.h q.k (pr8 y :: lv8 (d.T.E.drop (f + 1))) (liveN (d.T.E.take f)) s ∧
      (y.key = q.k → scanM d q = ({ q with sk := d.T.next q.sk } : Mac).done (hitT y f) ∧ scanD d q = d.hit q f) ∧
      (y.key ≠ q.k → scanM d q = { q with sk := d.T.next q.sk, st := 2, ent := f, turn := ⟨1, y.key, false, 0, 0⟩ } ∧ scanD d q = d)) ∨
    (scanL ask one q.h q.k (lv8 (d.T.E.drop t)) (liveN (d.T.E.take t)) s = .miss s ∧ scanM d q = ({ q with sk := d.T.next q.sk } : Mac).done (missT d q) ∧ scanD d q = d.miss q) := by
  by_cases hl : ∃ f, Later d.T q.h q.sk.told f
  · left
    obtain ⟨f0, hf0⟩ := hl
    obtain ⟨f, hf, hmin⟩ := least8 (P := Later d.T q.h q.sk.told) f0 hf0
    obtain ⟨m1, m2⟩ := mid.next hI.t ok hf hmin
    obtain ⟨hlt, y, hy, hyl, hyh⟩ := hf
    have hat : d.at_ (f : Int) = y := by simp [Dic.at_, List.getD, hy]
    have htf : t ≤ f := by omega
    have hfl := (List.getElem?_eq_some_iff.1 hy).1
    refine ⟨f, y, hy, hyl, hyh, m1, m2, htf, ?_, fun hk => ⟨?_, ?_⟩, fun hk => ⟨?_, ?_⟩⟩
    · have e1 : d.T.E.drop t = (d.T.E.take f).drop t ++ d.T.E.drop f := by
        conv => lhs; rw [← List.take_append_drop f d.T.E]
        rw [List.drop_append_of_le_length (by rw [List.length_take]; omega)]
      have e2 : d.T.E.take f = d.T.E.take t ++ (d.T.E.take f).drop t := by
        conv => lhs; rw [← List.take_append_drop t (d.T.E.take f)]
        rw [List.take_take, Nat.min_eq_left htf]
      rw [e1, lv8_app, scanL_skip ask one q.h q.k _ _ _ _ (lv8_hash (fun j x h1 h2 h3 h4 h5 => by have := hmin j ⟨by omega, x, h3, h4, h5⟩; omega)), lv8_drop hy hyl, lv8_len, ← liveN_app, ← e2]
    · unfold scanM; simp only [m1.ov, m2, hat, hk, Bool.false_eq_true, if_false, if_true]
    · unfold scanD; simp only [m1.ov, m2, hat, hk, Bool.false_eq_true, if_false, if_true]
    · unfold scanM; simp only [m1.ov, m2, hat, hk, Bool.false_eq_true, if_false]
    · unfold scanD; simp only [m1.ov, m2, hat, hk, Bool.false_eq_true, if_false]
  · right
    have hno : ∀ g, ¬ Later d.T q.h q.sk.told g := fun g hg => hl ⟨g, hg⟩
    obtain ⟨o1, o2, o3⟩ := mid.over hI.t ok hno
    refine ⟨?_, ?_, ?_⟩
    · have e1 : d.T.E.drop t = (d.T.E.take d.T.E.length).drop t := by rw [List.take_length]
      rw [e1, ← List.append_nil (lv8 _), scanL_skip ask one q.h q.k _ _ _ _ (lv8_hash (fun j x h1 h2 h3 h4 h5 => hno j ⟨by omega, x, h3, h4, h5⟩))]
      rfl
    · unfold scanM; simp only [o1, if_true]; rfl
    · unfold scanD; simp only [o1, if_true]
/-- The dictionary is the sequence. -/
structure Rel8 (most : Int) (d : Dic) (s : Ms8) : Prop where
  l : lv8 d.T.E = s.L
  v : d.ver = s.V
  m : d.most = most
  ok : DicOk d.ver d
def Trn.plain (t : Trn) : Trn := ⟨t.kind, t.key, t.found, t.val, 0⟩
theorem ent_of {T : Tab} {f : Nat} {y : Ent} (hy : T.E[f]? = some y) (hl : y.live = true) : T.ent (f : Int) = some y := by
  unfold Tab.ent; rw [if_pos (by omega)]; simp [hy, Option.filter, hl]
theorem Rel8.hit {most : Int} {d : Dic} {s : Ms8} (R : Rel8 most d s) {q : Mac} {c : Ca8} (hg : (q.g : Int) = c.g) (hv : q.v = c.v) {f : Nat} {y : Ent} (hy : d.T.E[f]? = some y) (hl : y.live = true) :
    Rel8 most (d.hit q f) (fin8 most c s (some (liveN (d.T.E.take f)))).1 ∧ (hitT y f).plain = (fin8 most c s (some (liveN (d.T.E.take f)))).2 := by
  have hat : s.L.getD (liveN (d.T.E.take f)) noP8 = pr8 y := by rw [← R.l]; simp [List.getD, lv8_at hy hl]
  have he := ent_of hy hl
  refine ⟨?_, ?_⟩
  · unfold fin8
    simp only
    by_cases h2 : q.g = 2
    · rw [if_pos (show c.g = 2 by omega)]
      have e1 : d.hit q f = { d with T := d.T.put f q.v, ver := d.ver + 1 } := by unfold Dic.hit; rw [if_pos h2]
      have e2 : (d.T.put f q.v).E = d.T.E.set f { y with val := q.v } := by unfold Tab.put; rw [he]; simp
      rw [e1]
      refine ⟨?_, ?_, R.m, ?_⟩
      · show lv8 (d.T.put f q.v).E = s.L.set _ _
        rw [e2, lv8_put hy hl, R.l, hat, hv]; rfl
      · show d.ver + 1 = s.V + 1; rw [R.v]
      · exact ⟨(R.ok.t.put f q.v).mono (by show d.ver ≤ d.ver + 1; omega), by show d.ver + 1 ≤ 2 * (d.ver + 1); omega⟩
    · rw [if_neg (show ¬ c.g = 2 by omega)]
      by_cases h3 : q.g = 3
      · rw [if_pos (show c.g = 3 by omega)]
        have e1 : d.hit q f = { d with T := d.T.kill f, ver := d.ver + 1 } := by unfold Dic.hit; rw [if_neg h2, if_pos h3]
        have e2 : (d.T.kill f).E = d.T.E.set f noE := by unfold Tab.kill; rw [he]; simp
        rw [e1]
        refine ⟨?_, ?_, R.m, ?_⟩
        · show lv8 (d.T.kill f).E = s.L.take _ ++ s.L.drop _
          rw [e2, lv8_kill hy hl, R.l]
        · show d.ver + 1 = s.V + 1; rw [R.v]
        · exact ⟨R.ok.t.kill f, by show d.ver + 1 ≤ 2 * (d.ver + 1); omega⟩
      · rw [if_neg (show ¬ c.g = 3 by omega)]
        have e1 : d.hit q f = d := by unfold Dic.hit; rw [if_neg h2, if_neg h3]
        rw [e1]; exact R
  · unfold fin8
    simp only [hat]
    rfl
theorem Rel8.miss {most : Int} {d : Dic} {s : Ms8} (R : Rel8 most d s) (hd : d.ver ≤ 1000) {q : Mac} {c : Ca8} (hg : (q.g : Int) = c.g) (hh : q.h = c.h) (hk : q.k = c.k) (hv : q.v = c.v) :
    Rel8 most (d.miss q) (fin8 most c s none).1 ∧ (missT d q).plain = (fin8 most c s none).2 := by
  unfold fin8 Dic.miss missT
  simp only
  by_cases h1 : q.g = 1 ∨ q.g = 3
  · rw [if_pos (show c.g = 1 ∨ c.g = 3 by omega), if_pos h1, if_pos h1]
    exact ⟨R, rfl⟩
  · rw [if_neg (show ¬ (c.g = 1 ∨ c.g = 3) by omega), if_neg h1, if_neg h1]
    have hfull : d.full = decide (most ≤ (s.L.length : Int)) := by unfold Dic.full; rw [R.m, ← R.l, lv8_len]
    by_cases h2 : most ≤ (s.L.length : Int)
    · rw [if_pos h2, hfull, if_pos (by simpa using h2), if_pos (by simpa using h2)]
      exact ⟨R, rfl⟩
    · rw [if_neg h2, hfull, if_neg (by simpa using h2), if_neg (by simpa using h2)]
      refine ⟨⟨?_, ?_, R.m, ?_⟩, by rw [hv]; rfl⟩
      · show lv8 (d.T.add q.h q.k q.v).E = s.L ++ [⟨c.h, c.k, c.v⟩]
        unfold lv8
        rw [add_live, List.map_append]
        show lv8 d.T.E ++ _ = _
        rw [R.l, hh, hk, hv]; rfl
      · show d.ver + 1 = s.V + 1; rw [R.v]
      · exact ⟨R.ok.t.add hd _ _ _, by show d.ver + 1 ≤ 2 * (d.ver + 1); omega⟩
theorem Rel8.clr {most : Int} {d : Dic} {s : Ms8} (R : Rel8 most d s) : Rel8 most d.clr ⟨[], s.V + 1, s.A⟩ :=
  ⟨rfl, by show d.ver + 1 = s.V + 1; rw [R.v], R.m, ⟨R.ok.t.clear, by show d.ver + 1 ≤ 2 * (d.ver + 1); omega⟩⟩
theorem Rel8.asked {most : Int} {d : Dic} {s : Ms8} (R : Rel8 most d s) (A : List Int) : Rel8 most d ⟨s.L, s.V, A⟩ := ⟨R.l, R.v, R.m, R.ok⟩
/-- How a dictionary goes on. -/
structure Goes8 (d d' : Dic) : Prop where
  m : ∀ q, MacOk d q → MacOk d' q
  v : d.ver ≤ d'.ver
  e : d'.ver = d.ver → d' = d
theorem Goes8.refl (d : Dic) : Goes8 d d := ⟨fun _ h => h, Nat.le_refl _, fun _ => rfl⟩
theorem Goes8.trans {a b c : Dic} (h : Goes8 a b) (k : Goes8 b c) : Goes8 a c :=
  ⟨fun q hq => k.m q (h.m q hq), Nat.le_trans h.v k.v, fun e => by
    have h1 := h.v; have h2 := k.v
    rw [k.e (by omega), h.e (by omega)]⟩
theorem Goes8.step (d : Dic) (q : Mac) : Goes8 d (stepD d q) :=
  ⟨fun q2 h => h.other, by rcases stepD_same d q with e | e; rw [e]; exact Nat.le_refl _; omega, fun h => by rcases stepD_same d q with e | e; exact e; omega⟩
theorem Goes8.clr (d : Dic) : Goes8 d d.clr :=
  ⟨fun q h => ⟨h.g1, h.g4, h.st, fun hs => (h.sk hs).later (by show d.T.turns < d.T.turns + 1; omega), fun hs hv => by
      have h1 : q.ver = d.ver + 1 := hv
      have := h.ver; omega, Nat.le_trans h.ver (by show d.ver ≤ d.ver + 1; omega)⟩, by show d.ver ≤ d.ver + 1; omega, fun h => by have h1 : d.ver + 1 = d.ver := h; omega⟩
/-- Where a machine stands ahead of a Step; res: what the model's search comes to, N scans may follow, t entries are gone through. -/
def Pos8 (ask : Ms8 → Int → Ms8) (one : Int → Int → Bool) (N t : Nat) (d : Dic) (q : Mac) (s : Ms8) (res : Option (Ms8 × Option Nat)) : Prop :=
  (q.st ≠ 2 ∧ q.st ≠ 4 ∧ q.fresh d = true ∧ t = 0 ∧ res = find8 ask one q.h q.k (N + 1) s) ∨
  (q.st = 1 ∧ q.ver = d.ver ∧ Mid d.T q.h q.sk ∧ q.sk.told + 1 = t ∧ res = rest8 ask one q.h q.k N (scanL ask one q.h q.k (lv8 (d.T.E.drop t)) (liveN (d.T.E.take t)) s)) ∨
  (∃ (f : Nat) (y : Ent), q.st = 3 ∧ q.ver = d.ver ∧ q.ent = f ∧ d.T.E[f]? = some y ∧ y.live = true ∧ t = f + 1 ∧ res = some (s, some (liveN (d.T.E.take f))))
/-- It waits at the entry f. -/
structure Wait8 (ask : Ms8 → Int → Ms8) (one : Int → Int → Bool) (N f : Nat) (y : Ent) (d : Dic) (q : Mac) (s : Ms8) (res : Option (Ms8 × Option Nat)) : Prop where
  st : q.st = 2
  ver : q.ver = d.ver
  ent : q.ent = f
  told : q.sk.told = f
  mid : Mid d.T q.h q.sk
  at_ : d.T.E[f]? = some y
  live : y.live = true
  turn : q.turn = ⟨1, y.key, false, 0, 0⟩
  res : res = rest8 ask one q.h q.k N (if (ask s y.key).V = s.V then (if one y.key q.k = true then .hit (ask s y.key) (liveN (d.T.E.take f)) else scanL ask one q.h q.k (lv8 (d.T.E.drop (f + 1))) (liveN (d.T.E.take (f + 1))) (ask s y.key)) else .anew (ask s y.key))
/-- It has ended. -/
structure End8 (most : Int) (c : Ca8) (d' : Dic) (q : Mac) (s : Ms8) (res : Option (Ms8 × Option Nat)) : Prop where
  st : q.st = 4
  kind : q.turn.kind ≠ 1
  out : ∃ o, res = some (s, o) ∧ Rel8 most d' (fin8 most c s o).1 ∧ q.turn.plain = (fin8 most c s o).2
structure For8 (c : Ca8) (q : Mac) : Prop where
  g : (q.g : Int) = c.g
  h : q.h = c.h
  k : q.k = c.k
  v : q.v = c.v
theorem liveN_take {E : List Ent} {f : Nat} {y : Ent} (hy : E[f]? = some y) (hl : y.live = true) : liveN (E.take (f + 1)) = liveN (E.take f) + 1 := by
  obtain ⟨hf, rfl⟩ := List.getElem?_eq_some_iff.1 hy
  rw [List.take_succ_eq_append_getElem hf, liveN_app]
  simp [liveN, hl]
theorem missT_kind (d : Dic) (q : Mac) : (missT d q).kind ≠ 1 := by
  unfold missT
  split
  · show (2 : Int) ≠ 1; omega
  · split
    · show (3 : Int) ≠ 1; omega
    · show (2 : Int) ≠ 1; omega
/-- A scan that goes on. -/
theorem scan_step {most : Int} {d : Dic} {s : Ms8} (R : Rel8 most d s) (hd : d.ver ≤ 1000) {q : Mac} {c : Ca8} (F : For8 c q) (mid : Mid d.T q.h q.sk) (ok : SkOk d.T q.sk) (hv : q.ver = d.ver) (ask : Ms8 → Int → Ms8) (one : Int → Int → Bool) (N t : Nat) (ht : q.sk.told + 1 = t)
    {res : Option (Ms8 × Option Nat)} (hr : res = rest8 ask one q.h q.k N (scanL ask one q.h q.k (lv8 (d.T.E.drop t)) (liveN (d.T.E.take t)) s)) :
    For8 c (scanM d q) ∧ ((∃ (f : Nat) (y : Ent), t ≤ f ∧ Wait8 ask one N f y d (scanM d q) s res ∧ scanD d q = d) ∨ End8 most c (scanD d q) (scanM d q) s res) := by
  rcases scan_go R.ok mid ok ask one s t ht with ⟨f, y, hy, hyl, hyh, m1, m2, htf, e1, e2, e3⟩ | ⟨e1, e2, e3⟩
  · by_cases hk : y.key = q.k
    · obtain ⟨g1, g2⟩ := e2 hk
      rw [g1, g2]
      refine ⟨⟨F.g, F.h, F.k, F.v⟩, .inr ⟨rfl, by show (2 : Int) ≠ 1; omega, some (liveN (d.T.E.take f)), ?_, (R.hit F.g F.v hy hyl).1, (R.hit F.g F.v hy hyl).2⟩⟩
      rw [hr, e1]
      unfold scanL
      rw [if_pos (show (pr8 y).h = q.h from hyh), if_pos (show (pr8 y).k = q.k from hk)]
      rfl
    · obtain ⟨g1, g2⟩ := e3 hk
      rw [g1, g2]
      refine ⟨⟨F.g, F.h, F.k, F.v⟩, .inl ⟨f, y, htf, ⟨rfl, hv, rfl, m2, m1, hy, hyl, rfl, ?_⟩, rfl⟩⟩
      rw [hr, e1]
      show rest8 ask one q.h q.k N _ = rest8 ask one q.h q.k N _
      congr 1
      conv => lhs; unfold scanL
      rw [if_pos (show (pr8 y).h = q.h from hyh), if_neg (show ¬ (pr8 y).k = q.k from hk), ← liveN_take hy hyl]
      rfl
  · rw [e2, e3]
    exact ⟨⟨F.g, F.h, F.k, F.v⟩, .inr ⟨rfl, missT_kind d q, none, by rw [hr, e1]; rfl, (R.miss hd F.g F.h F.k F.v).1, (R.miss hd F.g F.h F.k F.v).2⟩⟩
theorem Pos8.step {most : Int} {d : Dic} {s : Ms8} (R : Rel8 most d s) (hd : d.ver ≤ 1000) {q : Mac} {c : Ca8} (F : For8 c q) (ok : MacOk d q) {ask : Ms8 → Int → Ms8} {one : Int → Int → Bool} {N t : Nat} {res : Option (Ms8 × Option Nat)} (P : Pos8 ask one N t d q s res) :
    For8 c (stepM d q) ∧ ((∃ (f : Nat) (y : Ent), t ≤ f ∧ Wait8 ask one N f y d (stepM d q) s res ∧ stepD d q = d) ∨ End8 most c (stepD d q) (stepM d q) s res) := by
  rcases P with ⟨h1, h2, h3, rfl, h5⟩ | ⟨h1, h2, h3, h4, h5⟩ | ⟨f, y, h1, h2, h3, h4, h5, h6, h7⟩
  · have e1 : stepM d q = scanM d (q.anew d) := by unfold stepM; rw [if_neg (by omega), if_pos h3]
    have e2 : stepD d q = scanD d (q.anew d) := by unfold stepD; rw [if_neg (by omega), if_pos h3]
    rw [e1, e2]
    exact scan_step R hd (q := q.anew d) ⟨F.g, F.h, F.k, F.v⟩ (Mid.seek d.T q.h) (SkOk.seek R.ok.t q.h) rfl ask one N 0 rfl (by
      rw [h5, find8_succ, ← R.l]
      show rest8 ask one q.h q.k N (scanL ask one q.h q.k (lv8 d.T.E) 0 s) = rest8 ask one q.h q.k N (scanL ask one q.h q.k (lv8 (d.T.E.drop 0)) (liveN (d.T.E.take 0)) s)
      rfl)
  · have hf : q.fresh d = false := by simp [Mac.fresh, h1, h2]
    have e1 : stepM d q = scanM d q := by unfold stepM; rw [if_neg (by omega), hf, if_neg (by simp), if_neg (by omega)]
    have e2 : stepD d q = scanD d q := by unfold stepD; rw [if_neg (by omega), hf, if_neg (by simp), if_neg (by omega)]
    rw [e1, e2]
    exact scan_step R hd F h3 (ok.sk (by omega)) h2 ask one N t h4 h5
  · have hf : q.fresh d = false := by simp [Mac.fresh, h1, h2]
    have hat : d.at_ (f : Int) = y := by simp [Dic.at_, List.getD, h4]
    have e1 : stepM d q = q.done (hitT y f) := by unfold stepM; rw [if_neg (by omega), hf, if_neg (by simp), if_pos h1, h3, hat]
    have e2 : stepD d q = d.hit q f := by unfold stepD; rw [if_neg (by omega), hf, if_neg (by simp), if_pos h1, h3]
    rw [e1, e2]
    exact ⟨⟨F.g, F.h, F.k, F.v⟩, .inr ⟨rfl, by show (2 : Int) ≠ 1; omega, some (liveN (d.T.E.take f)), h7, (R.hit F.g F.v h4 h5).1, (R.hit F.g F.v h4 h5).2⟩⟩
/-- It is told, behind what the one did who was asked. -/
theorem Wait8.tell {most : Int} {d d' : Dic} {s : Ms8} (R : Rel8 most d s) {q : Mac} {ask : Ms8 → Int → Ms8} {one : Int → Int → Bool} {N f : Nat} {y : Ent} {res : Option (Ms8 × Option Nat)} (W : Wait8 ask one N f y d q s res) (hres : res ≠ none) (R' : Rel8 most d' (ask s y.key)) (G : Goes8 d d') :
    ∃ N' t', Pos8 ask one N' t' d' (tellM q (one y.key q.k)) (ask s y.key) res ∧ ((N' = N ∧ t' = f + 1) ∨ (N' + 1 = N ∧ t' = 0)) := by
  have hr := W.res
  have et : tellM q (one y.key q.k) = { q with st := if one y.key q.k then 3 else 1 } := by unfold tellM; rw [if_pos W.st]
  rw [et]
  by_cases hv : (ask s y.key).V = s.V
  · have hd : d' = d := G.e (by rw [R'.v, R.v, hv])
    subst hd
    rw [if_pos hv] at hr
    refine ⟨N, f + 1, ?_, .inl ⟨rfl, rfl⟩⟩
    cases ho : one y.key q.k
    · rw [ho, if_neg (by simp)] at hr
      exact .inr (.inl ⟨rfl, W.ver, W.mid, by show q.sk.told + 1 = _; rw [W.told]; omega, hr⟩)
    · rw [ho, if_pos rfl] at hr
      exact .inr (.inr ⟨f, y, rfl, W.ver, W.ent, W.at_, W.live, rfl, hr⟩)
  · rw [if_neg hv] at hr
    have hr2 : res = find8 ask one q.h q.k N (ask s y.key) := hr
    cases N with
    | zero => exact absurd hr2 hres
    | succ N =>
      refine ⟨N, 0, .inl ⟨?_, ?_, ?_, rfl, hr2⟩, .inr ⟨rfl, rfl⟩⟩
      · show (if one y.key q.k then 3 else 1) ≠ 2; split <;> omega
      · show (if one y.key q.k then 3 else 1) ≠ 4; split <;> omega
      · have h1 := R'.v; have h2 := R.v; have h3 := W.ver
        have h4 : q.ver ≠ d'.ver := by omega
        simp [Mac.fresh, h4]
theorem Pos8.begin_ (ask : Ms8 → Int → Ms8) (one : Int → Int → Bool) (d : Dic) (g : Nat) (h k v : Int) (s : Ms8) : Pos8 ask one 19 0 d (newM g h k v) s (find8 ask one h k 20 s) :=
  .inl ⟨by show 0 ≠ 2; omega, by show 0 ≠ 4; omega, rfl, rfl, rfl⟩
/-- The cells that a scan has visited where it waits. -/
theorem Wait8.vis {ask : Ms8 → Int → Ms8} {one : Int → Int → Bool} {N f kk : Nat} {y : Ent} {d : Dic} {q : Mac} {s : Ms8} {res : Option (Ms8 × Option Nat)} (hI : DicOk kk d) (W : Wait8 ask one N f y d q s res) (ok : SkOk d.T q.sk) : q.sk.vis ≤ 2 ^ d.T.L + 13 := by
  have h1 := (ok.now W.mid.ov W.mid.tu).2
  have h2 := hI.t.fe_lt q.sk.h
  have h3 := ok.v1 W.mid.ov
  omega
theorem Wait8.lt {ask : Ms8 → Int → Ms8} {one : Int → Int → Bool} {N f kk : Nat} {y : Ent} {d : Dic} {q : Mac} {s : Ms8} {res : Option (Ms8 × Option Nat)} (hI : DicOk kk d) (W : Wait8 ask one N f y d q s res) : f + 1 ≤ kk := by
  have h1 := (List.getElem?_eq_some_iff.1 W.at_).1
  have h2 := hI.t.ek
  omega
end Go.Proofs.Ytcakdmapnmneoaa
