/- What a search comes to while nobody changes the dictionary (chapter 8's laws). No program in sight. -/
import Derived.Test.YtcakdmapnmneoaaDictO
import Derived.Test.YtcakdmapnmneoaaB7
namespace Go.Proofs.Ytcakdmapnmneoaa
open Go.RowKit
set_option linter.unusedVariables false
set_option linter.unusedSimpArgs false

theorem least8 {P : Nat → Prop} : ∀ n, P n → ∃ m, P m ∧ ∀ g, P g → m ≤ g := by
  intro n
  induction n using Nat.strongRecOn with
  | ind n ih =>
    intro h
    by_cases h2 : ∃ j, j < n ∧ P j
    · obtain ⟨j, h3, h4⟩ := h2; exact ih j h3 h4
    · exact ⟨n, h, fun g hg => Nat.le_of_not_lt fun h3 => h2 ⟨g, h3, hg⟩⟩
/-- What is sought: it is nowhere, or it is the entry x. -/
def Tgt (d : Dic) (q0 : Mac) : Option Nat → Prop
  | none => ∀ (f : Nat) (y : Ent), d.T.E[f]? = some y → y.live = true → y.hash = q0.h → y.key ≠ q0.k
  | some x => (∃ y, d.T.E[x]? = some y ∧ y.live = true ∧ y.hash = q0.h ∧ y.key = q0.k) ∧ ∀ (f : Nat) (z : Ent), f < x → d.T.E[f]? = some z → z.live = true → z.hash = q0.h → z.key ≠ q0.k
def finT (d : Dic) (q0 : Mac) : Option Nat → Trn
  | none => missT d q0
  | some x => hitT (d.at_ x) x
def finD (d : Dic) (q0 : Mac) : Option Nat → Dic
  | none => d.miss q0
  | some x => d.hit q0 x
/-- Asked for the same. -/
structure Same8 (q0 q : Mac) : Prop where
  g : q.g = q0.g
  h : q.h = q0.h
  k : q.k = q0.k
  v : q.v = q0.v
theorem Same8.missT {q0 q : Mac} (s : Same8 q0 q) (d : Dic) : missT d q = missT d q0 := by unfold Go.Proofs.Ytcakdmapnmneoaa.missT; rw [s.g, s.v]
theorem Same8.miss {q0 q : Mac} (s : Same8 q0 q) (d : Dic) : d.miss q = d.miss q0 := by unfold Dic.miss; rw [s.g, s.h, s.k, s.v]
theorem Same8.hit {q0 q : Mac} (s : Same8 q0 q) (d : Dic) (e : Int) : d.hit q e = d.hit q0 e := by unfold Dic.hit; rw [s.g, s.v]
/-- It waits at the entry f. -/
structure Waits (d : Dic) (q0 q : Mac) (tg : Option Nat) (n f : Nat) : Prop where
  st : q.st = 2
  sa : Same8 q0 q
  mid : Mid d.T q0.h q.sk
  told : q.sk.told = f
  ent : q.ent = f
  ver : q.ver = d.ver
  sc : q.scans = 1
  n : n ≤ f
  lt : f < d.T.E.length
  live : ∃ y, d.T.E[f]? = some y ∧ y.live = true ∧ y.hash = q0.h ∧ q.turn = ⟨1, y.key, false, 0, 0⟩
  tg : ∀ x, tg = some x → f < x
/-- It ended. -/
structure Ends (d : Dic) (q0 q : Mac) (tg : Option Nat) (d1 : Dic) : Prop where
  st : q.st = 4
  turn : q.turn = finT d q0 tg
  d1 : d1 = finD d q0 tg
  sc : q.scans = 1
  vis : tg = none → q.sk.vis ≤ 2 ^ d.T.L + 13
theorem scan_two {kk : Nat} {d : Dic} (hI : DicOk kk d) {q0 q : Mac} (sa : Same8 q0 q) {tg : Option Nat} (ht : Tgt d q0 tg) (mid : Mid d.T q0.h q.sk) (ok : SkOk d.T q.sk) (hv : q.ver = d.ver) (hs : q.scans = 1) {n : Nat} (hn : (n : Int) ≤ q.sk.told + 1) (hx : ∀ x : Nat, tg = some x → q.sk.told < x) :
    (∃ f, Waits d q0 (scanM d q) tg n f ∧ scanD d q = d ∧ Later d.T q0.h q.sk.told f ∧ ∀ g, Later d.T q0.h q.sk.told g → f ≤ g) ∨ (Ends d q0 (scanM d q) tg (scanD d q) ∧ (tg = none → ∀ g, ¬ Later d.T q0.h q.sk.told g)) := by
  by_cases hl : ∃ f, Later d.T q0.h q.sk.told f
  · obtain ⟨f0, hf0⟩ := hl
    obtain ⟨f, hf, hmin⟩ := least8 (P := Later d.T q0.h q.sk.told) f0 hf0
    obtain ⟨m1, m2⟩ := mid.next hI.t ok hf hmin
    obtain ⟨hlt, y, hy, hyl, hyh⟩ := hf
    have hat : d.at_ (f : Int) = y := by simp [Dic.at_, List.getD, hy]
    by_cases hk : y.key = q.k
    · right
      have hfx : tg = some f := by
        cases tg with
        | none => exact absurd (hk.trans sa.k) (ht f y hy hyl hyh)
        | some x =>
          obtain ⟨⟨z, z1, z2, z3, z4⟩, hb⟩ := ht
          have h1 := hmin x ⟨hx x rfl, z, z1, z2, z3⟩
          rcases Nat.lt_or_ge f x with h2 | h2
          · exact absurd (hk.trans sa.k) (hb f y h2 hy hyl hyh)
          · rw [show x = f by omega]
      subst hfx
      refine ⟨?_, fun h => by cases h⟩
      have e1 : scanM d q = ({ q with sk := d.T.next q.sk } : Mac).done (hitT y f) := by
        unfold scanM; simp only [m1.ov, m2, hat, hk, Bool.false_eq_true, if_false, if_true]
      have e2 : scanD d q = d.hit q f := by
        unfold scanD; simp only [m1.ov, m2, hat, hk, Bool.false_eq_true, if_false, if_true]
      rw [e1, e2, sa.hit]
      exact ⟨rfl, by show hitT y f = hitT (d.at_ f) f; rw [hat], rfl, hs, fun h => by cases h⟩
    · left
      have e1 : scanM d q = { q with sk := d.T.next q.sk, st := 2, ent := f, turn := ⟨1, y.key, false, 0, 0⟩ } := by
        unfold scanM; simp only [m1.ov, m2, hat, hk, Bool.false_eq_true, if_false]
      have e2 : scanD d q = d := by
        unfold scanD; simp only [m1.ov, m2, hat, hk, Bool.false_eq_true, if_false]
      rw [e1, e2]
      refine ⟨f, ⟨rfl, ⟨sa.g, sa.h, sa.k, sa.v⟩, m1, m2, rfl, hv, hs, by omega, (List.getElem?_eq_some_iff.1 hy).1, ⟨y, hy, hyl, hyh, rfl⟩, fun x hx2 => ?_⟩, rfl, ⟨hlt, y, hy, hyl, hyh⟩, hmin⟩
      subst hx2
      obtain ⟨⟨z, z1, z2, z3, z4⟩, hb⟩ := ht
      have h1 := hmin x ⟨hx x rfl, z, z1, z2, z3⟩
      rcases Nat.lt_or_ge f x with h2 | h2
      · exact h2
      · obtain rfl : f = x := by omega
        rw [hy] at z1; cases z1
        exact absurd (z4.trans sa.k.symm) hk
  · right
    have hno : ∀ g, ¬ Later d.T q0.h q.sk.told g := fun g hg => hl ⟨g, hg⟩
    obtain ⟨o1, o2, o3⟩ := mid.over hI.t ok hno
    have hnone : tg = none := by
      cases tg with
      | none => rfl
      | some x =>
        obtain ⟨⟨z, z1, z2, z3, z4⟩, hb⟩ := ht
        exact absurd ⟨hx x rfl, z, z1, z2, z3⟩ (hno x)
    subst hnone
    refine ⟨?_, fun _ => hno⟩
    have e1 : scanM d q = ({ q with sk := d.T.next q.sk } : Mac).done (missT d q) := by
      unfold scanM; simp only [o1, if_true]; rfl
    have e2 : scanD d q = d.miss q := by
      unfold scanD; simp only [o1, if_true]
    rw [e1, e2, sa.miss, sa.missT]
    exact ⟨rfl, rfl, rfl, hs, fun _ => o3⟩
/-- From the beginning. -/
theorem step_first {kk : Nat} {d : Dic} (hI : DicOk kk d) (g : Nat) (h k v : Int) {tg : Option Nat} (ht : Tgt d (newM g h k v) tg) :
    (∃ f, Waits d (newM g h k v) (stepM d (newM g h k v)) tg 0 f ∧ stepD d (newM g h k v) = d ∧ Later d.T h (-1) f ∧ ∀ g, Later d.T h (-1) g → f ≤ g) ∨ (Ends d (newM g h k v) (stepM d (newM g h k v)) tg (stepD d (newM g h k v)) ∧ (tg = none → ∀ g, ¬ Later d.T h (-1) g)) := by
  have e1 : stepM d (newM g h k v) = scanM d ((newM g h k v).anew d) := rfl
  have e2 : stepD d (newM g h k v) = scanD d ((newM g h k v).anew d) := rfl
  rw [e1, e2]
  exact scan_two hI (q0 := newM g h k v) (q := (newM g h k v).anew d) ⟨rfl, rfl, rfl, rfl⟩ ht (Mid.seek d.T h) (SkOk.seek hI.t h) rfl rfl (by show (0 : Int) ≤ -1 + 1; omega) (fun x _ => by show (-1 : Int) < x; omega)
/-- On from where it waits: it was told no. -/
theorem step_no {kk : Nat} {d : Dic} (hI : DicOk kk d) {q0 q : Mac} {tg : Option Nat} (ht : Tgt d q0 tg) {n f : Nat} (w : Waits d q0 q tg n f) (ok : SkOk d.T q.sk) :
    (∃ f2, Waits d q0 (stepM d (tellM q false)) tg (n + 1) f2 ∧ stepD d (tellM q false) = d ∧ Later d.T q0.h f f2 ∧ ∀ g, Later d.T q0.h f g → f2 ≤ g) ∨ (Ends d q0 (stepM d (tellM q false)) tg (stepD d (tellM q false)) ∧ (tg = none → ∀ g, ¬ Later d.T q0.h f g)) := by
  have e0 : tellM q false = { q with st := 1 } := by unfold tellM; rw [if_pos w.st]; rfl
  have hf : (({ q with st := 1 } : Mac)).fresh d = false := by simp [Mac.fresh, w.ver]
  have e1 : stepM d (tellM q false) = scanM d { q with st := 1 } := by
    rw [e0]; unfold stepM; simp [hf]
  have e2 : stepD d (tellM q false) = scanD d { q with st := 1 } := by
    rw [e0]; unfold stepD; simp [hf]
  rw [e1, e2]
  have h1 := scan_two hI (q := { q with st := 1 }) ⟨w.sa.g, w.sa.h, w.sa.k, w.sa.v⟩ ht w.mid ok w.ver w.sc (n := n + 1) (by show _ ≤ q.sk.told + 1; rw [w.told]; have := w.n; omega) (fun x hx => by show q.sk.told < x; rw [w.told]; have := w.tg x hx; omega)
  rw [show ({ q with st := 1 } : Mac).sk.told = (f : Int) from w.told] at h1
  exact h1
/-- It was told yes. -/
theorem step_yes {d : Dic} {q0 q : Mac} {tg : Option Nat} {n f : Nat} (w : Waits d q0 q tg n f) : (stepM d (tellM q true)).turn = hitT (d.at_ f) f ∧ (stepM d (tellM q true)).scans = 1 ∧ (stepM d (tellM q true)).sk = q.sk ∧ (stepM d (tellM q true)).st = 4 ∧ stepD d (tellM q true) = d.hit q0 f := by
  have e0 : tellM q true = { q with st := 3 } := by unfold tellM; rw [if_pos w.st]; rfl
  have hf : (({ q with st := 3 } : Mac)).fresh d = false := by simp [Mac.fresh, w.ver]
  have e1 : stepM d (tellM q true) = ({ q with st := 3 } : Mac).done (hitT (d.at_ f) f) := by
    rw [e0]; unfold stepM; rw [if_neg (by show ¬ ((3 : Nat) = 4 ∨ (3 : Nat) = 2); omega), if_neg (by rw [hf]; simp), if_pos rfl]
    show Mac.done _ (hitT (d.at_ q.ent) q.ent) = _; rw [w.ent]
  have e2 : stepD d (tellM q true) = d.hit q f := by
    rw [e0]; unfold stepD; rw [if_neg (by show ¬ ((3 : Nat) = 4 ∨ (3 : Nat) = 2); omega), if_neg (by rw [hf]; simp), if_pos rfl]
    show d.hit q q.ent = _; rw [w.ent]
  rw [e1, e2, w.sa.hit]
  exact ⟨rfl, w.sc, rfl, rfl, rfl⟩
/-- A dictionary whose keys are 0, 1, 2, .. -/
structure Run8 (F : Nat → Int) (vv : Bool) (n : Nat) (d : Dic) : Prop where
  l : d.T.E.length = n
  e : ∀ j, j < n → ∃ y, d.T.E[j]? = some y ∧ y.live = true ∧ y.hash = F j ∧ y.key = j ∧ (vv = true → y.val = j)
theorem Run8.all {F : Nat → Int} {vv : Bool} {n : Nat} {d : Dic} (r : Run8 F vv n d) : ∀ x, x ∈ d.T.E → x.live = true := by
  intro x hx
  obtain ⟨j, hj, rfl⟩ := List.getElem_of_mem hx
  obtain ⟨y, h1, h2, _⟩ := r.e j (by rw [← r.l]; exact hj)
  rw [List.getElem?_eq_getElem hj] at h1; cases h1; exact h2
theorem Run8.liveL {F : Nat → Int} {vv : Bool} {n : Nat} {d : Dic} (r : Run8 F vv n d) : liveL d.T.E = d.T.E := List.filter_eq_self.2 r.all
theorem Run8.liveN {F : Nat → Int} {vv : Bool} {n : Nat} {d : Dic} (r : Run8 F vv n d) : liveN d.T.E = n := by rw [← liveL_len, r.liveL, r.l]
theorem Run8.new (F : Nat → Int) (vv : Bool) (m : Int) : Run8 F vv 0 (newD m) := ⟨rfl, fun j h => by omega⟩
theorem Run8.add {F : Nat → Int} {vv : Bool} {n : Nat} {d : Dic} (r : Run8 F vv n d) {m : Int} (hm : d.most = m) (hn : (n : Int) < m) (g : Nat) (hg : g = 2 ∨ g = 4) (v : Int) (hv : vv = true → v = n) :
    Run8 F vv (n + 1) (d.miss (newM g (F n) n v)) ∧ (d.miss (newM g (F n) n v)).most = m ∧ missT d (newM g (F n) n v) = ⟨2, 0, false, v, d.T.ready.E.length⟩ := by
  have hf : d.full = false := by unfold Dic.full; rw [r.liveN, hm]; simp; omega
  have hg2 : ¬ ((newM g (F n) n v).g = 1 ∨ (newM g (F n) n v).g = 3) := by show ¬ (g = 1 ∨ g = 3); omega
  have hE : d.T.ready.E = d.T.E := by
    unfold Tab.ready; split
    · exact r.liveL
    · rfl
  have e1 : d.miss (newM g (F n) n v) = { d with T := d.T.add (F n) n v, ver := d.ver + 1 } := by
    unfold Dic.miss; rw [if_neg hg2, hf, if_neg (by simp)]; rfl
  have e2 : (d.T.add (F n) n v).E = d.T.E ++ [⟨true, F n, n, v, d.T.ready.births⟩] := by
    show d.T.ready.E ++ _ = _; rw [hE]
  refine ⟨⟨?_, fun j hj => ?_⟩, by rw [e1]; exact hm, ?_⟩
  · rw [e1]; show (d.T.add (F n) n v).E.length = _; rw [e2]; simp [r.l]
  · rw [e1]; show ∃ y, (d.T.add (F n) n v).E[j]? = some y ∧ _
    rw [e2]
    by_cases hj2 : j < n
    · rw [List.getElem?_append_left (by rw [r.l]; exact hj2)]; exact r.e j hj2
    · obtain rfl : j = n := by omega
      rw [List.getElem?_append_right (by rw [r.l]; exact Nat.le_refl _), r.l]
      exact ⟨⟨true, F j, j, v, d.T.ready.births⟩, by simp, rfl, rfl, rfl, hv⟩
  · unfold missT; rw [if_neg hg2, hf, if_neg (by simp)]; rfl
theorem Run8.absent {F : Nat → Int} {vv : Bool} {n : Nat} {d : Dic} (r : Run8 F vv n d) (g : Nat) (h k v : Int) (hk : k < 0 ∨ (n : Int) ≤ k) : Tgt d (newM g h k v) none := by
  intro f y hy _ _ hk2
  have hf := (List.getElem?_eq_some_iff.1 hy).1
  obtain ⟨z, h1, _, _, h4, _⟩ := r.e f (by rw [← r.l]; exact hf)
  rw [hy] at h1; cases h1
  have : (f : Int) = k := h4.symm.trans hk2
  have := r.l; omega
theorem Run8.there {F : Nat → Int} {vv : Bool} {n : Nat} {d : Dic} (r : Run8 F vv n d) (g : Nat) (x : Nat) (hx : x < n) (v : Int) : Tgt d (newM g (F x) x v) (some x) := by
  obtain ⟨y, h1, h2, h3, h4, _⟩ := r.e x hx
  refine ⟨⟨y, h1, h2, h3, h4⟩, fun f z hf hz _ _ hk => ?_⟩
  obtain ⟨z2, g1, _, _, g4, _⟩ := r.e f (by omega)
  rw [hz] at g1; cases g1
  have : (f : Int) = x := g4.symm.trans hk
  omega
theorem Run8.hit {F : Nat → Int} {n : Nat} {d : Dic} (r : Run8 F false n d) {m : Int} (hm : d.most = m) (g : Nat) (hg : g = 2 ∨ g = 4) (x : Nat) (hx : x < n) (h k v : Int) : Run8 F false n (d.hit (newM g h k v) x) ∧ (d.hit (newM g h k v) x).most = m := by
  rcases hg with rfl | rfl
  · have e1 : d.hit (newM 2 h k v) x = { d with T := d.T.put x v, ver := d.ver + 1 } := rfl
    rw [e1]
    obtain ⟨y, h1, h2, h3, h4, _⟩ := r.e x hx
    have e2 : d.T.ent (x : Int) = some y := by unfold Tab.ent; rw [if_pos (by omega)]; simp [h1, Option.filter, h2]
    have e3 : (d.T.put x v).E = d.T.E.set x { y with val := v } := by unfold Tab.put; rw [e2]; simp
    refine ⟨⟨?_, fun j hj => ?_⟩, hm⟩
    · show (d.T.put x v).E.length = n; rw [e3, List.length_set, r.l]
    · show ∃ y, (d.T.put x v).E[j]? = some y ∧ _
      rw [e3]
      by_cases hjx : x = j
      · subst hjx
        rw [List.getElem?_set_self (by rw [r.l]; exact hx)]
        exact ⟨_, rfl, h2, h3, h4, fun h => by cases h⟩
      · rw [List.getElem?_set_ne hjx]; exact r.e j hj
  · exact ⟨r, hm⟩
theorem Run8.full {F : Nat → Int} {vv : Bool} {n : Nat} {d : Dic} (r : Run8 F vv n d) {m : Int} (hm : d.most = m) (hn : m ≤ (n : Int)) (g : Nat) (hg : g = 2 ∨ g = 4) (h k v : Int) : missT d (newM g h k v) = ⟨3, 0, false, 0, 0⟩ ∧ d.miss (newM g h k v) = d := by
  have hf : d.full = true := by unfold Dic.full; rw [r.liveN, hm]; simp; omega
  have hg2 : ¬ ((newM g h k v).g = 1 ∨ (newM g h k v).g = 3) := by show ¬ (g = 1 ∨ g = 3); omega
  constructor
  · unfold missT; rw [if_neg hg2, hf, if_pos rfl]
  · unfold Dic.miss; rw [if_neg hg2, hf, if_pos rfl]
theorem Run8.later {F : Nat → Int} {vv : Bool} {n : Nat} {d : Dic} (r : Run8 F vv n d) (h told : Int) (f : Nat) : Later d.T h told f ↔ told < f ∧ f < n ∧ F f = h := by
  constructor
  · rintro ⟨h1, x, h2, h3, h4⟩
    have hf := (List.getElem?_eq_some_iff.1 h2).1
    obtain ⟨z, g1, _, g3, _⟩ := r.e f (by rw [← r.l]; exact hf)
    rw [h2] at g1; cases g1
    exact ⟨h1, by rw [← r.l]; exact hf, g3.symm.trans h4⟩
  · rintro ⟨h1, h2, h3⟩
    obtain ⟨y, g1, g2, g3, _⟩ := r.e f h2
    exact ⟨h1, y, g1, g2, g3.trans h3⟩
end Go.Proofs.Ytcakdmapnmneoaa
