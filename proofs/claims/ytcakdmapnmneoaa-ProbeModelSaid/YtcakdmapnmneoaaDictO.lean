/- What holds of a machine goes on to hold; what the document fixes of dictionaries (chapter 8). -/
import Derived.Test.YtcakdmapnmneoaaDictS
import Derived.Test.YtcakdmapnmneoaaDictP
namespace Go.Proofs.Ytcakdmapnmneoaa
open Go.RowKit
set_option linter.unusedVariables false
set_option linter.unusedSimpArgs false

theorem hit_ver (d : Dic) (q : Mac) (e : Int) : d.ver ≤ (d.hit q e).ver := by
  unfold Dic.hit; split
  · show d.ver ≤ d.ver + 1; omega
  · split
    · show d.ver ≤ d.ver + 1; omega
    · exact Nat.le_refl _
theorem miss_ver (d : Dic) (q : Mac) : d.ver ≤ (d.miss q).ver := by
  unfold Dic.miss; split
  · exact Nat.le_refl _
  · split
    · exact Nat.le_refl _
    · show d.ver ≤ d.ver + 1; omega
theorem MacOk.scan {k : Nat} {d : Dic} (hI : DicOk k d) {q : Mac} (g1 : 1 ≤ q.g) (g4 : q.g ≤ 4) (hs : SkOk d.T q.sk) (hv : q.ver ≤ d.ver) : MacOk (scanD d q) (scanM d q) := by
  have hn := SkOk.next hI.t hs
  unfold scanD scanM
  simp only
  cases ho : (d.T.next q.sk).over
  · simp only [Bool.false_eq_true, if_false]
    split
    · exact ⟨g1, g4, by show 4 ≤ 4; omega, fun _ => hn.hit8 q _, (fun h => by rcases h with h | h <;> cases h), Nat.le_trans hv (hit_ver d q _)⟩
    · refine ⟨g1, g4, by show 2 ≤ 4; omega, fun _ => hn, fun _ _ => ?_, hv⟩
      obtain ⟨x, hx, _⟩ := told_live hI.t hs ho
      exact ⟨x, hx⟩
  · simp only [if_true]
    exact ⟨g1, g4, by show 4 ≤ 4; omega, fun _ => hn.miss8 q, (fun h => by rcases h with h | h <;> cases h), Nat.le_trans hv (miss_ver d q)⟩
theorem MacOk.step {k : Nat} {d : Dic} (hI : DicOk k d) {q : Mac} (h : MacOk d q) : MacOk (stepD d q) (stepM d q) := by
  unfold stepD stepM
  by_cases h1 : q.st = 4 ∨ q.st = 2
  · simp only [if_pos h1]; exact h
  · simp only [if_neg h1]
    by_cases h2 : q.fresh d = true
    · simp only [if_pos h2]
      exact MacOk.scan hI h.g1 h.g4 (SkOk.seek hI.t q.h) (Nat.le_refl _)
    · simp only [if_neg h2]
      have h0 : q.st ≠ 0 := by unfold Mac.fresh at h2; simp at h2; exact h2.1
      by_cases h3 : q.st = 3
      · simp only [if_pos h3]
        exact ⟨h.g1, h.g4, by show 4 ≤ 4; omega, fun _ => (h.sk h0).hit8 q _, (fun h => by rcases h with h | h <;> cases h), Nat.le_trans h.ver (hit_ver d q _)⟩
      · simp only [if_neg h3]
        exact MacOk.scan hI h.g1 h.g4 (h.sk h0) h.ver
theorem MacOk.tell {d : Dic} {q : Mac} (h : MacOk d q) (same : Bool) : MacOk d (tellM q same) := by
  unfold tellM
  split
  · rename_i h2
    exact ⟨h.g1, h.g4, by show (if same then 3 else 1) ≤ 4; split <;> omega, fun _ => h.sk (by omega), fun _ hv => h.ent (.inl h2) hv, h.ver⟩
  · exact h
/-- A dictionary is changed, or it is as it was. -/
theorem stepD_same (d : Dic) (q : Mac) : stepD d q = d ∨ (stepD d q).ver = d.ver + 1 := by
  have hh : ∀ e, d.hit q e = d ∨ (d.hit q e).ver = d.ver + 1 := fun e => by
    unfold Dic.hit; split
    · exact .inr rfl
    · split
      · exact .inr rfl
      · exact .inl rfl
  have hm : ∀ q : Mac, d.miss q = d ∨ (d.miss q).ver = d.ver + 1 := fun q => by
    unfold Dic.miss; split
    · exact .inl rfl
    · split
      · exact .inl rfl
      · exact .inr rfl
  have hh2 : ∀ (q : Mac) e, d.hit q e = d ∨ (d.hit q e).ver = d.ver + 1 := fun q e => by
    unfold Dic.hit; split
    · exact .inr rfl
    · split
      · exact .inr rfl
      · exact .inl rfl
  have hs : ∀ q : Mac, scanD d q = d ∨ (scanD d q).ver = d.ver + 1 := fun q => by
    unfold scanD; simp only; split
    · exact hm q
    · split
      · exact hh2 q _
      · exact .inl rfl
  unfold stepD; split
  · exact .inl rfl
  · split
    · exact hs _
    · split
      · exact hh _
      · exact hs _
theorem MacOk.other {d : Dic} {q q2 : Mac} (h : MacOk d q) : MacOk (stepD d q2) q := by
  refine ⟨h.g1, h.g4, h.st, fun hs => (h.sk hs).step8 q2, fun hs hv => ?_, ?_⟩
  · rcases stepD_same d q2 with e | e
    · rw [e] at hv ⊢; exact h.ent hs hv
    · have := h.ver; omega
  · rcases stepD_same d q2 with e | e
    · rw [e]; exact h.ver
    · have := h.ver; omega
theorem eql_trn (x y : Trn) (w : World) : (binOp .eql 29 x.agg y.agg).run Try.prog w = .ok (.bool (decide (x = y))) w := by
  obtain ⟨a, b, c, d, e⟩ := x
  obtain ⟨a', b', c', d', e'⟩ := y
  simp [go_sem, Trn.agg]
  repeat (split <;> try simp_all)
theorem neq_trn (x y : Trn) (w : World) : (binOp .neq 29 x.agg y.agg).run Try.prog w = .ok (.bool (!decide (x = y))) w := by
  obtain ⟨a, b, c, d, e⟩ := x
  obtain ⟨a', b', c', d', e'⟩ := y
  simp [go_sem, Trn.agg]
  repeat (split <;> try simp_all)
def aw80 : Dic := newD 3
def aw8a : Mac := newM 2 7 1 10
def aw81 : Dic := stepD aw80 aw8a
def aw8b : Mac := newM 1 7 2 0
def aw8c : Mac := stepM aw81 aw8b
def aw8d : Mac := tellM aw8c true
theorem aw8_1 : (stepM aw80 aw8a).turn = ⟨2, 0, false, 10, 0⟩ := by decide +kernel
theorem aw8_2 : aw8c.turn = ⟨1, 1, false, 0, 0⟩ := by decide +kernel
theorem aw8_3 : aw8c.st = 2 := by decide +kernel
def aw82 : Dic := stepD aw81 aw8b
theorem aw8_4 : (stepM aw82 aw8d).turn = ⟨2, 0, true, 10, 0⟩ := by decide +kernel
theorem aw8_5 : aw8d.scans ≤ 1000000 := by decide +kernel
/-- A machine and its dictionary, no meter. -/
structure MSt (mb sb db t lo : Nat) (S : List Nat) (d : Dic) (q : Mac) (W : World) : Prop where
  a : MacAt mb sb db t q W
  s : mb ∉ S
  n : mb ≠ db
  k : q.st ≠ 0 → sb ∉ S ∧ sb ≠ mb ∧ sb ≠ db ∧ lo ≤ sb
  o : MacOk d q
  l : lo ≤ mb
theorem MSt.keeps {mb sb db t lo : Nat} {S R : List Nat} {d : Dic} {q : Mac} {W W' : World} (h : MSt mb sb db t lo S d q W) (k : Keeps R W W') (h1 : mb ∉ R) (h2 : q.st ≠ 0 → sb ∉ R) : MSt mb sb db t lo S d q W' := by
  refine ⟨?_, h.s, h.n, h.k, h.o, h.l⟩
  obtain ⟨ev, a, b, c⟩ := h.a
  exact ⟨ev, k.has a h1, b, fun hs => (c hs).keeps k (h2 hs)⟩
/-- All that a Step may turn. -/
def feet (mb sb db : Nat) (S : List Nat) (q : Mac) : List Nat := mb :: db :: (skS q.st sb ++ S)
theorem feet_lo {mb sb db t lo : Nat} {S : List Nat} {mv : Value} {d : Dic} {q : Mac} {W : World} (h : MSt mb sb db t lo S d q W) (H : DicAt db t lo S mv d W) : ∀ x, x ∈ feet mb sb db S q → lo ≤ x ∧ x < W.heap.size := by
  intro x hx
  unfold feet skS at hx
  have hb := lt_of_block H.b
  have hm : mb < W.heap.size := by obtain ⟨ev, a, _⟩ := h.a; exact lt_of_block a
  simp only [List.mem_cons, List.mem_append] at hx
  rcases hx with rfl | rfl | hx | hx
  · exact ⟨h.l, hm⟩
  · exact ⟨H.l, hb⟩
  · split at hx
    · simp at hx
    · rename_i hs
      simp at hx; subst hx
      obtain ⟨ev, a, b, c⟩ := h.a
      obtain ⟨c9, p9, h9, _⟩ := c hs
      exact ⟨(h.k hs).2.2.2, lt_of_block h9⟩
  · exact H.t.foot x hx
def StepQ (mb sb db t lo : Nat) (S : List Nat) (d : Dic) (q : Mac) (w : World) (r : Ending) (w' : World) : Prop :=
  ∃ S' sb', r = .returned (stepM d q).turn.agg ∧ DicAt db t lo S' (mV none) (stepD d q) w' ∧ MSt mb sb' db t lo S' (stepD d q) (stepM d q) w' ∧ Keeps (feet mb sb db S q) w w' ∧ Grew S w S' ∧ ((sb' = sb ∧ q.st ≠ 0) ∨ w.heap.size ≤ sb')
theorem step_one (k : Nat) (hk : k ≤ 500) (mb sb db t lo : Nat) (S : List Nat) (d : Dic) (q : Mac) (w : World) (H : DicAt db t lo S (mV none) d w) (HQ : MSt mb sb db t lo S d q w) (hI : DicOk k d) (hsc : q.scans ≤ 1000000) :
    Calls Try.prog 14 #[.pointer (some ⟨mb, 0, none⟩)] w (StepQ mb sb db t lo S d q w) := by
  refine (step_any k (by omega) mb sb db t lo S none ⟨0, 0, 0, 0⟩ d q w H (fun b hb => by simp at hb) (by simp) HQ.a HQ.s HQ.n (by simp [mS]) (fun hs => ⟨(HQ.k hs).1, (HQ.k hs).2.1, (HQ.k hs).2.2.1, by simp [mS]⟩) hI HQ.o hsc).mono ?_
  rintro r w' ⟨S', sb', h1, h2, _, h4, h5, h6, h7, h8⟩
  have hm : mb < w.heap.size := by obtain ⟨ev, a, _⟩ := HQ.a; exact lt_of_block a
  have hb := lt_of_block H.b
  refine ⟨S', sb', h1, h2, ⟨h4, fun hx => ?_, HQ.n, fun hs => ⟨(h8 hs).1, (h8 hs).2.1, (h8 hs).2.2.1, ?_⟩, HQ.o.step hI, HQ.l⟩, h5.mono (fun x hx => by simpa [feet, mS] using hx), h6, h7⟩
  · rcases h6 _ hx with h9 | h9
    · exact HQ.s h9
    · omega
  · rcases h7 with ⟨h9, h0⟩ | h9
    · rw [h9]; exact (HQ.k h0).2.2.2
    · have := H.l; omega
theorem tell_one (mb sb db t lo : Nat) (S : List Nat) (d : Dic) (q : Mac) (w : World) (HQ : MSt mb sb db t lo S d q w) (same : Bool) :
    Calls Try.prog 18 #[.pointer (some ⟨mb, 0, none⟩), .bool same] w fun r w' => r = .returned (.int .i64 (tellE q)) ∧ MSt mb sb db t lo S d (tellM q same) w' ∧ Keeps [mb] w w' := by
  refine (tell_any mb sb db t q w HQ.a same (fun hs => (HQ.k hs).2.1) HQ.o.st).mono ?_
  rintro r w' ⟨h1, h2, h3⟩
  refine ⟨h1, ⟨h2, HQ.s, HQ.n, fun hs => HQ.k ?_, HQ.o.tell same, HQ.l⟩, h3⟩
  unfold tellM at hs
  split at hs
  · rename_i h9; omega
  · exact hs
theorem begin_one (db t lo : Nat) (S : List Nat) (d : Dic) (g : Nat) (h k v : Int) (w : World) (h1 : 1 ≤ g) (h4 : g ≤ 4) (H : DicAt db t lo S (mV none) d w) :
    Calls Try.prog 13 #[.pointer (some ⟨db, 0, none⟩), .int .i64 g, .int .i64 h, .int .i64 k, .int .i64 v] w fun r w' => ∃ mb, r = .returned (.pointer (some ⟨mb, 0, none⟩)) ∧ DicAt db t lo S (mV none) d w' ∧ (∀ sb, MSt mb sb db t lo S d (newM g h k v) w') ∧ w.heap.size ≤ mb ∧ Keeps [] w w' := by
  refine (begin_any8 db t g h k v w h1 h4).mono ?_
  rintro r w' ⟨mb, rfl, h5, h6, h7⟩
  have hb := lt_of_block H.b
  refine ⟨mb, rfl, H.keeps h7 (by simp) (by simp), fun sb => ⟨h5 sb, fun hx => ?_, by omega, fun hs => absurd rfl hs, newM_ok d g h k v h1 h4, by have := H.l; omega⟩, h6, h7⟩
  have := (H.t.foot _ hx).2; omega
set_option maxRecDepth 100000 in
set_option maxHeartbeats 2000000 in
theorem awake8 (w : World) : Calls Try.prog 11 #[] w fun e w' => e = .returned (.bool true) ∧ Below w.heap.size w w' := by
  go_enter Try.func11, Try.ntmps11
  go_wp2_with fail
  refine (new8_any 3 none ⟨0, 0, 0, 0⟩ w (fun b hb => by simp at hb) (by omega) (by omega)).mono ?_
  rintro r w1 ⟨db, t, S, rfl, d1, _, k1, l1⟩
  have D1 := Lib.hid d1
  have K1 := Lib.hid (show Keeps [] w w1 from k1)
  clear d1 k1
  go_wp2_with fail
  refine (begin_one db t w.heap.size S aw80 2 7 1 10 w1 (by omega) (by omega) D1.out).mono ?_
  rintro r w2 ⟨ma, rfl, d2, m2, l2, k2⟩
  have D2 := Lib.hid d2
  have M2 := Lib.hid (m2 ma)
  have K2 := Lib.hid (K1.out.trans k2)
  clear m2 k2 d2
  go_wp2_with fail
  refine (step_one 0 (by omega) ma ma db t w.heap.size S aw80 aw8a w2 D2.out M2.out (newD_ok 3) (Nat.zero_le _)).mono ?_
  rintro r w3 ⟨S3, sb3, rfl, d3, _, k3, _, _⟩
  rw [aw8_1]
  have hq := neq_trn ⟨2, 0, false, 10, 0⟩ ⟨2, 0, false, 10, 0⟩
  simp only [decide_true, Bool.not_true, Trn.agg] at hq ⊢
  have D3 := Lib.hid (show DicAt db t w.heap.size S3 (mV none) aw81 w3 from d3)
  have K3 := Lib.hid (K2.out.then k3 (fun x hx => .inl (feet_lo M2.out D2.out x hx).1))
  clear d3 k3
  go_wp2_with fail
  refine (begin_one db t w.heap.size S3 aw81 1 7 2 0 w3 (by omega) (by omega) D3.out).mono ?_
  rintro r w4 ⟨mc, rfl, d4, m4, l4, k4⟩
  have D4 := Lib.hid d4
  have M4 := Lib.hid (m4 mc)
  have K4 := Lib.hid (K3.out.trans k4)
  clear hq m4 k4 d4
  have I1 : DicOk 1 aw81 := (newD_ok 3).step (by omega) aw8a
  have HI := Lib.hid I1
  clear I1
  go_wp2_with fail
  refine (step_one 1 (by omega) mc mc db t w.heap.size S3 aw81 aw8b w4 D4.out M4.out HI.out (Nat.zero_le _)).mono ?_
  rintro r w5 ⟨S5, sb5, rfl, d5, m5, k5, _, _⟩
  rw [show stepM aw81 aw8b = aw8c from rfl] at m5 ⊢
  rw [aw8_2]
  have hq := eql_trn ⟨1, 1, false, 0, 0⟩ ⟨1, 1, false, 0, 0⟩
  simp only [decide_true, Trn.agg] at hq ⊢
  have D5 := Lib.hid d5
  have M5 := Lib.hid m5
  have K5 := Lib.hid (K4.out.then k5 (fun x hx => .inl (feet_lo M4.out D4.out x hx).1))
  clear d5 m5 k5
  go_wp2_with fail
  refine (tell_one mc sb5 db t w.heap.size S5 _ aw8c w5 M5.out true).mono ?_
  rintro r w6 ⟨rfl, m6, k6⟩
  rw [show tellE aw8c = 0 by unfold tellE; rw [if_pos aw8_3]]
  have M6 := Lib.hid m6
  have D6 := Lib.hid (D5.out.keeps k6 (by simp; exact M5.out.n.symm) (fun x hx hq => by simp at hq; subst hq; exact M5.out.s hx))
  have K6 := Lib.hid (K5.out.then k6 (fun x hx => by simp at hx; subst hx; left; exact M5.out.l))
  clear m6 k6 hq
  go_wp2_with fail
  refine (step_one 2 (by omega) mc sb5 db t w.heap.size S5 aw82 aw8d w6 D6.out M6.out (HI.out.step (by omega) aw8b) aw8_5).mono ?_
  rintro r w7 ⟨S7, sb7, rfl, d7, _, k7, _, _⟩
  rw [aw8_4]
  have hq := eql_trn ⟨2, 0, true, 10, 0⟩ ⟨2, 0, true, 10, 0⟩
  simp only [decide_true, Trn.agg] at hq ⊢
  have K7 := Lib.hid (K6.out.then k7 (fun x hx => .inl (feet_lo M6.out D6.out x hx).1))
  clear d7 k7
  go_wp2_with fail
  go_ret
  exact ⟨rfl, K7.out.below (Nat.le_refl _) (by simp)⟩
end Go.Proofs.Ytcakdmapnmneoaa
