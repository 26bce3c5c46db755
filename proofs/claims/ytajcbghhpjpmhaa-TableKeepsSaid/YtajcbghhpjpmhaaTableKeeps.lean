/- TableKeeps, walked (chapter 7's laws). -/
import Derived.Test.YtajcbghhpjpmhaaLawLaid
import Derived.Test.YtajcbghhpjpmhaaLawSight
import Derived.Test.YtajcbghhpjpmhaaTabCopy
import Derived.Test.YtajcbghhpjpmhaaTabPut
import Derived.Test.YtajcbghhpjpmhaaTabAwake
import Derived.Deep.Cut
namespace Go.Proofs.Ytajcbghhpjpmhaa
open Go.RowKit
set_option linter.unusedVariables false
set_option linter.unusedSimpArgs false

theorem tableKeeps_early (a1 a2 : Option Addr) (n1 n2 c1 c2 : Nat) (w : World) (h : 300 < n1 ∨ (n1 ≤ 300 ∧ 300 < n2)) :
    Calls Try.prog 5 #[.slice a1 n1 c1, .slice a2 n2 c2] w fun e w' => e = .returned (.bool true) ∧ Below w.heap.size w w' := by
  rcases h with h | ⟨h, h2⟩
  · have d1 : decide ((300 : Int) < (n1 : Int)) = true := by simp; omega
    go_enter Try.func5, Try.ntmps5
    go_wp2_with (go_at_call 13; refine (awake7 _).mono ?_; rintro e w' ⟨rfl, hb⟩)
    go_ret
    exact ⟨rfl, hb⟩
  · have d1 : decide ((300 : Int) < (n1 : Int)) = false := by simp; omega
    have d2 : decide ((300 : Int) < (n2 : Int)) = true := by simp; omega
    go_enter Try.func5, Try.ntmps5
    go_wp2_with (go_at_call 13; refine (awake7 _).mono ?_; rintro e w' ⟨rfl, hb⟩)
    go_ret
    exact ⟨rfl, hb⟩
theorem renum_at {E : List Ent} {k : Nat} {x : Ent} (h : E[k]? = some x) : (renum E)[k]? = some { x with birth := (k : Int) } := renum_get h
set_option maxRecDepth 100000 in
set_option maxHeartbeats 8000000 in
theorem tableKeeps_main (a1 a2 : Option Addr) (n1 n2 c1 c2 : Nat) (F1 F2 : Nat → Int) (w : World) (h1 : n1 ≤ 300) (h2 : n2 ≤ 300) (s1 : IntRow .i64 1 w a1 n1 F1) (s2 : IntRow .i64 1 w a2 n2 F2) :
    Calls Try.prog 5 #[.slice a1 n1 c1, .slice a2 n2 c2] w fun e w' => e = .returned (.bool true) ∧ Below w.heap.size w w' := by
  have d1 : decide ((300 : Int) < (n1 : Int)) = false := by simp; omega
  have d2 : decide ((300 : Int) < (n2 : Int)) = false := by simp; omega
  have Z1 := Lib.hid s1
  have Z2 := Lib.hid s2
  clear s1 s2
  go_enter Try.func5, Try.ntmps5
  go_wp2_with fail
  refine (laid_any a1 a2 n1 c1 n2 c2 F1 F2 _ Z1.out Z2.out h1 h2).mono ?_
  have I := laidT_inv F1 F2 n2 n1 (by omega)
  generalize laidT F1 F2 n2 n1 = T at *
  have HI := Lib.hid I
  have hEl := I.inv.ek
  have hL := I.inv.l12
  clear I d1 d2
  rintro r w1 ⟨t, S, wa, wc, rfl, t1, r1, d1, k1⟩
  have T1 := Lib.hid t1
  have R1 := Lib.hid r1
  have K1 := Lib.hid k1
  obtain ⟨n, hn⟩ := ex_hid (liveN T.E)
  have hn1 : n ≤ 600 := by have := liveN_le T.E; rw [hn.out]; omega
  have LL := Lib.hid (liveL_len T.E)
  rw [← hn.out]
  clear t1 r1 d1 k1
  have hfd := field_ents
  go_wp2_with fail
  refine (len_any t w.heap.size S (mV none) T _ T1.out).mono ?_
  rintro r w2 ⟨rfl, rfl⟩
  rw [← hn.out]
  go_wp2_with fail
  refine (sight_any t w.heap.size S (mV none) T _ T1.out (by omega) HI.out.inv.ft (by omega)).mono ?_
  rintro r w2 ⟨ca, cc, ea, ec, rfl, q1, q2, b2⟩
  have Q2 := Lib.hid q2
  have K2 := Lib.hid (K1.out.trans (Below.keeps b2 []))
  have K12 := Lib.hid (Below.keeps b2 [])
  clear q1 q2 b2
  unfold sightAgg
  go_wp2_with fail
  refine (live_any w1.heap.size ec ea T.E _ Q2.out (by omega)).mono ?_
  rintro r w3 ⟨la, lc, rfl, l3, k3⟩
  have L3 := Lib.hid l3
  have K3 := Lib.hid (K12.out.trans k3)
  clear l3 k3
  go_wp2_with fail
  rw [hn.out, ← liveL_len]
  refine (entries_same _ _ lc wc la wa (liveL T.E) _ L3.out (R1.out.keeps K3.out (by simp)) (by rw [LL.out, ← hn.out]; omega)).mono ?_
  rintro r w4 ⟨rfl, k4⟩
  have K4 := Lib.hid (K3.out.trans k4)
  clear k4
  rw [liveL_len, ← hn.out]
  go_wp2_with fail
  refine (copy_any t w.heap.size S none ⟨0, 0, 0, 0⟩ T _ (T1.out.keeps K4.out (by simp)) (MtrAt.nil _ _) (HI.out.inv.mono (by omega))).mono ?_
  rintro r w5 ⟨t2, S2, rfl, u5, _, k5⟩
  have U5 := Lib.hid u5
  have K5 := Lib.hid (K4.out.trans (show Keeps [] w4 w5 by simpa [mS] using k5))
  have CI := Lib.hid ((HI.out.inv.mono (show 2 * n1 ≤ 1000 by omega)).copy (by omega))
  have hc : liveN T.copy.E = n := by rw [hn.out]; exact renum_liveN T.E
  have HC := Lib.hid hc
  have hcl : T.copy.E.length = n := by show (renum (liveL T.E)).length = n; rw [renum_len, LL.out, hn.out]
  have HCL := Lib.hid hcl
  clear u5 k5 hc hcl
  go_wp2_with fail
  refine (len_any t2 w4.heap.size S2 (mV none) T.copy _ U5.out).mono ?_
  rintro r w6 ⟨rfl, rfl⟩
  rw [HC.out]
  go_wp2_with fail
  have h12 := CI.out.l12
  refine (sight_any t2 w4.heap.size S2 (mV none) T.copy _ U5.out (by omega) CI.out.ft (by have := HCL.out; omega)).mono ?_
  rintro r w6 ⟨ca2, cc2, eb, ed, rfl, q1, q2, b2⟩
  have G2 := Lib.hid q2
  have K6 := Lib.hid (K5.out.trans (Below.keeps b2 []))
  clear q1 q2 b2
  unfold sightAgg
  rw [HCL.out]
  go_wp2_with fail
  have W6 := Lib.hid (R1.out.keeps K6.out (by simp))
  go_loopw [10] (fun i wr => ∃ k : Nat, k ≤ n ∧ i = .int .i64 k ∧ Keeps [] w6 wr) (fun i _ => n - (intOf i).toNat)
  case atStart => exact ⟨0, by omega, rfl, Keeps.refl _ _⟩
  case round =>
    obtain ⟨k, hk, rfl, hK⟩ := hrel
    have hk0 : (0 : Int) ≤ (k : Int) := by omega
    have HK := Lib.hid hK
    by_cases hlt : k < n
    · have hlt' : (k : Int) < (n : Int) := by omega
      have hd0 : decide ((n : Int) ≤ (k : Int)) = false := by simp; omega
      obtain ⟨x, hx⟩ : ∃ x, (liveL T.E)[k]? = some x := ⟨_, List.getElem?_eq_getElem (by rw [LL.out, ← hn.out]; exact hlt)⟩
      have hx2 : T.copy.E[k]? = some { x with birth := (k : Int) } := renum_get hx
      obtain ⟨ge, rfl⟩ := G2.out.shape (by rw [HCL.out]; omega)
      obtain ⟨gw, rfl⟩ := W6.out.shape (by rw [LL.out, ← hn.out]; omega)
      obtain ⟨p0, p1, p2, p3, p4⟩ := (G2.out.keeps hK (by simp)).five hx2
      obtain ⟨q0, q1, q2, q3, q4⟩ := (W6.out.keeps hK (by simp)).five hx
      simp only at p0 p1 p2 p3 p4
      have ka : Keeps [] wr (wr.alloc (.cells #[.bool x.live, .int .i64 x.hash, .int .i64 x.key, .int .i64 x.val, .int .i64 k] 32)) := (Keeps.refl [] wr).alloc _
      have ba : (wr.alloc (.cells #[.bool x.live, .int .i64 x.hash, .int .i64 x.key, .int .i64 x.val, .int .i64 k] 32)).heap[wr.heap.size]? = some (.cells #[.bool x.live, .int .i64 x.hash, .int .i64 x.key, .int .i64 x.val, .int .i64 k] 32 (0, 0)) := has_new _ _
      have y4 := ka.cell q4 (by simp)
      have z4 := cell_has ba (i := 4) rfl
      have KA := Lib.hid ka
      have BA := Lib.hid ba
      have QQ := Lib.hid (And.intro q0 (And.intro q1 (And.intro q2 (And.intro q3 q4))))
      have hqx := fun w => neq_ent x x w
      simp only [Ent.agg, decide_true, Bool.not_true] at hqx
      clear hK hx hx2 ka ba
      go_upto_region 17 with (fail)
      refine wp_gen (fun W => W.heap[wr.heap.size]? = some (.cells #[.bool x.live, .int .i64 x.hash, .int .i64 x.key, .int .i64 x.val, .int .i64 x.birth] 32 (0, 0)) ∧ Keeps [] wr W) ⟨has_new _ _, (Keeps.refl [] wr).alloc _⟩ ?_
      rintro W ⟨hb, kb⟩
      have r0 : W.cell? ⟨wr.heap.size, 0, none⟩ = some (.bool x.live) := cell_has hb (i := 0) rfl
      have r1 : W.cell? ⟨wr.heap.size, 1, none⟩ = some (.int .i64 x.hash) := cell_has hb (i := 1) rfl
      have r2 : W.cell? ⟨wr.heap.size, 2, none⟩ = some (.int .i64 x.key) := cell_has hb (i := 2) rfl
      have r3 : W.cell? ⟨wr.heap.size, 3, none⟩ = some (.int .i64 x.val) := cell_has hb (i := 3) rfl
      have r4 : W.cell? ⟨wr.heap.size, 4, none⟩ = some (.int .i64 x.birth) := cell_has hb (i := 4) rfl
      obtain ⟨o0, o1, o2, o3, o4⟩ := QQ.out
      have v0 := kb.cell o0 (by simp)
      have v1 := kb.cell o1 (by simp)
      have v2 := kb.cell o2 (by simp)
      have v3 := kb.cell o3 (by simp)
      have v4 := kb.cell o4 (by simp)
      have KB := Lib.hid (HK.out.trans kb)
      clear p0 p1 p2 p3 p4 q0 q1 q2 q3 q4 o0 o1 o2 o3 o4 hb kb y4 z4
      go_region_held3 (fun w' => w'.cell? ⟨wr.heap.size, 0, none⟩ = some (.bool x.live) ∧ w'.cell? ⟨wr.heap.size, 1, none⟩ = some (.int .i64 x.hash) ∧ w'.cell? ⟨wr.heap.size, 2, none⟩ = some (.int .i64 x.key) ∧ w'.cell? ⟨wr.heap.size, 3, none⟩ = some (.int .i64 x.val) ∧ w'.cell? ⟨wr.heap.size, 4, none⟩ = some (.int .i64 x.birth) ∧ w'.cell? ⟨gw, k * 5, none⟩ = some (.bool x.live) ∧ w'.cell? ⟨gw, k * 5 + 1, none⟩ = some (.int .i64 x.hash) ∧ w'.cell? ⟨gw, k * 5 + 2, none⟩ = some (.int .i64 x.key) ∧ w'.cell? ⟨gw, k * 5 + 3, none⟩ = some (.int .i64 x.val) ∧ w'.cell? ⟨gw, k * 5 + 4, none⟩ = some (.int .i64 x.birth)) (go_keep) (fail)
      go_wp2_with fail
      go_roundw
      case rel => exact ⟨k + 1, by omega, by go_num, KB.out.drew⟩
      case measure => simp [intOf]; omega
    · obtain rfl : k = n := by omega
      have hge : ¬ (k : Int) < (k : Int) := by omega
      clear hK
      go_wp2_with (go_at_call 13; refine (awake7 _).mono ?_; rintro e w' ⟨rfl, hb⟩)
      go_ret
      exact ⟨rfl, (((K1.out.trans K6.out).trans HK.out).trans (Below.keeps hb [])).below (by simp) (by simp)⟩
theorem tableKeeps_walk (a0 : Option Addr) (len0 cap0 : Nat) (F0 : Nat → Int) (a1 : Option Addr) (len1 cap1 : Nat) (F1 : Nat → Int) (w : World) (w0 : IntRow .i64 1 w a0 len0 F0) (w1 : IntRow .i64 1 w a1 len1 F1) :
    Calls Try.prog 5 #[.slice a0 len0 cap0, .slice a1 len1 cap1] w fun e w' => e = .returned (.bool true) ∧ Below w.heap.size w w' := by
  by_cases h : 300 < len0 ∨ (len0 ≤ 300 ∧ 300 < len1)
  · exact tableKeeps_early a0 a1 len0 len1 cap0 cap1 w h
  · exact tableKeeps_main a0 a1 len0 len1 cap0 cap1 F0 F1 w (by omega) (by omega) w0 w1
end Go.Proofs.Ytajcbghhpjpmhaa
