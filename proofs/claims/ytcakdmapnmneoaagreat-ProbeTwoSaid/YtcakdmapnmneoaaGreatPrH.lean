/- Chapter 8's Two.does: the first pair out, the last one. Printed by mk_does8.py. -/
import Derived.Test.YtcakdmapnmneoaaGreatPrF
import Derived.Test.YtcakdmapnmneoaaGreatDictX
namespace Go.Proofs.YtcakdmapnmneoaaGreat
open Go.RowKit
set_option linter.unusedVariables false
set_option linter.unusedSimpArgs false

set_option maxRecDepth 100000 in
set_option maxHeartbeats 16000000 in
theorem does8_first {B : Nat} {m1 m2 : Option Nat} {c : C4} {N Z : Nat} {o : Nat → Tag} {T : List Tw8} {D E : List PD} {M L : List PM} {w : World} (H : J8 B m1 m2 c N Z o T D E M L w) (hN : N ≤ 899) (hZ : Z ≤ 800000) {k : Nat} {u : Tw8} (hk : T[k]? = some u)  (gl hs ky vl m nn : Int) (sm : Bool) :
    Calls Tryz.prog 15 #[.pointer (some ⟨u.xb, 0, none⟩), step8A 6 gl hs ky vl m nn sm] w (Does8P B m1 m2 N Z o T w) := by
  obtain ⟨lr, hlr⟩ : ∃ lr, lr = w.heap.size := ⟨_, rfl⟩
  obtain ⟨WA, hWA⟩ : ∃ WA, w.alloc (.cells #[.int .i64 6, .int .i64 gl, .int .i64 hs, .int .i64 ky, .int .i64 vl, .int .i64 m, .int .i64 nn, .bool sm] 53) = WA := ⟨_, rfl⟩
  have kb : Keeps [] w WA := by rw [← hWA]; exact (Keeps.refl [] w).alloc _
  have bs : WA.heap[lr]? = some (step8O 6 gl hs ky vl m nn sm) := by rw [← hWA, hlr]; exact has_new _ _
  have OL := Lib.hid (show o lr = .free from H.g.fr lr (by omega))
  have M40 := Lib.hid (H.g.tw k u hk).m40
  have BS := Lib.hid bs
  have KB := Lib.hid kb
  have HH := Lib.hid H
  have HWA := Lib.hid hWA
  have HLR := Lib.hid hlr
  have HTK := Lib.hid hk
  obtain ⟨xD, yD, hxD, hyD, r1⟩ := (H.g.tw k u hk).row
  have HXD := Lib.hid (And.intro hxD hyD)
  obtain ⟨n, hn⟩ := ex_hid u.ms.length
  have n40 : n ≤ 40 := by rw [hn.out]; exact M40.out
  rw [← hn.out] at r1
  have R1 := Lib.hid r1
  have r1 := kb.has r1 (by simp)
  unfold two8O at r1
  unfold step8O at bs
  have x2 : WA.cell? ⟨u.xb, 2, none⟩ = some (.slice u.a n u.c) := cell_has r1 (i := 2) rfl
  have s5 : WA.cell? ⟨lr, 5, none⟩ = some (.int .i64 m) := cell_has bs (i := 5) rfl
  obtain ⟨lt, hlt⟩ : ∃ lt : Bool, Hid (lt = decide ((0 : Int) < (n : Int))) := ⟨_, Lib.hid rfl⟩
  clear H hk hlr hWA kb bs r1 hxD hyD
  unfold step8A
  go_enter Tryz.func15, Tryz.ntmps15
  go_upto_region 1 with (fail)
  rw [HWA.out, ← HLR.out]
  go_upto_if 26 with (fail)
  go_cut [5] from 21 to 43 (fun z5 wx => ∃ p : Nat, z5 = .int .i64 p ∧ Hid (n ≠ 0 → p < n) ∧ Keeps [] WA wx)
  case first =>
    by_cases h0 : n = 0
    · subst h0
      go_wp2_with fail
      go_meet
      case rel => exact ⟨0, rfl, Lib.hid (fun h => absurd rfl h), Keeps.refl _ _⟩
    · have n1 : (n : Int) ≠ 0 := by omega
      have n2 : (0 : Int) < (n : Int) := by omega
      have n3 : (n : Int) ≤ 40 := by omega
      obtain ⟨p, hpn, hp⟩ := idx8 m (show 0 < n by omega)
      have HP := Lib.hid hp
      have HPN := Lib.hid hpn
      clear hp hpn
      go_upto_region 3 with (fail)
      go_region_held3 (fun w' => w'.cell? ⟨lr, 5, none⟩ = some (.int .i64 m) ∧ w'.cell? ⟨u.xb, 2, none⟩ = some (.slice u.a n u.c)) (go_keep) (fail)
      have x2d : WA.drew.cell? ⟨u.xb, 2, none⟩ = some (.slice u.a n u.c) := x2
      obtain ⟨tm, htm⟩ := ex_hid (m.tmod n)
      have hp := HP.out
      rw [← htm.out] at hp
      by_cases ht : tm < 0
      · rw [if_pos ht] at hp
        go_upto_if 36 with (fail)
        rw [← htm.out]
        go_wp2_with fail
        go_meet
        case rel => exact ⟨p, by rw [← hp], Lib.hid (fun _ => HPN.out), (Keeps.refl [] WA).drew⟩
      · rw [if_neg ht] at hp
        subst hp
        go_upto_if 36 with (fail)
        rw [← htm.out]
        go_wp2_with fail
        go_meet
        case rel => exact ⟨p, rfl, Lib.hid (fun _ => HPN.out), (Keeps.refl [] WA).drew⟩
  case rest =>
    obtain ⟨p, rfl, hpn, kc⟩ := hcut
    have p0 : (0 : Int) ≤ (p : Int) := by omega
    have J := Lib.hid (HH.out.kept (KB.out.trans kc) (by simp))
    have V := Lib.hid (show Mv Tag.own o w o wc from Mv.of_keeps (KB.out.trans kc) (by simp))
    have BC := Lib.hid (show wc.heap[lr]? = some (step8O 6 gl hs ky vl m nn sm) from kc.has BS.out (by simp))
    have RC := Lib.hid (show wc.heap[u.xb]? = some (two8O xD.db yD.db (.slice u.a n u.c) (.slice u.a' n u.c')) from (KB.out.trans kc).has R1.out (by simp))
    have bc := BC.out
    have rc := RC.out
    unfold step8O at bc
    unfold two8O at rc
    have s0 : wc.cell? ⟨lr, 0, none⟩ = some (.int .i64 6) := cell_has bc (i := 0) rfl
    clear kc x2 s5
    go_upto_region 7 with (fail)
    have x0 : wc.cell? ⟨u.xb, 0, none⟩ = some (.pointer (some ⟨xD.db, 0, none⟩)) := cell_has rc (i := 0) rfl
    obtain ⟨d1, d2, d3, d4⟩ := J.out.g.p.dc _ _ HXD.out.1
    have m80 := J.out.m80
    have en := endN_le M
    clear bc rc
    go_wp2_with fail
    refine (first8_any xD.db xD.t xD.lo xD.S (mV m1) xD.d wc d1 (d2.t.mono (by omega)) (by have := d2.v; omega)).mono ?_
    rintro r w1 ⟨rfl, a1, k1⟩
    obtain ⟨o1, p1, v1, f1, u1⟩ := J.out.g.p.dict (S' := xD.S) (c' := c) J.out.g.fr HXD.out.1 a1 (J.out.g.p.ct.keeps k1 (fun b hb hx => by
      have h1 := J.out.g.p.mt b hb
      have h2 := d3 b hx
      rw [h1] at h2; cases h2)) (k1.mono (fun z hz => by
      rcases List.mem_cons.1 hz with h | h
      · simp [h]
      · simp [h])) (Grew.refl _ _) (d2.outD8 false) (fun q hq => hq.outD8 false)
    have G1 := Lib.hid (J.out.g.gop p1 v1 f1 u1 (HeadD.set HXD.out.1 rfl) (HeadM.refl _))
    have V1 := Lib.hid (V.out.trans (v1.mono (fun t ht => Tag.own_side ht true)))
    obtain ⟨x, hx⟩ := ex_hid (xD.d.outX false)
    obtain ⟨e, he⟩ := ex_hid xD.d.outE
    rw [← hx.out, ← he.out]
    clear d1 d2 d3 d4 a1 k1 p1 v1 f1 u1 x0
    simp only [Ent.agg]
    go_upto_region 33 with (fail)
    refine wp_gen (fun V => V.heap[w1.heap.size]? = some (entR x) ∧ Keeps [] w1 V) ⟨has_new _ _, (Keeps.refl [] w1).alloc _⟩ ?_
    rintro w2 ⟨b2, k2⟩
    obtain ⟨tb, htb⟩ := ex_hid w1.heap.size
    rw [← htb.out] at b2 ⊢
    have G2 := Lib.hid (G1.out.kept k2 (by simp))
    have V2 := Lib.hid (V1.out.trans (Mv.of_keeps k2 (by simp)))
    have TB := Lib.hid b2
    have OB := Lib.hid (show o1 tb = .free from G1.out.fr tb (by rw [htb.out]; exact Nat.le_refl _))
    have x1 : w2.cell? ⟨u.xb, 1, none⟩ = some (.pointer (some ⟨yD.db, 0, none⟩)) := by
      obtain ⟨x', y', e1, e2, e3⟩ := (G2.out.tw k u HTK.out).row
      rw [HXD.out.2] at e2; cases e2
      unfold two8O at e3
      exact cell_has e3 (i := 1) rfl
    obtain ⟨d1, d2, d3, d4⟩ := G2.out.r.dc _ _ HXD.out.2
    have enl := endN_le L
    have ll : L.length = M.length := J.out.a.len.2.symm
    clear b2 k2
    go_wp2_with fail
    refine (rfirst8_any 990 (by omega) yD.db yD.t yD.lo yD.S m2 yD.d w2 d1 (d2.t.mono (by omega)) (by have := d2.v; omega)).mono ?_
    rintro r w3 ⟨rfl, a1, k1⟩
    obtain ⟨o3, p3, v3, f3, u3⟩ := G2.out.r.dict (S' := yD.S) (c' := c) G2.out.fr HXD.out.2 a1 (G2.out.r.ct.keeps k1 (fun b hb hx => by
      have h1 := G2.out.r.mt b hb
      have h2 := d3 b hx
      rw [h1] at h2; cases h2)) (k1.mono (fun z hz => by
      rcases List.mem_cons.1 hz with h | h
      · simp [h]
      · simp [h])) (Grew.refl _ _) (d2.outD8 false) (fun q hq => hq.outD8 false)
    have G3 := Lib.hid (G2.out.gor p3 v3 f3 u3 (HeadD.set HXD.out.2 rfl) (HeadM.refl _))
    have V3 := Lib.hid (V2.out.trans (v3.mono (fun t ht => Tag.own_side ht false)))
    have TB3 := Lib.hid (v3.free_has rfl OB.out TB.out)
    have ED := Lib.hid (J.out.a.d HXD.out.1 HXD.out.2)
    have ex : yD.d.outX false = x := by rw [ED.out, hx.out]
    have ee : yD.d.outE = e := by rw [ED.out, he.out]
    rw [ex, ee]
    clear d1 d2 d3 d4 a1 k1 p3 v3 f3 u3 x1 m80 en enl ll ex ee
    simp only [Ent.agg]
    go_upto_region 34 with (fail)
    refine wp_gen (fun V => V.heap[w3.heap.size]? = some (entR x) ∧ Keeps [] w3 V) ⟨has_new _ _, (Keeps.refl [] w3).alloc _⟩ ?_
    rintro w4 ⟨b4, k4⟩
    obtain ⟨tc, htc⟩ := ex_hid w3.heap.size
    rw [← htc.out] at b4 ⊢
    have G4 := Lib.hid (G3.out.kept k4 (by simp))
    have V4 := Lib.hid (V3.out.trans (Mv.of_keeps k4 (by simp)))
    have b3 := k4.has TB3.out.1 (by simp)
    obtain ⟨s0, s1, s2, s3, s4⟩ : w4.cell? ⟨tb, 0, none⟩ = some (.bool x.live) ∧ w4.cell? ⟨tb, 1, none⟩ = some (.int .i64 x.hash) ∧ w4.cell? ⟨tb, 2, none⟩ = some (.int .i64 x.key) ∧ w4.cell? ⟨tb, 3, none⟩ = some (.int .i64 x.val) ∧ w4.cell? ⟨tb, 4, none⟩ = some (.int .i64 x.birth) := ⟨cell_has b3 (i := 0) rfl, cell_has b3 (i := 1) rfl, cell_has b3 (i := 2) rfl, cell_has b3 (i := 3) rfl, cell_has b3 (i := 4) rfl⟩
    obtain ⟨t0, t1, t2, t3, t4⟩ : w4.cell? ⟨tc, 0, none⟩ = some (.bool x.live) ∧ w4.cell? ⟨tc, 1, none⟩ = some (.int .i64 x.hash) ∧ w4.cell? ⟨tc, 2, none⟩ = some (.int .i64 x.key) ∧ w4.cell? ⟨tc, 3, none⟩ = some (.int .i64 x.val) ∧ w4.cell? ⟨tc, 4, none⟩ = some (.int .i64 x.birth) := ⟨cell_has b4 (i := 0) rfl, cell_has b4 (i := 1) rfl, cell_has b4 (i := 2) rfl, cell_has b4 (i := 3) rfl, cell_has b4 (i := 4) rfl⟩
    have heq := fun w => eql_ent x x w
    simp only [Ent.agg, decide_true] at heq
    clear b4 k4 b3
    go_wp2_with fail
    go_ret
    exact ⟨_, o3, T, _, _, _, _, rfl, ⟨G4.out.mono (Nat.le_refl _) (Nat.le_refl _) (by omega) (by omega), J.out.a.setD (by show yD.d.outD false = xD.d.outD false; rw [ED.out]), J.out.n, J.out.t⟩, V4.out, SameTwos.refl T⟩
set_option maxRecDepth 100000 in
set_option maxHeartbeats 16000000 in
theorem does8_last {B : Nat} {m1 m2 : Option Nat} {c : C4} {N Z : Nat} {o : Nat → Tag} {T : List Tw8} {D E : List PD} {M L : List PM} {w : World} (H : J8 B m1 m2 c N Z o T D E M L w) (hN : N ≤ 899) (hZ : Z ≤ 800000) {k : Nat} {u : Tw8} (hk : T[k]? = some u)  (gl hs ky vl m nn : Int) (sm : Bool) :
    Calls Tryz.prog 15 #[.pointer (some ⟨u.xb, 0, none⟩), step8A 7 gl hs ky vl m nn sm] w (Does8P B m1 m2 N Z o T w) := by
  obtain ⟨lr, hlr⟩ : ∃ lr, lr = w.heap.size := ⟨_, rfl⟩
  obtain ⟨WA, hWA⟩ : ∃ WA, w.alloc (.cells #[.int .i64 7, .int .i64 gl, .int .i64 hs, .int .i64 ky, .int .i64 vl, .int .i64 m, .int .i64 nn, .bool sm] 53) = WA := ⟨_, rfl⟩
  have kb : Keeps [] w WA := by rw [← hWA]; exact (Keeps.refl [] w).alloc _
  have bs : WA.heap[lr]? = some (step8O 7 gl hs ky vl m nn sm) := by rw [← hWA, hlr]; exact has_new _ _
  have OL := Lib.hid (show o lr = .free from H.g.fr lr (by omega))
  have M40 := Lib.hid (H.g.tw k u hk).m40
  have BS := Lib.hid bs
  have KB := Lib.hid kb
  have HH := Lib.hid H
  have HWA := Lib.hid hWA
  have HLR := Lib.hid hlr
  have HTK := Lib.hid hk
  obtain ⟨xD, yD, hxD, hyD, r1⟩ := (H.g.tw k u hk).row
  have HXD := Lib.hid (And.intro hxD hyD)
  obtain ⟨n, hn⟩ := ex_hid u.ms.length
  have n40 : n ≤ 40 := by rw [hn.out]; exact M40.out
  rw [← hn.out] at r1
  have R1 := Lib.hid r1
  have r1 := kb.has r1 (by simp)
  unfold two8O at r1
  unfold step8O at bs
  have x2 : WA.cell? ⟨u.xb, 2, none⟩ = some (.slice u.a n u.c) := cell_has r1 (i := 2) rfl
  have s5 : WA.cell? ⟨lr, 5, none⟩ = some (.int .i64 m) := cell_has bs (i := 5) rfl
  obtain ⟨lt, hlt⟩ : ∃ lt : Bool, Hid (lt = decide ((0 : Int) < (n : Int))) := ⟨_, Lib.hid rfl⟩
  clear H hk hlr hWA kb bs r1 hxD hyD
  unfold step8A
  go_enter Tryz.func15, Tryz.ntmps15
  go_upto_region 1 with (fail)
  rw [HWA.out, ← HLR.out]
  go_upto_if 26 with (fail)
  go_cut [5] from 21 to 43 (fun z5 wx => ∃ p : Nat, z5 = .int .i64 p ∧ Hid (n ≠ 0 → p < n) ∧ Keeps [] WA wx)
  case first =>
    by_cases h0 : n = 0
    · subst h0
      go_wp2_with fail
      go_meet
      case rel => exact ⟨0, rfl, Lib.hid (fun h => absurd rfl h), Keeps.refl _ _⟩
    · have n1 : (n : Int) ≠ 0 := by omega
      have n2 : (0 : Int) < (n : Int) := by omega
      have n3 : (n : Int) ≤ 40 := by omega
      obtain ⟨p, hpn, hp⟩ := idx8 m (show 0 < n by omega)
      have HP := Lib.hid hp
      have HPN := Lib.hid hpn
      clear hp hpn
      go_upto_region 3 with (fail)
      go_region_held3 (fun w' => w'.cell? ⟨lr, 5, none⟩ = some (.int .i64 m) ∧ w'.cell? ⟨u.xb, 2, none⟩ = some (.slice u.a n u.c)) (go_keep) (fail)
      have x2d : WA.drew.cell? ⟨u.xb, 2, none⟩ = some (.slice u.a n u.c) := x2
      obtain ⟨tm, htm⟩ := ex_hid (m.tmod n)
      have hp := HP.out
      rw [← htm.out] at hp
      by_cases ht : tm < 0
      · rw [if_pos ht] at hp
        go_upto_if 36 with (fail)
        rw [← htm.out]
        go_wp2_with fail
        go_meet
        case rel => exact ⟨p, by rw [← hp], Lib.hid (fun _ => HPN.out), (Keeps.refl [] WA).drew⟩
      · rw [if_neg ht] at hp
        subst hp
        go_upto_if 36 with (fail)
        rw [← htm.out]
        go_wp2_with fail
        go_meet
        case rel => exact ⟨p, rfl, Lib.hid (fun _ => HPN.out), (Keeps.refl [] WA).drew⟩
  case rest =>
    obtain ⟨p, rfl, hpn, kc⟩ := hcut
    have p0 : (0 : Int) ≤ (p : Int) := by omega
    have J := Lib.hid (HH.out.kept (KB.out.trans kc) (by simp))
    have V := Lib.hid (show Mv Tag.own o w o wc from Mv.of_keeps (KB.out.trans kc) (by simp))
    have BC := Lib.hid (show wc.heap[lr]? = some (step8O 7 gl hs ky vl m nn sm) from kc.has BS.out (by simp))
    have RC := Lib.hid (show wc.heap[u.xb]? = some (two8O xD.db yD.db (.slice u.a n u.c) (.slice u.a' n u.c')) from (KB.out.trans kc).has R1.out (by simp))
    have bc := BC.out
    have rc := RC.out
    unfold step8O at bc
    unfold two8O at rc
    have s0 : wc.cell? ⟨lr, 0, none⟩ = some (.int .i64 7) := cell_has bc (i := 0) rfl
    clear kc x2 s5
    go_upto_region 7 with (fail)
    have x0 : wc.cell? ⟨u.xb, 0, none⟩ = some (.pointer (some ⟨xD.db, 0, none⟩)) := cell_has rc (i := 0) rfl
    obtain ⟨d1, d2, d3, d4⟩ := J.out.g.p.dc _ _ HXD.out.1
    have m80 := J.out.m80
    have en := endN_le M
    clear bc rc
    go_wp2_with fail
    refine (last8_any xD.db xD.t xD.lo xD.S (mV m1) xD.d wc d1 (d2.t.mono (by omega)) (by have := d2.v; omega)).mono ?_
    rintro r w1 ⟨rfl, a1, k1⟩
    obtain ⟨o1, p1, v1, f1, u1⟩ := J.out.g.p.dict (S' := xD.S) (c' := c) J.out.g.fr HXD.out.1 a1 (J.out.g.p.ct.keeps k1 (fun b hb hx => by
      have h1 := J.out.g.p.mt b hb
      have h2 := d3 b hx
      rw [h1] at h2; cases h2)) (k1.mono (fun z hz => by
      rcases List.mem_cons.1 hz with h | h
      · simp [h]
      · simp [h])) (Grew.refl _ _) (d2.outD8 true) (fun q hq => hq.outD8 true)
    have G1 := Lib.hid (J.out.g.gop p1 v1 f1 u1 (HeadD.set HXD.out.1 rfl) (HeadM.refl _))
    have V1 := Lib.hid (V.out.trans (v1.mono (fun t ht => Tag.own_side ht true)))
    obtain ⟨x, hx⟩ := ex_hid (xD.d.outX true)
    obtain ⟨e, he⟩ := ex_hid xD.d.outE
    rw [← hx.out, ← he.out]
    clear d1 d2 d3 d4 a1 k1 p1 v1 f1 u1 x0
    simp only [Ent.agg]
    go_upto_region 37 with (fail)
    refine wp_gen (fun V => V.heap[w1.heap.size]? = some (entR x) ∧ Keeps [] w1 V) ⟨has_new _ _, (Keeps.refl [] w1).alloc _⟩ ?_
    rintro w2 ⟨b2, k2⟩
    obtain ⟨tb, htb⟩ := ex_hid w1.heap.size
    rw [← htb.out] at b2 ⊢
    have G2 := Lib.hid (G1.out.kept k2 (by simp))
    have V2 := Lib.hid (V1.out.trans (Mv.of_keeps k2 (by simp)))
    have TB := Lib.hid b2
    have OB := Lib.hid (show o1 tb = .free from G1.out.fr tb (by rw [htb.out]; exact Nat.le_refl _))
    have x1 : w2.cell? ⟨u.xb, 1, none⟩ = some (.pointer (some ⟨yD.db, 0, none⟩)) := by
      obtain ⟨x', y', e1, e2, e3⟩ := (G2.out.tw k u HTK.out).row
      rw [HXD.out.2] at e2; cases e2
      unfold two8O at e3
      exact cell_has e3 (i := 1) rfl
    obtain ⟨d1, d2, d3, d4⟩ := G2.out.r.dc _ _ HXD.out.2
    have enl := endN_le L
    have ll : L.length = M.length := J.out.a.len.2.symm
    clear b2 k2
    go_wp2_with fail
    refine (rlast8_any 990 (by omega) yD.db yD.t yD.lo yD.S m2 yD.d w2 d1 (d2.t.mono (by omega)) (by have := d2.v; omega)).mono ?_
    rintro r w3 ⟨rfl, a1, k1⟩
    obtain ⟨o3, p3, v3, f3, u3⟩ := G2.out.r.dict (S' := yD.S) (c' := c) G2.out.fr HXD.out.2 a1 (G2.out.r.ct.keeps k1 (fun b hb hx => by
      have h1 := G2.out.r.mt b hb
      have h2 := d3 b hx
      rw [h1] at h2; cases h2)) (k1.mono (fun z hz => by
      rcases List.mem_cons.1 hz with h | h
      · simp [h]
      · simp [h])) (Grew.refl _ _) (d2.outD8 true) (fun q hq => hq.outD8 true)
    have G3 := Lib.hid (G2.out.gor p3 v3 f3 u3 (HeadD.set HXD.out.2 rfl) (HeadM.refl _))
    have V3 := Lib.hid (V2.out.trans (v3.mono (fun t ht => Tag.own_side ht false)))
    have TB3 := Lib.hid (v3.free_has rfl OB.out TB.out)
    have ED := Lib.hid (J.out.a.d HXD.out.1 HXD.out.2)
    have ex : yD.d.outX true = x := by rw [ED.out, hx.out]
    have ee : yD.d.outE = e := by rw [ED.out, he.out]
    rw [ex, ee]
    clear d1 d2 d3 d4 a1 k1 p3 v3 f3 u3 x1 m80 en enl ll ex ee
    simp only [Ent.agg]
    go_upto_region 38 with (fail)
    refine wp_gen (fun V => V.heap[w3.heap.size]? = some (entR x) ∧ Keeps [] w3 V) ⟨has_new _ _, (Keeps.refl [] w3).alloc _⟩ ?_
    rintro w4 ⟨b4, k4⟩
    obtain ⟨tc, htc⟩ := ex_hid w3.heap.size
    rw [← htc.out] at b4 ⊢
    have G4 := Lib.hid (G3.out.kept k4 (by simp))
    have V4 := Lib.hid (V3.out.trans (Mv.of_keeps k4 (by simp)))
    have b3 := k4.has TB3.out.1 (by simp)
    obtain ⟨s0, s1, s2, s3, s4⟩ : w4.cell? ⟨tb, 0, none⟩ = some (.bool x.live) ∧ w4.cell? ⟨tb, 1, none⟩ = some (.int .i64 x.hash) ∧ w4.cell? ⟨tb, 2, none⟩ = some (.int .i64 x.key) ∧ w4.cell? ⟨tb, 3, none⟩ = some (.int .i64 x.val) ∧ w4.cell? ⟨tb, 4, none⟩ = some (.int .i64 x.birth) := ⟨cell_has b3 (i := 0) rfl, cell_has b3 (i := 1) rfl, cell_has b3 (i := 2) rfl, cell_has b3 (i := 3) rfl, cell_has b3 (i := 4) rfl⟩
    obtain ⟨t0, t1, t2, t3, t4⟩ : w4.cell? ⟨tc, 0, none⟩ = some (.bool x.live) ∧ w4.cell? ⟨tc, 1, none⟩ = some (.int .i64 x.hash) ∧ w4.cell? ⟨tc, 2, none⟩ = some (.int .i64 x.key) ∧ w4.cell? ⟨tc, 3, none⟩ = some (.int .i64 x.val) ∧ w4.cell? ⟨tc, 4, none⟩ = some (.int .i64 x.birth) := ⟨cell_has b4 (i := 0) rfl, cell_has b4 (i := 1) rfl, cell_has b4 (i := 2) rfl, cell_has b4 (i := 3) rfl, cell_has b4 (i := 4) rfl⟩
    have heq := fun w => eql_ent x x w
    simp only [Ent.agg, decide_true] at heq
    clear b4 k4 b3
    go_wp2_with fail
    go_ret
    exact ⟨_, o3, T, _, _, _, _, rfl, ⟨G4.out.mono (Nat.le_refl _) (Nat.le_refl _) (by omega) (by omega), J.out.a.setD (by show yD.d.outD true = xD.d.outD true; rw [ED.out]), J.out.n, J.out.t⟩, V4.out, SameTwos.refl T⟩
end Go.Proofs.YtcakdmapnmneoaaGreat
