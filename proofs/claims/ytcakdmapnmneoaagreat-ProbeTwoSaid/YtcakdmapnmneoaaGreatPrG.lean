/- Chapter 8's Two.does: no kind at all, a Step, a Clear. Printed by mk_does8.py. -/
import Derived.Test.YtcakdmapnmneoaaGreatPrF
namespace Go.Proofs.YtcakdmapnmneoaaGreat
open Go.RowKit
set_option linter.unusedVariables false
set_option linter.unusedSimpArgs false

set_option maxRecDepth 100000 in
set_option maxHeartbeats 16000000 in
theorem does8_none {B : Nat} {m1 m2 : Option Nat} {c : C4} {N Z : Nat} {o : Nat → Tag} {T : List Tw8} {D E : List PD} {M L : List PM} {w : World} (H : J8 B m1 m2 c N Z o T D E M L w) (hN : N ≤ 899) (hZ : Z ≤ 800000) {k : Nat} {u : Tw8} (hk : T[k]? = some u) (g : Int) (hg : g < 1 ∨ 8 < g) (gl hs ky vl m nn : Int) (sm : Bool) :
    Calls Tryz.prog 15 #[.pointer (some ⟨u.xb, 0, none⟩), step8A g gl hs ky vl m nn sm] w (Does8P B m1 m2 N Z o T w) := by
  obtain ⟨lr, hlr⟩ : ∃ lr, lr = w.heap.size := ⟨_, rfl⟩
  obtain ⟨WA, hWA⟩ : ∃ WA, w.alloc (.cells #[.int .i64 g, .int .i64 gl, .int .i64 hs, .int .i64 ky, .int .i64 vl, .int .i64 m, .int .i64 nn, .bool sm] 53) = WA := ⟨_, rfl⟩
  have kb : Keeps [] w WA := by rw [← hWA]; exact (Keeps.refl [] w).alloc _
  have bs : WA.heap[lr]? = some (step8O g gl hs ky vl m nn sm) := by rw [← hWA, hlr]; exact has_new _ _
  have OL := Lib.hid (show o lr = .free from H.g.fr lr (by omega))
  have M40 := Lib.hid (H.g.tw k u hk).m40
  have BS := Lib.hid bs
  have KB := Lib.hid kb
  have HH := Lib.hid H
  have HWA := Lib.hid hWA
  have HLR := Lib.hid hlr
  have HTK := Lib.hid hk
  obtain ⟨xD, yD, hxD, hyD, r1⟩ := (H.g.tw k u hk).row
  have HXD := Lib.hid (And.intro hxD hyD)
  obtain ⟨n, hn⟩ := ex_hid u.ms.length
  have n40 : n ≤ 40 := by rw [hn.out]; exact M40.out
  rw [← hn.out] at r1
  have R1 := Lib.hid r1
  have r1 := kb.has r1 (by simp)
  unfold two8O at r1
  unfold step8O at bs
  have x2 : WA.cell? ⟨u.xb, 2, none⟩ = some (.slice u.a n u.c) := cell_has r1 (i := 2) rfl
  have s5 : WA.cell? ⟨lr, 5, none⟩ = some (.int .i64 m) := cell_has bs (i := 5) rfl
  obtain ⟨lt, hlt⟩ : ∃ lt : Bool, Hid (lt = decide ((0 : Int) < (n : Int))) := ⟨_, Lib.hid rfl⟩
  clear H hk hlr hWA kb bs r1 hxD hyD
  unfold step8A
  have q1 : (g == (1 : Int)) = false := by simp; omega
  have q2 : (g == (2 : Int)) = false := by simp; omega
  have q3 : (g == (3 : Int)) = false := by simp; omega
  have q4 : (g == (4 : Int)) = false := by simp; omega
  have q5 : (g == (5 : Int)) = false := by simp; omega
  have q6 : (g == (6 : Int)) = false := by simp; omega
  have q7 : (g == (7 : Int)) = false := by simp; omega
  have q8 : (g == (8 : Int)) = false := by simp; omega
  clear hg
  go_enter Tryz.func15, Tryz.ntmps15
  go_upto_region 1 with (fail)
  rw [HWA.out, ← HLR.out]
  go_upto_if 26 with (fail)
  go_cut [5] from 21 to 43 (fun z5 wx => ∃ p : Nat, z5 = .int .i64 p ∧ Hid (n ≠ 0 → p < n) ∧ Keeps [] WA wx)
  case first =>
    by_cases h0 : n = 0
    · subst h0
      go_wp2_with fail
      go_meet
      case rel => exact ⟨0, rfl, Lib.hid (fun h => absurd rfl h), Keeps.refl _ _⟩
    · have n1 : (n : Int) ≠ 0 := by omega
      have n2 : (0 : Int) < (n : Int) := by omega
      have n3 : (n : Int) ≤ 40 := by omega
      obtain ⟨p, hpn, hp⟩ := idx8 m (show 0 < n by omega)
      have HP := Lib.hid hp
      have HPN := Lib.hid hpn
      clear hp hpn
      go_upto_region 3 with (fail)
      go_region_held3 (fun w' => w'.cell? ⟨lr, 5, none⟩ = some (.int .i64 m) ∧ w'.cell? ⟨u.xb, 2, none⟩ = some (.slice u.a n u.c)) (go_keep) (fail)
      have x2d : WA.drew.cell? ⟨u.xb, 2, none⟩ = some (.slice u.a n u.c) := x2
      obtain ⟨tm, htm⟩ := ex_hid (m.tmod n)
      have hp := HP.out
      rw [← htm.out] at hp
      by_cases ht : tm < 0
      · rw [if_pos ht] at hp
        go_upto_if 36 with (fail)
        rw [← htm.out]
        go_wp2_with fail
        go_meet
        case rel => exact ⟨p, by rw [← hp], Lib.hid (fun _ => HPN.out), (Keeps.refl [] WA).drew⟩
      · rw [if_neg ht] at hp
        subst hp
        go_upto_if 36 with (fail)
        rw [← htm.out]
        go_wp2_with fail
        go_meet
        case rel => exact ⟨p, rfl, Lib.hid (fun _ => HPN.out), (Keeps.refl [] WA).drew⟩
  case rest =>
    obtain ⟨p, rfl, hpn, kc⟩ := hcut
    have p0 : (0 : Int) ≤ (p : Int) := by omega
    have J := Lib.hid (HH.out.kept (KB.out.trans kc) (by simp))
    have V := Lib.hid (show Mv Tag.own o w o wc from Mv.of_keeps (KB.out.trans kc) (by simp))
    have BC := Lib.hid (show wc.heap[lr]? = some (step8O g gl hs ky vl m nn sm) from kc.has BS.out (by simp))
    have RC := Lib.hid (show wc.heap[u.xb]? = some (two8O xD.db yD.db (.slice u.a n u.c) (.slice u.a' n u.c')) from (KB.out.trans kc).has R1.out (by simp))
    have bc := BC.out
    have rc := RC.out
    unfold step8O at bc
    unfold two8O at rc
    have s0 : wc.cell? ⟨lr, 0, none⟩ = some (.int .i64 g) := cell_has bc (i := 0) rfl
    clear kc x2 s5
    go_upto_region 7 with (fail)
    clear bc rc
    go_wp2_with fail
    go_ret
    exact ⟨c, o, T, D, E, M, L, rfl, J.out.mono (by omega) (by omega), V.out, SameTwos.refl T⟩
set_option maxRecDepth 100000 in
set_option maxHeartbeats 16000000 in
theorem does8_step {B : Nat} {m1 m2 : Option Nat} {c : C4} {N Z : Nat} {o : Nat → Tag} {T : List Tw8} {D E : List PD} {M L : List PM} {w : World} (H : J8 B m1 m2 c N Z o T D E M L w) (hN : N ≤ 899) (hZ : Z ≤ 800000) {k : Nat} {u : Tw8} (hk : T[k]? = some u)  (gl hs ky vl m nn : Int) (sm : Bool) :
    Calls Tryz.prog 15 #[.pointer (some ⟨u.xb, 0, none⟩), step8A 2 gl hs ky vl m nn sm] w (Does8P B m1 m2 N Z o T w) := by
  obtain ⟨lr, hlr⟩ : ∃ lr, lr = w.heap.size := ⟨_, rfl⟩
  obtain ⟨WA, hWA⟩ : ∃ WA, w.alloc (.cells #[.int .i64 2, .int .i64 gl, .int .i64 hs, .int .i64 ky, .int .i64 vl, .int .i64 m, .int .i64 nn, .bool sm] 53) = WA := ⟨_, rfl⟩
  have kb : Keeps [] w WA := by rw [← hWA]; exact (Keeps.refl [] w).alloc _
  have bs : WA.heap[lr]? = some (step8O 2 gl hs ky vl m nn sm) := by rw [← hWA, hlr]; exact has_new _ _
  have OL := Lib.hid (show o lr = .free from H.g.fr lr (by omega))
  have M40 := Lib.hid (H.g.tw k u hk).m40
  have BS := Lib.hid bs
  have KB := Lib.hid kb
  have HH := Lib.hid H
  have HWA := Lib.hid hWA
  have HLR := Lib.hid hlr
  have HTK := Lib.hid hk
  obtain ⟨xD, yD, hxD, hyD, r1⟩ := (H.g.tw k u hk).row
  have HXD := Lib.hid (And.intro hxD hyD)
  obtain ⟨n, hn⟩ := ex_hid u.ms.length
  have n40 : n ≤ 40 := by rw [hn.out]; exact M40.out
  rw [← hn.out] at r1
  have R1 := Lib.hid r1
  have r1 := kb.has r1 (by simp)
  unfold two8O at r1
  unfold step8O at bs
  have x2 : WA.cell? ⟨u.xb, 2, none⟩ = some (.slice u.a n u.c) := cell_has r1 (i := 2) rfl
  have s5 : WA.cell? ⟨lr, 5, none⟩ = some (.int .i64 m) := cell_has bs (i := 5) rfl
  obtain ⟨lt, hlt⟩ : ∃ lt : Bool, Hid (lt = decide ((0 : Int) < (n : Int))) := ⟨_, Lib.hid rfl⟩
  clear H hk hlr hWA kb bs r1 hxD hyD
  unfold step8A
  go_enter Tryz.func15, Tryz.ntmps15
  go_upto_region 1 with (fail)
  rw [HWA.out, ← HLR.out]
  go_upto_if 26 with (fail)
  go_cut [5] from 21 to 43 (fun z5 wx => ∃ p : Nat, z5 = .int .i64 p ∧ Hid (n ≠ 0 → p < n) ∧ Keeps [] WA wx)
  case first =>
    by_cases h0 : n = 0
    · subst h0
      go_wp2_with fail
      go_meet
      case rel => exact ⟨0, rfl, Lib.hid (fun h => absurd rfl h), Keeps.refl _ _⟩
    · have n1 : (n : Int) ≠ 0 := by omega
      have n2 : (0 : Int) < (n : Int) := by omega
      have n3 : (n : Int) ≤ 40 := by omega
      obtain ⟨p, hpn, hp⟩ := idx8 m (show 0 < n by omega)
      have HP := Lib.hid hp
      have HPN := Lib.hid hpn
      clear hp hpn
      go_upto_region 3 with (fail)
      go_region_held3 (fun w' => w'.cell? ⟨lr, 5, none⟩ = some (.int .i64 m) ∧ w'.cell? ⟨u.xb, 2, none⟩ = some (.slice u.a n u.c)) (go_keep) (fail)
      have x2d : WA.drew.cell? ⟨u.xb, 2, none⟩ = some (.slice u.a n u.c) := x2
      obtain ⟨tm, htm⟩ := ex_hid (m.tmod n)
      have hp := HP.out
      rw [← htm.out] at hp
      by_cases ht : tm < 0
      · rw [if_pos ht] at hp
        go_upto_if 36 with (fail)
        rw [← htm.out]
        go_wp2_with fail
        go_meet
        case rel => exact ⟨p, by rw [← hp], Lib.hid (fun _ => HPN.out), (Keeps.refl [] WA).drew⟩
      · rw [if_neg ht] at hp
        subst hp
        go_upto_if 36 with (fail)
        rw [← htm.out]
        go_wp2_with fail
        go_meet
        case rel => exact ⟨p, rfl, Lib.hid (fun _ => HPN.out), (Keeps.refl [] WA).drew⟩
  case rest =>
    obtain ⟨p, rfl, hpn, kc⟩ := hcut
    have p0 : (0 : Int) ≤ (p : Int) := by omega
    have J := Lib.hid (HH.out.kept (KB.out.trans kc) (by simp))
    have V := Lib.hid (show Mv Tag.own o w o wc from Mv.of_keeps (KB.out.trans kc) (by simp))
    have BC := Lib.hid (show wc.heap[lr]? = some (step8O 2 gl hs ky vl m nn sm) from kc.has BS.out (by simp))
    have RC := Lib.hid (show wc.heap[u.xb]? = some (two8O xD.db yD.db (.slice u.a n u.c) (.slice u.a' n u.c')) from (KB.out.trans kc).has R1.out (by simp))
    have bc := BC.out
    have rc := RC.out
    unfold step8O at bc
    unfold two8O at rc
    have s0 : wc.cell? ⟨lr, 0, none⟩ = some (.int .i64 2) := cell_has bc (i := 0) rfl
    clear kc x2 s5
    go_upto_region 7 with (fail)
    have x2 : wc.cell? ⟨u.xb, 2, none⟩ = some (.slice u.a n u.c) := cell_has rc (i := 2) rfl
    by_cases h0 : n = 0
    · subst h0
      clear bc rc
      go_wp2_with fail
      go_ret
      exact ⟨c, o, T, D, E, M, L, rfl, J.out.mono (by omega) (by omega), V.out, SameTwos.refl T⟩
    · have n2 : (0 : Int) < (n : Int) := by omega
      clear bc rc
      go_wp2_with fail
      refine (step8_any J.out (by omega) (by omega) HTK.out p (by rw [← hn.out]; exact hpn.out h0)).mono ?_
      rintro r w1 ⟨tn, rfl, c1, o1, D1, E1, M1, L1, j1, v1⟩
      have J1 := Lib.hid j1
      have V1 := Lib.hid v1
      clear j1 v1
      simp only [Trn.agg]
      go_wp2_with fail
      go_ret
      exact ⟨c1, o1, T, D1, E1, M1, L1, rfl, (J1.out.mono (by omega) (by omega)).kept ((Keeps.refl [] w1).alloc _) (by simp), (V.out.trans V1.out).trans (Mv.of_keeps ((Keeps.refl [] w1).alloc _) (by simp)), SameTwos.refl T⟩
set_option maxRecDepth 100000 in
set_option maxHeartbeats 16000000 in
theorem does8_clear {B : Nat} {m1 m2 : Option Nat} {c : C4} {N Z : Nat} {o : Nat → Tag} {T : List Tw8} {D E : List PD} {M L : List PM} {w : World} (H : J8 B m1 m2 c N Z o T D E M L w) (hN : N ≤ 899) (hZ : Z ≤ 800000) {k : Nat} {u : Tw8} (hk : T[k]? = some u)  (gl hs ky vl m nn : Int) (sm : Bool) :
    Calls Tryz.prog 15 #[.pointer (some ⟨u.xb, 0, none⟩), step8A 5 gl hs ky vl m nn sm] w (Does8P B m1 m2 N Z o T w) := by
  obtain ⟨lr, hlr⟩ : ∃ lr, lr = w.heap.size := ⟨_, rfl⟩
  obtain ⟨WA, hWA⟩ : ∃ WA, w.alloc (.cells #[.int .i64 5, .int .i64 gl, .int .i64 hs, .int .i64 ky, .int .i64 vl, .int .i64 m, .int .i64 nn, .bool sm] 53) = WA := ⟨_, rfl⟩
  have kb : Keeps [] w WA := by rw [← hWA]; exact (Keeps.refl [] w).alloc _
  have bs : WA.heap[lr]? = some (step8O 5 gl hs ky vl m nn sm) := by rw [← hWA, hlr]; exact has_new _ _
  have OL := Lib.hid (show o lr = .free from H.g.fr lr (by omega))
  have M40 := Lib.hid (H.g.tw k u hk).m40
  have BS := Lib.hid bs
  have KB := Lib.hid kb
  have HH := Lib.hid H
  have HWA := Lib.hid hWA
  have HLR := Lib.hid hlr
  have HTK := Lib.hid hk
  obtain ⟨xD, yD, hxD, hyD, r1⟩ := (H.g.tw k u hk).row
  have HXD := Lib.hid (And.intro hxD hyD)
  obtain ⟨n, hn⟩ := ex_hid u.ms.length
  have n40 : n ≤ 40 := by rw [hn.out]; exact M40.out
  rw [← hn.out] at r1
  have R1 := Lib.hid r1
  have r1 := kb.has r1 (by simp)
  unfold two8O at r1
  unfold step8O at bs
  have x2 : WA.cell? ⟨u.xb, 2, none⟩ = some (.slice u.a n u.c) := cell_has r1 (i := 2) rfl
  have s5 : WA.cell? ⟨lr, 5, none⟩ = some (.int .i64 m) := cell_has bs (i := 5) rfl
  obtain ⟨lt, hlt⟩ : ∃ lt : Bool, Hid (lt = decide ((0 : Int) < (n : Int))) := ⟨_, Lib.hid rfl⟩
  clear H hk hlr hWA kb bs r1 hxD hyD
  unfold step8A
  go_enter Tryz.func15, Tryz.ntmps15
  go_upto_region 1 with (fail)
  rw [HWA.out, ← HLR.out]
  go_upto_if 26 with (fail)
  go_cut [5] from 21 to 43 (fun z5 wx => ∃ p : Nat, z5 = .int .i64 p ∧ Hid (n ≠ 0 → p < n) ∧ Keeps [] WA wx)
  case first =>
    by_cases h0 : n = 0
    · subst h0
      go_wp2_with fail
      go_meet
      case rel => exact ⟨0, rfl, Lib.hid (fun h => absurd rfl h), Keeps.refl _ _⟩
    · have n1 : (n : Int) ≠ 0 := by omega
      have n2 : (0 : Int) < (n : Int) := by omega
      have n3 : (n : Int) ≤ 40 := by omega
      obtain ⟨p, hpn, hp⟩ := idx8 m (show 0 < n by omega)
      have HP := Lib.hid hp
      have HPN := Lib.hid hpn
      clear hp hpn
      go_upto_region 3 with (fail)
      go_region_held3 (fun w' => w'.cell? ⟨lr, 5, none⟩ = some (.int .i64 m) ∧ w'.cell? ⟨u.xb, 2, none⟩ = some (.slice u.a n u.c)) (go_keep) (fail)
      have x2d : WA.drew.cell? ⟨u.xb, 2, none⟩ = some (.slice u.a n u.c) := x2
      obtain ⟨tm, htm⟩ := ex_hid (m.tmod n)
      have hp := HP.out
      rw [← htm.out] at hp
      by_cases ht : tm < 0
      · rw [if_pos ht] at hp
        go_upto_if 36 with (fail)
        rw [← htm.out]
        go_wp2_with fail
        go_meet
        case rel => exact ⟨p, by rw [← hp], Lib.hid (fun _ => HPN.out), (Keeps.refl [] WA).drew⟩
      · rw [if_neg ht] at hp
        subst hp
        go_upto_if 36 with (fail)
        rw [← htm.out]
        go_wp2_with fail
        go_meet
        case rel => exact ⟨p, rfl, Lib.hid (fun _ => HPN.out), (Keeps.refl [] WA).drew⟩
  case rest =>
    obtain ⟨p, rfl, hpn, kc⟩ := hcut
    have p0 : (0 : Int) ≤ (p : Int) := by omega
    have J := Lib.hid (HH.out.kept (KB.out.trans kc) (by simp))
    have V := Lib.hid (show Mv Tag.own o w o wc from Mv.of_keeps (KB.out.trans kc) (by simp))
    have BC := Lib.hid (show wc.heap[lr]? = some (step8O 5 gl hs ky vl m nn sm) from kc.has BS.out (by simp))
    have RC := Lib.hid (show wc.heap[u.xb]? = some (two8O xD.db yD.db (.slice u.a n u.c) (.slice u.a' n u.c')) from (KB.out.trans kc).has R1.out (by simp))
    have bc := BC.out
    have rc := RC.out
    unfold step8O at bc
    unfold two8O at rc
    have s0 : wc.cell? ⟨lr, 0, none⟩ = some (.int .i64 5) := cell_has bc (i := 0) rfl
    clear kc x2 s5
    go_upto_region 7 with (fail)
    have x0 : wc.cell? ⟨u.xb, 0, none⟩ = some (.pointer (some ⟨xD.db, 0, none⟩)) := cell_has rc (i := 0) rfl
    have x1 : wc.cell? ⟨u.xb, 1, none⟩ = some (.pointer (some ⟨yD.db, 0, none⟩)) := cell_has rc (i := 1) rfl
    obtain ⟨d1, d2, d3, d4⟩ := J.out.g.p.dc _ _ HXD.out.1
    have m80 := J.out.m80
    have en := endN_le M
    clear bc rc
    go_wp2_with fail
    refine (dclear_any (N + endN M) (by omega) xD.db xD.t xD.lo xD.S m1 c xD.d wc d1 J.out.g.p.ct d4 d2).mono ?_
    rintro r w1 ⟨S1, rfl, a1, a2, k1, g1⟩
    obtain ⟨o1, p1, v1, f1, u1⟩ := J.out.g.p.dict J.out.g.fr HXD.out.1 a1 a2 k1 g1 (by have := d2.clr8; exact this) (fun q hq => hq.clr8)
    have G1 := Lib.hid (J.out.g.gop p1 v1 f1 u1 (HeadD.set HXD.out.1 rfl) (HeadM.refl _))
    have V1 := Lib.hid (V.out.trans (v1.mono (fun t ht => Tag.own_side ht true)))
    have x1' : w1.cell? ⟨u.xb, 1, none⟩ = some (.pointer (some ⟨yD.db, 0, none⟩)) := by
      obtain ⟨x', y', e1, e2, e3⟩ := (G1.out.tw k u HTK.out).row
      rw [HXD.out.2] at e2; cases e2
      unfold two8O at e3
      exact cell_has e3 (i := 1) rfl
    clear d1 d2 d3 d4 a1 a2 k1 g1 p1 v1 f1 u1 x0 x1
    go_wp2_with fail
    obtain ⟨d1, d2, d3, d4⟩ := G1.out.r.dc _ _ HXD.out.2
    have enl := endN_le L
    have ll : L.length = M.length := J.out.a.len.2.symm
    refine (rclear8_any (N + endN L) (by omega) yD.db yD.t yD.lo yD.S m2 c yD.d w1 d1 G1.out.r.ct d4 d2).mono ?_
    rintro r w2 ⟨S2, rfl, a1, a2, k1, g1⟩
    obtain ⟨o2, p2, v2, f2, u2⟩ := G1.out.r.dict G1.out.fr HXD.out.2 a1 a2 k1 g1 (by have := d2.clr8; exact this) (fun q hq => hq.clr8)
    have G2 := Lib.hid (G1.out.gor p2 v2 f2 u2 (HeadD.set HXD.out.2 rfl) (HeadM.refl _))
    have V2 := Lib.hid (V1.out.trans (v2.mono (fun t ht => Tag.own_side ht false)))
    clear d1 d2 d3 d4 a1 a2 k1 g1 p2 v2 f2 u2 x1' m80 en enl ll
    go_wp2_with fail
    go_ret
    have ed := J.out.a.d HXD.out.1 HXD.out.2
    exact ⟨_, o2, T, _, _, _, _, rfl, ⟨G2.out.mono (Nat.le_refl _) (Nat.le_refl _) (by omega) (by omega), J.out.a.setD (by show yD.d.clr = xD.d.clr; rw [ed]), J.out.n, J.out.t⟩, V2.out, SameTwos.refl T⟩
end Go.Proofs.YtcakdmapnmneoaaGreat
