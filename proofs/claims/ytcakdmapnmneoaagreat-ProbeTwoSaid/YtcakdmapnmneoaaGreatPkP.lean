/- Chapter 8's Two.does: a Copy, a Tell. Printed by mk_does8.py. Chapter 8's Two.does: Steps and Tells. Printed by mk_does8.py. Dictionaries and machines that are none (chapter 8). Chapter 8's Two.does: a Begin. Printed by mk_does8.py. Every call of chapter 8's Two; the state at the beginning. A slice of structs whose fields are ints and bools, as it came in. A script on both dictionaries: chapter 8's plays. -/
import Derived.Test.YtcakdmapnmneoaaGreatPrF
import Derived.Test.YtcakdmapnmneoaaGreatRefI
import Derived.Test.YtcakdmapnmneoaaGreatDictO
import Derived.Test.YtcakdmapnmneoaaGreatDictN
import Derived.Test.YtcakdmapnmneoaaGreatB6
import Derived.Test.YtcakdmapnmneoaaGreatPrE
import Derived.Test.YtcakdmapnmneoaaGreatPrG
import Derived.Test.YtcakdmapnmneoaaGreatPrH
import Derived.Test.YtcakdmapnmneoaaGreatRefJ
import Derived.Test.YtcakdmapnmneoaaGreatB1
section
namespace Go.Proofs.YtcakdmapnmneoaaGreat
open Go.RowKit
set_option linter.unusedVariables false
set_option linter.unusedSimpArgs false

theorem pq_false {t : Tag} {k : Nat} (h : (t.side true || t.side false || t == .two k) = false) : t.side true = false ∧ t.side false = false ∧ (t == .two k) = false := by
  cases h1 : t.side true <;> cases h2 : t.side false <;> cases h3 : (t == .two k) <;> simp_all
set_option maxRecDepth 100000 in
set_option maxHeartbeats 16000000 in
theorem does8_copy {B : Nat} {m1 m2 : Option Nat} {c : C4} {N Z : Nat} {o : Nat → Tag} {T : List Tw8} {D E : List PD} {M L : List PM} {w : World} (H : J8 B m1 m2 c N Z o T D E M L w) (hN : N ≤ 899) (hZ : Z ≤ 800000) {k : Nat} {u : Tw8} (hk : T[k]? = some u)  (gl hs ky vl m nn : Int) (sm : Bool) :
    Calls Tryz.prog 15 #[.pointer (some ⟨u.xb, 0, none⟩), step8A 8 gl hs ky vl m nn sm] w (Does8P B m1 m2 N Z o T w) := by
  obtain ⟨lr, hlr⟩ : ∃ lr, lr = w.heap.size := ⟨_, rfl⟩
  obtain ⟨WA, hWA⟩ : ∃ WA, w.alloc (.cells #[.int .i64 8, .int .i64 gl, .int .i64 hs, .int .i64 ky, .int .i64 vl, .int .i64 m, .int .i64 nn, .bool sm] 53) = WA := ⟨_, rfl⟩
  have kb : Keeps [] w WA := by rw [← hWA]; exact (Keeps.refl [] w).alloc _
  have bs : WA.heap[lr]? = some (step8O 8 gl hs ky vl m nn sm) := by rw [← hWA, hlr]; exact has_new _ _
  have OL := Lib.hid (show o lr = .free from H.g.fr lr (by omega))
  have M40 := Lib.hid (H.g.tw k u hk).m40
  have BS := Lib.hid bs
  have KB := Lib.hid kb
  have HH := Lib.hid H
  have HWA := Lib.hid hWA
  have HLR := Lib.hid hlr
  have HTK := Lib.hid hk
  obtain ⟨xD, yD, hxD, hyD, r1⟩ := (H.g.tw k u hk).row
  have HXD := Lib.hid (And.intro hxD hyD)
  obtain ⟨n, hn⟩ := ex_hid u.ms.length
  have n40 : n ≤ 40 := by rw [hn.out]; exact M40.out
  rw [← hn.out] at r1
  have R1 := Lib.hid r1
  have r1 := kb.has r1 (by simp)
  unfold two8O at r1
  unfold step8O at bs
  have x2 : WA.cell? ⟨u.xb, 2, none⟩ = some (.slice u.a n u.c) := cell_has r1 (i := 2) rfl
  have s5 : WA.cell? ⟨lr, 5, none⟩ = some (.int .i64 m) := cell_has bs (i := 5) rfl
  obtain ⟨lt, hlt⟩ : ∃ lt : Bool, Hid (lt = decide ((0 : Int) < (n : Int))) := ⟨_, Lib.hid rfl⟩
  clear H hk hlr hWA kb bs r1 hxD hyD
  unfold step8A
  go_enter Tryz.func15, Tryz.ntmps15
  go_upto_region 1 with (fail)
  rw [HWA.out, ← HLR.out]
  go_upto_if 26 with (fail)
  go_cut [5] from 21 to 43 (fun z5 wx => ∃ p : Nat, z5 = .int .i64 p ∧ Hid (n ≠ 0 → p < n) ∧ Keeps [] WA wx)
  case first =>
    by_cases h0 : n = 0
    · subst h0
      go_wp2_with fail
      go_meet
      case rel => exact ⟨0, rfl, Lib.hid (fun h => absurd rfl h), Keeps.refl _ _⟩
    · have n1 : (n : Int) ≠ 0 := by omega
      have n2 : (0 : Int) < (n : Int) := by omega
      have n3 : (n : Int) ≤ 40 := by omega
      obtain ⟨p, hpn, hp⟩ := idx8 m (show 0 < n by omega)
      have HP := Lib.hid hp
      have HPN := Lib.hid hpn
      clear hp hpn
      go_upto_region 3 with (fail)
      go_region_held3 (fun w' => w'.cell? ⟨lr, 5, none⟩ = some (.int .i64 m) ∧ w'.cell? ⟨u.xb, 2, none⟩ = some (.slice u.a n u.c)) (go_keep) (fail)
      have x2d : WA.drew.cell? ⟨u.xb, 2, none⟩ = some (.slice u.a n u.c) := x2
      obtain ⟨tm, htm⟩ := ex_hid (m.tmod n)
      have hp := HP.out
      rw [← htm.out] at hp
      by_cases ht : tm < 0
      · rw [if_pos ht] at hp
        go_upto_if 36 with (fail)
        rw [← htm.out]
        go_wp2_with fail
        go_meet
        case rel => exact ⟨p, by rw [← hp], Lib.hid (fun _ => HPN.out), (Keeps.refl [] WA).drew⟩
      · rw [if_neg ht] at hp
        subst hp
        go_upto_if 36 with (fail)
        rw [← htm.out]
        go_wp2_with fail
        go_meet
        case rel => exact ⟨p, rfl, Lib.hid (fun _ => HPN.out), (Keeps.refl [] WA).drew⟩
  case rest =>
    obtain ⟨p, rfl, hpn, kc⟩ := hcut
    have p0 : (0 : Int) ≤ (p : Int) := by omega
    have J := Lib.hid (HH.out.kept (KB.out.trans kc) (by simp))
    have V := Lib.hid (show Mv Tag.own o w o wc from Mv.of_keeps (KB.out.trans kc) (by simp))
    have BC := Lib.hid (show wc.heap[lr]? = some (step8O 8 gl hs ky vl m nn sm) from kc.has BS.out (by simp))
    have RC := Lib.hid (show wc.heap[u.xb]? = some (two8O xD.db yD.db (.slice u.a n u.c) (.slice u.a' n u.c')) from (KB.out.trans kc).has R1.out (by simp))
    have bc := BC.out
    have rc := RC.out
    unfold step8O at bc
    unfold two8O at rc
    have s0 : wc.cell? ⟨lr, 0, none⟩ = some (.int .i64 8) := cell_has bc (i := 0) rfl
    clear kc x2 s5
    go_upto_region 7 with (fail)
    have x0 : wc.cell? ⟨u.xb, 0, none⟩ = some (.pointer (some ⟨xD.db, 0, none⟩)) := cell_has rc (i := 0) rfl
    obtain ⟨d1, d2, d3, d4⟩ := J.out.g.p.dc _ _ HXD.out.1
    have m80 := J.out.m80
    have en := endN_le M
    have TK := Lib.hid (J.out.g.tw k u HTK.out)
    clear bc rc
    go_wp2_with fail
    refine (dcopy_any (N + endN M) (by omega) xD.db xD.t xD.lo xD.S m1 c xD.d wc d1 J.out.g.p.ct d4 d2).mono ?_
    rintro r w1 ⟨db2, t2, S2, rfl, a1, a2, k1⟩
    obtain ⟨o1, p1, v1, f1, u1⟩ := J.out.g.p.copy J.out.g.fr a1 (Nat.le_refl _) a2 k1 (d2.cpy8 (by omega))
    have P1 := Lib.hid p1
    have V1 := Lib.hid v1
    have F1 := Lib.hid f1
    have U1 := Lib.hid u1
    have O1 := Lib.hid (show o1 u.xb = .two k from (v1.old _ TK.out.lt.1).trans TK.out.ox)
    have R1 := Lib.hid (show w1.heap[u.xb]? = some (two8O xD.db yD.db (.slice u.a n u.c) (.slice u.a' n u.c')) from (v1.blk _ TK.out.lt.1 (by rw [TK.out.ox]; rfl)).trans RC.out)
    have r1 := R1.out
    unfold two8O at r1
    have x0' : w1.cell? ⟨u.xb, 0, none⟩ = some (.pointer (some ⟨xD.db, 0, none⟩)) := cell_has r1 (i := 0) rfl
    have fz := free_of_has r1 0
    clear d1 d2 d3 d4 a1 a2 k1 p1 v1 f1 u1 x0 r1
    go_upto_region 41 with (fail)
    refine wp_gen (fun V => V.heap[u.xb]? = some (two8O db2 yD.db (.slice u.a n u.c) (.slice u.a' n u.c')) ∧ Keeps [u.xb] w1 V) ⟨(two8_set R1.out).1 db2, (two8_set R1.out).2.2.2.2 0 _⟩ ?_
    rintro w2 ⟨b2, k2⟩
    have q2 : Mv (fun t => t == .two k) o1 w1 o1 w2 := Mv.of_keeps k2 (fun z hz => by simp only [List.mem_singleton] at hz; subst hz; rw [O1.out]; simp)
    have Q2 := Lib.hid q2
    have B2 := Lib.hid b2
    have F2 := Lib.hid (show FreeUp o1 w2 from fun z hz => F1.out z (by have := k2.size; omega))
    have SR := Lib.hid ((J.out.g.r.mv V1.out (fun t ht => Tag.side_other (s := false) ht)).mv q2 (fun t ht => by cases t <;> simp_all [Tag.side]))
    have r1 := b2
    unfold two8O at r1
    have x1 : w2.cell? ⟨u.xb, 1, none⟩ = some (.pointer (some ⟨yD.db, 0, none⟩)) := cell_has r1 (i := 1) rfl
    obtain ⟨d1, d2, d3, d4⟩ := SR.out.dc _ _ HXD.out.2
    have enl := endN_le L
    have ll : L.length = M.length := J.out.a.len.2.symm
    clear b2 k2 q2 r1 x0' fz
    go_wp2_with fail
    refine (rdcopy_any (N + endN L) (by omega) yD.db yD.t yD.lo yD.S m2 c yD.d w2 d1 SR.out.ct d4 d2).mono ?_
    rintro r w3 ⟨db3, t3, S3, rfl, a1, a2, k1⟩
    obtain ⟨o3, p3, v3, f3, u3⟩ := SR.out.copy F2.out a1 (Nat.le_refl _) a2 k1 (d2.cpy8 (by omega))
    have P3 := Lib.hid p3
    have V3 := Lib.hid v3
    have F3 := Lib.hid f3
    have U3 := Lib.hid u3
    have O3 := Lib.hid (show o3 u.xb = .two k from (v3.old _ (lt_of_block B2.out)).trans O1.out)
    have R3 := Lib.hid (show w3.heap[u.xb]? = some (two8O db2 yD.db (.slice u.a n u.c) (.slice u.a' n u.c')) from (v3.blk _ (lt_of_block B2.out) (by rw [O1.out]; rfl)).trans B2.out)
    have r1 := R3.out
    unfold two8O at r1
    have x1' : w3.cell? ⟨u.xb, 1, none⟩ = some (.pointer (some ⟨yD.db, 0, none⟩)) := cell_has r1 (i := 1) rfl
    have fz := free_of_has r1 1
    clear d1 d2 d3 d4 a1 a2 k1 p3 v3 f3 u3 x1 r1
    go_upto_region 42 with (fail)
    refine wp_gen (fun V => V.heap[u.xb]? = some (two8O db2 db3 (.slice u.a n u.c) (.slice u.a' n u.c')) ∧ Keeps [u.xb] w3 V) ⟨(two8_set R3.out).2.1 db3, (two8_set R3.out).2.2.2.2 1 _⟩ ?_
    rintro w4 ⟨b4, k4⟩
    have q4 : Mv (fun t => t == .two k) o3 w3 o3 w4 := Mv.of_keeps k4 (fun z hz => by simp only [List.mem_singleton] at hz; subst hz; rw [O3.out]; simp)
    have Q4 := Lib.hid q4
    have B4 := Lib.hid b4
    have F4 := Lib.hid (show FreeUp o3 w4 from fun z hz => F3.out z (by have := k4.size; omega))
    have r1 := b4
    unfold two8O at r1
    have x0 : w4.cell? ⟨u.xb, 0, none⟩ = some (.pointer (some ⟨db2, 0, none⟩)) := cell_has r1 (i := 0) rfl
    clear b4 k4 q4 r1 x1' fz m80 en enl ll
    go_wp2_with fail
    go_ret
    have PP := ((P1.out.mv Q2.out (fun t ht => by cases t <;> simp_all [sideP, Tag.side])).mv V3.out (fun t ht => Tag.side_other (s := true) ht)).mv Q4.out (fun t ht => by cases t <;> simp_all [sideP, Tag.side])
    have RR := P3.out.mv Q4.out (fun t ht => by cases t <;> simp_all [sideR, Tag.side])
    have QQ : Mv (fun t => t.side true || t.side false || t == .two k) o wc o3 w4 :=
      (((V1.out.mono (fun t ht => (pq_false ht).1)).trans (Q2.out.mono (fun t ht => (pq_false ht).2.2))).trans (V3.out.mono (fun t ht => (pq_false ht).2.1))).trans (Q4.out.mono (fun t ht => (pq_false ht).2.2))
    have len := J.out.a.len
    have ED := J.out.a.d HXD.out.1 HXD.out.2
    refine ⟨_, o3, T.set k { u with cur := D.length }, D ++ [⟨db2, t2, wc.heap.size, S2, xD.d.cpy⟩], E ++ [⟨db3, t3, w2.heap.size, S3, yD.d.cpy⟩], M, L, rfl, ⟨⟨F4.out, ?_, Nat.le_trans J.out.g.bw QQ.size, PP.mono (by omega) (by omega), RR.mono (by omega) (by omega), ?_⟩, J.out.a.appD (by show yD.d.cpy = xD.d.cpy; rw [ED]), ?_, by rw [List.length_set]; exact J.out.t⟩, ?_, SameTwos.set HTK.out rfl⟩
    · intro z hz
      have s2 := V1.out.size
      have s3 := Q2.out.size
      rcases U3.out z hz with h | h
      · rcases U1.out z h with h | h
        · exact J.out.g.lo z h
        · have := J.out.g.bw; omega
      · have := J.out.g.bw; omega
    · intro k2 u2 hk2
      rcases set_get HTK.out hk2 with ⟨rfl, rfl⟩ | ⟨hne, h9⟩
      · refine TK.out.next QQ (by simp [Tag.side]) (by simp [Tag.side]) D.length ⟨⟨db2, t2, wc.heap.size, S2, xD.d.cpy⟩, ⟨db3, t3, w2.heap.size, S3, yD.d.cpy⟩, by simp, by rw [len.1]; simp, ?_⟩ (HeadM.refl _) (HeadM.refl _)
        rw [← hn.out]; exact B4.out
      · have hn2 : k2 ≠ k := fun e => hne e.symm
        exact (J.out.g.tw k2 u2 h9).mv QQ (fun t ht => by rcases ht with rfl | rfl | rfl <;> simp [Tag.side, hn2]) (HeadD.app _ _) (HeadD.app _ _) (HeadM.refl _) (HeadM.refl _)
    · have h9 := msum_set (u' := { u with cur := D.length }) HTK.out
      have h8 := J.out.n
      have h7 : ({ u with cur := D.length } : Tw8).ms.length = u.ms.length := rfl
      omega
    · exact V.out.trans (QQ.mono (fun t ht => by rw [Tag.own_free ht]; rfl))
set_option maxRecDepth 100000 in
set_option maxHeartbeats 16000000 in
theorem does8_tell {B : Nat} {m1 m2 : Option Nat} {c : C4} {N Z : Nat} {o : Nat → Tag} {T : List Tw8} {D E : List PD} {M L : List PM} {w : World} (H : J8 B m1 m2 c N Z o T D E M L w) (hN : N ≤ 899) (hZ : Z ≤ 800000) {k : Nat} {u : Tw8} (hk : T[k]? = some u)  (gl hs ky vl m nn : Int) (sm : Bool) :
    Calls Tryz.prog 15 #[.pointer (some ⟨u.xb, 0, none⟩), step8A 3 gl hs ky vl m nn sm] w (Does8P B m1 m2 N Z o T w) := by
  obtain ⟨lr, hlr⟩ : ∃ lr, lr = w.heap.size := ⟨_, rfl⟩
  obtain ⟨WA, hWA⟩ : ∃ WA, w.alloc (.cells #[.int .i64 3, .int .i64 gl, .int .i64 hs, .int .i64 ky, .int .i64 vl, .int .i64 m, .int .i64 nn, .bool sm] 53) = WA := ⟨_, rfl⟩
  have kb : Keeps [] w WA := by rw [← hWA]; exact (Keeps.refl [] w).alloc _
  have bs : WA.heap[lr]? = some (step8O 3 gl hs ky vl m nn sm) := by rw [← hWA, hlr]; exact has_new _ _
  have OL := Lib.hid (show o lr = .free from H.g.fr lr (by omega))
  have M40 := Lib.hid (H.g.tw k u hk).m40
  have BS := Lib.hid bs
  have KB := Lib.hid kb
  have HH := Lib.hid H
  have HWA := Lib.hid hWA
  have HLR := Lib.hid hlr
  have HTK := Lib.hid hk
  obtain ⟨xD, yD, hxD, hyD, r1⟩ := (H.g.tw k u hk).row
  have HXD := Lib.hid (And.intro hxD hyD)
  obtain ⟨n, hn⟩ := ex_hid u.ms.length
  have n40 : n ≤ 40 := by rw [hn.out]; exact M40.out
  rw [← hn.out] at r1
  have R1 := Lib.hid r1
  have r1 := kb.has r1 (by simp)
  unfold two8O at r1
  unfold step8O at bs
  have x2 : WA.cell? ⟨u.xb, 2, none⟩ = some (.slice u.a n u.c) := cell_has r1 (i := 2) rfl
  have s5 : WA.cell? ⟨lr, 5, none⟩ = some (.int .i64 m) := cell_has bs (i := 5) rfl
  obtain ⟨lt, hlt⟩ : ∃ lt : Bool, Hid (lt = decide ((0 : Int) < (n : Int))) := ⟨_, Lib.hid rfl⟩
  clear H hk hlr hWA kb bs r1 hxD hyD
  unfold step8A
  go_enter Tryz.func15, Tryz.ntmps15
  go_upto_region 1 with (fail)
  rw [HWA.out, ← HLR.out]
  go_upto_if 26 with (fail)
  go_cut [5] from 21 to 43 (fun z5 wx => ∃ p : Nat, z5 = .int .i64 p ∧ Hid (n ≠ 0 → p < n) ∧ Keeps [] WA wx)
  case first =>
    by_cases h0 : n = 0
    · subst h0
      go_wp2_with fail
      go_meet
      case rel => exact ⟨0, rfl, Lib.hid (fun h => absurd rfl h), Keeps.refl _ _⟩
    · have n1 : (n : Int) ≠ 0 := by omega
      have n2 : (0 : Int) < (n : Int) := by omega
      have n3 : (n : Int) ≤ 40 := by omega
      obtain ⟨p, hpn, hp⟩ := idx8 m (show 0 < n by omega)
      have HP := Lib.hid hp
      have HPN := Lib.hid hpn
      clear hp hpn
      go_upto_region 3 with (fail)
      go_region_held3 (fun w' => w'.cell? ⟨lr, 5, none⟩ = some (.int .i64 m) ∧ w'.cell? ⟨u.xb, 2, none⟩ = some (.slice u.a n u.c)) (go_keep) (fail)
      have x2d : WA.drew.cell? ⟨u.xb, 2, none⟩ = some (.slice u.a n u.c) := x2
      obtain ⟨tm, htm⟩ := ex_hid (m.tmod n)
      have hp := HP.out
      rw [← htm.out] at hp
      by_cases ht : tm < 0
      · rw [if_pos ht] at hp
        go_upto_if 36 with (fail)
        rw [← htm.out]
        go_wp2_with fail
        go_meet
        case rel => exact ⟨p, by rw [← hp], Lib.hid (fun _ => HPN.out), (Keeps.refl [] WA).drew⟩
      · rw [if_neg ht] at hp
        subst hp
        go_upto_if 36 with (fail)
        rw [← htm.out]
        go_wp2_with fail
        go_meet
        case rel => exact ⟨p, rfl, Lib.hid (fun _ => HPN.out), (Keeps.refl [] WA).drew⟩
  case rest =>
    obtain ⟨p, rfl, hpn, kc⟩ := hcut
    have p0 : (0 : Int) ≤ (p : Int) := by omega
    have J := Lib.hid (HH.out.kept (KB.out.trans kc) (by simp))
    have V := Lib.hid (show Mv Tag.own o w o wc from Mv.of_keeps (KB.out.trans kc) (by simp))
    have BC := Lib.hid (show wc.heap[lr]? = some (step8O 3 gl hs ky vl m nn sm) from kc.has BS.out (by simp))
    have RC := Lib.hid (show wc.heap[u.xb]? = some (two8O xD.db yD.db (.slice u.a n u.c) (.slice u.a' n u.c')) from (KB.out.trans kc).has R1.out (by simp))
    have bc := BC.out
    have rc := RC.out
    unfold step8O at bc
    unfold two8O at rc
    have s0 : wc.cell? ⟨lr, 0, none⟩ = some (.int .i64 3) := cell_has bc (i := 0) rfl
    clear kc x2 s5
    go_upto_region 7 with (fail)
    have x2 : wc.cell? ⟨u.xb, 2, none⟩ = some (.slice u.a n u.c) := cell_has rc (i := 2) rfl
    by_cases h0 : n = 0
    · subst h0
      have e0 : ((((0 : Nat) : Int)) == 0) = true := by simp
      clear bc rc
      go_upto_region 20 with (fail)
      refine wp_regionG (fun w' => w'.cell? ⟨u.xb, 2, none⟩ = some (.slice u.a 0 u.c)) 30 (by kernel_rfl) x2 (fun hF => ?_)
      refine wpAnyG_takeY (i := 0) (v := ?_) rfl (by kernel_rfl) (by decide +kernel) (by decide +kernel) (by decide +kernel) (fun _ _ _ h => h) (by kernel_rfl) ?_ (by assumption) ?_
      rotate_left
      · (intro wz; go_simp; with_reducible rfl)
      try simp only [Act.put, List.setIfInBounds_toArray, List.set_cons_zero, List.set_cons_succ]
      refine wpAnyG_takeY (i := 1) (v := ?_) rfl (by kernel_rfl) (by decide +kernel) (by decide +kernel) (by decide +kernel) (fun _ _ _ h => h) (by kernel_rfl) ?_ (by assumption) ?_
      rotate_left
      · (intro wz; go_simp; with_reducible rfl)
      try simp only [Act.put, List.setIfInBounds_toArray, List.set_cons_zero, List.set_cons_succ]
      refine wpAnyG_takeY (i := 2) (v := ?_) rfl (by kernel_rfl) (by decide +kernel) (by decide +kernel) (by decide +kernel) (fun _ _ _ h => h) (by kernel_rfl) ?_ (by assumption) ?_
      rotate_left
      · (intro wz; go_simp; with_reducible rfl)
      try simp only [Act.put, List.setIfInBounds_toArray, List.set_cons_zero, List.set_cons_succ]
      refine wpAnyG_take (i := 3) (v := ?_) rfl (by kernel_rfl) (by decide +kernel) (by decide +kernel) (by decide +kernel) (by decide +kernel) (by rfl) (fun _ _ _ h => h) (by kernel_rfl) ?_ (by assumption) ?_
      rotate_left
      · (intro wz hSw; (try dsimp only at hSw); go_simp; with_reducible rfl)
      try simp only [Act.put, List.setIfInBounds_toArray, List.set_cons_zero, List.set_cons_succ]
      refine wpAnyG_takeY (i := 4) (v := ?_) rfl (by kernel_rfl) (by decide +kernel) (by decide +kernel) (by decide +kernel) (fun _ _ _ h => h) (by kernel_rfl) ?_ (by assumption) ?_
      rotate_left
      · (intro wz; go_simp; with_reducible rfl)
      try simp only [Act.put, List.setIfInBounds_toArray, List.set_cons_zero, List.set_cons_succ]
      refine wpAnyG_takeY (i := 5) (v := ?_) rfl (by kernel_rfl) (by decide +kernel) (by decide +kernel) (by decide +kernel) (fun _ _ _ h => h) (by kernel_rfl) ?_ (by assumption) ?_
      rotate_left
      · (intro wz; go_simp; with_reducible rfl)
      try simp only [Act.put, List.setIfInBounds_toArray, List.set_cons_zero, List.set_cons_succ]
      refine wpAnyG_takeY (i := 6) (v := ?_) rfl (by kernel_rfl) (by decide +kernel) (by decide +kernel) (by decide +kernel) (fun _ _ _ h => h) (by kernel_rfl) ?_ (by assumption) ?_
      rotate_left
      · (intro wz; go_simp; with_reducible rfl)
      try simp only [Act.put, List.setIfInBounds_toArray, List.set_cons_zero, List.set_cons_succ]
      refine wpAnyG_takeU (i := 7) rfl (by kernel_rfl) (by decide +kernel) (by decide +kernel) (by decide +kernel) (fun _ _ _ h => h) (by kernel_rfl) (by assumption) ?_
      try simp only [Act.put, List.setIfInBounds_toArray, List.set_cons_zero, List.set_cons_succ]
      refine wpAnyG_takeU (i := 8) rfl (by kernel_rfl) (by decide +kernel) (by decide +kernel) (by decide +kernel) (fun _ _ _ h => h) (by kernel_rfl) (by assumption) ?_
      try simp only [Act.put, List.setIfInBounds_toArray, List.set_cons_zero, List.set_cons_succ]
      refine wpAnyG_takeU (i := 9) rfl (by kernel_rfl) (by decide +kernel) (by decide +kernel) (by decide +kernel) (fun _ _ _ h => h) (by kernel_rfl) (by assumption) ?_
      try simp only [Act.put, List.setIfInBounds_toArray, List.set_cons_zero, List.set_cons_succ]
      refine wpAnyG_takeU (i := 10) rfl (by kernel_rfl) (by decide +kernel) (by decide +kernel) (by decide +kernel) (fun _ _ _ h => h) (by kernel_rfl) (by assumption) ?_
      try simp only [Act.put, List.setIfInBounds_toArray, List.set_cons_zero, List.set_cons_succ]
      refine wpAnyG_takeU (i := 11) rfl (by kernel_rfl) (by decide +kernel) (by decide +kernel) (by decide +kernel) (fun _ _ _ h => h) (by kernel_rfl) (by assumption) ?_
      try simp only [Act.put, List.setIfInBounds_toArray, List.set_cons_zero, List.set_cons_succ]
      refine wpAnyG_takeU (i := 12) rfl (by kernel_rfl) (by decide +kernel) (by decide +kernel) (by decide +kernel) (fun _ _ _ h => h) (by kernel_rfl) (by assumption) ?_
      try simp only [Act.put, List.setIfInBounds_toArray, List.set_cons_zero, List.set_cons_succ]
      refine wpAnyG_takeU (i := 13) rfl (by kernel_rfl) (by decide +kernel) (by decide +kernel) (by decide +kernel) (fun _ _ _ h => h) (by kernel_rfl) (by assumption) ?_
      try simp only [Act.put, List.setIfInBounds_toArray, List.set_cons_zero, List.set_cons_succ]
      refine wpAnyG_takeU (i := 14) rfl (by kernel_rfl) (by decide +kernel) (by decide +kernel) (by decide +kernel) (fun _ _ _ h => h) (by kernel_rfl) (by assumption) ?_
      try simp only [Act.put, List.setIfInBounds_toArray, List.set_cons_zero, List.set_cons_succ]
      refine wpAnyG_takeU (i := 15) rfl (by kernel_rfl) (by decide +kernel) (by decide +kernel) (by decide +kernel) (fun _ _ _ h => h) (by kernel_rfl) (by assumption) ?_
      try simp only [Act.put, List.setIfInBounds_toArray, List.set_cons_zero, List.set_cons_succ]
      refine wpAnyG_takeU (i := 16) rfl (by kernel_rfl) (by decide +kernel) (by decide +kernel) (by decide +kernel) (fun _ _ _ h => h) (by kernel_rfl) (by assumption) ?_
      try simp only [Act.put, List.setIfInBounds_toArray, List.set_cons_zero, List.set_cons_succ]
      refine wpAnyG_takeU (i := 17) rfl (by kernel_rfl) (by decide +kernel) (by decide +kernel) (by decide +kernel) (fun _ _ _ h => h) (by kernel_rfl) (by assumption) ?_
      try simp only [Act.put, List.setIfInBounds_toArray, List.set_cons_zero, List.set_cons_succ]
      refine wpAnyG_takeU (i := 18) rfl (by kernel_rfl) (by decide +kernel) (by decide +kernel) (by decide +kernel) (fun _ _ _ h => h) (by kernel_rfl) (by assumption) ?_
      try simp only [Act.put, List.setIfInBounds_toArray, List.set_cons_zero, List.set_cons_succ]
      refine wpAnyG_takeU (i := 19) rfl (by kernel_rfl) (by decide +kernel) (by decide +kernel) (by decide +kernel) (fun _ _ _ h => h) (by kernel_rfl) (by assumption) ?_
      try simp only [Act.put, List.setIfInBounds_toArray, List.set_cons_zero, List.set_cons_succ]
      refine wpAnyG_takeU (i := 20) rfl (by kernel_rfl) (by decide +kernel) (by decide +kernel) (by decide +kernel) (fun _ _ _ h => h) (by kernel_rfl) (by assumption) ?_
      try simp only [Act.put, List.setIfInBounds_toArray, List.set_cons_zero, List.set_cons_succ]
      refine wpAnyG_takeU (i := 21) rfl (by kernel_rfl) (by decide +kernel) (by decide +kernel) (by decide +kernel) (fun _ _ _ h => h) (by kernel_rfl) (by assumption) ?_
      try simp only [Act.put, List.setIfInBounds_toArray, List.set_cons_zero, List.set_cons_succ]
      refine wpAnyG_takeU (i := 22) rfl (by kernel_rfl) (by decide +kernel) (by decide +kernel) (by decide +kernel) (fun _ _ _ h => h) (by kernel_rfl) (by assumption) ?_
      try simp only [Act.put, List.setIfInBounds_toArray, List.set_cons_zero, List.set_cons_succ]
      refine wpAnyG_takeU (i := 23) rfl (by kernel_rfl) (by decide +kernel) (by decide +kernel) (by decide +kernel) (fun _ _ _ h => h) (by kernel_rfl) (by assumption) ?_
      try simp only [Act.put, List.setIfInBounds_toArray, List.set_cons_zero, List.set_cons_succ]
      refine wpAnyG_takeU (i := 24) rfl (by kernel_rfl) (by decide +kernel) (by decide +kernel) (by decide +kernel) (fun _ _ _ h => h) (by kernel_rfl) (by assumption) ?_
      try simp only [Act.put, List.setIfInBounds_toArray, List.set_cons_zero, List.set_cons_succ]
      refine wpAnyG_takeU (i := 25) rfl (by kernel_rfl) (by decide +kernel) (by decide +kernel) (by decide +kernel) (fun _ _ _ h => h) (by kernel_rfl) (by assumption) ?_
      try simp only [Act.put, List.setIfInBounds_toArray, List.set_cons_zero, List.set_cons_succ]
      refine wpAnyG_takeU (i := 26) rfl (by kernel_rfl) (by decide +kernel) (by decide +kernel) (by decide +kernel) (fun _ _ _ h => h) (by kernel_rfl) (by assumption) ?_
      try simp only [Act.put, List.setIfInBounds_toArray, List.set_cons_zero, List.set_cons_succ]
      refine wpAnyG_takeU (i := 27) rfl (by kernel_rfl) (by decide +kernel) (by decide +kernel) (by decide +kernel) (fun _ _ _ h => h) (by kernel_rfl) (by assumption) ?_
      try simp only [Act.put, List.setIfInBounds_toArray, List.set_cons_zero, List.set_cons_succ]
      refine wpAnyG_takeY (i := 28) (v := ?_) rfl (by kernel_rfl) (by decide +kernel) (by decide +kernel) (by decide +kernel) (fun _ _ _ h => h) (by kernel_rfl) ?_ (by assumption) ?_
      rotate_left
      · (intro wz; go_simp; with_reducible rfl)
      try simp only [Act.put, List.setIfInBounds_toArray, List.set_cons_zero, List.set_cons_succ]
      refine wpAnyG_takeY (i := 29) (v := ?_) rfl (by kernel_rfl) (by decide +kernel) (by decide +kernel) (by decide +kernel) (fun _ _ _ h => h) (by kernel_rfl) ?_ (by assumption) ?_
      rotate_left
      · (intro wz; go_simp; with_reducible rfl)
      try simp only [Act.put, List.setIfInBounds_toArray, List.set_cons_zero, List.set_cons_succ]
      refine wpAnyG_done (by kernel_rfl) ?_ _
      go_simp
      go_wp2_with fail
      go_ret
      exact ⟨c, o, T, D, E, M, L, rfl, (J.out.mono (by omega) (by omega)).kept (Keeps.refl [] wc).drew (by simp), V.out.trans (Mv.of_keeps (Keeps.refl [] wc).drew (by simp)), SameTwos.refl T⟩
    · have e0 : ((n : Int) == 0) = false := by simp; omega
      have hp := hpn.out h0
      have pn : (p : Int) < (n : Int) := by omega
      have JD := Lib.hid (J.out.kept (Keeps.refl [] wc).drew (by simp))
      have VD := Lib.hid (show Mv Tag.own o w o wc.drew from V.out.trans (Mv.of_keeps (Keeps.refl [] wc).drew (by simp)))
      have OLD := Lib.hid OL.out
      have B70 := Lib.hid (show wc.drew.heap[lr]? = some (step8O 3 gl hs ky vl m nn sm) from BC.out)
      have tw := JD.out.g.tw k u HTK.out
      have hp' : p < u.ms.length := by rw [← hn.out]; exact hp
      obtain ⟨g, ha⟩ := tw.pa.shape (by omega)
      obtain ⟨g', ha'⟩ := tw.pb.shape (by omega)
      obtain ⟨it, hit⟩ : ∃ it, u.ms[p]? = some it := ⟨_, List.getElem?_eq_getElem hp'⟩
      obtain ⟨y, y2, hy, hym, hy2, hym2⟩ := tw.mem it (List.mem_of_getElem? hit)
      obtain ⟨x2', x3, z2, z3⟩ := JD.out.g.cells HTK.out ha ha' hit
      have HY := Lib.hid (And.intro hy hy2)
      have HA := Lib.hid (And.intro ha ha')
      rw [← hn.out] at x2' x3
      rw [← hym] at z2
      rw [← hym2] at z3
      have b7 := B70.out
      unfold step8O at b7
      have s7 : wc.drew.cell? ⟨lr, 7, none⟩ = some (.bool sm) := cell_has b7 (i := 7) rfl
      clear hy hy2 hym hym2 hit hp' tw ha ha' b7
      clear bc rc x2 hp h0
      go_upto_region 20 with (fail)
      refine wp_regionG (fun w' => w'.cell? ⟨u.xb, 2, none⟩ = some (.slice (some ⟨g, 0, none⟩) n u.c) ∧ w'.cell? ⟨u.xb, 3, none⟩ = some (.slice (some ⟨g', 0, none⟩) n u.c') ∧ w'.cell? ⟨g, p, none⟩ = some (.pointer (some ⟨y.mb, 0, none⟩)) ∧ w'.cell? ⟨g', p, none⟩ = some (.pointer (some ⟨y2.mb, 0, none⟩)) ∧ w'.cell? ⟨lr, 7, none⟩ = some (.bool sm)) 30 (by kernel_rfl) ⟨x2', x3, z2, z3, s7⟩ (fun hF => ?_)
      refine wpAnyG_takeY (i := 0) (v := ?_) rfl (by kernel_rfl) (by decide +kernel) (by decide +kernel) (by decide +kernel) (fun _ _ _ h => h) (by kernel_rfl) ?_ (by assumption) ?_
      rotate_left
      · (intro wz; go_simp; with_reducible rfl)
      try simp only [Act.put, List.setIfInBounds_toArray, List.set_cons_zero, List.set_cons_succ]
      refine wpAnyG_takeY (i := 1) (v := ?_) rfl (by kernel_rfl) (by decide +kernel) (by decide +kernel) (by decide +kernel) (fun _ _ _ h => h) (by kernel_rfl) ?_ (by assumption) ?_
      rotate_left
      · (intro wz; go_simp; with_reducible rfl)
      try simp only [Act.put, List.setIfInBounds_toArray, List.set_cons_zero, List.set_cons_succ]
      refine wpAnyG_takeY (i := 2) (v := ?_) rfl (by kernel_rfl) (by decide +kernel) (by decide +kernel) (by decide +kernel) (fun _ _ _ h => h) (by kernel_rfl) ?_ (by assumption) ?_
      rotate_left
      · (intro wz; go_simp; with_reducible rfl)
      try simp only [Act.put, List.setIfInBounds_toArray, List.set_cons_zero, List.set_cons_succ]
      refine wpAnyG_take (i := 3) (v := ?_) rfl (by kernel_rfl) (by decide +kernel) (by decide +kernel) (by decide +kernel) (by decide +kernel) (by rfl) (fun _ _ _ h => h) (by kernel_rfl) ?_ (by assumption) ?_
      rotate_left
      · (intro wz hSw; (try dsimp only at hSw); go_simp; with_reducible rfl)
      try simp only [Act.put, List.setIfInBounds_toArray, List.set_cons_zero, List.set_cons_succ]
      refine wpAnyG_takeY (i := 4) (v := ?_) rfl (by kernel_rfl) (by decide +kernel) (by decide +kernel) (by decide +kernel) (fun _ _ _ h => h) (by kernel_rfl) ?_ (by assumption) ?_
      rotate_left
      · (intro wz; go_simp; with_reducible rfl)
      try simp only [Act.put, List.setIfInBounds_toArray, List.set_cons_zero, List.set_cons_succ]
      refine wpAnyG_takeY (i := 5) (v := ?_) rfl (by kernel_rfl) (by decide +kernel) (by decide +kernel) (by decide +kernel) (fun _ _ _ h => h) (by kernel_rfl) ?_ (by assumption) ?_
      rotate_left
      · (intro wz; go_simp; with_reducible rfl)
      try simp only [Act.put, List.setIfInBounds_toArray, List.set_cons_zero, List.set_cons_succ]
      refine wpAnyG_takeY (i := 6) (v := ?_) rfl (by kernel_rfl) (by decide +kernel) (by decide +kernel) (by decide +kernel) (fun _ _ _ h => h) (by kernel_rfl) ?_ (by assumption) ?_
      rotate_left
      · (intro wz; go_simp; with_reducible rfl)
      try simp only [Act.put, List.setIfInBounds_toArray, List.set_cons_zero, List.set_cons_succ]
      refine wpAnyG_takeY (i := 7) (v := ?_) rfl (by kernel_rfl) (by decide +kernel) (by decide +kernel) (by decide +kernel) (fun _ _ _ h => h) (by kernel_rfl) ?_ (by assumption) ?_
      rotate_left
      · (intro wz; go_simp; with_reducible rfl)
      try simp only [Act.put, List.setIfInBounds_toArray, List.set_cons_zero, List.set_cons_succ]
      refine wpAnyG_takeY (i := 8) (v := ?_) rfl (by kernel_rfl) (by decide +kernel) (by decide +kernel) (by decide +kernel) (fun _ _ _ h => h) (by kernel_rfl) ?_ (by assumption) ?_
      rotate_left
      · (intro wz; go_simp; with_reducible rfl)
      try simp only [Act.put, List.setIfInBounds_toArray, List.set_cons_zero, List.set_cons_succ]
      refine wpAnyG_takeY (i := 9) (v := ?_) rfl (by kernel_rfl) (by decide +kernel) (by decide +kernel) (by decide +kernel) (fun _ _ _ h => h) (by kernel_rfl) ?_ (by assumption) ?_
      rotate_left
      · (intro wz; go_simp; with_reducible rfl)
      try simp only [Act.put, List.setIfInBounds_toArray, List.set_cons_zero, List.set_cons_succ]
      refine wpAnyG_take (i := 10) (v := ?_) rfl (by kernel_rfl) (by decide +kernel) (by decide +kernel) (by decide +kernel) (by decide +kernel) (by rfl) (fun _ _ _ h => h) (by kernel_rfl) ?_ (by assumption) ?_
      rotate_left
      · (intro wz hSw; (try dsimp only at hSw); go_simp; with_reducible rfl)
      try simp only [Act.put, List.setIfInBounds_toArray, List.set_cons_zero, List.set_cons_succ]
      refine wpAnyG_takeY (i := 11) (v := ?_) rfl (by kernel_rfl) (by decide +kernel) (by decide +kernel) (by decide +kernel) (fun _ _ _ h => h) (by kernel_rfl) ?_ (by assumption) ?_
      rotate_left
      · (intro wz; go_simp; with_reducible rfl)
      try simp only [Act.put, List.setIfInBounds_toArray, List.set_cons_zero, List.set_cons_succ]
      refine wpAnyG_takeY (i := 12) (v := ?_) rfl (by kernel_rfl) (by decide +kernel) (by decide +kernel) (by decide +kernel) (fun _ _ _ h => h) (by kernel_rfl) ?_ (by assumption) ?_
      rotate_left
      · (intro wz; go_simp; with_reducible rfl)
      try simp only [Act.put, List.setIfInBounds_toArray, List.set_cons_zero, List.set_cons_succ]
      refine wpAnyG_take (i := 13) (v := ?_) rfl (by kernel_rfl) (by decide +kernel) (by decide +kernel) (by decide +kernel) (by decide +kernel) (by rfl) (fun _ _ _ h => h) (by kernel_rfl) ?_ (by assumption) ?_
      rotate_left
      · (intro wz hSw; (try dsimp only at hSw); go_simp; with_reducible rfl)
      try simp only [Act.put, List.setIfInBounds_toArray, List.set_cons_zero, List.set_cons_succ]
      refine wpAnyG_takeY (i := 14) (v := ?_) rfl (by kernel_rfl) (by decide +kernel) (by decide +kernel) (by decide +kernel) (fun _ _ _ h => h) (by kernel_rfl) ?_ (by assumption) ?_
      rotate_left
      · (intro wz; go_simp; with_reducible rfl)
      try simp only [Act.put, List.setIfInBounds_toArray, List.set_cons_zero, List.set_cons_succ]
      refine wpAnyG_take (i := 15) (v := ?_) rfl (by kernel_rfl) (by decide +kernel) (by decide +kernel) (by decide +kernel) (by decide +kernel) (by rfl) (fun _ _ _ h => h) (by kernel_rfl) ?_ (by assumption) ?_
      rotate_left
      · (intro wz hSw; (try dsimp only at hSw); go_simp; with_reducible rfl)
      try simp only [Act.put, List.setIfInBounds_toArray, List.set_cons_zero, List.set_cons_succ]
      refine wpAnyG_takeY (i := 17) (v := ?_) rfl (by kernel_rfl) (by decide +kernel) (by decide +kernel) (by decide +kernel) (fun _ _ _ h => h) (by kernel_rfl) ?_ (by assumption) ?_
      rotate_left
      · (intro wz; go_simp; with_reducible rfl)
      try simp only [Act.put, List.setIfInBounds_toArray, List.set_cons_zero, List.set_cons_succ]
      refine wpAnyG_takeY (i := 18) (v := ?_) rfl (by kernel_rfl) (by decide +kernel) (by decide +kernel) (by decide +kernel) (fun _ _ _ h => h) (by kernel_rfl) ?_ (by assumption) ?_
      rotate_left
      · (intro wz; go_simp; with_reducible rfl)
      try simp only [Act.put, List.setIfInBounds_toArray, List.set_cons_zero, List.set_cons_succ]
      refine wpAnyG_takeY (i := 19) (v := ?_) rfl (by kernel_rfl) (by decide +kernel) (by decide +kernel) (by decide +kernel) (fun _ _ _ h => h) (by kernel_rfl) ?_ (by assumption) ?_
      rotate_left
      · (intro wz; go_simp; with_reducible rfl)
      try simp only [Act.put, List.setIfInBounds_toArray, List.set_cons_zero, List.set_cons_succ]
      refine wpAnyG_take (i := 20) (v := ?_) rfl (by kernel_rfl) (by decide +kernel) (by decide +kernel) (by decide +kernel) (by decide +kernel) (by rfl) (fun _ _ _ h => h) (by kernel_rfl) ?_ (by assumption) ?_
      rotate_left
      · (intro wz hSw; (try dsimp only at hSw); go_simp; with_reducible rfl)
      try simp only [Act.put, List.setIfInBounds_toArray, List.set_cons_zero, List.set_cons_succ]
      refine wpAnyG_takeY (i := 21) (v := ?_) rfl (by kernel_rfl) (by decide +kernel) (by decide +kernel) (by decide +kernel) (fun _ _ _ h => h) (by kernel_rfl) ?_ (by assumption) ?_
      rotate_left
      · (intro wz; go_simp; with_reducible rfl)
      try simp only [Act.put, List.setIfInBounds_toArray, List.set_cons_zero, List.set_cons_succ]
      refine wpAnyG_takeY (i := 22) (v := ?_) rfl (by kernel_rfl) (by decide +kernel) (by decide +kernel) (by decide +kernel) (fun _ _ _ h => h) (by kernel_rfl) ?_ (by assumption) ?_
      rotate_left
      · (intro wz; go_simp; with_reducible rfl)
      try simp only [Act.put, List.setIfInBounds_toArray, List.set_cons_zero, List.set_cons_succ]
      refine wpAnyG_take (i := 23) (v := ?_) rfl (by kernel_rfl) (by decide +kernel) (by decide +kernel) (by decide +kernel) (by decide +kernel) (by rfl) (fun _ _ _ h => h) (by kernel_rfl) ?_ (by assumption) ?_
      rotate_left
      · (intro wz hSw; (try dsimp only at hSw); go_simp; with_reducible rfl)
      try simp only [Act.put, List.setIfInBounds_toArray, List.set_cons_zero, List.set_cons_succ]
      refine wpAnyG_takeY (i := 24) (v := ?_) rfl (by kernel_rfl) (by decide +kernel) (by decide +kernel) (by decide +kernel) (fun _ _ _ h => h) (by kernel_rfl) ?_ (by assumption) ?_
      rotate_left
      · (intro wz; go_simp; with_reducible rfl)
      try simp only [Act.put, List.setIfInBounds_toArray, List.set_cons_zero, List.set_cons_succ]
      refine wpAnyG_take (i := 25) (v := ?_) rfl (by kernel_rfl) (by decide +kernel) (by decide +kernel) (by decide +kernel) (by decide +kernel) (by rfl) (fun _ _ _ h => h) (by kernel_rfl) ?_ (by assumption) ?_
      rotate_left
      · (intro wz hSw; (try dsimp only at hSw); go_simp; with_reducible rfl)
      try simp only [Act.put, List.setIfInBounds_toArray, List.set_cons_zero, List.set_cons_succ]
      refine wpAnyG_one (i := 16) rfl (by kernel_rfl) (by kernel_rfl) (fun K hK => ?_)
      have HK := Lib.hid hK
      clear hK
      go_simp
      obtain ⟨x, hx, q1, q2, q3, q4, q5, q6⟩ := JD.out.g.p.mc _ _ HY.out.1
      have r4 := JD.out.g.p.pre HY.out.1 hx
      refine (tell_any y.mb y.sb x.db x.t y.q wc.drew q1 sm (fun hs => (r4.2.2.2 hs).2.1) q2.st).mono ?_
      rintro r wT1 ⟨rfl, a1, k1⟩
      obtain ⟨p1, v1, f1⟩ := JD.out.g.p.tell HY.out.1 sm (fun x9 h9 => by rw [hx] at h9; cases h9; exact a1) k1 JD.out.g.fr
      have G1 := Lib.hid (JD.out.g.gop p1 v1 f1 (fun z hz => .inl hz) (HeadD.refl _) (HeadM.set HY.out.1 rfl))
      have VT1 := Lib.hid (VD.out.trans (v1.mono (fun t ht => Tag.own_side ht true)))
      have NX := Lib.hid (show u.xb ≠ y.mb ∧ g ≠ y.mb ∧ g' ≠ y.mb ∧ lr ≠ y.mb from by
        have t := JD.out.g.tw k u HTK.out
        refine ⟨fun h => ?_, fun h => ?_, fun h => ?_, fun h => ?_⟩
        · have h9 := t.ox; rw [h, q4] at h9; cases h9
        · have h9 := t.oa g (by rw [HA.out.1]; simp [blk]); rw [h, q4] at h9; cases h9
        · have h9 := t.ob g' (by rw [HA.out.2]; simp [blk]); rw [h, q4] at h9; cases h9
        · have h9 := OLD.out; rw [h, q4] at h9; cases h9)
      have hF : wT1.cell? ⟨u.xb, 2, none⟩ = some (.slice (some ⟨g, 0, none⟩) n u.c) ∧ wT1.cell? ⟨u.xb, 3, none⟩ = some (.slice (some ⟨g', 0, none⟩) n u.c') ∧ wT1.cell? ⟨g, p, none⟩ = some (.pointer (some ⟨y.mb, 0, none⟩)) ∧ wT1.cell? ⟨g', p, none⟩ = some (.pointer (some ⟨y2.mb, 0, none⟩)) ∧ wT1.cell? ⟨lr, 7, none⟩ = some (.bool sm) :=
        ⟨k1.cell hF.1 (by simp; exact NX.out.1), k1.cell hF.2.1 (by simp; exact NX.out.1), k1.cell hF.2.2.1 (by simp; exact NX.out.2.1), k1.cell hF.2.2.2.1 (by simp; exact NX.out.2.2.1), k1.cell hF.2.2.2.2 (by simp; exact NX.out.2.2.2)⟩
      obtain ⟨te, hte⟩ := ex_hid (tellE y.q)
      rw [← hte.out]
      have B71 := Lib.hid (k1.has B70.out (by simp; exact NX.out.2.2.2))
      clear hx q1 q2 q3 q4 q5 q6 r4 a1 k1 p1 v1 f1
      refine HK.out _ _ hF ?_
      clear HK K
      try simp only [Act.put, List.setIfInBounds_toArray, List.set_cons_zero, List.set_cons_succ]
      refine wpAnyG_one (i := 26) rfl (by kernel_rfl) (by kernel_rfl) (fun K hK => ?_)
      have HK := Lib.hid hK
      clear hK
      go_simp
      obtain ⟨x, hx, q1, q2, q3, q4, q5, q6⟩ := G1.out.r.mc _ _ HY.out.2
      have r4 := G1.out.r.pre HY.out.2 hx
      refine (rtell_any y2.mb y2.sb x.db x.t y2.q wT1 q1 sm (fun hs => (r4.2.2.2 hs).2.1) q2.st).mono ?_
      rintro r wT2 ⟨rfl, a1, k1⟩
      obtain ⟨p1, v1, f1⟩ := G1.out.r.tell HY.out.2 sm (fun x9 h9 => by rw [hx] at h9; cases h9; exact a1) k1 G1.out.fr
      have G2 := Lib.hid (G1.out.gor p1 v1 f1 (fun z hz => .inl hz) (HeadD.refl _) (HeadM.set HY.out.2 rfl))
      have VT2 := Lib.hid (VT1.out.trans (v1.mono (fun t ht => Tag.own_side ht false)))
      have NX := Lib.hid (show u.xb ≠ y2.mb ∧ g ≠ y2.mb ∧ g' ≠ y2.mb ∧ lr ≠ y2.mb from by
        have t := G1.out.tw k u HTK.out
        refine ⟨fun h => ?_, fun h => ?_, fun h => ?_, fun h => ?_⟩
        · have h9 := t.ox; rw [h, q4] at h9; cases h9
        · have h9 := t.oa g (by rw [HA.out.1]; simp [blk]); rw [h, q4] at h9; cases h9
        · have h9 := t.ob g' (by rw [HA.out.2]; simp [blk]); rw [h, q4] at h9; cases h9
        · have h9 := OLD.out; rw [h, q4] at h9; cases h9)
      have hF : wT2.cell? ⟨u.xb, 2, none⟩ = some (.slice (some ⟨g, 0, none⟩) n u.c) ∧ wT2.cell? ⟨u.xb, 3, none⟩ = some (.slice (some ⟨g', 0, none⟩) n u.c') ∧ wT2.cell? ⟨g, p, none⟩ = some (.pointer (some ⟨y.mb, 0, none⟩)) ∧ wT2.cell? ⟨g', p, none⟩ = some (.pointer (some ⟨y2.mb, 0, none⟩)) ∧ wT2.cell? ⟨lr, 7, none⟩ = some (.bool sm) :=
        ⟨k1.cell hF.1 (by simp; exact NX.out.1), k1.cell hF.2.1 (by simp; exact NX.out.1), k1.cell hF.2.2.1 (by simp; exact NX.out.2.1), k1.cell hF.2.2.2.1 (by simp; exact NX.out.2.2.1), k1.cell hF.2.2.2.2 (by simp; exact NX.out.2.2.2)⟩
      have EQ := Lib.hid (JD.out.a.m HY.out.1 HY.out.2)
      have ete : tellE y2.q = te := by rw [EQ.out.1, hte.out]
      rw [ete]
      have B72 := Lib.hid (k1.has B71.out (by simp; exact NX.out.2.2.2))
      have JT := Lib.hid (show J8 B m1 m2 _ _ _ _ T _ _ _ _ wT2 from ⟨G2.out, JD.out.a.setM ⟨by show tellM y2.q sm = tellM y.q sm; rw [EQ.out.1], EQ.out.2⟩, by rw [List.length_set]; exact JD.out.n, JD.out.t⟩)
      clear hx q1 q2 q3 q4 q5 q6 r4 a1 k1 p1 v1 f1 ete
      refine HK.out _ _ hF ?_
      clear HK K
      try simp only [Act.put, List.setIfInBounds_toArray, List.set_cons_zero, List.set_cons_succ]
      refine wpAnyG_takeY (i := 27) (v := ?_) rfl (by kernel_rfl) (by decide +kernel) (by decide +kernel) (by decide +kernel) (fun _ _ _ h => h) (by kernel_rfl) ?_ (by assumption) ?_
      rotate_left
      · (intro wz; go_simp; with_reducible rfl)
      try simp only [Act.put, List.setIfInBounds_toArray, List.set_cons_zero, List.set_cons_succ]
      refine wpAnyG_takeY (i := 28) (v := ?_) rfl (by kernel_rfl) (by decide +kernel) (by decide +kernel) (by decide +kernel) (fun _ _ _ h => h) (by kernel_rfl) ?_ (by assumption) ?_
      rotate_left
      · (intro wz; go_simp; with_reducible rfl)
      try simp only [Act.put, List.setIfInBounds_toArray, List.set_cons_zero, List.set_cons_succ]
      refine wpAnyG_takeY (i := 29) (v := ?_) rfl (by kernel_rfl) (by decide +kernel) (by decide +kernel) (by decide +kernel) (fun _ _ _ h => h) (by kernel_rfl) ?_ (by assumption) ?_
      rotate_left
      · (intro wz; go_simp; with_reducible rfl)
      try simp only [Act.put, List.setIfInBounds_toArray, List.set_cons_zero, List.set_cons_succ]
      refine wpAnyG_done (by kernel_rfl) ?_ _
      go_simp
      clear hF x2' x3 z2 z3 s7
      go_wp2_with fail
      go_ret
      exact ⟨_, _, T, _, _, _, _, rfl, JT.out.mono (by omega) (by omega), VT2.out, SameTwos.refl T⟩
end Go.Proofs.YtcakdmapnmneoaaGreat
end

section
namespace Go.Proofs.YtcakdmapnmneoaaGreat
open Go.RowKit
set_option linter.unusedVariables false
set_option linter.unusedSimpArgs false

/-- In the midst of the rounds of kind 4. -/
def I8 (B : Nat) (m1 m2 : Option Nat) (N Z : Nat) (o : Nat → Tag) (T : List Tw8) (lr : Nat) (x : Obj) (w wr : World) : Prop :=
  ∃ c o' D E M L, J8 B m1 m2 c N Z o' T D E M L wr ∧ Mv Tag.own o w o' wr ∧ wr.heap[lr]? = some x ∧ o' lr = .free
set_option maxRecDepth 100000 in
set_option maxHeartbeats 16000000 in
theorem does8_loop {B : Nat} {m1 m2 : Option Nat} {c : C4} {N Z : Nat} {o : Nat → Tag} {T : List Tw8} {D E : List PD} {M L : List PM} {w : World} (H : J8 B m1 m2 c N Z o T D E M L w) (hN : N ≤ 899) (hZ : Z ≤ 800000) {k : Nat} {u : Tw8} (hk : T[k]? = some u)  (gl hs ky vl m nn : Int) (sm : Bool) :
    Calls Tryz.prog 15 #[.pointer (some ⟨u.xb, 0, none⟩), step8A 4 gl hs ky vl m nn sm] w (Does8P B m1 m2 N Z o T w) := by
  obtain ⟨lr, hlr⟩ : ∃ lr, lr = w.heap.size := ⟨_, rfl⟩
  obtain ⟨WA, hWA⟩ : ∃ WA, w.alloc (.cells #[.int .i64 4, .int .i64 gl, .int .i64 hs, .int .i64 ky, .int .i64 vl, .int .i64 m, .int .i64 nn, .bool sm] 53) = WA := ⟨_, rfl⟩
  have kb : Keeps [] w WA := by rw [← hWA]; exact (Keeps.refl [] w).alloc _
  have bs : WA.heap[lr]? = some (step8O 4 gl hs ky vl m nn sm) := by rw [← hWA, hlr]; exact has_new _ _
  have OL := Lib.hid (show o lr = .free from H.g.fr lr (by omega))
  have M40 := Lib.hid (H.g.tw k u hk).m40
  have BS := Lib.hid bs
  have KB := Lib.hid kb
  have HH := Lib.hid H
  have HWA := Lib.hid hWA
  have HLR := Lib.hid hlr
  have HTK := Lib.hid hk
  obtain ⟨xD, yD, hxD, hyD, r1⟩ := (H.g.tw k u hk).row
  have HXD := Lib.hid (And.intro hxD hyD)
  obtain ⟨n, hn⟩ := ex_hid u.ms.length
  have n40 : n ≤ 40 := by rw [hn.out]; exact M40.out
  rw [← hn.out] at r1
  have R1 := Lib.hid r1
  have r1 := kb.has r1 (by simp)
  unfold two8O at r1
  unfold step8O at bs
  have x2 : WA.cell? ⟨u.xb, 2, none⟩ = some (.slice u.a n u.c) := cell_has r1 (i := 2) rfl
  have s5 : WA.cell? ⟨lr, 5, none⟩ = some (.int .i64 m) := cell_has bs (i := 5) rfl
  obtain ⟨lt, hlt⟩ : ∃ lt : Bool, Hid (lt = decide ((0 : Int) < (n : Int))) := ⟨_, Lib.hid rfl⟩
  clear H hk hlr hWA kb bs r1 hxD hyD
  unfold step8A
  go_enter Tryz.func15, Tryz.ntmps15
  go_upto_region 1 with (fail)
  rw [HWA.out, ← HLR.out]
  go_upto_if 26 with (fail)
  go_cut [5] from 21 to 43 (fun z5 wx => ∃ p : Nat, z5 = .int .i64 p ∧ Hid (n ≠ 0 → p < n) ∧ Keeps [] WA wx)
  case first =>
    by_cases h0 : n = 0
    · subst h0
      go_wp2_with fail
      go_meet
      case rel => exact ⟨0, rfl, Lib.hid (fun h => absurd rfl h), Keeps.refl _ _⟩
    · have n1 : (n : Int) ≠ 0 := by omega
      have n2 : (0 : Int) < (n : Int) := by omega
      have n3 : (n : Int) ≤ 40 := by omega
      obtain ⟨p, hpn, hp⟩ := idx8 m (show 0 < n by omega)
      have HP := Lib.hid hp
      have HPN := Lib.hid hpn
      clear hp hpn
      go_upto_region 3 with (fail)
      go_region_held3 (fun w' => w'.cell? ⟨lr, 5, none⟩ = some (.int .i64 m) ∧ w'.cell? ⟨u.xb, 2, none⟩ = some (.slice u.a n u.c)) (go_keep) (fail)
      have x2d : WA.drew.cell? ⟨u.xb, 2, none⟩ = some (.slice u.a n u.c) := x2
      obtain ⟨tm, htm⟩ := ex_hid (m.tmod n)
      have hp := HP.out
      rw [← htm.out] at hp
      by_cases ht : tm < 0
      · rw [if_pos ht] at hp
        go_upto_if 36 with (fail)
        rw [← htm.out]
        go_wp2_with fail
        go_meet
        case rel => exact ⟨p, by rw [← hp], Lib.hid (fun _ => HPN.out), (Keeps.refl [] WA).drew⟩
      · rw [if_neg ht] at hp
        subst hp
        go_upto_if 36 with (fail)
        rw [← htm.out]
        go_wp2_with fail
        go_meet
        case rel => exact ⟨p, rfl, Lib.hid (fun _ => HPN.out), (Keeps.refl [] WA).drew⟩
  case rest =>
    obtain ⟨p, rfl, hpn, kc⟩ := hcut
    have p0 : (0 : Int) ≤ (p : Int) := by omega
    have J := Lib.hid (HH.out.kept (KB.out.trans kc) (by simp))
    have V := Lib.hid (show Mv Tag.own o w o wc from Mv.of_keeps (KB.out.trans kc) (by simp))
    have BC := Lib.hid (show wc.heap[lr]? = some (step8O 4 gl hs ky vl m nn sm) from kc.has BS.out (by simp))
    have RC := Lib.hid (show wc.heap[u.xb]? = some (two8O xD.db yD.db (.slice u.a n u.c) (.slice u.a' n u.c')) from (KB.out.trans kc).has R1.out (by simp))
    have bc := BC.out
    have rc := RC.out
    unfold step8O at bc
    unfold two8O at rc
    have s0 : wc.cell? ⟨lr, 0, none⟩ = some (.int .i64 4) := cell_has bc (i := 0) rfl
    clear kc x2 s5
    go_upto_region 7 with (fail)
    clear bc rc s0
    have st := Lib.hid (show I8 B m1 m2 N (Z + 0) o T lr (step8O 4 gl hs ky vl m nn sm) w wc from ⟨c, o, D, E, M, L, J.out, V.out, BC.out, OL.out⟩)
    have s0 : wc.cell? ⟨lr, 0, none⟩ = some (.int .i64 4) := cell_has (by have h9 := BC.out; unfold step8O at h9; exact h9) (i := 0) rfl
    have NN := Lib.hid (And.intro hn n40)
    clear J V BC RC R1 M40 BS KB HH
    go_wp2_with fail
    clear s0
    go_loopw [10] (fun z10 wr => ∃ i : Nat, i ≤ 16 ∧ z10 = .int .i64 i ∧ I8 B m1 m2 N (Z + i) o T lr (step8O 4 gl hs ky vl m nn sm) w wr) (fun z10 _ => 16 - (intOf z10).toNat)
    case atStart => exact ⟨0, by omega, rfl, st.out⟩
    case round =>
      obtain ⟨i, hi, rfl, hI⟩ := hrel
      obtain ⟨c1, o1, D1, E1, M1, L1, j1, v1, b1, ol1⟩ := hI
      have J1 := Lib.hid j1
      have V1 := Lib.hid v1
      have B1 := Lib.hid b1
      have O1 := Lib.hid ol1
      have i0 : (0 : Int) ≤ (i : Int) := by omega
      have i16 : (i : Int) ≤ 16 := by omega
      unfold step8O at b1
      have s6 : wr.cell? ⟨lr, 6, none⟩ = some (.int .i64 nn) := cell_has b1 (i := 6) rfl
      have x2 : wr.cell? ⟨u.xb, 2, none⟩ = some (.slice u.a n u.c) := by
        obtain ⟨x', y', e1, e2, e3⟩ := (j1.g.tw k u HTK.out).row
        unfold two8O at e3
        rw [← hn.out] at e3
        exact cell_has e3 (i := 2) rfl
      clear j1 v1 b1 ol1 st
      by_cases h1 : (i : Int) < nn
      · by_cases h2 : i < 16
        · by_cases h0 : n = 0
          · subst h0
            have t1 : decide ((i : Int) < nn) = true := by simpa using h1
            have t2 : decide ((i : Int) < 16) = true := by simp; omega
            have h3 : (i : Int) < 16 := by omega
            go_wp2_with fail
            go_ret
            exact ⟨c1, o1, T, D1, E1, M1, L1, rfl, J1.out.mono (by omega) (by omega), V1.out, SameTwos.refl T⟩
          · have t1 : decide ((i : Int) < nn) = true := by simpa using h1
            have t2 : decide ((i : Int) < 16) = true := by simp; omega
            have t3 : decide ((0 : Int) < (n : Int)) = true := by simp; omega
            have h3 : (i : Int) < 16 := by omega
            have n2 : (0 : Int) < (n : Int) := by omega
            have hp := hpn.out h0
            have pn : (p : Int) < (n : Int) := by omega
            go_wp2_with fail
            refine (step8_any J1.out (by omega) (by omega) HTK.out p (by rw [← hn.out]; exact hp)).mono ?_
            rintro r w1 ⟨tn, rfl, c2, o2, D2, E2, M2, L2, j2, v2⟩
            have J2 := Lib.hid j2
            have V2 := Lib.hid (V1.out.trans v2)
            have B2 := Lib.hid (v2.free_has rfl O1.out B1.out)
            clear j2 v2 s6 x2 t1 t2 t3 h1
            simp only [Trn.agg]
            go_upto_region 26 with (fail)
            refine wp_gen (fun V => Keeps [] w1 V) ((Keeps.refl [] w1).alloc _) ?_
            intro w2 k2
            have JD := Lib.hid (J2.out.kept k2.drew (by simp))
            have VD := Lib.hid (show Mv Tag.own o w o2 w2.drew from V2.out.thenK k2.drew (by simp))
            have OLD := Lib.hid B2.out.2
            have B70 := Lib.hid (show w2.drew.heap[lr]? = some (step8O 4 gl hs ky vl m nn sm) from k2.has B2.out.1 (by simp))
            have tw := JD.out.g.tw k u HTK.out
            have hp' : p < u.ms.length := by rw [← hn.out]; exact hp
            obtain ⟨g, ha⟩ := tw.pa.shape (by omega)
            obtain ⟨g', ha'⟩ := tw.pb.shape (by omega)
            obtain ⟨it, hit⟩ : ∃ it, u.ms[p]? = some it := ⟨_, List.getElem?_eq_getElem hp'⟩
            obtain ⟨y, y2, hy, hym, hy2, hym2⟩ := tw.mem it (List.mem_of_getElem? hit)
            obtain ⟨x2', x3, z2, z3⟩ := JD.out.g.cells HTK.out ha ha' hit
            have HY := Lib.hid (And.intro hy hy2)
            have HA := Lib.hid (And.intro ha ha')
            rw [← hn.out] at x2' x3
            rw [← hym] at z2
            rw [← hym2] at z3
            have b7 := B70.out
            unfold step8O at b7
            have s7 : w2.drew.cell? ⟨lr, 7, none⟩ = some (.bool sm) := cell_has b7 (i := 7) rfl
            clear hy hy2 hym hym2 hit hp' tw ha ha' b7
            clear hp h0 k2
            refine wp_regionG (fun w' => w'.cell? ⟨u.xb, 2, none⟩ = some (.slice (some ⟨g, 0, none⟩) n u.c) ∧ w'.cell? ⟨u.xb, 3, none⟩ = some (.slice (some ⟨g', 0, none⟩) n u.c') ∧ w'.cell? ⟨g, p, none⟩ = some (.pointer (some ⟨y.mb, 0, none⟩)) ∧ w'.cell? ⟨g', p, none⟩ = some (.pointer (some ⟨y2.mb, 0, none⟩)) ∧ w'.cell? ⟨lr, 7, none⟩ = some (.bool sm)) 25 (by kernel_rfl) ⟨x2', x3, z2, z3, s7⟩ (fun hF => ?_)
            refine wpAnyG_takeY (i := 0) (v := ?_) rfl (by kernel_rfl) (by decide +kernel) (by decide +kernel) (by decide +kernel) (fun _ _ _ h => h) (by kernel_rfl) ?_ (by assumption) ?_
            rotate_left
            · (intro wz; go_simp; with_reducible rfl)
            try simp only [Act.put, List.setIfInBounds_toArray, List.set_cons_zero, List.set_cons_succ]
            refine wpAnyG_takeY (i := 1) (v := ?_) rfl (by kernel_rfl) (by decide +kernel) (by decide +kernel) (by decide +kernel) (fun _ _ _ h => h) (by kernel_rfl) ?_ (by assumption) ?_
            rotate_left
            · (intro wz; go_simp; with_reducible rfl)
            try simp only [Act.put, List.setIfInBounds_toArray, List.set_cons_zero, List.set_cons_succ]
            refine wpAnyG_takeY (i := 2) (v := ?_) rfl (by kernel_rfl) (by decide +kernel) (by decide +kernel) (by decide +kernel) (fun _ _ _ h => h) (by kernel_rfl) ?_ (by assumption) ?_
            rotate_left
            · (intro wz; go_simp; with_reducible rfl)
            try simp only [Act.put, List.setIfInBounds_toArray, List.set_cons_zero, List.set_cons_succ]
            refine wpAnyG_takeY (i := 3) (v := ?_) rfl (by kernel_rfl) (by decide +kernel) (by decide +kernel) (by decide +kernel) (fun _ _ _ h => h) (by kernel_rfl) ?_ (by assumption) ?_
            rotate_left
            · (intro wz; go_simp; with_reducible rfl)
            try simp only [Act.put, List.setIfInBounds_toArray, List.set_cons_zero, List.set_cons_succ]
            refine wpAnyG_takeY (i := 4) (v := ?_) rfl (by kernel_rfl) (by decide +kernel) (by decide +kernel) (by decide +kernel) (fun _ _ _ h => h) (by kernel_rfl) ?_ (by assumption) ?_
            rotate_left
            · (intro wz; go_simp; with_reducible rfl)
            try simp only [Act.put, List.setIfInBounds_toArray, List.set_cons_zero, List.set_cons_succ]
            refine wpAnyG_takeY (i := 5) (v := ?_) rfl (by kernel_rfl) (by decide +kernel) (by decide +kernel) (by decide +kernel) (fun _ _ _ h => h) (by kernel_rfl) ?_ (by assumption) ?_
            rotate_left
            · (intro wz; go_simp; with_reducible rfl)
            try simp only [Act.put, List.setIfInBounds_toArray, List.set_cons_zero, List.set_cons_succ]
            refine wpAnyG_take (i := 6) (v := ?_) rfl (by kernel_rfl) (by decide +kernel) (by decide +kernel) (by decide +kernel) (by decide +kernel) (by rfl) (fun _ _ _ h => h) (by kernel_rfl) ?_ (by assumption) ?_
            rotate_left
            · (intro wz hSw; (try dsimp only at hSw); go_simp; with_reducible rfl)
            try simp only [Act.put, List.setIfInBounds_toArray, List.set_cons_zero, List.set_cons_succ]
            refine wpAnyG_takeY (i := 7) (v := ?_) rfl (by kernel_rfl) (by decide +kernel) (by decide +kernel) (by decide +kernel) (fun _ _ _ h => h) (by kernel_rfl) ?_ (by assumption) ?_
            rotate_left
            · (intro wz; go_simp; with_reducible rfl)
            try simp only [Act.put, List.setIfInBounds_toArray, List.set_cons_zero, List.set_cons_succ]
            refine wpAnyG_takeY (i := 8) (v := ?_) rfl (by kernel_rfl) (by decide +kernel) (by decide +kernel) (by decide +kernel) (fun _ _ _ h => h) (by kernel_rfl) ?_ (by assumption) ?_
            rotate_left
            · (intro wz; go_simp; with_reducible rfl)
            try simp only [Act.put, List.setIfInBounds_toArray, List.set_cons_zero, List.set_cons_succ]
            refine wpAnyG_take (i := 9) (v := ?_) rfl (by kernel_rfl) (by decide +kernel) (by decide +kernel) (by decide +kernel) (by decide +kernel) (by rfl) (fun _ _ _ h => h) (by kernel_rfl) ?_ (by assumption) ?_
            rotate_left
            · (intro wz hSw; (try dsimp only at hSw); go_simp; with_reducible rfl)
            try simp only [Act.put, List.setIfInBounds_toArray, List.set_cons_zero, List.set_cons_succ]
            refine wpAnyG_takeY (i := 10) (v := ?_) rfl (by kernel_rfl) (by decide +kernel) (by decide +kernel) (by decide +kernel) (fun _ _ _ h => h) (by kernel_rfl) ?_ (by assumption) ?_
            rotate_left
            · (intro wz; go_simp; with_reducible rfl)
            try simp only [Act.put, List.setIfInBounds_toArray, List.set_cons_zero, List.set_cons_succ]
            refine wpAnyG_take (i := 11) (v := ?_) rfl (by kernel_rfl) (by decide +kernel) (by decide +kernel) (by decide +kernel) (by decide +kernel) (by rfl) (fun _ _ _ h => h) (by kernel_rfl) ?_ (by assumption) ?_
            rotate_left
            · (intro wz hSw; (try dsimp only at hSw); go_simp; with_reducible rfl)
            try simp only [Act.put, List.setIfInBounds_toArray, List.set_cons_zero, List.set_cons_succ]
            refine wpAnyG_takeY (i := 13) (v := ?_) rfl (by kernel_rfl) (by decide +kernel) (by decide +kernel) (by decide +kernel) (fun _ _ _ h => h) (by kernel_rfl) ?_ (by assumption) ?_
            rotate_left
            · (intro wz; go_simp; with_reducible rfl)
            try simp only [Act.put, List.setIfInBounds_toArray, List.set_cons_zero, List.set_cons_succ]
            refine wpAnyG_takeY (i := 14) (v := ?_) rfl (by kernel_rfl) (by decide +kernel) (by decide +kernel) (by decide +kernel) (fun _ _ _ h => h) (by kernel_rfl) ?_ (by assumption) ?_
            rotate_left
            · (intro wz; go_simp; with_reducible rfl)
            try simp only [Act.put, List.setIfInBounds_toArray, List.set_cons_zero, List.set_cons_succ]
            refine wpAnyG_takeY (i := 15) (v := ?_) rfl (by kernel_rfl) (by decide +kernel) (by decide +kernel) (by decide +kernel) (fun _ _ _ h => h) (by kernel_rfl) ?_ (by assumption) ?_
            rotate_left
            · (intro wz; go_simp; with_reducible rfl)
            try simp only [Act.put, List.setIfInBounds_toArray, List.set_cons_zero, List.set_cons_succ]
            refine wpAnyG_take (i := 16) (v := ?_) rfl (by kernel_rfl) (by decide +kernel) (by decide +kernel) (by decide +kernel) (by decide +kernel) (by rfl) (fun _ _ _ h => h) (by kernel_rfl) ?_ (by assumption) ?_
            rotate_left
            · (intro wz hSw; (try dsimp only at hSw); go_simp; with_reducible rfl)
            try simp only [Act.put, List.setIfInBounds_toArray, List.set_cons_zero, List.set_cons_succ]
            refine wpAnyG_takeY (i := 17) (v := ?_) rfl (by kernel_rfl) (by decide +kernel) (by decide +kernel) (by decide +kernel) (fun _ _ _ h => h) (by kernel_rfl) ?_ (by assumption) ?_
            rotate_left
            · (intro wz; go_simp; with_reducible rfl)
            try simp only [Act.put, List.setIfInBounds_toArray, List.set_cons_zero, List.set_cons_succ]
            refine wpAnyG_takeY (i := 18) (v := ?_) rfl (by kernel_rfl) (by decide +kernel) (by decide +kernel) (by decide +kernel) (fun _ _ _ h => h) (by kernel_rfl) ?_ (by assumption) ?_
            rotate_left
            · (intro wz; go_simp; with_reducible rfl)
            try simp only [Act.put, List.setIfInBounds_toArray, List.set_cons_zero, List.set_cons_succ]
            refine wpAnyG_take (i := 19) (v := ?_) rfl (by kernel_rfl) (by decide +kernel) (by decide +kernel) (by decide +kernel) (by decide +kernel) (by rfl) (fun _ _ _ h => h) (by kernel_rfl) ?_ (by assumption) ?_
            rotate_left
            · (intro wz hSw; (try dsimp only at hSw); go_simp; with_reducible rfl)
            try simp only [Act.put, List.setIfInBounds_toArray, List.set_cons_zero, List.set_cons_succ]
            refine wpAnyG_takeY (i := 20) (v := ?_) rfl (by kernel_rfl) (by decide +kernel) (by decide +kernel) (by decide +kernel) (fun _ _ _ h => h) (by kernel_rfl) ?_ (by assumption) ?_
            rotate_left
            · (intro wz; go_simp; with_reducible rfl)
            try simp only [Act.put, List.setIfInBounds_toArray, List.set_cons_zero, List.set_cons_succ]
            refine wpAnyG_take (i := 21) (v := ?_) rfl (by kernel_rfl) (by decide +kernel) (by decide +kernel) (by decide +kernel) (by decide +kernel) (by rfl) (fun _ _ _ h => h) (by kernel_rfl) ?_ (by assumption) ?_
            rotate_left
            · (intro wz hSw; (try dsimp only at hSw); go_simp; with_reducible rfl)
            try simp only [Act.put, List.setIfInBounds_toArray, List.set_cons_zero, List.set_cons_succ]
            refine wpAnyG_one (i := 12) rfl (by kernel_rfl) (by kernel_rfl) (fun K hK => ?_)
            have HK := Lib.hid hK
            clear hK
            go_simp
            obtain ⟨x, hx, q1, q2, q3, q4, q5, q6⟩ := JD.out.g.p.mc _ _ HY.out.1
            have r4 := JD.out.g.p.pre HY.out.1 hx
            refine (tell_any y.mb y.sb x.db x.t y.q w2.drew q1 sm (fun hs => (r4.2.2.2 hs).2.1) q2.st).mono ?_
            rintro r wT1 ⟨rfl, a1, k1⟩
            obtain ⟨p1, v1, f1⟩ := JD.out.g.p.tell HY.out.1 sm (fun x9 h9 => by rw [hx] at h9; cases h9; exact a1) k1 JD.out.g.fr
            have G1 := Lib.hid (JD.out.g.gop p1 v1 f1 (fun z hz => .inl hz) (HeadD.refl _) (HeadM.set HY.out.1 rfl))
            have VT1 := Lib.hid (VD.out.trans (v1.mono (fun t ht => Tag.own_side ht true)))
            have NX := Lib.hid (show u.xb ≠ y.mb ∧ g ≠ y.mb ∧ g' ≠ y.mb ∧ lr ≠ y.mb from by
              have t := JD.out.g.tw k u HTK.out
              refine ⟨fun h => ?_, fun h => ?_, fun h => ?_, fun h => ?_⟩
              · have h9 := t.ox; rw [h, q4] at h9; cases h9
              · have h9 := t.oa g (by rw [HA.out.1]; simp [blk]); rw [h, q4] at h9; cases h9
              · have h9 := t.ob g' (by rw [HA.out.2]; simp [blk]); rw [h, q4] at h9; cases h9
              · have h9 := OLD.out; rw [h, q4] at h9; cases h9)
            have hF : wT1.cell? ⟨u.xb, 2, none⟩ = some (.slice (some ⟨g, 0, none⟩) n u.c) ∧ wT1.cell? ⟨u.xb, 3, none⟩ = some (.slice (some ⟨g', 0, none⟩) n u.c') ∧ wT1.cell? ⟨g, p, none⟩ = some (.pointer (some ⟨y.mb, 0, none⟩)) ∧ wT1.cell? ⟨g', p, none⟩ = some (.pointer (some ⟨y2.mb, 0, none⟩)) ∧ wT1.cell? ⟨lr, 7, none⟩ = some (.bool sm) :=
              ⟨k1.cell hF.1 (by simp; exact NX.out.1), k1.cell hF.2.1 (by simp; exact NX.out.1), k1.cell hF.2.2.1 (by simp; exact NX.out.2.1), k1.cell hF.2.2.2.1 (by simp; exact NX.out.2.2.1), k1.cell hF.2.2.2.2 (by simp; exact NX.out.2.2.2)⟩
            obtain ⟨te, hte⟩ := ex_hid (tellE y.q)
            rw [← hte.out]
            have B71 := Lib.hid (k1.has B70.out (by simp; exact NX.out.2.2.2))
            clear hx q1 q2 q3 q4 q5 q6 r4 a1 k1 p1 v1 f1
            refine HK.out _ _ hF ?_
            clear HK K
            try simp only [Act.put, List.setIfInBounds_toArray, List.set_cons_zero, List.set_cons_succ]
            refine wpAnyG_one (i := 22) rfl (by kernel_rfl) (by kernel_rfl) (fun K hK => ?_)
            have HK := Lib.hid hK
            clear hK
            go_simp
            obtain ⟨x, hx, q1, q2, q3, q4, q5, q6⟩ := G1.out.r.mc _ _ HY.out.2
            have r4 := G1.out.r.pre HY.out.2 hx
            refine (rtell_any y2.mb y2.sb x.db x.t y2.q wT1 q1 sm (fun hs => (r4.2.2.2 hs).2.1) q2.st).mono ?_
            rintro r wT2 ⟨rfl, a1, k1⟩
            obtain ⟨p1, v1, f1⟩ := G1.out.r.tell HY.out.2 sm (fun x9 h9 => by rw [hx] at h9; cases h9; exact a1) k1 G1.out.fr
            have G2 := Lib.hid (G1.out.gor p1 v1 f1 (fun z hz => .inl hz) (HeadD.refl _) (HeadM.set HY.out.2 rfl))
            have VT2 := Lib.hid (VT1.out.trans (v1.mono (fun t ht => Tag.own_side ht false)))
            have NX := Lib.hid (show u.xb ≠ y2.mb ∧ g ≠ y2.mb ∧ g' ≠ y2.mb ∧ lr ≠ y2.mb from by
              have t := G1.out.tw k u HTK.out
              refine ⟨fun h => ?_, fun h => ?_, fun h => ?_, fun h => ?_⟩
              · have h9 := t.ox; rw [h, q4] at h9; cases h9
              · have h9 := t.oa g (by rw [HA.out.1]; simp [blk]); rw [h, q4] at h9; cases h9
              · have h9 := t.ob g' (by rw [HA.out.2]; simp [blk]); rw [h, q4] at h9; cases h9
              · have h9 := OLD.out; rw [h, q4] at h9; cases h9)
            have hF : wT2.cell? ⟨u.xb, 2, none⟩ = some (.slice (some ⟨g, 0, none⟩) n u.c) ∧ wT2.cell? ⟨u.xb, 3, none⟩ = some (.slice (some ⟨g', 0, none⟩) n u.c') ∧ wT2.cell? ⟨g, p, none⟩ = some (.pointer (some ⟨y.mb, 0, none⟩)) ∧ wT2.cell? ⟨g', p, none⟩ = some (.pointer (some ⟨y2.mb, 0, none⟩)) ∧ wT2.cell? ⟨lr, 7, none⟩ = some (.bool sm) :=
              ⟨k1.cell hF.1 (by simp; exact NX.out.1), k1.cell hF.2.1 (by simp; exact NX.out.1), k1.cell hF.2.2.1 (by simp; exact NX.out.2.1), k1.cell hF.2.2.2.1 (by simp; exact NX.out.2.2.1), k1.cell hF.2.2.2.2 (by simp; exact NX.out.2.2.2)⟩
            have EQ := Lib.hid (JD.out.a.m HY.out.1 HY.out.2)
            have ete : tellE y2.q = te := by rw [EQ.out.1, hte.out]
            rw [ete]
            have B72 := Lib.hid (k1.has B71.out (by simp; exact NX.out.2.2.2))
            have JT := Lib.hid (show J8 B m1 m2 _ _ _ _ T _ _ _ _ wT2 from ⟨G2.out, JD.out.a.setM ⟨by show tellM y2.q sm = tellM y.q sm; rw [EQ.out.1], EQ.out.2⟩, by rw [List.length_set]; exact JD.out.n, JD.out.t⟩)
            clear hx q1 q2 q3 q4 q5 q6 r4 a1 k1 p1 v1 f1 ete
            refine HK.out _ _ hF ?_
            clear HK K
            try simp only [Act.put, List.setIfInBounds_toArray, List.set_cons_zero, List.set_cons_succ]
            refine wpAnyG_takeY (i := 23) (v := ?_) rfl (by kernel_rfl) (by decide +kernel) (by decide +kernel) (by decide +kernel) (fun _ _ _ h => h) (by kernel_rfl) ?_ (by assumption) ?_
            rotate_left
            · (intro wz; go_simp; with_reducible rfl)
            try simp only [Act.put, List.setIfInBounds_toArray, List.set_cons_zero, List.set_cons_succ]
            refine wpAnyG_takeY (i := 24) (v := ?_) rfl (by kernel_rfl) (by decide +kernel) (by decide +kernel) (by decide +kernel) (fun _ _ _ h => h) (by kernel_rfl) ?_ (by assumption) ?_
            rotate_left
            · (intro wz; go_simp; with_reducible rfl)
            try simp only [Act.put, List.setIfInBounds_toArray, List.set_cons_zero, List.set_cons_succ]
            refine wpAnyG_done (by kernel_rfl) ?_ _
            go_simp
            clear hF x2' x3 z2 z3 s7
            go_wp2_with fail
            go_roundw
            case rel => exact ⟨i + 1, by omega, by go_num, ⟨_, _, _, _, _, _, JT.out, VT2.out, B72.out, OLD.out⟩⟩
            case measure => simp [intOf]; omega
        · have t1 : decide ((i : Int) < nn) = true := by simpa using h1
          have t2 : decide ((i : Int) < 16) = false := by simp; omega
          have h3 : ¬ (i : Int) < 16 := by omega
          go_wp2_with fail
          go_ret
          exact ⟨c1, o1, T, D1, E1, M1, L1, rfl, J1.out.mono (by omega) (by omega), V1.out, SameTwos.refl T⟩
      · have t1 : decide ((i : Int) < nn) = false := by simpa using h1
        go_wp2_with fail
        go_ret
        exact ⟨c1, o1, T, D1, E1, M1, L1, rfl, J1.out.mono (by omega) (by omega), V1.out, SameTwos.refl T⟩
end Go.Proofs.YtcakdmapnmneoaaGreat
end

section
namespace Go.Proofs.YtcakdmapnmneoaaGreat
open Go.RowKit
set_option linter.unusedVariables false
set_option linter.unusedSimpArgs false

set_option maxRecDepth 100000 in
theorem nclear (w : World) : Calls Tryz.prog 25 #[.pointer none] w fun r w' => r = .returned (.tuple #[]) ∧ Keeps [] w w' := by
  go_enter Tryz.func25, Tryz.ntmps25
  go_wp2_with fail
  go_end0
  exact ⟨rfl, Keeps.refl _ _⟩
set_option maxRecDepth 100000 in
theorem nlen (w : World) : Calls Tryz.prog 40 #[.pointer none] w fun r w' => r = .returned (.int .i64 0) ∧ Keeps [] w w' := by
  go_enter Tryz.func40, Tryz.ntmps40
  go_wp2_with fail
  go_ret
  exact ⟨rfl, Keeps.refl _ _⟩
set_option maxRecDepth 100000 in
theorem nver (w : World) : Calls Tryz.prog 42 #[.pointer none] w fun r w' => r = .returned (.int .i64 0) ∧ Keeps [] w w' := by
  go_enter Tryz.func42, Tryz.ntmps42
  go_wp2_with fail
  go_ret
  exact ⟨rfl, Keeps.refl _ _⟩
set_option maxRecDepth 100000 in
theorem npairs (w : World) : Calls Tryz.prog 44 #[.pointer none] w fun r w' => r = .returned (.slice none 0 0) ∧ Keeps [] w w' := by
  go_enter Tryz.func44, Tryz.ntmps44
  go_wp2_with fail
  go_ret
  exact ⟨rfl, Keeps.refl _ _⟩
set_option maxRecDepth 100000 in
theorem ncopy (w : World) : Calls Tryz.prog 13 #[.pointer none] w fun r w' => r = .returned (.pointer none) ∧ Keeps [] w w' := by
  go_enter Tryz.func13, Tryz.ntmps13
  go_wp2_with fail
  go_ret
  exact ⟨rfl, Keeps.refl _ _⟩
set_option maxRecDepth 100000 in
theorem nfirst (w : World) : Calls Tryz.prog 38 #[.pointer none] w fun r w' => r = .returned (.tuple #[noE.agg, .int .i64 1]) ∧ Keeps [] w w' := by
  go_enter Tryz.func38, Tryz.ntmps38
  go_wp2_with fail
  exact bodyPost_ret (v := .tuple #[noE.agg, .int .i64 1]) (by simp [results, Tryz.results38, go_sem, noE, Ent.agg, noTrn, Trn.agg, noSight]) rfl ⟨rfl, (Keeps.refl [] w).alloc _⟩
set_option maxRecDepth 100000 in
theorem nlast (w : World) : Calls Tryz.prog 29 #[.pointer none] w fun r w' => r = .returned (.tuple #[noE.agg, .int .i64 1]) ∧ Keeps [] w w' := by
  go_enter Tryz.func29, Tryz.ntmps29
  go_wp2_with fail
  exact bodyPost_ret (v := .tuple #[noE.agg, .int .i64 1]) (by simp [results, Tryz.results29, go_sem, noE, Ent.agg, noTrn, Trn.agg, noSight]) rfl ⟨rfl, (Keeps.refl [] w).alloc _⟩
set_option maxRecDepth 100000 in
theorem nsight (w : World) : Calls Tryz.prog 47 #[.pointer none] w fun r w' => r = .returned (noSight) ∧ Keeps [] w w' := by
  go_enter Tryz.func47, Tryz.ntmps47
  go_wp2_with fail
  exact bodyPost_ret (v := noSight) (by simp [results, Tryz.results47, go_sem, noE, Ent.agg, noTrn, Trn.agg, noSight]) rfl ⟨rfl, (Keeps.refl [] w).alloc _⟩
set_option maxRecDepth 100000 in
theorem nstep (w : World) : Calls Tryz.prog 20 #[.pointer none] w fun r w' => r = .returned (noTrn.agg) ∧ Keeps [] w w' := by
  go_enter Tryz.func20, Tryz.ntmps20
  go_wp2_with fail
  exact bodyPost_ret (v := noTrn.agg) (by simp [results, Tryz.results20, go_sem, noE, Ent.agg, noTrn, Trn.agg, noSight]) rfl ⟨rfl, (Keeps.refl [] w).alloc _⟩
set_option maxRecDepth 100000 in
theorem ntell (b : Bool) (w : World) : Calls Tryz.prog 31 #[.pointer none, .bool b] w fun r w' => r = .returned (.int .i64 1) ∧ Keeps [] w w' := by
  go_enter Tryz.func31, Tryz.ntmps31
  go_wp2_with fail
  go_ret
  exact ⟨rfl, Keeps.refl _ _⟩
set_option maxRecDepth 100000 in
theorem nscan (w : World) : Calls Tryz.prog 81 #[.pointer none] w fun r w' => r = .returned (.int .i64 0) ∧ Keeps [] w w' := by
  go_enter Tryz.func81, Tryz.ntmps81
  go_wp2_with fail
  go_ret
  exact ⟨rfl, Keeps.refl _ _⟩
set_option maxRecDepth 100000 in
theorem nscans (w : World) : Calls Tryz.prog 83 #[.pointer none] w fun r w' => r = .returned (.int .i64 0) ∧ Keeps [] w w' := by
  go_enter Tryz.func83, Tryz.ntmps83
  go_wp2_with fail
  go_ret
  exact ⟨rfl, Keeps.refl _ _⟩
theorem rows_none (w : World) (b : Nat) (g : Int) (hg : ¬ (1 ≤ g ∧ g ≤ 4)) (hb : w.heap[b]? = some (rowsO 4)) :
    (Instr.lookup 120 (.map (some b)) (.int .i64 g) true).run Tryz.prog w = .ok (.tuple #[.agg #[.nilFunc, .nilFunc], .bool false]) w := by
  have hk := Tryz.underlying3
  have hc : (Instr.checkKey false 10000 3 (.int .i64 g)).run Tryz.prog w = .ok () w := MapKept.run_checkKey (k := .int .i64 g) hk (by simp [MapKept.IsKey]) false 9999
  have hf : Instr.findNow (.int .i64) (.int .i64 g) rowsE 0 = some none := by
    have h1 : ¬ g = 1 := by omega
    have h2 : ¬ g = 2 := by omega
    have h3 : ¬ g = 3 := by omega
    have h4 : ¬ g = 4 := by omega
    have b1 : (g == 1) = false := by simpa using h1
    have b2 : (g == 2) = false := by simpa using h2
    have b3 : (g == 3) = false := by simpa using h3
    have b4 : (g == 4) = false := by simpa using h4
    simp [Instr.findNow, Instr.sameNow, rowsE, b1, b2, b3, b4]
  have hb2 : w.heap[b]? = some (.map rowsE.toArray 4) := hb
  have hf2 := MapKept.run_findKey (w := w) hk hf
  have he : rowsE.toArray.isEmpty = false := rfl
  simp [Instr.lookup, run_underlying Tryz.underlying120, MapKept.run_getObj_map hb2, he, hc, hf2, Result.andThen]
set_option maxRecDepth 100000 in
theorem begin_bad (p : Option Addr) (g h k v : Int) (w : World) (hg : ¬ (1 ≤ g ∧ g ≤ 4)) :
    Calls Tryz.prog 18 #[.pointer p, .int .i64 g, .int .i64 h, .int .i64 k, .int .i64 v] w fun r w' => r = .returned (.pointer none) ∧ Keeps [] w w' := by
  go_enter Tryz.func18, Tryz.ntmps18
  go_wp2_with fail
  refine (rows_any w).mono ?_
  rintro r w1 ⟨rfl, b1, k1⟩
  have hget := rows_none w1 w.heap.size g hg b1
  have K1 := Lib.hid k1
  clear b1 k1
  cases p with
  | none =>
    go_wp2_with fail
    go_ret
    exact ⟨rfl, K1.out.alloc _⟩
  | some p =>
    go_wp2_with fail
    go_ret
    exact ⟨rfl, K1.out.alloc _⟩
set_option maxRecDepth 100000 in
theorem begin_nil (g : Nat) (h k v : Int) (w : World) (h1 : 1 ≤ g) (h4 : g ≤ 4) :
    Calls Tryz.prog 18 #[.pointer none, .int .i64 g, .int .i64 h, .int .i64 k, .int .i64 v] w fun r w' => r = .returned (.pointer none) ∧ Keeps [] w w' := by
  go_enter Tryz.func18, Tryz.ntmps18
  go_wp2_with fail
  refine (rows_any w).mono ?_
  rintro r w1 ⟨rfl, b1, k1⟩
  have hget := rows_get w1 w.heap.size g h1 h4 b1
  unfold rowV at hget
  obtain ⟨hf, hhf⟩ : ∃ hf, Hid (hf = hitF g) := ⟨_, Lib.hid rfl⟩
  obtain ⟨mf, hmf⟩ : ∃ mf, Hid (mf = missF g) := ⟨_, Lib.hid rfl⟩
  rw [← hhf.out, ← hmf.out] at hget
  have K1 := Lib.hid k1
  clear b1 k1
  go_wp2_with fail
  go_ret
  exact ⟨rfl, K1.out.alloc _⟩
theorem nbegin (g h k v : Int) (w : World) :
    Calls Tryz.prog 18 #[.pointer none, .int .i64 g, .int .i64 h, .int .i64 k, .int .i64 v] w fun r w' => r = .returned (.pointer none) ∧ Keeps [] w w' := by
  by_cases hg : 1 ≤ g ∧ g ≤ 4
  · obtain ⟨n, rfl⟩ : ∃ n : Nat, g = (n : Int) := ⟨g.toNat, by omega⟩
    exact begin_nil n h k v w (by omega) (by omega)
  · exact begin_bad none g h k v w hg
end Go.Proofs.YtcakdmapnmneoaaGreat
end

section
namespace Go.Proofs.YtcakdmapnmneoaaGreat
open Go.RowKit
set_option linter.unusedVariables false
set_option linter.unusedSimpArgs false

set_option maxRecDepth 100000 in
set_option maxHeartbeats 16000000 in
theorem does8_begin {B : Nat} {m1 m2 : Option Nat} {c : C4} {N Z : Nat} {o : Nat → Tag} {T : List Tw8} {D E : List PD} {M L : List PM} {w : World} (H : J8 B m1 m2 c N Z o T D E M L w) (hN : N ≤ 899) (hZ : Z ≤ 800000) {k : Nat} {u : Tw8} (hk : T[k]? = some u) (gN : Nat) (g1 : 1 ≤ gN) (g4 : gN ≤ 4) (h40 : u.ms.length < 40) (gl hs ky vl m nn : Int) (sm : Bool) (hgl : gl = gN) :
    Calls Tryz.prog 15 #[.pointer (some ⟨u.xb, 0, none⟩), step8A 1 gl hs ky vl m nn sm] w (Does8P B m1 m2 N Z o T w) := by
  obtain ⟨lr, hlr⟩ : ∃ lr, lr = w.heap.size := ⟨_, rfl⟩
  obtain ⟨WA, hWA⟩ : ∃ WA, w.alloc (.cells #[.int .i64 1, .int .i64 gl, .int .i64 hs, .int .i64 ky, .int .i64 vl, .int .i64 m, .int .i64 nn, .bool sm] 53) = WA := ⟨_, rfl⟩
  have kb : Keeps [] w WA := by rw [← hWA]; exact (Keeps.refl [] w).alloc _
  have bs : WA.heap[lr]? = some (step8O 1 gl hs ky vl m nn sm) := by rw [← hWA, hlr]; exact has_new _ _
  have OL := Lib.hid (show o lr = .free from H.g.fr lr (by omega))
  have M40 := Lib.hid (H.g.tw k u hk).m40
  have BS := Lib.hid bs
  have KB := Lib.hid kb
  have HH := Lib.hid H
  have HWA := Lib.hid hWA
  have HLR := Lib.hid hlr
  have HTK := Lib.hid hk
  obtain ⟨xD, yD, hxD, hyD, r1⟩ := (H.g.tw k u hk).row
  have HXD := Lib.hid (And.intro hxD hyD)
  obtain ⟨n, hn⟩ := ex_hid u.ms.length
  have n40 : n ≤ 40 := by rw [hn.out]; exact M40.out
  rw [← hn.out] at r1
  have R1 := Lib.hid r1
  have r1 := kb.has r1 (by simp)
  unfold two8O at r1
  unfold step8O at bs
  have x2 : WA.cell? ⟨u.xb, 2, none⟩ = some (.slice u.a n u.c) := cell_has r1 (i := 2) rfl
  have s5 : WA.cell? ⟨lr, 5, none⟩ = some (.int .i64 m) := cell_has bs (i := 5) rfl
  obtain ⟨lt, hlt⟩ : ∃ lt : Bool, Hid (lt = decide ((0 : Int) < (n : Int))) := ⟨_, Lib.hid rfl⟩
  clear H hk hlr hWA kb bs r1 hxD hyD
  unfold step8A
  rw [← hn.out] at h40
  subst hgl
  go_enter Tryz.func15, Tryz.ntmps15
  go_upto_region 1 with (fail)
  rw [HWA.out, ← HLR.out]
  go_upto_if 26 with (fail)
  go_cut [5] from 21 to 43 (fun z5 wx => ∃ p : Nat, z5 = .int .i64 p ∧ Hid (n ≠ 0 → p < n) ∧ Keeps [] WA wx)
  case first =>
    by_cases h0 : n = 0
    · subst h0
      go_wp2_with fail
      go_meet
      case rel => exact ⟨0, rfl, Lib.hid (fun h => absurd rfl h), Keeps.refl _ _⟩
    · have n1 : (n : Int) ≠ 0 := by omega
      have n2 : (0 : Int) < (n : Int) := by omega
      have n3 : (n : Int) ≤ 40 := by omega
      obtain ⟨p, hpn, hp⟩ := idx8 m (show 0 < n by omega)
      have HP := Lib.hid hp
      have HPN := Lib.hid hpn
      clear hp hpn
      go_upto_region 3 with (fail)
      go_region_held3 (fun w' => w'.cell? ⟨lr, 5, none⟩ = some (.int .i64 m) ∧ w'.cell? ⟨u.xb, 2, none⟩ = some (.slice u.a n u.c)) (go_keep) (fail)
      have x2d : WA.drew.cell? ⟨u.xb, 2, none⟩ = some (.slice u.a n u.c) := x2
      obtain ⟨tm, htm⟩ := ex_hid (m.tmod n)
      have hp := HP.out
      rw [← htm.out] at hp
      by_cases ht : tm < 0
      · rw [if_pos ht] at hp
        go_upto_if 36 with (fail)
        rw [← htm.out]
        go_wp2_with fail
        go_meet
        case rel => exact ⟨p, by rw [← hp], Lib.hid (fun _ => HPN.out), (Keeps.refl [] WA).drew⟩
      · rw [if_neg ht] at hp
        subst hp
        go_upto_if 36 with (fail)
        rw [← htm.out]
        go_wp2_with fail
        go_meet
        case rel => exact ⟨p, rfl, Lib.hid (fun _ => HPN.out), (Keeps.refl [] WA).drew⟩
  case rest =>
    obtain ⟨p, rfl, hpn, kc⟩ := hcut
    have p0 : (0 : Int) ≤ (p : Int) := by omega
    have J := Lib.hid (HH.out.kept (KB.out.trans kc) (by simp))
    have V := Lib.hid (show Mv Tag.own o w o wc from Mv.of_keeps (KB.out.trans kc) (by simp))
    have BC := Lib.hid (show wc.heap[lr]? = some (step8O 1 gN hs ky vl m nn sm) from kc.has BS.out (by simp))
    have RC := Lib.hid (show wc.heap[u.xb]? = some (two8O xD.db yD.db (.slice u.a n u.c) (.slice u.a' n u.c')) from (KB.out.trans kc).has R1.out (by simp))
    have bc := BC.out
    have rc := RC.out
    unfold step8O at bc
    unfold two8O at rc
    have s0 : wc.cell? ⟨lr, 0, none⟩ = some (.int .i64 1) := cell_has bc (i := 0) rfl
    clear kc x2 s5
    go_upto_region 7 with (fail)
    have x0 : wc.cell? ⟨u.xb, 0, none⟩ = some (.pointer (some ⟨xD.db, 0, none⟩)) := cell_has rc (i := 0) rfl
    have x1 : wc.cell? ⟨u.xb, 1, none⟩ = some (.pointer (some ⟨yD.db, 0, none⟩)) := cell_has rc (i := 1) rfl
    have x2 : wc.cell? ⟨u.xb, 2, none⟩ = some (.slice u.a n u.c) := cell_has rc (i := 2) rfl
    have s1 : wc.cell? ⟨lr, 1, none⟩ = some (.int .i64 gN) := cell_has bc (i := 1) rfl
    have s2 : wc.cell? ⟨lr, 2, none⟩ = some (.int .i64 hs) := cell_has bc (i := 2) rfl
    have s3 : wc.cell? ⟨lr, 3, none⟩ = some (.int .i64 ky) := cell_has bc (i := 3) rfl
    have s4 : wc.cell? ⟨lr, 4, none⟩ = some (.int .i64 vl) := cell_has bc (i := 4) rfl
    have XS := Lib.hid (show wc.drew.cell? ⟨u.xb, 1, none⟩ = _ ∧ wc.drew.cell? ⟨u.xb, 2, none⟩ = _ ∧ wc.drew.cell? ⟨lr, 1, none⟩ = _ ∧ wc.drew.cell? ⟨lr, 2, none⟩ = _ ∧ wc.drew.cell? ⟨lr, 3, none⟩ = _ ∧ wc.drew.cell? ⟨lr, 4, none⟩ = _ from ⟨x1, x2, s1, s2, s3, s4⟩)
    obtain ⟨d1, d2, d3, d4⟩ := J.out.g.p.dc _ _ HXD.out.1
    obtain ⟨e1, e2, e3, e4⟩ := J.out.g.r.dc _ _ HXD.out.2
    clear bc rc x1 x2 d1 d2 d3 d4 e1 e2 e3 e4
    go_upto_region 8 with (fail)
    go_region_held3 (fun w' => w'.cell? ⟨u.xb, 0, none⟩ = some (.pointer (some ⟨xD.db, 0, none⟩)) ∧ w'.cell? ⟨lr, 1, none⟩ = some (.int .i64 gN) ∧ w'.cell? ⟨lr, 2, none⟩ = some (.int .i64 hs) ∧ w'.cell? ⟨lr, 3, none⟩ = some (.int .i64 ky) ∧ w'.cell? ⟨lr, 4, none⟩ = some (.int .i64 vl)) (go_keep)
      (first | (go_at_call 18; refine (begin_any8 xD.db xD.t gN hs ky vl _ g1 g4).mono ?_; rintro r w1 ⟨mb, rfl, a1, l1, k1⟩; have A1 := Lib.hid a1; have L1 := Lib.hid l1; have K1 := Lib.hid k1; have p0 := k1.cell (w := wc.drew) x0 (by simp); have p1 := k1.cell XS.out.1 (by simp); have p2 := k1.cell XS.out.2.1 (by simp); have p3 := k1.cell XS.out.2.2.1 (by simp); have p4 := k1.cell XS.out.2.2.2.1 (by simp); have p5 := k1.cell XS.out.2.2.2.2.1 (by simp); have p6 := k1.cell XS.out.2.2.2.2.2 (by simp); clear a1 l1 k1))
    have XS1 := Lib.hid (show w1.drew.cell? ⟨u.xb, 2, none⟩ = _ from p2)
    have XS2 := Lib.hid (show w1.drew.cell? ⟨u.xb, 1, none⟩ = _ ∧ w1.drew.cell? ⟨lr, 1, none⟩ = _ ∧ w1.drew.cell? ⟨lr, 2, none⟩ = _ ∧ w1.drew.cell? ⟨lr, 3, none⟩ = _ ∧ w1.drew.cell? ⟨lr, 4, none⟩ = _ from ⟨p1, p3, p4, p5, p6⟩)
    clear x0 s0 s1 s2 s3 s4 p0 p2
    go_upto_region 9 with (fail)
    go_region_held3 (fun w' => w'.cell? ⟨u.xb, 1, none⟩ = some (.pointer (some ⟨yD.db, 0, none⟩)) ∧ w'.cell? ⟨lr, 1, none⟩ = some (.int .i64 gN) ∧ w'.cell? ⟨lr, 2, none⟩ = some (.int .i64 hs) ∧ w'.cell? ⟨lr, 3, none⟩ = some (.int .i64 ky) ∧ w'.cell? ⟨lr, 4, none⟩ = some (.int .i64 vl)) (go_keep)
      (first | (go_at_call 35; refine (rbegin_any yD.db yD.t gN hs ky vl _ g1 g4).mono ?_; rintro r w2 ⟨rb, rfl, a2, l2, k2⟩; have A2 := Lib.hid a2; have L2 := Lib.hid l2; have K2 := Lib.hid k2; have z1 := k2.cell XS2.out.1 (by simp); have z2 := k2.cell XS1.out (by simp); have z3 := k2.cell XS2.out.2.1 (by simp); have z4 := k2.cell XS2.out.2.2.1 (by simp); have z5 := k2.cell XS2.out.2.2.2.1 (by simp); have z6 := k2.cell XS2.out.2.2.2.2 (by simp); clear a2 l2 k2))
    clear p1 p3 p4 p5 p6 z1 z3 z4 z5 z6
    have KW1 := Lib.hid (show Keeps [] wc w1 from (Keeps.refl [] wc).drew.trans K1.out)
    have KW2 := Lib.hid (show Keeps [] w1 w2 from (Keeps.refl [] w1).drew.trans K2.out)
    have f1 : (n : Int) < 40 := by omega
    have f2 : decide ((n : Int) < 40) = true := by simp; omega
    obtain ⟨o1, p1, v1, q1, u1⟩ := J.out.g.p.begin J.out.g.fr HXD.out.1 (by have h9 := L1.out; exact h9) A1.out (newM_ok xD.d gN hs ky vl g1 g4) rfl rfl KW1.out
    have G1 := Lib.hid (J.out.g.gop p1 v1 q1 u1 (HeadD.refl _) (HeadM.app M _))
    have V1 := Lib.hid (V.out.trans (v1.mono (fun t ht => Tag.own_side ht true)))
    obtain ⟨o2, p2, v2, q2, u2⟩ := G1.out.r.begin G1.out.fr HXD.out.2 (by have h9 := L2.out; exact h9) A2.out (newM_ok yD.d gN hs ky vl g1 g4) rfl rfl KW2.out
    have G2 := Lib.hid (G1.out.gor p2 v2 q2 u2 (HeadD.refl _) (HeadM.app L _))
    have V2 := Lib.hid (V1.out.trans (v2.mono (fun t ht => Tag.own_side ht false)))
    have TK := Lib.hid (G2.out.tw k u HTK.out)
    have R2 := Lib.hid (show w2.heap[u.xb]? = some (two8O xD.db yD.db (.slice u.a n u.c) (.slice u.a' n u.c')) from KW2.out.has (KW1.out.has RC.out (by simp)) (by simp))
    have BW2 := Lib.hid (show B ≤ w2.heap.size from G2.out.bw)
    obtain ⟨g, cap, w3, run3, r3, k3, g3, l3⟩ := val_app8 (TY := 70) Tryz.underlying45 infoPM rfl B u.a u.c n (ptr8 Mr8.mb u.ms) (.pointer (some ⟨mb, 0, none⟩)) rfl (w2.alloc (.cells #[.pointer (some ⟨mb, 0, none⟩)] 70)) w2.heap.size (by have h9 := TK.out.pa; rw [← hn.out] at h9; exact h9.keeps ((Keeps.refl [] w2).alloc _) (by simp)) (has_new _ _) (by omega) (by have := BW2.out; simp; omega)
    have HRun := Lib.hid run3
    have nx : u.xb ∉ blk u.a := fun hx => by have h9 := TK.out.oa _ hx; rw [TK.out.ox] at h9; cases h9
    have nx' : u.xb ∉ blk u.a' := fun hx => by have h9 := TK.out.ob _ hx; rw [TK.out.ox] at h9; cases h9
    have k23 : Keeps (blk u.a) w2 w3 := ((Keeps.refl (blk u.a) w2).alloc _).trans k3
    have RV3 := Lib.hid r3
    have K23 := Lib.hid k23
    have R3 := Lib.hid (k23.has R2.out nx)
    have y2 := R3.out
    unfold two8O at y2
    have y3 : w3.cell? ⟨u.xb, 2, none⟩ = some (.slice u.a n u.c) := cell_has y2 (i := 2) rfl
    have fz3 := free_of_has y2 2
    have GO := Lib.hid (show g ∈ blk u.a ∨ w2.heap.size ≤ g from by
      rcases g3 with h | h
      · exact .inl h
      · right; rw [h]; simp)
    have GL := Lib.hid l3
    have NX := Lib.hid (And.intro nx nx')
    have N40 := Lib.hid h40
    clear run3 r3 k3 g3 l3 k23 y2 nx nx' p1 v1 q1 u1 p2 v2 q2 u2 h40
    go_upto_region 14 with (at_builtin; refine wpList_append_run rfl _ _ 45 rfl _ _ rfl rfl _ _ HRun.out ?_)
    refine wp_gen (fun V => V.heap[u.xb]? = some (two8O xD.db yD.db (.slice (some ⟨g, 0, none⟩) (n + 1) cap) (.slice u.a' n u.c')) ∧ Keeps [u.xb] w3 V) ⟨(two8_set R3.out).2.2.1 _, (two8_set R3.out).2.2.2.2 2 _⟩ ?_
    rintro w4 ⟨b4, k4⟩
    have K24 := Lib.hid (show Keeps (u.xb :: blk u.a) w2 w4 from (K23.out.mono (fun x hx => List.mem_cons_of_mem _ hx)).trans (k4.mono (by simp)))
    have B4 := Lib.hid b4
    have K34 := Lib.hid k4
    obtain ⟨o4, c1, c2, c3, c4⟩ := own_row (W' := w4) G2.out.fr (.rowA k) (g := g) (Nat.lt_of_lt_of_le GL.out k4.size) K24.out.size (by
      rcases GO.out with h | h
      · exact .inl (TK.out.oa _ h)
      · exact .inr h)
    have O4 := Lib.hid (And.intro c1 (And.intro c2 (And.intro c3 c4)))
    have QA := Lib.hid (show Mv (fun t => t == .two k || t == .rowA k || t == .rowB k) o2 w2 o4 w4 from Mv.of_keepsO K24.out (fun z hz hl => by
      rcases List.mem_cons.1 hz with h | h
      · rw [h, TK.out.ox]; simp
      · rw [TK.out.oa _ h]; simp) c1)
    have LT := Lib.hid TK.out.lt
    have PB4 := Lib.hid (TK.out.pb.keeps K24.out (fun x hx hy => by
      rcases List.mem_cons.1 hy with h | h
      · subst h; exact NX.out.2 hx
      · have h8 := TK.out.oa _ h; rw [TK.out.ob _ hx] at h8; cases h8))
    obtain ⟨g', cap', w5, run5, r5, k5, g5, l5⟩ := val_app8 (TY := 98) Tryz.underlying46 infoRM rfl B u.a' u.c' n (ptr8 Mr8.rb u.ms) (.pointer (some ⟨rb, 0, none⟩)) rfl (w4.alloc (.cells #[.pointer (some ⟨rb, 0, none⟩)] 98)) w4.heap.size (by have h9 := PB4.out; rw [← hn.out] at h9; exact h9.keeps ((Keeps.refl [] w4).alloc _) (by simp)) (has_new _ _) (by omega) (by have := BW2.out; have := K24.out.size; simp; omega)
    have HRun5 := Lib.hid run5
    have k45 : Keeps (blk u.a') w4 w5 := ((Keeps.refl (blk u.a') w4).alloc _).trans k5
    have RV5 := Lib.hid r5
    have K45 := Lib.hid k45
    have R5 := Lib.hid (k45.has B4.out NX.out.2)
    have y4 := B4.out
    unfold two8O at y4
    have y5 : w4.cell? ⟨u.xb, 3, none⟩ = some (.slice u.a' n u.c') := cell_has y4 (i := 3) rfl
    have y6 := R5.out
    unfold two8O at y6
    have y7 : w5.cell? ⟨u.xb, 3, none⟩ = some (.slice u.a' n u.c') := cell_has y6 (i := 3) rfl
    have fz5 := free_of_has y6 3
    have GO5 := Lib.hid (show g' ∈ blk u.a' ∨ w4.heap.size ≤ g' from by
      rcases g5 with h | h
      · exact .inl h
      · right; rw [h]; simp)
    have GL5 := Lib.hid l5
    clear run5 r5 k5 g5 l5 k45 y4 y6 b4 k4 c1 c2 c3 c4 y3 fz3
    go_wp2_with (at_builtin; refine wpList_append_run rfl _ _ 46 rfl _ _ rfl rfl _ _ HRun5.out ?_)
    go_ret
    have k56 := (two8_set R5.out).2.2.2.2 3 (.slice (some ⟨g', 0, none⟩) (n + 1) cap')
    have b6 := (two8_set R5.out).2.2.2.1 (.slice (some ⟨g', 0, none⟩) (n + 1) cap')
    obtain ⟨w6, hw6⟩ : ∃ w6, w6 = w5.setCell ⟨u.xb, 3, none⟩ (.slice (some ⟨g', 0, none⟩) (n + 1) cap') := ⟨_, rfl⟩
    rw [← hw6] at k56 b6 ⊢
    have k46 : Keeps (u.xb :: blk u.a') w4 w6 := (K45.out.mono (fun x hx => List.mem_cons_of_mem _ hx)).trans (k56.mono (by simp))
    have tx4 : o4 u.xb = .two k := (O4.out.1 _ LT.out.1).trans TK.out.ox
    have tb4 : ∀ z, z ∈ blk u.a' → o4 z = .rowB k := fun z hz => (O4.out.1 _ (LT.out.2.2 z hz)).trans (TK.out.ob z hz)
    obtain ⟨o6, c1, c2, c3, c4⟩ := own_row (W' := w6) O4.out.2.2.1 (.rowB k) (g := g') (Nat.lt_of_lt_of_le GL5.out k56.size) k46.size (by
      rcases GO5.out with h | h
      · exact .inl (tb4 _ h)
      · exact .inr h)
    have g4 : g < w4.heap.size := Nat.lt_of_lt_of_le GL.out K34.out.size
    have qB : Mv (fun t => t == .two k || t == .rowA k || t == .rowB k) o4 w4 o6 w6 := Mv.of_keepsO k46 (fun z hz hl => by
      rcases List.mem_cons.1 hz with h | h
      · rw [h, tx4]; simp
      · rw [tb4 _ h]; simp) c1
    have gx : g ≠ u.xb := fun e => by have h9 := O4.out.2.1; rw [e, tx4] at h9; cases h9
    have gb : g ∉ blk u.a' := fun hx => by have h9 := O4.out.2.1; rw [tb4 _ hx] at h9; cases h9
    have tx6 : o6 u.xb = .two k := (c1 _ (Nat.lt_of_lt_of_le LT.out.1 K24.out.size)).trans tx4
    have gx' : g' ≠ u.xb := fun e => by rw [e, tx6] at c2; cases c2
    have len := J.out.a.len
    have e1 : (u.ms ++ [(⟨mb, rb, M.length⟩ : Mr8)]).length = n + 1 := by simp [hn.out]
    have tw : TWk B o6 k { u with a := some ⟨g, 0, none⟩, c := cap, a' := some ⟨g', 0, none⟩, c' := cap', ms := u.ms ++ [⟨mb, rb, M.length⟩] } D E (M ++ [⟨mb, 0, newM gN hs ky vl, u.cur⟩]) (L ++ [⟨rb, 0, newM gN hs ky vl, u.cur⟩]) w6 := by
      refine ⟨⟨xD, yD, HXD.out.1, HXD.out.2, ?_⟩, ?_, ?_, tx6, fun z hz => ?_, fun z hz => ?_, ?_, fun r hr => ?_⟩
      · show w6.heap[u.xb]? = some (two8O xD.db yD.db (.slice (some ⟨g, 0, none⟩) (u.ms ++ [(⟨mb, rb, M.length⟩ : Mr8)]).length cap) (.slice (some ⟨g', 0, none⟩) (u.ms ++ [(⟨mb, rb, M.length⟩ : Mr8)]).length cap'))
        rw [e1]; exact b6
      · show ValRow 70 B (some ⟨g, 0, none⟩) (u.ms ++ [(⟨mb, rb, M.length⟩ : Mr8)]).length cap (ptr8 Mr8.mb (u.ms ++ [(⟨mb, rb, M.length⟩ : Mr8)])) w6
        rw [e1]
        refine (((RV3.out.keeps K34.out (fun x hx hy => by simp [blk] at hx hy; subst hx; exact gx hy)).keeps k46 (fun x hx hy => ?_))).congr (fun j hj => ?_)
        · simp only [blk, List.mem_singleton] at hx; subst hx
          rcases List.mem_cons.1 hy with h | h
          · exact gx h
          · exact gb h
        · rw [hn.out]; exact ptr8_push Mr8.mb u.ms ⟨mb, rb, M.length⟩ j (by rw [← hn.out]; exact hj)
      · show ValRow 98 B (some ⟨g', 0, none⟩) (u.ms ++ [(⟨mb, rb, M.length⟩ : Mr8)]).length cap' (ptr8 Mr8.rb (u.ms ++ [(⟨mb, rb, M.length⟩ : Mr8)])) w6
        rw [e1]
        refine (RV5.out.keeps k56 (fun x hx hy => by simp [blk] at hx hy; subst hx; exact gx' hy)).congr (fun j hj => ?_)
        rw [hn.out]; exact ptr8_push Mr8.rb u.ms ⟨mb, rb, M.length⟩ j (by rw [← hn.out]; exact hj)
      · simp only [blk, List.mem_singleton] at hz; subst hz; exact (c1 _ g4).trans O4.out.2.1
      · simp only [blk, List.mem_singleton] at hz; subst hz; exact c2
      · show (u.ms ++ [(⟨mb, rb, M.length⟩ : Mr8)]).length ≤ 40
        rw [e1]; have := N40.out; omega
      · rcases List.mem_append.1 hr with h | h
        · exact TK.out.mem r h
        · simp only [List.mem_singleton] at h; subst h
          exact ⟨⟨mb, 0, newM gN hs ky vl, u.cur⟩, ⟨rb, 0, newM gN hs ky vl, u.cur⟩, by simp, rfl, by rw [len.2]; simp, rfl⟩
    have QT := QA.out.trans qB
    have NU : NewUp o2 o6 w2 := fun z hz => by
      rcases c4 z hz with h | h
      · exact O4.out.2.2.2 z h
      · have := K24.out.size; exact .inr (by omega)
    have GF := G2.out.two HTK.out QT c3 NU tw
    refine ⟨c, o6, _, D, E, _, _, rfl, ⟨GF.mono (by omega) (by omega) (by omega) (by omega), J.out.a.appM ⟨rfl, rfl⟩, ?_, by rw [List.length_set]; exact J.out.t⟩, V2.out.trans (QT.mono (fun t ht => by rw [Tag.own_free ht]; rfl)), SameTwos.set HTK.out rfl⟩
    have h9 := msum_set (u' := { u with a := some ⟨g, 0, none⟩, c := cap, a' := some ⟨g', 0, none⟩, c' := cap', ms := u.ms ++ [⟨mb, rb, M.length⟩] }) HTK.out
    have h8 := J.out.n
    have h7 : ({ u with a := some ⟨g, 0, none⟩, c := cap, a' := some ⟨g', 0, none⟩, c' := cap', ms := u.ms ++ [⟨mb, rb, M.length⟩] } : Tw8).ms.length = n + 1 := e1
    have h6 := hn.out
    simp only [List.length_append, List.length_singleton]
    omega
set_option maxRecDepth 100000 in
set_option maxHeartbeats 16000000 in
theorem does8_beginF {B : Nat} {m1 m2 : Option Nat} {c : C4} {N Z : Nat} {o : Nat → Tag} {T : List Tw8} {D E : List PD} {M L : List PM} {w : World} (H : J8 B m1 m2 c N Z o T D E M L w) (hN : N ≤ 899) (hZ : Z ≤ 800000) {k : Nat} {u : Tw8} (hk : T[k]? = some u) (gN : Nat) (g1 : 1 ≤ gN) (g4 : gN ≤ 4) (h40 : 40 ≤ u.ms.length) (gl hs ky vl m nn : Int) (sm : Bool) (hgl : gl = gN) :
    Calls Tryz.prog 15 #[.pointer (some ⟨u.xb, 0, none⟩), step8A 1 gl hs ky vl m nn sm] w (Does8P B m1 m2 N Z o T w) := by
  obtain ⟨lr, hlr⟩ : ∃ lr, lr = w.heap.size := ⟨_, rfl⟩
  obtain ⟨WA, hWA⟩ : ∃ WA, w.alloc (.cells #[.int .i64 1, .int .i64 gl, .int .i64 hs, .int .i64 ky, .int .i64 vl, .int .i64 m, .int .i64 nn, .bool sm] 53) = WA := ⟨_, rfl⟩
  have kb : Keeps [] w WA := by rw [← hWA]; exact (Keeps.refl [] w).alloc _
  have bs : WA.heap[lr]? = some (step8O 1 gl hs ky vl m nn sm) := by rw [← hWA, hlr]; exact has_new _ _
  have OL := Lib.hid (show o lr = .free from H.g.fr lr (by omega))
  have M40 := Lib.hid (H.g.tw k u hk).m40
  have BS := Lib.hid bs
  have KB := Lib.hid kb
  have HH := Lib.hid H
  have HWA := Lib.hid hWA
  have HLR := Lib.hid hlr
  have HTK := Lib.hid hk
  obtain ⟨xD, yD, hxD, hyD, r1⟩ := (H.g.tw k u hk).row
  have HXD := Lib.hid (And.intro hxD hyD)
  obtain ⟨n, hn⟩ := ex_hid u.ms.length
  have n40 : n ≤ 40 := by rw [hn.out]; exact M40.out
  rw [← hn.out] at r1
  have R1 := Lib.hid r1
  have r1 := kb.has r1 (by simp)
  unfold two8O at r1
  unfold step8O at bs
  have x2 : WA.cell? ⟨u.xb, 2, none⟩ = some (.slice u.a n u.c) := cell_has r1 (i := 2) rfl
  have s5 : WA.cell? ⟨lr, 5, none⟩ = some (.int .i64 m) := cell_has bs (i := 5) rfl
  obtain ⟨lt, hlt⟩ : ∃ lt : Bool, Hid (lt = decide ((0 : Int) < (n : Int))) := ⟨_, Lib.hid rfl⟩
  clear H hk hlr hWA kb bs r1 hxD hyD
  unfold step8A
  subst hgl
  have H40F := Lib.hid h40
  clear h40
  go_enter Tryz.func15, Tryz.ntmps15
  go_upto_region 1 with (fail)
  rw [HWA.out, ← HLR.out]
  go_upto_if 26 with (fail)
  go_cut [5] from 21 to 43 (fun z5 wx => ∃ p : Nat, z5 = .int .i64 p ∧ Hid (n ≠ 0 → p < n) ∧ Keeps [] WA wx)
  case first =>
    by_cases h0 : n = 0
    · subst h0
      go_wp2_with fail
      go_meet
      case rel => exact ⟨0, rfl, Lib.hid (fun h => absurd rfl h), Keeps.refl _ _⟩
    · have n1 : (n : Int) ≠ 0 := by omega
      have n2 : (0 : Int) < (n : Int) := by omega
      have n3 : (n : Int) ≤ 40 := by omega
      obtain ⟨p, hpn, hp⟩ := idx8 m (show 0 < n by omega)
      have HP := Lib.hid hp
      have HPN := Lib.hid hpn
      clear hp hpn
      go_upto_region 3 with (fail)
      go_region_held3 (fun w' => w'.cell? ⟨lr, 5, none⟩ = some (.int .i64 m) ∧ w'.cell? ⟨u.xb, 2, none⟩ = some (.slice u.a n u.c)) (go_keep) (fail)
      have x2d : WA.drew.cell? ⟨u.xb, 2, none⟩ = some (.slice u.a n u.c) := x2
      obtain ⟨tm, htm⟩ := ex_hid (m.tmod n)
      have hp := HP.out
      rw [← htm.out] at hp
      by_cases ht : tm < 0
      · rw [if_pos ht] at hp
        go_upto_if 36 with (fail)
        rw [← htm.out]
        go_wp2_with fail
        go_meet
        case rel => exact ⟨p, by rw [← hp], Lib.hid (fun _ => HPN.out), (Keeps.refl [] WA).drew⟩
      · rw [if_neg ht] at hp
        subst hp
        go_upto_if 36 with (fail)
        rw [← htm.out]
        go_wp2_with fail
        go_meet
        case rel => exact ⟨p, rfl, Lib.hid (fun _ => HPN.out), (Keeps.refl [] WA).drew⟩
  case rest =>
    obtain ⟨p, rfl, hpn, kc⟩ := hcut
    have p0 : (0 : Int) ≤ (p : Int) := by omega
    have J := Lib.hid (HH.out.kept (KB.out.trans kc) (by simp))
    have V := Lib.hid (show Mv Tag.own o w o wc from Mv.of_keeps (KB.out.trans kc) (by simp))
    have BC := Lib.hid (show wc.heap[lr]? = some (step8O 1 gN hs ky vl m nn sm) from kc.has BS.out (by simp))
    have RC := Lib.hid (show wc.heap[u.xb]? = some (two8O xD.db yD.db (.slice u.a n u.c) (.slice u.a' n u.c')) from (KB.out.trans kc).has R1.out (by simp))
    have bc := BC.out
    have rc := RC.out
    unfold step8O at bc
    unfold two8O at rc
    have s0 : wc.cell? ⟨lr, 0, none⟩ = some (.int .i64 1) := cell_has bc (i := 0) rfl
    clear kc x2 s5
    go_upto_region 7 with (fail)
    have x0 : wc.cell? ⟨u.xb, 0, none⟩ = some (.pointer (some ⟨xD.db, 0, none⟩)) := cell_has rc (i := 0) rfl
    have x1 : wc.cell? ⟨u.xb, 1, none⟩ = some (.pointer (some ⟨yD.db, 0, none⟩)) := cell_has rc (i := 1) rfl
    have x2 : wc.cell? ⟨u.xb, 2, none⟩ = some (.slice u.a n u.c) := cell_has rc (i := 2) rfl
    have s1 : wc.cell? ⟨lr, 1, none⟩ = some (.int .i64 gN) := cell_has bc (i := 1) rfl
    have s2 : wc.cell? ⟨lr, 2, none⟩ = some (.int .i64 hs) := cell_has bc (i := 2) rfl
    have s3 : wc.cell? ⟨lr, 3, none⟩ = some (.int .i64 ky) := cell_has bc (i := 3) rfl
    have s4 : wc.cell? ⟨lr, 4, none⟩ = some (.int .i64 vl) := cell_has bc (i := 4) rfl
    have XS := Lib.hid (show wc.drew.cell? ⟨u.xb, 1, none⟩ = _ ∧ wc.drew.cell? ⟨u.xb, 2, none⟩ = _ ∧ wc.drew.cell? ⟨lr, 1, none⟩ = _ ∧ wc.drew.cell? ⟨lr, 2, none⟩ = _ ∧ wc.drew.cell? ⟨lr, 3, none⟩ = _ ∧ wc.drew.cell? ⟨lr, 4, none⟩ = _ from ⟨x1, x2, s1, s2, s3, s4⟩)
    obtain ⟨d1, d2, d3, d4⟩ := J.out.g.p.dc _ _ HXD.out.1
    obtain ⟨e1, e2, e3, e4⟩ := J.out.g.r.dc _ _ HXD.out.2
    clear bc rc x1 x2 d1 d2 d3 d4 e1 e2 e3 e4
    go_upto_region 8 with (fail)
    go_region_held3 (fun w' => w'.cell? ⟨u.xb, 0, none⟩ = some (.pointer (some ⟨xD.db, 0, none⟩)) ∧ w'.cell? ⟨lr, 1, none⟩ = some (.int .i64 gN) ∧ w'.cell? ⟨lr, 2, none⟩ = some (.int .i64 hs) ∧ w'.cell? ⟨lr, 3, none⟩ = some (.int .i64 ky) ∧ w'.cell? ⟨lr, 4, none⟩ = some (.int .i64 vl)) (go_keep)
      (first | (go_at_call 18; refine (begin_any8 xD.db xD.t gN hs ky vl _ g1 g4).mono ?_; rintro r w1 ⟨mb, rfl, a1, l1, k1⟩; have A1 := Lib.hid a1; have L1 := Lib.hid l1; have K1 := Lib.hid k1; have p0 := k1.cell (w := wc.drew) x0 (by simp); have p1 := k1.cell XS.out.1 (by simp); have p2 := k1.cell XS.out.2.1 (by simp); have p3 := k1.cell XS.out.2.2.1 (by simp); have p4 := k1.cell XS.out.2.2.2.1 (by simp); have p5 := k1.cell XS.out.2.2.2.2.1 (by simp); have p6 := k1.cell XS.out.2.2.2.2.2 (by simp); clear a1 l1 k1))
    have XS1 := Lib.hid (show w1.drew.cell? ⟨u.xb, 2, none⟩ = _ from p2)
    have XS2 := Lib.hid (show w1.drew.cell? ⟨u.xb, 1, none⟩ = _ ∧ w1.drew.cell? ⟨lr, 1, none⟩ = _ ∧ w1.drew.cell? ⟨lr, 2, none⟩ = _ ∧ w1.drew.cell? ⟨lr, 3, none⟩ = _ ∧ w1.drew.cell? ⟨lr, 4, none⟩ = _ from ⟨p1, p3, p4, p5, p6⟩)
    clear x0 s0 s1 s2 s3 s4 p0 p2
    go_upto_region 9 with (fail)
    go_region_held3 (fun w' => w'.cell? ⟨u.xb, 1, none⟩ = some (.pointer (some ⟨yD.db, 0, none⟩)) ∧ w'.cell? ⟨lr, 1, none⟩ = some (.int .i64 gN) ∧ w'.cell? ⟨lr, 2, none⟩ = some (.int .i64 hs) ∧ w'.cell? ⟨lr, 3, none⟩ = some (.int .i64 ky) ∧ w'.cell? ⟨lr, 4, none⟩ = some (.int .i64 vl)) (go_keep)
      (first | (go_at_call 35; refine (rbegin_any yD.db yD.t gN hs ky vl _ g1 g4).mono ?_; rintro r w2 ⟨rb, rfl, a2, l2, k2⟩; have A2 := Lib.hid a2; have L2 := Lib.hid l2; have K2 := Lib.hid k2; have z1 := k2.cell XS2.out.1 (by simp); have z2 := k2.cell XS1.out (by simp); have z3 := k2.cell XS2.out.2.1 (by simp); have z4 := k2.cell XS2.out.2.2.1 (by simp); have z5 := k2.cell XS2.out.2.2.2.1 (by simp); have z6 := k2.cell XS2.out.2.2.2.2 (by simp); clear a2 l2 k2))
    clear p1 p3 p4 p5 p6 z1 z3 z4 z5 z6
    have KW1 := Lib.hid (show Keeps [] wc w1 from (Keeps.refl [] wc).drew.trans K1.out)
    have KW2 := Lib.hid (show Keeps [] w1 w2 from (Keeps.refl [] w1).drew.trans K2.out)
    have h40 : 40 ≤ n := by rw [hn.out]; exact H40F.out
    have f1 : ¬ (n : Int) < 40 := by omega
    have f2 : decide ((n : Int) < 40) = false := by simp; omega
    go_wp2_with fail
    go_ret
    exact ⟨c, o, T, D, E, M, L, rfl, (J.out.mono (by omega) (by omega)).kept (KW1.out.trans KW2.out) (by simp), V.out.thenK (KW1.out.trans KW2.out) (by simp), SameTwos.refl T⟩
set_option maxRecDepth 100000 in
set_option maxHeartbeats 16000000 in
theorem does8_bad {B : Nat} {m1 m2 : Option Nat} {c : C4} {N Z : Nat} {o : Nat → Tag} {T : List Tw8} {D E : List PD} {M L : List PM} {w : World} (H : J8 B m1 m2 c N Z o T D E M L w) (hN : N ≤ 899) (hZ : Z ≤ 800000) {k : Nat} {u : Tw8} (hk : T[k]? = some u)  (gl hs ky vl m nn : Int) (sm : Bool) (hg : ¬ (1 ≤ gl ∧ gl ≤ 4)) :
    Calls Tryz.prog 15 #[.pointer (some ⟨u.xb, 0, none⟩), step8A 1 gl hs ky vl m nn sm] w (Does8P B m1 m2 N Z o T w) := by
  obtain ⟨lr, hlr⟩ : ∃ lr, lr = w.heap.size := ⟨_, rfl⟩
  obtain ⟨WA, hWA⟩ : ∃ WA, w.alloc (.cells #[.int .i64 1, .int .i64 gl, .int .i64 hs, .int .i64 ky, .int .i64 vl, .int .i64 m, .int .i64 nn, .bool sm] 53) = WA := ⟨_, rfl⟩
  have kb : Keeps [] w WA := by rw [← hWA]; exact (Keeps.refl [] w).alloc _
  have bs : WA.heap[lr]? = some (step8O 1 gl hs ky vl m nn sm) := by rw [← hWA, hlr]; exact has_new _ _
  have OL := Lib.hid (show o lr = .free from H.g.fr lr (by omega))
  have M40 := Lib.hid (H.g.tw k u hk).m40
  have BS := Lib.hid bs
  have KB := Lib.hid kb
  have HH := Lib.hid H
  have HWA := Lib.hid hWA
  have HLR := Lib.hid hlr
  have HTK := Lib.hid hk
  obtain ⟨xD, yD, hxD, hyD, r1⟩ := (H.g.tw k u hk).row
  have HXD := Lib.hid (And.intro hxD hyD)
  obtain ⟨n, hn⟩ := ex_hid u.ms.length
  have n40 : n ≤ 40 := by rw [hn.out]; exact M40.out
  rw [← hn.out] at r1
  have R1 := Lib.hid r1
  have r1 := kb.has r1 (by simp)
  unfold two8O at r1
  unfold step8O at bs
  have x2 : WA.cell? ⟨u.xb, 2, none⟩ = some (.slice u.a n u.c) := cell_has r1 (i := 2) rfl
  have s5 : WA.cell? ⟨lr, 5, none⟩ = some (.int .i64 m) := cell_has bs (i := 5) rfl
  obtain ⟨lt, hlt⟩ : ∃ lt : Bool, Hid (lt = decide ((0 : Int) < (n : Int))) := ⟨_, Lib.hid rfl⟩
  clear H hk hlr hWA kb bs r1 hxD hyD
  unfold step8A
  have HG := Lib.hid hg
  clear hg
  go_enter Tryz.func15, Tryz.ntmps15
  go_upto_region 1 with (fail)
  rw [HWA.out, ← HLR.out]
  go_upto_if 26 with (fail)
  go_cut [5] from 21 to 43 (fun z5 wx => ∃ p : Nat, z5 = .int .i64 p ∧ Hid (n ≠ 0 → p < n) ∧ Keeps [] WA wx)
  case first =>
    by_cases h0 : n = 0
    · subst h0
      go_wp2_with fail
      go_meet
      case rel => exact ⟨0, rfl, Lib.hid (fun h => absurd rfl h), Keeps.refl _ _⟩
    · have n1 : (n : Int) ≠ 0 := by omega
      have n2 : (0 : Int) < (n : Int) := by omega
      have n3 : (n : Int) ≤ 40 := by omega
      obtain ⟨p, hpn, hp⟩ := idx8 m (show 0 < n by omega)
      have HP := Lib.hid hp
      have HPN := Lib.hid hpn
      clear hp hpn
      go_upto_region 3 with (fail)
      go_region_held3 (fun w' => w'.cell? ⟨lr, 5, none⟩ = some (.int .i64 m) ∧ w'.cell? ⟨u.xb, 2, none⟩ = some (.slice u.a n u.c)) (go_keep) (fail)
      have x2d : WA.drew.cell? ⟨u.xb, 2, none⟩ = some (.slice u.a n u.c) := x2
      obtain ⟨tm, htm⟩ := ex_hid (m.tmod n)
      have hp := HP.out
      rw [← htm.out] at hp
      by_cases ht : tm < 0
      · rw [if_pos ht] at hp
        go_upto_if 36 with (fail)
        rw [← htm.out]
        go_wp2_with fail
        go_meet
        case rel => exact ⟨p, by rw [← hp], Lib.hid (fun _ => HPN.out), (Keeps.refl [] WA).drew⟩
      · rw [if_neg ht] at hp
        subst hp
        go_upto_if 36 with (fail)
        rw [← htm.out]
        go_wp2_with fail
        go_meet
        case rel => exact ⟨p, rfl, Lib.hid (fun _ => HPN.out), (Keeps.refl [] WA).drew⟩
  case rest =>
    obtain ⟨p, rfl, hpn, kc⟩ := hcut
    have p0 : (0 : Int) ≤ (p : Int) := by omega
    have J := Lib.hid (HH.out.kept (KB.out.trans kc) (by simp))
    have V := Lib.hid (show Mv Tag.own o w o wc from Mv.of_keeps (KB.out.trans kc) (by simp))
    have BC := Lib.hid (show wc.heap[lr]? = some (step8O 1 gl hs ky vl m nn sm) from kc.has BS.out (by simp))
    have RC := Lib.hid (show wc.heap[u.xb]? = some (two8O xD.db yD.db (.slice u.a n u.c) (.slice u.a' n u.c')) from (KB.out.trans kc).has R1.out (by simp))
    have bc := BC.out
    have rc := RC.out
    unfold step8O at bc
    unfold two8O at rc
    have s0 : wc.cell? ⟨lr, 0, none⟩ = some (.int .i64 1) := cell_has bc (i := 0) rfl
    clear kc x2 s5
    go_upto_region 7 with (fail)
    have x0 : wc.cell? ⟨u.xb, 0, none⟩ = some (.pointer (some ⟨xD.db, 0, none⟩)) := cell_has rc (i := 0) rfl
    have x1 : wc.cell? ⟨u.xb, 1, none⟩ = some (.pointer (some ⟨yD.db, 0, none⟩)) := cell_has rc (i := 1) rfl
    have s1 : wc.cell? ⟨lr, 1, none⟩ = some (.int .i64 gl) := cell_has bc (i := 1) rfl
    have s2 : wc.cell? ⟨lr, 2, none⟩ = some (.int .i64 hs) := cell_has bc (i := 2) rfl
    have s3 : wc.cell? ⟨lr, 3, none⟩ = some (.int .i64 ky) := cell_has bc (i := 3) rfl
    have s4 : wc.cell? ⟨lr, 4, none⟩ = some (.int .i64 vl) := cell_has bc (i := 4) rfl
    have XS := Lib.hid (show wc.drew.cell? ⟨u.xb, 1, none⟩ = _ ∧ wc.drew.cell? ⟨lr, 1, none⟩ = _ ∧ wc.drew.cell? ⟨lr, 2, none⟩ = _ ∧ wc.drew.cell? ⟨lr, 3, none⟩ = _ ∧ wc.drew.cell? ⟨lr, 4, none⟩ = _ from ⟨x1, s1, s2, s3, s4⟩)
    clear bc rc x1
    go_upto_region 8 with (fail)
    go_region_held3 (fun w' => w'.cell? ⟨u.xb, 0, none⟩ = some (.pointer (some ⟨xD.db, 0, none⟩)) ∧ w'.cell? ⟨lr, 1, none⟩ = some (.int .i64 gl) ∧ w'.cell? ⟨lr, 2, none⟩ = some (.int .i64 hs) ∧ w'.cell? ⟨lr, 3, none⟩ = some (.int .i64 ky) ∧ w'.cell? ⟨lr, 4, none⟩ = some (.int .i64 vl)) (go_keep)
      (first | (go_at_call 18; refine (begin_bad (some ⟨xD.db, 0, none⟩) gl hs ky vl _ HG.out).mono ?_; rintro r w1 ⟨rfl, k1⟩; have K1 := Lib.hid k1; have p0 := k1.cell (w := wc.drew) x0 (by simp); have p1 := k1.cell XS.out.1 (by simp); have p3 := k1.cell XS.out.2.1 (by simp); have p4 := k1.cell XS.out.2.2.1 (by simp); have p5 := k1.cell XS.out.2.2.2.1 (by simp); have p6 := k1.cell XS.out.2.2.2.2 (by simp); clear k1))
    have XS2 := Lib.hid (show w1.drew.cell? ⟨u.xb, 1, none⟩ = _ ∧ w1.drew.cell? ⟨lr, 1, none⟩ = _ ∧ w1.drew.cell? ⟨lr, 2, none⟩ = _ ∧ w1.drew.cell? ⟨lr, 3, none⟩ = _ ∧ w1.drew.cell? ⟨lr, 4, none⟩ = _ from ⟨p1, p3, p4, p5, p6⟩)
    clear x0 s0 s1 s2 s3 s4 p0
    go_upto_region 9 with (fail)
    go_region_held3 (fun w' => w'.cell? ⟨u.xb, 1, none⟩ = some (.pointer (some ⟨yD.db, 0, none⟩)) ∧ w'.cell? ⟨lr, 1, none⟩ = some (.int .i64 gl) ∧ w'.cell? ⟨lr, 2, none⟩ = some (.int .i64 hs) ∧ w'.cell? ⟨lr, 3, none⟩ = some (.int .i64 ky) ∧ w'.cell? ⟨lr, 4, none⟩ = some (.int .i64 vl)) (go_keep)
      (first | (go_at_call 35; refine (rbegin_bad yD.db gl hs ky vl _ HG.out).mono ?_; rintro r w2 ⟨rfl, k2⟩; have K2 := Lib.hid k2; have z1 := k2.cell XS2.out.1 (by simp); have z3 := k2.cell XS2.out.2.1 (by simp); have z4 := k2.cell XS2.out.2.2.1 (by simp); have z5 := k2.cell XS2.out.2.2.2.1 (by simp); have z6 := k2.cell XS2.out.2.2.2.2 (by simp); clear k2))
    clear p1 p3 p4 p5 p6 z1 z3 z4 z5 z6
    have KW1 := Lib.hid (show Keeps [] wc w1 from (Keeps.refl [] wc).drew.trans K1.out)
    have KW2 := Lib.hid (show Keeps [] w1 w2 from (Keeps.refl [] w1).drew.trans K2.out)
    go_wp2_with fail
    go_ret
    exact ⟨c, o, T, D, E, M, L, rfl, (J.out.mono (by omega) (by omega)).kept (KW1.out.trans KW2.out) (by simp), V.out.thenK (KW1.out.trans KW2.out) (by simp), SameTwos.refl T⟩
end Go.Proofs.YtcakdmapnmneoaaGreat
end

section
namespace Go.Proofs.YtcakdmapnmneoaaGreat
open Go.RowKit
set_option linter.unusedVariables false
set_option linter.unusedSimpArgs false

theorem does8_any {B : Nat} {m1 m2 : Option Nat} {c : C4} {N Z : Nat} {o : Nat → Tag} {T : List Tw8} {D E : List PD} {M L : List PM} {w : World} (H : J8 B m1 m2 c N Z o T D E M L w) (hN : N ≤ 899) (hZ : Z ≤ 800000) {k : Nat} {u : Tw8} (hk : T[k]? = some u) (g gl hs ky vl m nn : Int) (sm : Bool) :
    Calls Tryz.prog 15 #[.pointer (some ⟨u.xb, 0, none⟩), step8A g gl hs ky vl m nn sm] w (Does8P B m1 m2 N Z o T w) := by
  by_cases h1 : g = 1
  · subst h1
    by_cases hg : 1 ≤ gl ∧ gl ≤ 4
    · by_cases h40 : u.ms.length < 40
      · exact does8_begin H hN hZ hk gl.toNat (by omega) (by omega) h40 gl hs ky vl m nn sm (by omega)
      · exact does8_beginF H hN hZ hk gl.toNat (by omega) (by omega) (by omega) gl hs ky vl m nn sm (by omega)
    · exact does8_bad H hN hZ hk gl hs ky vl m nn sm hg
  by_cases h2 : g = 2
  · subst h2; exact does8_step H hN hZ hk gl hs ky vl m nn sm
  by_cases h3 : g = 3
  · subst h3; exact does8_tell H hN hZ hk gl hs ky vl m nn sm
  by_cases h4 : g = 4
  · subst h4; exact does8_loop H hN hZ hk gl hs ky vl m nn sm
  by_cases h5 : g = 5
  · subst h5; exact does8_clear H hN hZ hk gl hs ky vl m nn sm
  by_cases h6 : g = 6
  · subst h6; exact does8_first H hN hZ hk gl hs ky vl m nn sm
  by_cases h7 : g = 7
  · subst h7; exact does8_last H hN hZ hk gl hs ky vl m nn sm
  by_cases h8 : g = 8
  · subst h8; exact does8_copy H hN hZ hk gl hs ky vl m nn sm
  exact does8_none H hN hZ hk g (by omega) gl hs ky vl m nn sm
set_option maxRecDepth 100000 in
theorem new8_bad (most : Int) (mv : Option Addr) (w : World) (h : most < 0 ∨ 65536 < most) :
    Calls Tryz.prog 8 #[.int .i64 most, .pointer mv] w fun r w' => r = .returned (.tuple #[.pointer none, .int .i64 1]) ∧ w = w' := by
  by_cases h1 : most < 0
  · have d0 : decide (most < 0) = true := by simpa using h1
    clear h
    go_enter Tryz.func8, Tryz.ntmps8
    go_wp2_with fail
    go_ret2
    exact ⟨rfl, rfl⟩
  · have h2 : 65536 < most := by omega
    have d0 : decide (most < 0) = false := by simp; omega
    have d1 : decide (65536 < most) = true := by simpa using h2
    clear h
    go_enter Tryz.func8, Tryz.ntmps8
    go_wp2_with fail
    go_ret2
    exact ⟨rfl, rfl⟩
set_option maxRecDepth 100000 in
theorem rnew8_bad (most : Int) (mv : Option Addr) (w : World) (h : most < 0 ∨ 65536 < most) :
    Calls Tryz.prog 9 #[.int .i64 most, .pointer mv] w fun r w' => r = .returned (.tuple #[.pointer none, .int .i64 1]) ∧ w = w' := by
  by_cases h1 : most < 0
  · have d0 : decide (most < 0) = true := by simpa using h1
    clear h
    go_enter Tryz.func9, Tryz.ntmps9
    go_wp2_with fail
    go_ret2
    exact ⟨rfl, rfl⟩
  · have h2 : 65536 < most := by omega
    have d0 : decide (most < 0) = false := by simp; omega
    have d1 : decide (65536 < most) = true := by simpa using h2
    clear h
    go_enter Tryz.func9, Tryz.ntmps9
    go_wp2_with fail
    go_ret2
    exact ⟨rfl, rfl⟩
theorem J8.init {B : Nat} {m1 m2 : Option Nat} {c : C4} {most : Int} {db t lo wb tw lo2 xb : Nat} {S R : List Nat} {w : World} (hd : DicAt db t lo S (mV m1) (newD most) w) (hr : RDicAt wb tw lo2 R m2 (newD most) w) (h1 : MtrAt m1 c w) (h2 : CtrAt m2 c w)
    (hx : w.heap[xb]? = some (two8O db wb (.slice none 0 0) (.slice none 0 0))) (b1 : ∀ b, m1 = some b → B ≤ b ∧ b < lo) (b2 : ∀ b, m2 = some b → B ≤ b ∧ b < lo) (hne : ∀ b, m1 = some b → m2 ≠ some b) (hB : B ≤ lo) (hl : lo ≤ lo2) (hl2 : ∀ z, z ∈ db :: S → z < lo2) (hl3 : ∀ z, z ∈ wb :: R → z < xb) (h3 : lo2 ≤ xb) :
    ∃ o, J8 B m1 m2 c 0 0 o [⟨xb, 0, none, 0, none, 0, []⟩] [⟨db, t, lo, S, newD most⟩] [⟨wb, tw, lo2, R, newD most⟩] [] [] w := by
  obtain ⟨e1, e2⟩ := sideP.dl _ _ _ _ _ _ _ hd
  have e3 := hr.foot
  have lx := lt_of_block hx
  obtain ⟨o, ho⟩ : ∃ o : Nat → Tag, o = fun z => if m1 = some z then .met true else if m2 = some z then .met false else if z ∈ db :: S then .dic true 0 else if z ∈ wb :: R then .dic false 0 else if z = xb then .two 0 else .free := ⟨_, rfl⟩
  have o1 : ∀ b, m1 = some b → o b = .met true := fun b hb => by rw [ho]; simp only [if_pos hb]
  have o2 : ∀ b, m2 = some b → o b = .met false := fun b hb => by rw [ho]; simp only [if_neg (fun h => hne b h hb), if_pos hb]
  have n1 : ∀ z, lo ≤ z → m1 ≠ some z ∧ m2 ≠ some z := fun z hz => ⟨fun h => by have := b1 z h; omega, fun h => by have := b2 z h; omega⟩
  have o3 : ∀ z, z ∈ db :: S → o z = .dic true 0 := fun z hz => by
    have := n1 z (e1 z hz).1
    rw [ho]; simp only [if_neg this.1, if_neg this.2, if_pos hz]
  have o4 : ∀ z, z ∈ wb :: R → o z = .dic false 0 := fun z hz => by
    have h9 := (e3 z hz).1
    have := n1 z (by omega)
    rw [ho]; simp only [if_neg this.1, if_neg this.2, if_neg (show ¬ z ∈ db :: S from fun h => by have := hl2 z h; omega), if_pos hz]
  have o5 : o xb = .two 0 := by
    have := n1 xb (by omega)
    rw [ho]; simp only [if_neg this.1, if_neg this.2, if_neg (show ¬ xb ∈ db :: S from fun h => by have := hl2 xb h; omega), if_neg (show ¬ xb ∈ wb :: R from fun h => by have := hl3 xb h; omega), if_true]
  refine ⟨o, ⟨⟨fun z hz => ?_, fun z hz => ?_, by omega, ⟨h1, o1, fun i x hi => ?_, fun j y hj => by simp at hj⟩, ⟨h2, o2, fun i x hi => ?_, fun j y hj => by simp at hj⟩, fun k u hu => ?_⟩, ⟨rfl, rfl⟩, rfl, by simp⟩⟩
  · have h8 : m1 ≠ some z := fun h => by have := b1 z h; omega
    have h9 : m2 ≠ some z := fun h => by have := b2 z h; omega
    rw [ho]; simp only [if_neg h8, if_neg h9, if_neg (show ¬ z ∈ db :: S from fun h => by have := (e1 z h).2; omega), if_neg (show ¬ z ∈ wb :: R from fun h => by have := (e3 z h).2; omega), if_neg (show ¬ z = xb by omega)]
  · rw [ho] at hz
    by_cases a1 : m1 = some z
    · exact (b1 z a1).1
    by_cases a2 : m2 = some z
    · exact (b2 z a2).1
    by_cases a3 : z ∈ db :: S
    · have := (e1 z a3).1; omega
    by_cases a4 : z ∈ wb :: R
    · have := (e3 z a4).1; omega
    by_cases a5 : z = xb
    · omega
    · simp only [if_neg a1, if_neg a2, if_neg a3, if_neg a4, if_neg a5] at hz; exact absurd rfl hz
  · cases i with
    | zero => simp at hi; subst hi; exact ⟨hd, newD_ok most, o3, fun b hb => (b1 b hb).2⟩
    | succ i => simp at hi
  · cases i with
    | zero => simp at hi; subst hi; exact ⟨hr, newD_ok most, o4, fun b hb => by have := (b2 b hb).2; show b < lo2; omega⟩
    | succ i => simp at hi
  · cases k with
    | zero =>
      simp at hu; subst hu
      exact ⟨⟨_, _, rfl, rfl, hx⟩, ValRow.nil _ _ _ _, ValRow.nil _ _ _ _, o5, fun z hz => by simp [blk] at hz, fun z hz => by simp [blk] at hz, by simp, fun r hr => by simp at hr⟩
    | succ k => simp at hu
end Go.Proofs.YtcakdmapnmneoaaGreat
end

section
section
namespace Go.Proofs.YtcakdmapnmneoaaGreat
open Go.ChangeShapes Go.WideShapes Go.ChangeAt Go.RowKit Go.Deep
variable {H : Type} {enc : TypeId × Value → H} {P : Program} {w : World} {spare : Nat → Bool} {held : Bool}

def mixV (isB : Nat → Bool) (sz : Nat) (F : Nat → Int) (B : Nat → Bool) (i : Nat) : Value := if isB (i % sz) = true then .bool (B i) else .int .i64 (F i)
/-- Its cells lay there before the call: where isB tells so a bool, else an int. -/
def MixRow (isB : Nat → Bool) (sz : Nat) (w : World) (a : Option Addr) (len : Nat) (F : Nat → Int) (B : Nat → Bool) : Prop :=
  len = 0 ∨ ∃ b off, a = some ⟨b, off, none⟩ ∧ b < w.heap.size ∧ (len : Int) ≤ 9223372036854775807 ∧ ∀ i, i < len * sz → w.cell? ⟨b, off + i, none⟩ = some (mixV isB sz F B i)
theorem rows_of_mixed {t e : TypeId} {fs : Array Field} {a : Option Addr} {len cap : Nat} (isB : Nat → Bool) {d : DataW H} {p : List MemPlace} (ht : P.underlying t = some (.slice e)) (he : P.underlying e = some (.struct fs))
    (hone : oneCellFields P fs = true) (hC : P.cellsOf e = fs.size) (hpos : 0 < fs.size) (hfs : ∀ (j : Nat) (f : Field), fs[j]? = some f → (isB j = true → P.underlying f.type = some .bool) ∧ (isB j = false → P.underlying f.type = some (.int .i64)))
    (h : DataW.Trod enc P w 0 spare held t (.slice a len cap) d p) : ∃ F B, MixRow isB fs.size w a len F B := by
  obtain ⟨fuel, hf⟩ := h
  rcases open_slice_fields ht he hone hC hf with hcs | ⟨x, len', cap', m, hcs, hl, hm, hmm, hx⟩
  · simp [Value.cells] at hcs
    exact ⟨fun _ => 0, fun _ => false, .inl hcs.2.1⟩
  · simp [Value.cells] at hcs
    obtain ⟨rfl, rfl, rfl⟩ := hcs
    have hlm : len ≤ m := by rw [hmm]; split <;> omega
    unfold maxLen at hm
    have hx1 : ∀ i, i < len * fs.size → ∃ (n : Int) (b : Bool), w.cell? (x.add i) = some (if isB (i % fs.size) = true then .bool b else .int .i64 n) := by
      intro i hi
      have hq : i / fs.size < len := (Nat.div_lt_iff_lt_mul hpos).2 hi
      have hr : i % fs.size < fs.size := Nat.mod_lt _ hpos
      obtain ⟨ys, n, hy⟩ := hx (i / fs.size) (by omega)
      obtain ⟨v, y, h1, _, h3⟩ := hy (i % fs.size) fs[i % fs.size] (Array.getElem?_eq_getElem hr)
      rw [Nat.div_add_mod' i fs.size] at h1
      have hk := hfs _ _ (Array.getElem?_eq_getElem hr)
      cases hb : isB (i % fs.size)
      · obtain ⟨q, e1, e2, e3⟩ := DataW.trod_int (hk.2 hb) h3
        simp at e1
        exact ⟨q, false, by rw [h1, e1]; simp⟩
      · obtain ⟨q, e1, e2⟩ := DataW.trod_bool (hk.1 hb) h3
        simp at e1
        exact ⟨0, q, by rw [h1, e1]; simp⟩
    rcases Nat.eq_zero_or_pos (len * fs.size) with h0 | h0
    · rcases Nat.eq_zero_or_pos len with h1 | h1
      · exact ⟨fun _ => 0, fun _ => false, .inl h1⟩
      · exact absurd h0 (Nat.ne_of_gt (Nat.mul_pos h1 hpos))
    · refine ⟨fun i => if hi : i < len * fs.size then (hx1 i hi).choose else 0, fun i => if hi : i < len * fs.size then (hx1 i hi).choose_spec.choose else false, ?_⟩
      obtain ⟨n0, b0, hc0⟩ := hx1 0 h0
      obtain ⟨b, off, spot⟩ := x
      have hspot : spot = none := by simpa [Addr.add] using World.cell?_spot hc0
      subst hspot
      have hblk := World.block_lt_of_cell? _ _ hc0
      refine .inr ⟨b, off, rfl, by simpa [Addr.add] using hblk, by omega, fun i hi => ?_⟩
      have hch := (hx1 i hi).choose_spec.choose_spec
      simp only [mixV, hi, dite_true]
      have e1 : ((⟨b, off, none⟩ : Addr).add i) = ⟨b, off + i, none⟩ := by
        unfold Addr.add
        split
        · rename_i h; rw [h]; rfl
        · rfl
      exact e1 ▸ hch
end Go.Proofs.YtcakdmapnmneoaaGreat
end
end

section
namespace Go.Proofs.YtcakdmapnmneoaaGreat
open Go.RowKit
set_option linter.unusedVariables false
set_option linter.unusedSimpArgs false

theorem mix8_int (F : Nat → Int) (B : Nat → Bool) (k i : Nat) (hi : i < 7) : mixV (fun j => [7].contains j) 8 F B (k * 8 + i) = .int .i64 (F (k * 8 + i)) := by
  unfold mixV
  have e : (k * 8 + i) % 8 = i := by omega
  rw [e]
  rw [if_neg]
  simp; omega
theorem mix8_bool (F : Nat → Int) (B : Nat → Bool) (k : Nat) : mixV (fun j => [7].contains j) 8 F B (k * 8 + 7) = .bool (B (k * 8 + 7)) := by
  unfold mixV
  have e : (k * 8 + 7) % 8 = 7 := by omega
  rw [e]
  rfl
/-- A script: its cells lie below block B. -/
def LRow (B : Nat) (a : Option Addr) (n : Nat) (F : Nat → Int) (Bo : Nat → Bool) (w : World) : Prop :=
  n = 0 ∨ ∃ b off, a = some ⟨b, off, none⟩ ∧ b < B ∧ ∀ i, i < n * 8 → w.cell? ⟨b, off + i, none⟩ = some (mixV (fun j => [7].contains j) 8 F Bo i)
theorem LRow.of {a : Option Addr} {n : Nat} {F : Nat → Int} {Bo : Nat → Bool} {w : World} (h : MixRow (fun j => [7].contains j) 8 w a n F Bo) : LRow w.heap.size a n F Bo w := by
  rcases h with h | ⟨b, off, h1, h2, h3, h4⟩
  · exact .inl h
  · exact .inr ⟨b, off, h1, h2, h4⟩
theorem LRow.below {B : Nat} {a : Option Addr} {n : Nat} {F : Nat → Int} {Bo : Nat → Bool} {w w' : World} (h : LRow B a n F Bo w) (k : Below B w w') : LRow B a n F Bo w' := by
  rcases h with h | ⟨b, off, h1, h2, h3⟩
  · exact .inl h
  · exact .inr ⟨b, off, h1, h2, fun i hi => (k.cell (p := ⟨b, off + i, none⟩) h2).trans (h3 i hi)⟩
/-- The eight cells of a step. -/
theorem LRow.step {B : Nat} {a : Option Addr} {n : Nat} {F : Nat → Int} {Bo : Nat → Bool} {w : World} (h : LRow B a n F Bo w) {k : Nat} (hk : k < n) :
    ∃ b off, a = some ⟨b, off, none⟩ ∧ w.cell? ⟨b, off + k * 8, none⟩ = some (.int .i64 (F (k * 8 + 0))) ∧ w.cell? ⟨b, off + k * 8 + 1, none⟩ = some (.int .i64 (F (k * 8 + 1))) ∧ w.cell? ⟨b, off + k * 8 + 2, none⟩ = some (.int .i64 (F (k * 8 + 2))) ∧ w.cell? ⟨b, off + k * 8 + 3, none⟩ = some (.int .i64 (F (k * 8 + 3))) ∧
      w.cell? ⟨b, off + k * 8 + 4, none⟩ = some (.int .i64 (F (k * 8 + 4))) ∧ w.cell? ⟨b, off + k * 8 + 5, none⟩ = some (.int .i64 (F (k * 8 + 5))) ∧ w.cell? ⟨b, off + k * 8 + 6, none⟩ = some (.int .i64 (F (k * 8 + 6))) ∧ w.cell? ⟨b, off + k * 8 + 7, none⟩ = some (.bool (Bo (k * 8 + 7))) := by
  rcases h with h | ⟨b, off, h1, _, h4⟩
  · omega
  · refine ⟨b, off, h1, ?_⟩
    have e : ∀ i, off + (k * 8 + i) = off + k * 8 + i := fun i => by omega
    have g : ∀ i, i < 7 → w.cell? ⟨b, off + k * 8 + i, none⟩ = some (.int .i64 (F (k * 8 + i))) := fun i hi => by
      have h9 := h4 (k * 8 + i) (by omega)
      rw [mix8_int F Bo k i hi, e] at h9; exact h9
    have g7 := h4 (k * 8 + 7) (by omega)
    rw [mix8_bool, e] at g7
    exact ⟨g 0 (by omega), g 1 (by omega), g 2 (by omega), g 3 (by omega), g 4 (by omega), g 5 (by omega), g 6 (by omega), g7⟩
/-- Behind plays. -/
def PlaysP (B : Nat) (m1 m2 : Option Nat) (c0 : C4) (n : Nat) (w : World) (r : Ending) (w' : World) : Prop :=
  (r = .returned (.tuple #[.pointer none, .bool true]) ∧ MtrAt m1 c0 w' ∧ CtrAt m2 c0 w' ∧ Below B w w') ∨
  (∃ c o u D E M L, r = .returned (.tuple #[.pointer (some ⟨Tw8.xb u, 0, none⟩), .bool true]) ∧ J8 B m1 m2 c n (16 * n) o [u] D E M L w' ∧ Below B w w')
def PI8 (B : Nat) (m1 m2 : Option Nat) (xb k : Nat) (w wr : World) : Prop := ∃ c o u D E M L, Tw8.xb u = xb ∧ J8 B m1 m2 c k (16 * k) o [u] D E M L wr ∧ Below B w wr
theorem J8.below {B : Nat} {m1 m2 : Option Nat} {c : C4} {N Z : Nat} {o o' : Nat → Tag} {T : List Tw8} {D E : List PD} {M L : List PM} {w w' : World} (H : J8 B m1 m2 c N Z o T D E M L w) (v : Mv Tag.own o w o' w') : Below B w w' :=
  v.below H.g.bw (fun z hz => H.g.lo z (fun h => by rw [h] at hz; cases hz))
theorem same_one {u : Tw8} {T : List Tw8} (h : SameTwos [u] T) : ∃ u', T = [u'] ∧ u'.xb = u.xb := by
  obtain ⟨h1, h2⟩ := h
  obtain ⟨u', h3, h4⟩ := h2 0 u rfl
  cases T with
  | nil => simp at h1
  | cons v T =>
    cases T with
    | nil => simp at h3; subst h3; exact ⟨v, rfl, h4⟩
    | cons _ _ => simp at h1
set_option maxRecDepth 100000 in
set_option maxHeartbeats 8000000 in
theorem plays8_main (B : Nat) (m1 m2 : Option Nat) (c0 : C4) (most : Int) (a : Option Addr) (n ca : Nat) (F : Nat → Int) (Bo : Nat → Bool) (w : World) (hn : n ≤ 300) (hm0 : 0 ≤ most) (hm1 : most ≤ 65536) (hB : B ≤ w.heap.size) (h1 : MtrAt m1 c0 w) (h2 : CtrAt m2 c0 w)
    (b1 : ∀ b, m1 = some b → B ≤ b) (b2 : ∀ b, m2 = some b → B ≤ b) (hne : ∀ b, m1 = some b → m2 ≠ some b) (row : LRow B a n F Bo w) :
    Calls Tryz.prog 12 #[.int .i64 most, .slice a n ca, mV m1, mV m2] w (PlaysP B m1 m2 c0 n w) := by
  have RW := Lib.hid row
  obtain ⟨p1, hp1⟩ : ∃ p : Option Addr, Hid (mV m1 = .pointer p) := ⟨_, Lib.hid rfl⟩
  obtain ⟨p2, hp2⟩ : ∃ p : Option Addr, Hid (mV m2 = .pointer p) := ⟨_, Lib.hid rfl⟩
  have LM := Lib.hid (show (∀ b, m1 = some b → b < w.heap.size) ∧ (∀ b, m2 = some b → b < w.heap.size) from ⟨fun b hb => lt_of_block (h1 b hb), fun b hb => lt_of_block (h2 b hb)⟩)
  have R1 := new8_any most m1 c0 w h1 hm0 hm1
  rw [hp1.out] at R1
  rw [hp1.out, hp2.out]
  have HB := Lib.hid (And.intro hB (And.intro b1 (And.intro b2 hne)))
  have H2 := Lib.hid h2
  have HM := Lib.hid (And.intro hm0 hm1)
  obtain ⟨lo, hlo⟩ := ex_hid w.heap.size
  clear row h1 h2 hB b1 b2 hne hm0 hm1
  go_enter Tryz.func12, Tryz.ntmps12
  go_wp2_with fail
  refine R1.mono ?_
  rintro r w1 ⟨db, t, S, rfl, d1, c1, k1, l1⟩
  have D1 := Lib.hid d1
  have C1 := Lib.hid c1
  have K1 := Lib.hid k1
  have nm : ∀ b, m2 = some b → b ∉ mS m1 := fun b hb hx => by
    cases hm : m1 with
    | none => rw [hm] at hx; simp [mS] at hx
    | some b' => rw [hm] at hx; simp [mS] at hx; subst hx; exact HB.out.2.2.2 _ hm hb
  have R2 := rnew8_any most m2 c0 w1 (H2.out.keeps k1 nm) HM.out.1 HM.out.2
  rw [hp2.out] at R2
  clear d1 c1 k1 l1 R1 nm
  go_wp2_with fail
  refine R2.mono ?_
  rintro r w2 ⟨wb, tw, R, rfl, d2, c2, k2⟩
  have nm : ∀ z, lo ≤ z → z ∉ mS m2 := fun z hz hx => by
    have h9 := LM.out.2
    have h8 := hlo.out
    cases hm : m2 with
    | none => rw [hm] at hx; simp [mS] at hx
    | some b' => rw [hm] at hx; simp [mS] at hx; subst hx; have := h9 _ hm; omega
  have nm1 : ∀ b, m1 = some b → b ∉ mS m2 := fun b hb hx => by
    cases hm : m2 with
    | none => rw [hm] at hx; simp [mS] at hx
    | some b' => rw [hm] at hx; simp [mS] at hx; subst hx; exact HB.out.2.2.2 _ hb hm
  have e1 := sideP.dl _ _ _ _ _ _ _ D1.out
  have D2 := Lib.hid (D1.out.keeps k2 (nm _ (by have := (e1.1 db (by simp)).1; rw [hlo.out]; exact this)) (fun z hz => nm z (by have := (e1.1 z (by simp [hz])).1; rw [hlo.out]; exact this)))
  have C12 := Lib.hid (C1.out.keeps k2 nm1)
  have E1 := Lib.hid e1
  have E2 := Lib.hid d2
  have C2 := Lib.hid c2
  have K2 := Lib.hid k2
  clear d2 c2 k2 R2 nm nm1 e1
  go_upto_region 8 with (fail)
  refine wp_gen (fun V => V.heap[w2.heap.size]? = some (two8O db wb (.slice none 0 0) (.slice none 0 0)) ∧ Keeps [] w2 V) ⟨has_new _ _, (Keeps.refl [] w2).alloc _⟩ ?_
  rintro w4 ⟨b4, k4⟩
  have st : PI8 B m1 m2 w2.heap.size 0 w w4 := by
    have z1 := K1.out.size
    have z2 := K2.out.size
    have hb := HB.out
    have lm := LM.out
    obtain ⟨o, hJ⟩ := J8.init (B := B) (D2.out.keeps k4 (by simp) (by simp)) (E2.out.keeps k4 (by simp) (by simp)) (C12.out.keeps k4 (by simp)) (C2.out.keeps k4 (by simp)) b4 (fun b h => ⟨hb.2.1 b h, lm.1 b h⟩) (fun b h => ⟨hb.2.2.1 b h, lm.2 b h⟩) hb.2.2.2 hb.1 z1 (fun z hz => (E1.out.1 z hz).2) (fun z hz => (E2.out.foot z hz).2) z2
    refine ⟨_, o, _, _, _, _, _, rfl, hJ, ?_⟩
    refine (((K1.out.below hb.1 (fun x hx => ?_)).trans (K2.out.below (by omega) (fun x hx => ?_)))).trans (k4.below (by omega) (by simp))
    · cases hm : m1 with
      | none => rw [hm] at hx; simp [mS] at hx
      | some b' => rw [hm] at hx; simp [mS] at hx; subst hx; exact hb.2.1 _ hm
    · cases hm : m2 with
      | none => rw [hm] at hx; simp [mS] at hx
      | some b' => rw [hm] at hx; simp [mS] at hx; subst hx; exact hb.2.2.1 _ hm
  obtain ⟨xb, hxb⟩ := ex_hid w2.heap.size
  rw [← hxb.out] at st ⊢
  have ST := Lib.hid st
  clear b4 k4 st D2 E2 C12 C2 K1 K2 E1 D1 C1 H2 LM
  go_wp2_with fail
  go_loopw [15] (fun i wr => ∃ k : Nat, k ≤ n ∧ i = .int .i64 k ∧ PI8 B m1 m2 xb k w wr) (fun i _ => n - (intOf i).toNat)
  case atStart => exact ⟨0, by omega, rfl, ST.out⟩
  case round =>
    obtain ⟨k, hk, rfl, hI⟩ := hrel
    have hk0 : (0 : Int) ≤ (k : Int) := by omega
    obtain ⟨c, o, u, D, E, M, L, hu, hJ, hbl⟩ := hI
    have HJ := Lib.hid hJ
    have HU := Lib.hid hu
    have BL := Lib.hid hbl
    clear hJ hu hbl ST
    by_cases hlt : k < n
    · have hlt' : (k : Int) < (n : Int) := by omega
      obtain ⟨b, off, rfl, q0, q1, q2, q3, q4, q5, q6, q7⟩ := (RW.out.below BL.out).step hlt
      obtain ⟨x0, hx0⟩ := ex_hid (F (k * 8 + 0))
      obtain ⟨x1, hx1⟩ := ex_hid (F (k * 8 + 1))
      obtain ⟨x2, hx2⟩ := ex_hid (F (k * 8 + 2))
      obtain ⟨x3, hx3⟩ := ex_hid (F (k * 8 + 3))
      obtain ⟨x4, hx4⟩ := ex_hid (F (k * 8 + 4))
      obtain ⟨x5, hx5⟩ := ex_hid (F (k * 8 + 5))
      obtain ⟨x6, hx6⟩ := ex_hid (F (k * 8 + 6))
      obtain ⟨x7, hx7⟩ := ex_hid (Bo (k * 8 + 7))
      rw [← hx0.out] at q0
      rw [← hx1.out] at q1
      rw [← hx2.out] at q2
      rw [← hx3.out] at q3
      rw [← hx4.out] at q4
      rw [← hx5.out] at q5
      rw [← hx6.out] at q6
      rw [← hx7.out] at q7
      have RD := does8_any HJ.out (by omega) (by omega) (k := 0) (u := u) rfl x0 x1 x2 x3 x4 x5 x6 x7
      rw [HU.out] at RD
      unfold step8A at RD
      go_wp2_with fail
      refine RD.mono ?_
      rintro r w5 ⟨c5, o5, T5, D5, E5, M5, L5, rfl, j5, v5, s5⟩
      obtain ⟨u5, rfl, hu5⟩ := same_one s5
      have J5 := Lib.hid j5
      have B5 := Lib.hid (BL.out.trans (HJ.out.below v5))
      have U5 := Lib.hid (hu5.trans HU.out)
      clear j5 v5 s5 hu5 RD q0 q1 q2 q3 q4 q5 q6 q7
      have RA := alike8_any J5.out (by omega) (k := 0) (u := u5) rfl
      rw [U5.out] at RA
      go_wp2_with fail
      refine RA.mono ?_
      rintro r w6 ⟨rfl, k6⟩
      have P6 := Lib.hid (show PI8 B m1 m2 xb (k + 1) w w6 from ⟨c5, o5, u5, D5, E5, M5, L5, U5.out, (J5.out.mono (Nat.le_refl _) (by omega)).kept k6 (by simp), B5.out.trans (k6.below J5.out.g.bw (by simp))⟩)
      clear k6 RA
      go_wp2_with fail
      go_roundw
      case rel => exact ⟨k + 1, by omega, by go_num, P6.out⟩
      case measure => simp [intOf]; omega
    · obtain rfl : k = n := by omega
      have hge : ¬ (k : Int) < (k : Int) := by omega
      go_wp2_with fail
      go_ret2
      exact .inr ⟨c, o, u, D, E, M, L, by rw [HU.out]; rfl, HJ.out, BL.out⟩
set_option maxRecDepth 100000 in
theorem plays8_bad (B : Nat) (m1 m2 : Option Nat) (c0 : C4) (most : Int) (a : Option Addr) (n ca : Nat) (w : World) (hm : most < 0 ∨ 65536 < most) (h1 : MtrAt m1 c0 w) (h2 : CtrAt m2 c0 w) :
    Calls Tryz.prog 12 #[.int .i64 most, .slice a n ca, mV m1, mV m2] w (PlaysP B m1 m2 c0 n w) := by
  obtain ⟨p1, hp1⟩ : ∃ p : Option Addr, Hid (mV m1 = .pointer p) := ⟨_, Lib.hid rfl⟩
  obtain ⟨p2, hp2⟩ : ∃ p : Option Addr, Hid (mV m2 = .pointer p) := ⟨_, Lib.hid rfl⟩
  rw [hp1.out, hp2.out]
  have H12 := Lib.hid (And.intro h1 h2)
  have HM := Lib.hid hm
  clear h1 h2 hm
  go_enter Tryz.func12, Tryz.ntmps12
  go_wp2_with fail
  refine (new8_bad most p1 w HM.out).mono ?_
  rintro r w1 ⟨rfl, rfl⟩
  go_wp2_with fail
  refine (rnew8_bad most p2 w HM.out).mono ?_
  rintro r w1 ⟨rfl, rfl⟩
  go_wp2_with fail
  go_ret2
  exact .inl ⟨rfl, H12.out.1, H12.out.2, Below.refl _ _⟩
theorem plays8_any (B : Nat) (m1 m2 : Option Nat) (c0 : C4) (most : Int) (a : Option Addr) (n ca : Nat) (F : Nat → Int) (Bo : Nat → Bool) (w : World) (hn : n ≤ 300) (hB : B ≤ w.heap.size) (h1 : MtrAt m1 c0 w) (h2 : CtrAt m2 c0 w)
    (b1 : ∀ b, m1 = some b → B ≤ b) (b2 : ∀ b, m2 = some b → B ≤ b) (hne : ∀ b, m1 = some b → m2 ≠ some b) (row : LRow B a n F Bo w) :
    Calls Tryz.prog 12 #[.int .i64 most, .slice a n ca, mV m1, mV m2] w (PlaysP B m1 m2 c0 n w) := by
  by_cases hm : most < 0 ∨ 65536 < most
  · exact plays8_bad B m1 m2 c0 most a n ca w hm h1 h2
  · exact plays8_main B m1 m2 c0 most a n ca F Bo w hn (by omega) (by omega) hB h1 h2 b1 b2 hne row
end Go.Proofs.YtcakdmapnmneoaaGreat
end
