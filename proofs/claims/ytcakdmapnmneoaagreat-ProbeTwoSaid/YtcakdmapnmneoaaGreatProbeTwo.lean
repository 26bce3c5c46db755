/- ProbeTwo, walked (chapter 8). -/
import Derived.Test.YtcakdmapnmneoaaGreatPkP
namespace Go.Proofs.YtcakdmapnmneoaaGreat
open Go.RowKit
set_option linter.unusedVariables false
set_option linter.unusedSimpArgs false

set_option maxRecDepth 100000 in
theorem probeTwo_early (most : Int) (a1 a2 a3 : Option Addr) (n1 c1 n2 c2 n3 c3 : Nat) (w : World) (h : 300 < n1 ∨ 300 < n2 ∨ 300 < n3) :
    Calls Tryz.prog 5 #[.int .i64 most, .slice a1 n1 c1, .slice a2 n2 c2, .slice a3 n3 c3] w fun e w' => e = .returned (.bool true) ∧ Below w.heap.size w w' := by
  by_cases h1 : 300 < n1
  · have d1 : decide ((300 : Int) < (n1 : Int)) = true := by simp; omega
    clear h
    go_enter Tryz.func5, Tryz.ntmps5
    go_wp2_with (go_at_call 11; refine (awake8 _).mono ?_; rintro e w' ⟨rfl, hb⟩)
    go_ret
    exact ⟨rfl, hb⟩
  · have d1 : decide ((300 : Int) < (n1 : Int)) = false := by simp; omega
    by_cases h2 : 300 < n2
    · have d2 : decide ((300 : Int) < (n2 : Int)) = true := by simp; omega
      clear h
      go_enter Tryz.func5, Tryz.ntmps5
      go_wp2_with (go_at_call 11; refine (awake8 _).mono ?_; rintro e w' ⟨rfl, hb⟩)
      go_ret
      exact ⟨rfl, hb⟩
    · have d2 : decide ((300 : Int) < (n2 : Int)) = false := by simp; omega
      have d3 : decide ((300 : Int) < (n3 : Int)) = true := by simp; omega
      clear h
      go_enter Tryz.func5, Tryz.ntmps5
      go_wp2_with (go_at_call 11; refine (awake8 _).mono ?_; rintro e w' ⟨rfl, hb⟩)
      go_ret
      exact ⟨rfl, hb⟩
theorem same_two {u v : Tw8} {T : List Tw8} (h : SameTwos [u, v] T) : ∃ u' v', T = [u', v'] ∧ u'.xb = u.xb ∧ v'.xb = v.xb := by
  obtain ⟨h1, h2⟩ := h
  obtain ⟨u', h3, h4⟩ := h2 0 u rfl
  obtain ⟨v', h5, h6⟩ := h2 1 v rfl
  match T, h1 with
  | [p, q], _ =>
    simp at h3 h5
    subst h3; subst h5
    exact ⟨p, q, rfl, h4, h6⟩
/-- The midst of the rounds: both Twos. -/
def PT8 (B xb yb N : Nat) (w wr : World) : Prop := ∃ c o u v D E M L, Tw8.xb u = xb ∧ Tw8.xb v = yb ∧ J8 B none none c N (16 * N) o [u, v] D E M L wr ∧ Below B w wr
/-- A call on the one. -/
theorem pt8_one {B xb yb N : Nat} {w wr : World} (H : PT8 B xb yb N w wr) (hN : N ≤ 899) (g gl hs ky vl m nn : Int) (sm : Bool) :
    Calls Tryz.prog 15 #[.pointer (some ⟨xb, 0, none⟩), .agg #[.int .i64 g, .int .i64 gl, .int .i64 hs, .int .i64 ky, .int .i64 vl, .int .i64 m, .int .i64 nn, .bool sm]] wr fun r w' => r = .returned (.bool true) ∧ PT8 B xb yb (N + 1) w w' := by
  obtain ⟨c, o, u, v, D, E, M, L, rfl, rfl, hJ, hb⟩ := H
  refine (does8_any hJ hN (by omega) (k := 0) (u := u) rfl g gl hs ky vl m nn sm).mono ?_
  rintro r w5 ⟨c5, o5, T5, D5, E5, M5, L5, rfl, j5, v5, s5⟩
  obtain ⟨u', v', rfl, e1, e2⟩ := same_two s5
  exact ⟨rfl, c5, o5, u', v', D5, E5, M5, L5, e1, e2, j5.mono (Nat.le_refl _) (by omega), hb.trans (hJ.below v5)⟩
theorem pt8_two {B xb yb N : Nat} {w wr : World} (H : PT8 B xb yb N w wr) (hN : N ≤ 899) (g gl hs ky vl m nn : Int) (sm : Bool) :
    Calls Tryz.prog 15 #[.pointer (some ⟨yb, 0, none⟩), .agg #[.int .i64 g, .int .i64 gl, .int .i64 hs, .int .i64 ky, .int .i64 vl, .int .i64 m, .int .i64 nn, .bool sm]] wr fun r w' => r = .returned (.bool true) ∧ PT8 B xb yb (N + 1) w w' := by
  obtain ⟨c, o, u, v, D, E, M, L, rfl, rfl, hJ, hb⟩ := H
  refine (does8_any hJ hN (by omega) (k := 1) (u := v) rfl g gl hs ky vl m nn sm).mono ?_
  rintro r w5 ⟨c5, o5, T5, D5, E5, M5, L5, rfl, j5, v5, s5⟩
  obtain ⟨u', v', rfl, e1, e2⟩ := same_two s5
  exact ⟨rfl, c5, o5, u', v', D5, E5, M5, L5, e1, e2, j5.mono (Nat.le_refl _) (by omega), hb.trans (hJ.below v5)⟩
theorem pt8_alike {B xb yb N : Nat} {w wr : World} (H : PT8 B xb yb N w wr) (hN : N ≤ 900) (zb : Nat) (hz : zb = xb ∨ zb = yb) :
    Calls Tryz.prog 16 #[.pointer (some ⟨zb, 0, none⟩)] wr fun r w' => r = .returned (.bool true) ∧ PT8 B xb yb N w w' := by
  obtain ⟨c, o, u, v, D, E, M, L, rfl, rfl, hJ, hb⟩ := H
  have fin : ∀ w', Keeps [] wr w' → PT8 B u.xb v.xb N w w' := fun w' k => ⟨c, o, u, v, D, E, M, L, rfl, rfl, hJ.kept k (by simp), hb.trans (k.below hJ.g.bw (by simp))⟩
  rcases hz with rfl | rfl
  · exact (alike8_any hJ hN (k := 0) (u := u) rfl).mono (fun r w' ⟨h1, h2⟩ => ⟨h1, fin w' h2⟩)
  · exact (alike8_any hJ hN (k := 1) (u := v) rfl).mono (fun r w' ⟨h1, h2⟩ => ⟨h1, fin w' h2⟩)
theorem PT8.mono {B xb yb N N' : Nat} {w wr : World} (H : PT8 B xb yb N w wr) (h : N ≤ N') : PT8 B xb yb N' w wr := by
  obtain ⟨c, o, u, v, D, E, M, L, e1, e2, hJ, hb⟩ := H
  exact ⟨c, o, u, v, D, E, M, L, e1, e2, hJ.mono h (by omega), hb⟩
/-- Behind the Copy of both dictionaries: a Two more. -/
theorem pt8_begin {B : Nat} {c : C4} {N Z : Nat} {o : Nat → Tag} {u : Tw8} {D E : List PD} {M L : List PM} {w w1 w2 w3 w4 : World} (H : J8 B none none c N Z o [u] D E M L w1) (hN : N ≤ 300) {x y : PD} (hx : D[u.cur]? = some x) (hy : E[u.cur]? = some y) {db2 t2 db3 t3 : Nat} {S2 S3 : List Nat} {c1 c2 : C4}
    (a1 : DicAt db2 t2 w1.heap.size S2 (mV none) x.d.cpy w2) (k1 : Keeps [] w1 w2) (a3 : RDicAt db3 t3 w2.heap.size S3 none y.d.cpy w3) (k3 : Keeps [] w2 w3) (b4 : w4.heap[w3.heap.size]? = some (two8O db2 db3 (.slice none 0 0) (.slice none 0 0))) (k4 : Keeps [] w3 w4) :
    ∃ o' v D' E', v.xb = w3.heap.size ∧ J8 B none none c N Z o' [u, v] D' E' M L w4 ∧ Below B w1 w4 := by
  have m80 := H.m80
  have en := endN_le M
  have en2 := endN_le L
  have len := H.a.len
  obtain ⟨d1, d2, d3, d4⟩ := H.g.p.dc _ _ hx
  obtain ⟨o1, p1, v1, f1, u1⟩ := H.g.p.copy H.g.fr (σ := sideP) (c' := c) (db := db2) (t := t2) (S := S2) (d := x.d.cpy) a1 (Nat.le_refl _) (MtrAt.nil _ _) k1 (d2.cpy8 (by omega))
  have G1 := H.g.gop p1 v1 f1 u1 (HeadD.app D _) (HeadM.refl _)
  obtain ⟨e1, e2, e3, e4⟩ := G1.r.dc _ _ hy
  obtain ⟨o2, p2, v2, f2, u2⟩ := G1.r.copy G1.fr (σ := sideR) (c' := c) (db := db3) (t := t3) (S := S3) (d := y.d.cpy) a3 (Nat.le_refl _) (CtrAt.nil _ _) k3 (e2.cpy8 (by omega))
  have G2 := G1.gor p2 v2 f2 u2 (HeadD.app E _) (HeadM.refl _)
  have ED := H.a.d hx hy
  have l4 := lt_of_block b4
  obtain ⟨o3, ho3⟩ : ∃ o3 : Nat → Tag, o3 = fun z => if z = w3.heap.size then .two 1 else o2 z := ⟨_, rfl⟩
  have old : ∀ z, z < w3.heap.size → o3 z = o2 z := fun z hz => by rw [ho3]; simp only [if_neg (show ¬ z = w3.heap.size by omega)]
  have q : Mv (fun _ => false) o2 w3 o3 w4 := ⟨k4.os, k4.tape, k4.output, k4.size, old, fun z hz _ => k4.block z hz (by simp)⟩
  refine ⟨o3, ⟨w3.heap.size, D.length, none, 0, none, 0, []⟩, _, _, rfl, ⟨⟨fun z hz => ?_, fun z hz => ?_, by have := G2.bw; have := k4.size; omega, G2.p.mv q (fun _ _ => rfl), G2.r.mv q (fun _ _ => rfl), fun k v hk => ?_⟩, H.a.appD (x := ⟨db2, t2, w1.heap.size, S2, x.d.cpy⟩) (y := ⟨db3, t3, w2.heap.size, S3, y.d.cpy⟩) (by show y.d.cpy = x.d.cpy; rw [ED]), by have := H.n; simp only [msum, List.map_cons, List.map_nil, List.sum_cons, List.sum_nil, List.length_nil] at this ⊢; omega, by simp⟩, ?_⟩
  · rw [ho3]; simp only [if_neg (show ¬ z = w3.heap.size by omega)]; exact G2.fr z (by have := k4.size; omega)
  · by_cases e : z = w3.heap.size
    · have := G2.bw; omega
    · rw [ho3] at hz; simp only [if_neg e] at hz; exact G2.lo z hz
  · match k, hk with
    | 0, hk =>
      simp at hk; subst hk
      exact (G2.tw 0 u rfl).mv q (fun _ _ => rfl) (HeadD.refl _) (HeadD.refl _) (HeadM.refl _) (HeadM.refl _)
    | 1, hk =>
      simp at hk; subst hk
      exact ⟨⟨⟨db2, t2, w1.heap.size, S2, x.d.cpy⟩, ⟨db3, t3, w2.heap.size, S3, y.d.cpy⟩, by simp, by show (E ++ [(⟨db3, t3, w2.heap.size, S3, y.d.cpy⟩ : PD)])[D.length]? = _; rw [len.1]; simp, b4⟩, ValRow.nil _ _ _ _, ValRow.nil _ _ _ _, by rw [ho3]; simp, fun z hz => by simp [blk] at hz, fun z hz => by simp [blk] at hz, by simp, fun r hr => by simp at hr⟩
    | k + 2, hk => simp at hk
  · exact ((k1.trans k3).trans k4).below H.g.bw (by simp)
set_option maxRecDepth 100000 in
set_option maxHeartbeats 8000000 in
theorem probeTwo_main (most : Int) (a1 a2 a3 : Option Addr) (n1 c1 n2 c2 n3 c3 : Nat) (F1 F2 F3 : Nat → Int) (B1 B2 B3 : Nat → Bool) (w : World) (h1 : n1 ≤ 300) (h2 : n2 ≤ 300) (h3 : n3 ≤ 300) (s1 : MixRow (fun j => [7].contains j) 8 w a1 n1 F1 B1) (s2 : MixRow (fun j => [7].contains j) 8 w a2 n2 F2 B2) (s3 : MixRow (fun j => [7].contains j) 8 w a3 n3 F3 B3) :
    Calls Tryz.prog 5 #[.int .i64 most, .slice a1 n1 c1, .slice a2 n2 c2, .slice a3 n3 c3] w fun e w' => e = .returned (.bool true) ∧ Below w.heap.size w w' := by
  have d1 : decide ((300 : Int) < (n1 : Int)) = false := by simp; omega
  have d2 : decide ((300 : Int) < (n2 : Int)) = false := by simp; omega
  have d3 : decide ((300 : Int) < (n3 : Int)) = false := by simp; omega
  have R := plays8_any w.heap.size none none ⟨0, 0, 0, 0⟩ most a1 n1 c1 F1 B1 w h1 (Nat.le_refl _) (fun b hb => by simp at hb) (fun b hb => by simp at hb) (by simp) (by simp) (by simp) (LRow.of s1)
  rw [show mV none = .pointer none from rfl] at R
  have S2 := Lib.hid (LRow.of s2)
  have S3 := Lib.hid (LRow.of s3)
  obtain ⟨B, hB⟩ := ex_hid w.heap.size
  rw [← hB.out] at R S2 S3 ⊢
  have N1 := Lib.hid h1
  have N2 := Lib.hid h2
  have N3 := Lib.hid h3
  clear s1 s2 s3 h1
  go_enter Tryz.func5, Tryz.ntmps5
  go_wp2_with fail
  refine R.mono ?_
  rintro r w1 (⟨rfl, _, _, bl⟩ | ⟨c, o, u, D, E, M, L, rfl, j1, bl⟩)
  all_goals
    have BL := Lib.hid bl
    clear bl R
  · go_wp2_with (go_at_call 11; refine (awake8 _).mono ?_; rintro e w' ⟨rfl, hb⟩)
    go_ret
    exact ⟨rfl, BL.out.trans (hb.mono (by have := BL.out.size; have := hB.out; omega))⟩
  have J1 := Lib.hid j1
  obtain ⟨x, y, hx, hy, hb⟩ := (j1.g.tw 0 u rfl).row
  have HXY := Lib.hid (And.intro hx hy)
  unfold two8O at hb
  obtain ⟨xb, hxb⟩ := ex_hid u.xb
  rw [← hxb.out] at hb ⊢
  have x0 : w1.cell? ⟨xb, 0, none⟩ = some (.pointer (some ⟨x.db, 0, none⟩)) := cell_has hb (i := 0) rfl
  have x1 : w1.cell? ⟨xb, 1, none⟩ = some (.pointer (some ⟨y.db, 0, none⟩)) := cell_has hb (i := 1) rfl
  have X1 := Lib.hid (show w1.drew.cell? ⟨xb, 1, none⟩ = _ from x1)
  have JD := Lib.hid (J1.out.kept (Keeps.refl [] w1).drew (by simp))
  have m80 := j1.m80
  have en := endN_le M
  have en2 := endN_le L
  have ll := j1.a.len.2
  have DX := Lib.hid (JD.out.g.p.dc _ _ hx)
  have DY := Lib.hid (JD.out.g.r.dc _ _ hy)
  clear hb j1 hx hy
  go_upto_region 6 with (fail)
  go_region_held3 (fun w' => w'.cell? ⟨xb, 0, none⟩ = some (.pointer (some ⟨x.db, 0, none⟩)) ∧ w'.cell? ⟨xb, 1, none⟩ = some (.pointer (some ⟨y.db, 0, none⟩))) (go_keep)
    (first
      | (go_at_call 13; refine (dcopy_any (n1 + endN M) (by have := N1.out; omega) x.db x.t x.lo x.S none c x.d w1.drew DX.out.1 (MtrAt.nil _ _) (by simp) DX.out.2.1).mono ?_; rintro r w2 ⟨db2, t2, S2', rfl, a1', _, k1'⟩; have A1 := Lib.hid a1'; have K1 := Lib.hid (show Keeps [] w1.drew w2 from k1'); have p0 := K1.out.cell (w := w1.drew) x0 (by simp); have p1 := K1.out.cell (w := w1.drew) x1 (by simp); clear a1' k1')
      | (go_at_call 14; refine (rdcopy_any (n1 + endN L) (by have := N1.out; omega) y.db y.t y.lo y.S none c y.d w2 (DY.out.1.keeps K1.out (by simp) (by simp)) (CtrAt.nil _ _) (by simp) DY.out.2.1).mono ?_; rintro r w3 ⟨db3, t3, S3', rfl, a3', _, k3'⟩; have A3 := Lib.hid a3'; have K3 := Lib.hid (show Keeps [] w2 w3 from k3'); have r0 := K3.out.cell p0 (by simp); have r1 := K3.out.cell p1 (by simp); clear a3' k3'))
  clear x0 x1 p0 p1 r0 r1 m80 en en2 ll
  go_upto_region 7 with (fail)
  refine wp_gen (fun V => V.heap[w3.heap.size]? = some (two8O db2 db3 (.slice none 0 0) (.slice none 0 0)) ∧ Keeps [] w3 V) ⟨has_new _ _, (Keeps.refl [] w3).alloc _⟩ ?_
  rintro w4 ⟨b4, k4⟩
  have st : PT8 B xb w3.heap.size (n1 + 0) w w4 := by
    obtain ⟨o', v, D', E', e1, e2, e3⟩ := pt8_begin JD.out N1.out HXY.out.1 HXY.out.2 A1.out K1.out A3.out K3.out b4 k4 (c1 := c) (c2 := c) (w := w1)
    exact ⟨c, o', u, v, D', E', M, L, hxb.out.symm, e1, e2, (BL.out.trans ((Keeps.refl [] w1).drew.below J1.out.g.bw (by simp))).trans e3⟩
  have b4' := b4
  unfold two8O at b4'
  have y0 : w4.cell? ⟨w3.heap.size, 0, none⟩ = some (.pointer (some ⟨db2, 0, none⟩)) := cell_has b4' (i := 0) rfl
  obtain ⟨yb, hyb⟩ := ex_hid w3.heap.size
  rw [← hyb.out] at st y0 ⊢
  have ST := Lib.hid st
  clear st b4 b4' k4
  go_wp2_with fail
  clear y0
  go_loopw [12] (fun i wr => ∃ k : Nat, k ≤ 300 ∧ (k ≤ n2 ∨ k ≤ n3) ∧ i = .int .i64 k ∧ PT8 B xb yb (n1 + 2 * k) w wr) (fun i _ => 300 - (intOf i).toNat)
  case atStart => exact ⟨0, by omega, by omega, rfl, ST.out⟩
  case round =>
    obtain ⟨k, hk3, hk, rfl, hI⟩ := hrel
    have hk0 : (0 : Int) ≤ (k : Int) := by omega
    have HI := Lib.hid hI
    have HK3 := Lib.hid (And.intro hk3 hk)
    clear hI ST hk
    have kk : (k : Int) ≤ 300 := by omega
    by_cases l2 : k < n2
    · have e2 : decide ((k : Int) < (n2 : Int)) = true := by simp; omega
      have e2' : (k : Int) < (n2 : Int) := by omega
      have bw : Below B w wr := by obtain ⟨_, _, _, _, _, _, _, _, _, _, _, hb⟩ := HI.out; exact hb
      obtain ⟨b, off, hab, q0, q1, q2, q3, q4, q5, q6, q7⟩ := (S2.out.below bw).step l2
      obtain ⟨x0, hx0⟩ := ex_hid (F2 (k * 8 + 0))
      obtain ⟨x1, hx1⟩ := ex_hid (F2 (k * 8 + 1))
      obtain ⟨x2, hx2⟩ := ex_hid (F2 (k * 8 + 2))
      obtain ⟨x3, hx3⟩ := ex_hid (F2 (k * 8 + 3))
      obtain ⟨x4, hx4⟩ := ex_hid (F2 (k * 8 + 4))
      obtain ⟨x5, hx5⟩ := ex_hid (F2 (k * 8 + 5))
      obtain ⟨x6, hx6⟩ := ex_hid (F2 (k * 8 + 6))
      obtain ⟨x7, hx7⟩ := ex_hid (B2 (k * 8 + 7))
      rw [← hx0.out] at q0
      rw [← hx1.out] at q1
      rw [← hx2.out] at q2
      rw [← hx3.out] at q3
      rw [← hx4.out] at q4
      rw [← hx5.out] at q5
      rw [← hx6.out] at q6
      rw [← hx7.out] at q7
      subst hab
      clear bw
      go_wp2_with fail
      refine (pt8_one HI.out (by have := N1.out; have := HK3.out; omega) x0 x1 x2 x3 x4 x5 x6 x7).mono ?_
      rintro r w5 ⟨rfl, p5⟩
      have P5 := Lib.hid p5
      clear p5 q0 q1 q2 q3 q4 q5 q6 q7
      by_cases l3 : k < n3
      · have e3 : decide ((k : Int) < (n3 : Int)) = true := by simp; omega
        have e3' : (k : Int) < (n3 : Int) := by omega
        have bw : Below B w w5 := by obtain ⟨_, _, _, _, _, _, _, _, _, _, _, hb⟩ := P5.out; exact hb
        obtain ⟨b', off', hab, q0, q1, q2, q3, q4, q5, q6, q7⟩ := (S3.out.below bw).step l3
        obtain ⟨y0, hy0⟩ := ex_hid (F3 (k * 8 + 0))
        obtain ⟨y1, hy1⟩ := ex_hid (F3 (k * 8 + 1))
        obtain ⟨y2, hy2⟩ := ex_hid (F3 (k * 8 + 2))
        obtain ⟨y3, hy3⟩ := ex_hid (F3 (k * 8 + 3))
        obtain ⟨y4, hy4⟩ := ex_hid (F3 (k * 8 + 4))
        obtain ⟨y5, hy5⟩ := ex_hid (F3 (k * 8 + 5))
        obtain ⟨y6, hy6⟩ := ex_hid (F3 (k * 8 + 6))
        obtain ⟨y7, hy7⟩ := ex_hid (B3 (k * 8 + 7))
        rw [← hy0.out] at q0
        rw [← hy1.out] at q1
        rw [← hy2.out] at q2
        rw [← hy3.out] at q3
        rw [← hy4.out] at q4
        rw [← hy5.out] at q5
        rw [← hy6.out] at q6
        rw [← hy7.out] at q7
        subst hab
        clear bw
        go_wp2_with fail
        refine (pt8_two P5.out (by have := N1.out; have := HK3.out; omega) y0 y1 y2 y3 y4 y5 y6 y7).mono ?_
        rintro r w6 ⟨rfl, p6⟩
        have P6 := Lib.hid p6
        clear p6 q0 q1 q2 q3 q4 q5 q6 q7
        go_wp2_with fail
        go_roundw
        case rel => exact ⟨k + 1, by omega, by omega, by go_num, P6.out.mono (by omega)⟩
        case measure => simp [intOf]; omega
      · have e3 : decide ((k : Int) < (n3 : Int)) = false := by simp; omega
        have e3' : ¬ (k : Int) < (n3 : Int) := by omega
        go_wp2_with fail
        go_roundw
        case rel => exact ⟨k + 1, by omega, by omega, by go_num, P5.out.mono (by omega)⟩
        case measure => simp [intOf]; omega
    · have e2 : decide ((k : Int) < (n2 : Int)) = false := by simp; omega
      have e2' : ¬ (k : Int) < (n2 : Int) := by omega
      by_cases l3 : k < n3
      · have e3 : decide ((k : Int) < (n3 : Int)) = true := by simp; omega
        have e3' : (k : Int) < (n3 : Int) := by omega
        have bw : Below B w wr := by obtain ⟨_, _, _, _, _, _, _, _, _, _, _, hb⟩ := HI.out; exact hb
        obtain ⟨b', off', hab, q0, q1, q2, q3, q4, q5, q6, q7⟩ := (S3.out.below bw).step l3
        obtain ⟨y0, hy0⟩ := ex_hid (F3 (k * 8 + 0))
        obtain ⟨y1, hy1⟩ := ex_hid (F3 (k * 8 + 1))
        obtain ⟨y2, hy2⟩ := ex_hid (F3 (k * 8 + 2))
        obtain ⟨y3, hy3⟩ := ex_hid (F3 (k * 8 + 3))
        obtain ⟨y4, hy4⟩ := ex_hid (F3 (k * 8 + 4))
        obtain ⟨y5, hy5⟩ := ex_hid (F3 (k * 8 + 5))
        obtain ⟨y6, hy6⟩ := ex_hid (F3 (k * 8 + 6))
        obtain ⟨y7, hy7⟩ := ex_hid (B3 (k * 8 + 7))
        rw [← hy0.out] at q0
        rw [← hy1.out] at q1
        rw [← hy2.out] at q2
        rw [← hy3.out] at q3
        rw [← hy4.out] at q4
        rw [← hy5.out] at q5
        rw [← hy6.out] at q6
        rw [← hy7.out] at q7
        subst hab
        clear bw
        go_wp2_with fail
        refine (pt8_two HI.out (by have := N1.out; have := HK3.out; omega) y0 y1 y2 y3 y4 y5 y6 y7).mono ?_
        rintro r w6 ⟨rfl, p6⟩
        have P6 := Lib.hid p6
        clear p6 q0 q1 q2 q3 q4 q5 q6 q7
        go_wp2_with fail
        go_roundw
        case rel => exact ⟨k + 1, by omega, by omega, by go_num, P6.out.mono (by omega)⟩
        case measure => simp [intOf]; omega
      · have e3 : decide ((k : Int) < (n3 : Int)) = false := by simp; omega
        have e3' : ¬ (k : Int) < (n3 : Int) := by omega
        have N900 := Lib.hid (show n1 + 2 * k ≤ 900 by have := N1.out; have := HK3.out; omega)
        go_wp2_with fail
        refine (pt8_alike HI.out N900.out xb (.inl rfl)).mono ?_
        rintro r w6 ⟨rfl, p6⟩
        have P6 := Lib.hid p6
        clear p6
        go_wp2_with fail
        refine (pt8_alike P6.out N900.out yb (.inr rfl)).mono ?_
        rintro r w7 ⟨rfl, p7⟩
        have P7 := Lib.hid p7
        clear p7
        go_wp2_with (go_at_call 11; refine (awake8 _).mono ?_; rintro e w' ⟨rfl, hb⟩)
        go_ret
        obtain ⟨_, _, _, _, _, _, _, _, _, _, hJ, hbl⟩ := P7.out
        exact ⟨rfl, hbl.trans (hb.mono hJ.g.bw)⟩
theorem probeTwo_walk (a0 : Int) (a1 : Option Addr) (len1 cap1 : Nat) (F1 : Nat → Int) (B1 : Nat → Bool) (a2 : Option Addr) (len2 cap2 : Nat) (F2 : Nat → Int) (B2 : Nat → Bool) (a3 : Option Addr) (len3 cap3 : Nat) (F3 : Nat → Int) (B3 : Nat → Bool) (w : World) (w0 : (Lit.int .i64 a0).wf = true) (w1 : MixRow (fun j => [7].contains j) 8 w a1 len1 F1 B1) (w2 : MixRow (fun j => [7].contains j) 8 w a2 len2 F2 B2) (w3 : MixRow (fun j => [7].contains j) 8 w a3 len3 F3 B3) :
    Calls Tryz.prog 5 #[.int .i64 a0, .slice a1 len1 cap1, .slice a2 len2 cap2, .slice a3 len3 cap3] w fun e w' => e = .returned (.bool true) ∧ Below w.heap.size w w' := by
  by_cases h : 300 < len1 ∨ 300 < len2 ∨ 300 < len3
  · exact probeTwo_early a0 a1 a2 a3 len1 cap1 len2 cap2 len3 cap3 w h
  · exact probeTwo_main a0 a1 a2 a3 len1 cap1 len2 cap2 len3 cap3 F1 F2 F3 B1 B2 B3 w (by omega) (by omega) (by omega) w1 w2 w3
end Go.Proofs.YtcakdmapnmneoaaGreat
