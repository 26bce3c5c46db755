/- Each namespace is a sequence of names (chapter 10, SharedModel): the walk. -/
import Derived.Test.YtajmfenfajbakaaPkM
import Derived.Test.YtajmfenfajbakaaShNl2
import Derived.Test.YtajmfenfajbakaaShOn
import Derived.Deep.CutBlock
namespace Go.Proofs.Ytajmfenfajbakaa
open Go.RowKit
set_option linter.unusedVariables false
set_option linter.unusedSimpArgs false

theorem stepMc10 {w : World} {a : Option Addr} {len : Nat} {F : Nat → Int} {N : Nat → ByteArray} (h : FldRow (fun j => [2].contains j) 4 w a len F N) {i : Nat} (hi : i < len) :
    ∃ b off, a = some ⟨b, off, none⟩ ∧ ∀ W, Keeps [] w W → W.cell? ⟨b, off + i * 4, none⟩ = some (.int .i64 (F (i * 4))) ∧ W.cell? ⟨b, off + i * 4 + 1, none⟩ = some (.int .i64 (F (i * 4 + 1))) ∧ W.cell? ⟨b, off + i * 4 + 2, none⟩ = some (.string (N (i * 4 + 2))) ∧ W.cell? ⟨b, off + i * 4 + 3, none⟩ = some (.int .i64 (F (i * 4 + 3))) := by
  rcases h with h | ⟨b, off, h1, _, _, hc⟩
  · omega
  · refine ⟨b, off, h1, fun W k => ?_⟩
    have e0 := hc (i * 4) (by omega)
    have e1 := hc (i * 4 + 1) (by omega)
    have e2 := hc (i * 4 + 2) (by omega)
    have e3 := hc (i * 4 + 3) (by omega)
    have m0 : (i * 4) % 4 = 0 := by omega
    have m1 : (i * 4 + 1) % 4 = 1 := by omega
    have m2 : (i * 4 + 2) % 4 = 2 := by omega
    have m3 : (i * 4 + 3) % 4 = 3 := by omega
    unfold fldV at e0 e1 e2 e3
    rw [m0] at e0
    rw [m1] at e1
    rw [m2] at e2
    rw [m3] at e3
    rw [Nat.add_assoc, Nat.add_assoc, Nat.add_assoc]
    exact ⟨k.cell e0 (by simp), k.cell e1 (by simp), k.cell e2 (by simp), k.cell e3 (by simp)⟩
def stepM10 (k s : Int) (n : ByteArray) (v : Int) : Obj := .cells #[.int .i64 k, .int .i64 s, .string n, .int .i64 v] 67 (0, 0)
theorem idx10 (m : Int) {n : Nat} (hn : 0 < n) : ∃ p : Nat, p < n ∧ (if m.tmod n < 0 then m.tmod n + n else m.tmod n) = (p : Int) := by
  have h1 := Int.tmod_lt_of_pos m (show (0 : Int) < n by omega)
  have h2 := Int.lt_tmod_of_pos m (show (0 : Int) < n by omega)
  by_cases h : m.tmod n < 0
  · rw [if_pos h]; exact ⟨(m.tmod n + n).toNat, by omega, by omega⟩
  · rw [if_neg h]; exact ⟨(m.tmod n).toNat, by omega, by omega⟩
theorem up10 {u : Nat} (h : u ≤ 100000) : wrap64 ((u : Int) + 1) = ((u + 1 : Nat) : Int) := by rw [IntWalk.wrap64_in _ (by omega)]; omega
theorem meas10 {n q : Nat} (h : q < n) (hw : wrap64 ((q : Int) + 1) = ((q + 1 : Nat) : Int)) : n - (intOf (.int .i64 (wrap64 ((q : Int) + 1)))).toNat < n - (intOf (.int .i64 (q : Int))).toNat := by rw [hw]; simp [intOf]; omega
theorem pairsW_le {k : Nat} {f : Fam} {ks : List ByteArray} {L : List PS10} {i : Nat} {x : PS10} (h : PJ k f ks (L.map PS10.pure)) (hk : k ≤ 900) (hx : L[i]? = some x) : (pairsW f x.wy).length ≤ 100000 := by
  rw [pairsW_len]
  have h1 := (h.sp i _ (pure_at hx)).1
  simp only at h1
  cases hw : x.wy with
  | row vs => rw [hw] at h1; have := h1.2; show vs.length ≤ _; omega
  | own T => rw [hw] at h1; have := (show OwnOk k f.N T from h1).t.ek; have := liveN_le T.E; show liveN T.E ≤ _; omega
theorem putV_hit10 {V : Nat → Value} {n : Nat} {x : Value} (h : V n = x) : ∀ q, q < n + 1 → putV V n x q = V q := by
  intro q hq
  unfold putV
  split
  · rename_i e; rw [e, h]
  · rfl
theorem or_new10 {g : Nat} {a : Option Addr} {W : World} {ob : Obj} (q : g ∈ blk a ∨ g = (W.alloc ob).heap.size) : g ∈ blk a ∨ W.heap.size ≤ g := by
  rcases q with h | h
  · exact .inl h
  · right; rw [h]; simp
set_option maxRecDepth 100000 in
set_option maxHeartbeats 8000000 in
theorem sharedModel_walk (most al : Int) (a0 : Option Addr) (n0 c0 : Nat) (F : Nat → Int) (N : Nat → ByteArray) (w : World) (h0 : FldRow (fun j => [2].contains j) 4 w a0 n0 F N) :
    Calls Try.prog 5 #[.int .i64 most, .int .i64 al, .slice a0 n0 c0] w fun e w' => e = .returned (.bool true) ∧ Below w.heap.size w w' := by
  have H0 := Lib.hid h0
  have MU := much10_any a0 n0 c0 F N w h0
  clear h0
  by_cases hb : 0 ≤ most ∧ most ≤ 256 ∧ 0 ≤ al ∧ al ≤ 1000
  · obtain ⟨hb1, hb2, hb3, hb4⟩ := hb
    have b1 : decide (most < 0) = false := by simp; omega
    have b2 : decide ((256 : Int) < most) = false := by simp; omega
    have b3 : decide (al < 0) = false := by simp; omega
    have b4 : decide ((1000 : Int) < al) = false := by simp; omega
    have NW := jnew_any most al none ⟨0, 0, 0, 0⟩ w (fun b hb => by cases hb) hb1 hb2 hb3 (by omega)
    rw [show mV none = .pointer none from rfl] at NW
    go_enter Try.func5, Try.ntmps5
    go_wp2_with fail
    refine MU.mono ?_
    rintro r w1 ⟨rfl, (rfl | ⟨rfl, hlen, hsz⟩)⟩
    · clear MU NW
      go_wp2_with fail
      refine (awake10 w).mono ?_
      rintro r w1 ⟨rfl, k1⟩
      have K1 := Lib.hid k1
      clear k1
      go_wp2_with fail
      go_ret
      exact ⟨rfl, K1.out.below (Nat.le_refl _) (by simp)⟩
    · have HZ := Lib.hid hsz
      clear MU hsz
      go_wp2_with fail
      refine NW.mono ?_
      rintro r w1 ⟨fb, rfl, hfb, k1, m1, S1, f1⟩
      have hI : MdB w.heap.size fb al 0 0 0 0 none none none 0 0 0 ⟨most, al, newT, []⟩ [] (⟨0, 0, 0, 0⟩ : C4).tab (fun z => if z ∈ S1 then .fam true else .free) [] w1 :=
        ⟨⟨m1, (fun b hb => by cases hb), ⟨S1, f1, fun z hz => by simp [hz]; rfl⟩, fun i x hx => by simp at hx⟩, fun z hz => (by
          have : z ∉ S1 := fun h => by have := (FA10.foot f1 z h).2; omega
          simp [this]), rfl, PJ.new most al, fun i x hx => by simp at hx, rfl, ValRow.nil _ _ _ _, fun z hz => by simp [blk] at hz, ValRow.nil _ _ _ _, fun z hz => by simp [blk] at hz, ValRow.nil _ _ _ _, fun z hz => by simp [blk] at hz, fun z hz => (by
          by_cases h : z ∈ S1
          · exact (FA10.foot f1 z h).1
          · simp [h] at hz)⟩
      have I1 := Lib.hid (And.intro hI (show Below w.heap.size w w1 from k1.below (Nat.le_refl _) (by simp [mS])))
      clear NW k1 m1 f1 hI
      go_wp2_with fail
      go_loopw [9, 10, 11, 12] (fun z9 z10 z11 z12 wr => ∃ (i : Nat) (sa wa va : Option Addr) (sc wc vc : Nat) (f : Fam) (ks : List ByteArray) (c : C4) (o : Nat → Tg10) (L : List PS10), i ≤ 3 ∧ z12 = .int .i64 i ∧ z9 = .slice sa i sc ∧ z10 = .slice wa i wc ∧ z11 = .slice va i vc ∧ Hid (MdB w.heap.size fb al i i i i sa wa va sc wc vc f ks c o L wr ∧ Below w.heap.size w wr)) (fun _ _ _ z12 _ => 3 - (intOf z12).toNat)
      case atStart => exact ⟨0, none, none, none, 0, 0, 0, _, _, _, _, _, by omega, rfl, rfl, rfl, rfl, I1⟩
      case round =>
        clear I1
        obtain ⟨i, sa, wa, va, sc, wc, vc, f, ks, c, o, L, hi, rfl, rfl, rfl, rfl, I⟩ := hrel
        by_cases hlt : i < 3
        · have i1 : (i : Int) < 3 := by omega
          have i0 : (0 : Int) ≤ (i : Int) := by omega
          have MK := jmake_any I.out.1.j I.out.1.fr
          have hlo := I.out.1.lolt
          have hBw := I.out.2.size
          go_wp2_with fail
          refine MK.mono ?_
          rintro r w2 ⟨sb, rfl, hsb, k2, o2, j2, mv2, fr2, nw2⟩
          have M2 := Lib.hid (I.out.1.made (Nat.le_refl _) k2 j2 mv2 fr2 nw2)
          have B2 := Lib.hid (I.out.2.trans (k2.below hBw (by simp)))
          have LN := Lib.hid I.out.1.ln
          obtain ⟨L2, hL2⟩ : ∃ L2, Hid (L2 = L ++ [⟨sb, .row [], 0⟩]) := ⟨_, Lib.hid rfl⟩
          rw [← hL2.out] at M2
          have PT := Lib.hid (show ptrV10 L2 i = .pointer (some ⟨sb, 0, none⟩) from by
            unfold ptrV10; rw [hL2.out, List.getElem?_append_right (by rw [LN.out]; exact Nat.le_refl _), LN.out]; simp)
          have z2 := k2.size
          clear MK k2 j2 mv2 fr2 nw2 I hBw
          obtain ⟨g3, cp3, w3, run3, r3, k3, q3, l3⟩ := val_app10 (T := 64) (E := 39) (TY := 39) Try.underlying64 infoSp10 rfl (by decide) w.heap.size sa sc i (ptrV10 L2) (.pointer (some ⟨sb, 0, none⟩)) rfl (w2.alloc (.cells #[.pointer (some ⟨sb, 0, none⟩)] 39)) w2.heap.size (M2.out.s.keeps ((Keeps.refl [] w2).alloc _) (by simp)) (has_new _ _) (by omega) (by simp; omega)
          have RUN3 := Lib.hid run3
          have k23 : Keeps (blk sa) w2 w3 := ((Keeps.refl (blk sa) w2).alloc _).trans k3
          obtain ⟨o3, m3, _⟩ := M2.out.grow_s r3 (putV_hit10 PT.out) k23 (or_new10 q3)
          have M3 := Lib.hid m3
          have B3 := Lib.hid (B2.out.trans (k23.below (by omega) (fun z hz => (M2.out.s.blk_lt z hz).1)))
          have z3 := k23.size
          clear run3 r3 k3 q3 l3 k23 m3 M2 B2
          go_upto_region 13 with (at_builtin; refine wpList_append_run rfl _ _ 64 rfl _ _ rfl rfl _ _ RUN3.out ?_)
          obtain ⟨g4, cp4, w4, run4, r4, k4, q4, l4⟩ := val_app10 (T := 65) (E := 49) (TY := 49) Try.underlying65 infoSl10 rfl (by decide) w.heap.size wa wc i (fun _ => .slice none 0 0) (.slice none 0 0) rfl (w3.alloc (.cells #[.slice none 0 0] 49)) w3.heap.size (M3.out.w.keeps ((Keeps.refl [] w3).alloc _) (by simp)) (has_new _ _) (by omega) (by simp; omega)
          have RUN4 := Lib.hid run4
          have k34 : Keeps (blk wa) w3 w4 := ((Keeps.refl (blk wa) w3).alloc _).trans k4
          obtain ⟨o4, m4, _⟩ := M3.out.grow_w r4 (putV_hit10 rfl) k34 (or_new10 q4)
          have M4 := Lib.hid m4
          have B4 := Lib.hid (B3.out.trans (k34.below (by omega) (fun z hz => (M3.out.w.blk_lt z hz).1)))
          have z4 := k34.size
          clear run4 r4 k4 q4 l4 k34 m4 M3 B3
          go_upto_region 14 with (at_builtin; refine wpList_append_run rfl _ _ 65 rfl _ _ rfl rfl _ _ RUN4.out ?_)
          obtain ⟨g5, cp5, w5, run5, r5, k5, q5, l5⟩ := val_app10 (T := 23) (E := 3) (TY := 3) Try.underlying23 info64 rfl (by decide) w.heap.size va vc i (fun _ => .int .i64 0) (.int .i64 0) rfl (w4.alloc (.cells #[.int .i64 0] 3)) w4.heap.size (M4.out.v.keeps ((Keeps.refl [] w4).alloc _) (by simp)) (has_new _ _) (by omega) (by simp; omega)
          have RUN5 := Lib.hid run5
          have k45 : Keeps (blk va) w4 w5 := ((Keeps.refl (blk va) w4).alloc _).trans k5
          obtain ⟨o5, m5, _⟩ := M4.out.grow_v r5 (putV_hit10 rfl) k45 (or_new10 q5)
          have M5 := Lib.hid m5
          have B5 := Lib.hid (B4.out.trans (k45.below (by omega) (fun z hz => (M4.out.v.blk_lt z hz).1)))
          clear run5 r5 k5 q5 l5 k45 m5 M4 B4
          go_upto_region 15 with (at_builtin; refine wpList_append_run rfl _ _ 23 rfl _ _ rfl rfl _ _ RUN5.out ?_)
          have p5 : w5.cell? ⟨g3, i, none⟩ = some (.pointer (some ⟨sb, 0, none⟩)) := by
            have h9 := M5.out.s.cell (k := i) (by omega)
            rw [PT.out] at h9; exact h9
          have i2 : (i : Int) < ((i + 1 : Nat) : Int) := by omega
          have i3 : (i : Int) < (i : Int) + 1 := by omega
          have LL2 := Lib.hid (show L2.length = i + 1 from by rw [hL2.out]; simp [LN.out])
          clear hL2 z2 z3 z4
          go_wp2_with fail
          go_roundw
          case rel => exact ⟨i + 1, _, _, _, _, _, _, _, _, _, _, _, by omega, by go_num, rfl, rfl, rfl, Lib.hid ⟨M5.out, B5.out⟩⟩
          case measure => simp [intOf]; omega
        · obtain rfl : i = 3 := by omega
          obtain ⟨gs, rfl⟩ := I.out.1.s.shape (by omega)
          obtain ⟨gw, rfl⟩ := I.out.1.w.shape (by omega)
          obtain ⟨gv, rfl⟩ := I.out.1.v.shape (by omega)
          have M0 := Lib.hid (And.intro I.out.1.done10.1 (And.intro I.out.1.done10.2 I.out.2))
          clear I
          obtain ⟨WM, hWM⟩ : ∃ x, x = wr := ⟨_, rfl⟩
          subst hWM
          rw [show ((3 : Nat) : Int) = 3 from rfl]
          go_wp2_with fail
          go_loopw [13] (fun z13 wr => ∃ (i : Nat) (f : Fam) (ks : List ByteArray) (c : C4) (o : Nat → Tg10) (L : List PS10) (P : Nat → List Pr10) (ve : Nat → Nat) (ra : Nat → Option Addr) (rc : Nat → Nat), i ≤ n0 ∧ z13 = .int .i64 i ∧ Hid (MdS w.heap.size fb al i 3 (some ⟨gs, 0, none⟩) (some ⟨gw, 0, none⟩) (some ⟨gv, 0, none⟩) sc wc vc f ks c o L P ve ra rc wr ∧ Rel10 f L P ve ∧ Below w.heap.size w wr) ∧ Hid (Sml10 P)) (fun z13 _ => n0 - (intOf z13).toNat)
          case atStart => exact ⟨0, _, _, _, _, _, _, _, _, _, Nat.zero_le _, rfl, M0, Lib.hid Sml10.nil⟩
          case round =>
            clear M0
            obtain ⟨i, f, ks, c, o, L, P, ve, ra, rc, hi, rfl, I, SM⟩ := hrel
            by_cases hlt : i < n0
            · have i1 : (i : Int) < (n0 : Int) := by omega
              have i0 : (0 : Int) ≤ (i : Int) := by omega
              obtain ⟨b, off, rfl, hc⟩ := stepMc10 H0.out hlt
              obtain ⟨x0, x1, x2, x3⟩ := hc wr (Below.keeps I.out.2.2 [])
              have ZS := Lib.hid (HZ.out i hlt)
              obtain ⟨kd, hkd⟩ := ex_hid (F (i * 4))
              obtain ⟨ss, hss⟩ := ex_hid (F (i * 4 + 1))
              obtain ⟨s, hs⟩ := ex_hid (N (i * 4 + 2))
              obtain ⟨v, hv⟩ := ex_hid (F (i * 4 + 3))
              rw [← hkd.out] at x0
              rw [← hss.out] at x1
              rw [← hs.out] at x2 ZS
              rw [← hv.out] at x3
              clear hc hs hss hkd hv
              go_upto_region 21 with (fail)
              refine wp_gen (fun V => V.heap[wr.heap.size]? = some (stepM10 kd ss s v) ∧ Keeps [] wr V) ⟨has_new _ _, (Keeps.refl [] wr).alloc _⟩ ?_
              rintro w9 ⟨b9, k9⟩
              have J := Lib.hid (And.intro (I.out.1.quiet k9) (And.intro I.out.2.1 (I.out.2.2.trans (k9.below I.out.2.2.size (by simp)))))
              obtain ⟨X, hX⟩ := ex_hid wr.heap.size
              have OX := Lib.hid (show o X = .free from by rw [hX.out]; exact I.out.1.fr _ (Nat.le_refl _))
              rw [← hX.out] at b9 ⊢
              have BX := Lib.hid b9
              have s1 : w9.cell? ⟨X, 1, none⟩ = some (.int .i64 ss) := cell_has b9 (i := 1) rfl
              obtain ⟨p, hp3, hp⟩ := idx10 ss (show 0 < 3 by omega)
              have HP := Lib.hid hp
              clear x0 x1 x2 x3 b9 k9 I hX hp
              go_upto_if 88 with (fail)
              go_cut [15] from 84 to 90 (fun z15 wx => z15 = .int .i64 (p : Nat) ∧ w9 = wx)
              case first =>
                obtain ⟨tm, htm⟩ := ex_hid (ss.tmod 3)
                have hp := HP.out
                rw [show ((3 : Nat) : Int) = 3 from rfl, ← htm.out] at hp
                rw [← htm.out]
                by_cases ht : tm < 0
                · rw [if_pos ht] at hp
                  have bt : decide (tm < 0) = true := by simpa using ht
                  have hwt : wrap64 (tm + 3) = (p : Int) := by rw [IntWalk.wrap64_in _ (by omega)]; exact hp
                  clear hp
                  go_wp2_with fail
                  go_meet
                  case rel => exact ⟨by rw [hwt], rfl⟩
                · rw [if_neg ht] at hp
                  have bt : decide (tm < 0) = false := by simpa using ht
                  subst hp
                  go_wp2_with fail
                  go_meet
                  case rel => exact ⟨rfl, rfl⟩
              case rest =>
                obtain ⟨rfl, rfl⟩ := hcut
                have p0 : (0 : Int) ≤ (p : Int) := by omega
                have p3 : (p : Int) < 3 := by omega
                obtain ⟨x, hx⟩ : ∃ x, L[p]? = some x := ⟨_, List.getElem?_eq_getElem (by rw [J.out.1.ln]; exact hp3)⟩
                have s5 : w9.cell? ⟨gs, p, none⟩ = some (.pointer (some ⟨x.sb, 0, none⟩)) := by
                  have h9 := J.out.1.s.cell (k := p) hp3
                  unfold ptrV10 at h9; rw [hx] at h9; exact h9
                have SH := jshared_any J.out.1.j hx
                obtain ⟨wb, hwb⟩ := ex_hid x.wy.isRow
                rw [← hwb.out] at SH
                go_wp2_with fail
                refine SH.mono ?_
                rintro r w10 ⟨rfl, rfl⟩
                have s0 : w9.cell? ⟨X, 0, none⟩ = some (.int .i64 kd) := cell_has BX.out (i := 0) rfl
                have s2 : w9.cell? ⟨X, 2, none⟩ = some (.string s) := cell_has BX.out (i := 2) rfl
                have s3 : w9.cell? ⟨X, 3, none⟩ = some (.int .i64 v) := cell_has BX.out (i := 3) rfl
                clear SH s1 HP
                have HX := Lib.hid hx
                have VB := Lib.hid (show ve p ≤ 100000 from by rw [(J.out.2.1 p x hx).2]; have h9 := (J.out.1.p.sp p _ (pure_at hx)).2; simp only at h9; omega)
                have PLE := Lib.hid (show (P p).length ≤ 100000 from by rw [(J.out.2.1 p x hx).1]; exact pairsW_le J.out.1.p (by omega) hx)
                clear hx
                go_upto_block 4 with (fail)
                go_cut [16] from 98 to 152 (fun z16 wx => ∃ (okb : Bool) (f2 : Fam) (ks2 : List ByteArray) (c2 : C4) (o2 : Nat → Tg10) (L2 : List PS10) (x2 : PS10) (P2 : Nat → List Pr10) (ra2 : Nat → Option Addr) (rc2 : Nat → Nat), z16 = .bool okb ∧ Hid (L2[p]? = some x2) ∧ Hid (MdS w.heap.size fb al (i + 1) 3 (some ⟨gs, 0, none⟩) (some ⟨gw, 0, none⟩) (some ⟨gv, 0, none⟩) sc wc vc f2 ks2 c2 o2 L2 P2 ve ra2 rc2 wx) ∧ Hid (∀ (q : Nat) (y : PS10), L2[q]? = some y → P2 q = pairsW f2 y.wy ∧ (q = p → y.ver = ve p + okb.toNat) ∧ (q ≠ p → ve q = y.ver)) ∧ Hid (x2.wy.isRow = true → wb = true) ∧ Hid (Below w.heap.size w wx) ∧ Hid (Sml10 P2))
                case first =>
                  by_cases hk1 : kd = 1
                  · have q1 : (kd == (1 : Int)) = true := by simpa using hk1
                    clear hk1
                    go_upto_region 29 with (fail)
                    obtain ⟨R1, t1⟩ := J.out.1.r p hp3
                    have y1 : w9.cell? ⟨gw, p, none⟩ = some (.slice (ra p) (P p).length (rc p)) := J.out.1.w.cell hp3
                    have LSC := lset_uni w.heap.size (ra p) (rc p) (P p) s v al w9.drew R1 PLE.out J.out.1.lolt
                    unfold Uni10 at LSC
                    have ngw := Lib.hid (show gw ∉ blk (ra p) from fun h => by have h1 := t1 gw h; rw [J.out.1.wo gw (by simp [blk])] at h1; simp at h1)
                    have nX := Lib.hid (show X ∉ blk (ra p) from fun h => by have h1 := t1 X h; rw [OX.out] at h1; simp at h1)
                    obtain ⟨rap, hrap⟩ := ex_hid (ra p)
                    obtain ⟨rcp, hrcp⟩ := ex_hid (rc p)
                    obtain ⟨np, hnp⟩ := ex_hid (P p).length
                    obtain ⟨Rp, hRp⟩ := ex_hid (setLw (P p) s v al)
                    obtain ⟨Pp, hPp⟩ := ex_hid (P p)
                    rw [← hrap.out, ← hrcp.out, ← hnp.out] at y1
                    rw [← hRp.out, ← hrap.out, ← hrcp.out, ← hnp.out, ← hPp.out] at LSC
                    clear R1 t1 s0 s5
                    refine wp_regionG (fun w' => w'.cell? ⟨gw, p, none⟩ = some (.slice rap np rcp) ∧ w'.cell? ⟨X, 2, none⟩ = some (.string s) ∧ w'.cell? ⟨X, 3, none⟩ = some (.int .i64 v)) 16 (by kernel_rfl) ⟨y1, s2, s3⟩ (fun hF => ?_)
                    refine wpAnyG_takeY (i := 0) (v := ?_) rfl (by kernel_rfl) (by decide +kernel) (by decide +kernel) (by decide +kernel) (fun _ _ _ h => h) (by kernel_rfl) ?_ (by assumption) ?_
                    rotate_left
                    · (intro wz; go_simp; with_reducible rfl)
                    try simp only [Act.put, List.setIfInBounds_toArray, List.set_cons_zero, List.set_cons_succ]
                    refine wpAnyG_takeY (i := 1) (v := ?_) rfl (by kernel_rfl) (by decide +kernel) (by decide +kernel) (by decide +kernel) (fun _ _ _ h => h) (by kernel_rfl) ?_ (by assumption) ?_
                    rotate_left
                    · (intro wz; go_simp; with_reducible rfl)
                    try simp only [Act.put, List.setIfInBounds_toArray, List.set_cons_zero, List.set_cons_succ]
                    refine wpAnyG_takeY (i := 2) (v := ?_) rfl (by kernel_rfl) (by decide +kernel) (by decide +kernel) (by decide +kernel) (fun _ _ _ h => h) (by kernel_rfl) ?_ (by assumption) ?_
                    rotate_left
                    · (intro wz; go_simp; with_reducible rfl)
                    try simp only [Act.put, List.setIfInBounds_toArray, List.set_cons_zero, List.set_cons_succ]
                    refine wpAnyG_takeY (i := 3) (v := ?_) rfl (by kernel_rfl) (by decide +kernel) (by decide +kernel) (by decide +kernel) (fun _ _ _ h => h) (by kernel_rfl) ?_ (by assumption) ?_
                    rotate_left
                    · (intro wz; go_simp; with_reducible rfl)
                    try simp only [Act.put, List.setIfInBounds_toArray, List.set_cons_zero, List.set_cons_succ]
                    refine wpAnyG_takeY (i := 4) (v := ?_) rfl (by kernel_rfl) (by decide +kernel) (by decide +kernel) (by decide +kernel) (fun _ _ _ h => h) (by kernel_rfl) ?_ (by assumption) ?_
                    rotate_left
                    · (intro wz; go_simp; with_reducible rfl)
                    try simp only [Act.put, List.setIfInBounds_toArray, List.set_cons_zero, List.set_cons_succ]
                    refine wpAnyG_take (i := 5) (v := ?_) rfl (by kernel_rfl) (by decide +kernel) (by decide +kernel) (by decide +kernel) (by decide +kernel) (by rfl) (fun _ _ _ h => h) (by kernel_rfl) ?_ (by assumption) ?_
                    rotate_left
                    · (intro wz hSw; (try dsimp only at hSw); go_simp; with_reducible rfl)
                    try simp only [Act.put, List.setIfInBounds_toArray, List.set_cons_zero, List.set_cons_succ]
                    refine wpAnyG_takeY (i := 6) (v := ?_) rfl (by kernel_rfl) (by decide +kernel) (by decide +kernel) (by decide +kernel) (fun _ _ _ h => h) (by kernel_rfl) ?_ (by assumption) ?_
                    rotate_left
                    · (intro wz; go_simp; with_reducible rfl)
                    try simp only [Act.put, List.setIfInBounds_toArray, List.set_cons_zero, List.set_cons_succ]
                    refine wpAnyG_take (i := 7) (v := ?_) rfl (by kernel_rfl) (by decide +kernel) (by decide +kernel) (by decide +kernel) (by decide +kernel) (by rfl) (fun _ _ _ h => h) (by kernel_rfl) ?_ (by assumption) ?_
                    rotate_left
                    · (intro wz hSw; (try dsimp only at hSw); go_simp; with_reducible rfl)
                    try simp only [Act.put, List.setIfInBounds_toArray, List.set_cons_zero, List.set_cons_succ]
                    refine wpAnyG_takeY (i := 8) (v := ?_) rfl (by kernel_rfl) (by decide +kernel) (by decide +kernel) (by decide +kernel) (fun _ _ _ h => h) (by kernel_rfl) ?_ (by assumption) ?_
                    rotate_left
                    · (intro wz; go_simp; with_reducible rfl)
                    try simp only [Act.put, List.setIfInBounds_toArray, List.set_cons_zero, List.set_cons_succ]
                    refine wpAnyG_take (i := 9) (v := ?_) rfl (by kernel_rfl) (by decide +kernel) (by decide +kernel) (by decide +kernel) (by decide +kernel) (by rfl) (fun _ _ _ h => h) (by kernel_rfl) ?_ (by assumption) ?_
                    rotate_left
                    · (intro wz hSw; (try dsimp only at hSw); go_simp; with_reducible rfl)
                    try simp only [Act.put, List.setIfInBounds_toArray, List.set_cons_zero, List.set_cons_succ]
                    refine wpAnyG_takeY (i := 10) (v := ?_) rfl (by kernel_rfl) (by decide +kernel) (by decide +kernel) (by decide +kernel) (fun _ _ _ h => h) (by kernel_rfl) ?_ (by assumption) ?_
                    rotate_left
                    · (intro wz; go_simp; with_reducible rfl)
                    try simp only [Act.put, List.setIfInBounds_toArray, List.set_cons_zero, List.set_cons_succ]
                    refine wpAnyG_one (i := 11) rfl (by kernel_rfl) (by kernel_rfl) (fun K hK => ?_)
                    have HK := Lib.hid hK
                    clear hK
                    go_simp
                    refine LSC.mono ?_
                    rintro r w10 ⟨okb, P', a', c', rfl, r10, k10, g10, uni⟩
                    have UNI := Lib.hid uni
                    rw [hrap.out] at k10
                    have hF2 : (fun w' : World => w'.cell? ⟨gw, p, none⟩ = some (.slice rap np rcp) ∧ w'.cell? ⟨X, 2, none⟩ = some (.string s) ∧ w'.cell? ⟨X, 3, none⟩ = some (.int .i64 v)) w10 := ⟨k10.cell (w := w9.drew) y1 ngw.out, k10.cell (w := w9.drew) s2 nX.out, k10.cell (w := w9.drew) s3 nX.out⟩
                    refine HK.out _ _ hF2 ?_
                    clear HK K
                    try simp only [Act.put, List.setIfInBounds_toArray, List.set_cons_zero, List.set_cons_succ]
                    refine wpAnyG_takeY (i := 12) (v := ?_) rfl (by kernel_rfl) (by decide +kernel) (by decide +kernel) (by decide +kernel) (fun _ _ _ h => h) (by kernel_rfl) ?_ (by assumption) ?_
                    rotate_left
                    · (intro wz; go_simp; with_reducible rfl)
                    try simp only [Act.put, List.setIfInBounds_toArray, List.set_cons_zero, List.set_cons_succ]
                    refine wpAnyG_takeY (i := 13) (v := ?_) rfl (by kernel_rfl) (by decide +kernel) (by decide +kernel) (by decide +kernel) (fun _ _ _ h => h) (by kernel_rfl) ?_ (by assumption) ?_
                    rotate_left
                    · (intro wz; go_simp; with_reducible rfl)
                    try simp only [Act.put, List.setIfInBounds_toArray, List.set_cons_zero, List.set_cons_succ]
                    refine wpAnyG_takeY (i := 14) (v := ?_) rfl (by kernel_rfl) (by decide +kernel) (by decide +kernel) (by decide +kernel) (fun _ _ _ h => h) (by kernel_rfl) ?_ (by assumption) ?_
                    rotate_left
                    · (intro wz; go_simp; with_reducible rfl)
                    try simp only [Act.put, List.setIfInBounds_toArray, List.set_cons_zero, List.set_cons_succ]
                    refine wpAnyG_takeY (i := 15) (v := ?_) rfl (by kernel_rfl) (by decide +kernel) (by decide +kernel) (by decide +kernel) (fun _ _ _ h => h) (by kernel_rfl) ?_ (by assumption) ?_
                    rotate_left
                    · (intro wz; go_simp; with_reducible rfl)
                    try simp only [Act.put, List.setIfInBounds_toArray, List.set_cons_zero, List.set_cons_succ]
                    have vfz : w10.frozen? ⟨gw, p, none⟩ = false := (J.out.1.w.keeps (k10.undrew) (fun z hz hy => by simp [blk] at hz; subst hz; exact ngw.out hy)).free p
                    have WRO := Lib.hid (J.out.1.wrote hp3 r10 k10.undrew (fun z hz => by rw [← hrap.out]; exact g10 z hz))
                    have K10 := Lib.hid (show Keeps (blk (ra p)) w9 w10 from k10.undrew)
                    clear k10 r10 g10 y1 s2 s3 LSC uni
                    refine wpAnyG_last rfl (by kernel_rfl) (by rfl) (by rfl) (fun K hK => ?_)
                    have HK := Lib.hid hK
                    clear hK
                    go_simp
                    refine HK.out _ _ ?_
                    clear HK K
                    try simp only [Act.put, List.setIfInBounds_toArray, List.set_cons_zero, List.set_cons_succ]
                    refine wpAnyG_lone (i := 17) rfl (by kernel_rfl) (by rfl) (by rfl) (fun K hK => ?_)
                    have HK := Lib.hid hK
                    clear hK
                    go_simp
                    refine HK.out _ _ ?_
                    clear HK K
                    try simp only [Act.put, List.setIfInBounds_toArray, List.set_cons_zero, List.set_cons_succ]
                    refine wpAnyG_done (by kernel_rfl) ?_ _
                    go_upto_region 30 with (fail)
                    refine wp_gen (fun V => (∃ o', MdS w.heap.size fb al i 3 (some ⟨gs, 0, none⟩) (some ⟨gw, 0, none⟩) (some ⟨gv, 0, none⟩) sc wc vc f ks c o' L (upd10 P p P') ve (upd10 ra p a') (upd10 rc p c') V ∧ o' X = .free) ∧ Keeps (gw :: blk (ra p)) w9 V) ⟨let ⟨o', h1, h2, h3⟩ := WRO.out; ⟨o', h1, (h2 X (lt_of_block BX.out)).trans OX.out⟩, let ⟨o', h1, h2, h3⟩ := WRO.out; h3⟩ ?_
                    rintro w11 ⟨⟨o1, M1, OX1⟩, k11⟩
                    have b11 := Keeps.has k11 BX.out (fun hz => (List.mem_cons.1 hz).elim (fun e => by have h1 := J.out.1.wo gw (by simp [blk]); rw [← e, OX.out] at h1; cases h1) nX.out)
                    have s2 : w11.cell? ⟨X, 2, none⟩ = some (.string s) := cell_has b11 (i := 2) rfl
                    have s3 : w11.cell? ⟨X, 3, none⟩ = some (.int .i64 v) := cell_has b11 (i := 3) rfl
                    have s5 : w11.cell? ⟨gs, p, none⟩ = some (.pointer (some ⟨x.sb, 0, none⟩)) := by
                      have h9 := M1.s.cell (k := p) hp3
                      unfold ptrV10 at h9; rw [HX.out] at h9; exact h9
                    have B11 := Lib.hid (J.out.2.2.trans (k11.below J.out.2.2.size (fun z hz => by
                      rcases List.mem_cons.1 hz with rfl | hz
                      · exact (J.out.1.w.blk_lt z (by simp [blk])).1
                      · exact (PairRow.blk_lt (J.out.1.r p hp3).1 z hz).1)))
                    have hi9 : i ≤ 900 := by omega
                    have M12 := Lib.hid (M1.quiet (Keeps.refl [] w11).drew)
                    have OXX := Lib.hid OX1
                    have OGG := Lib.hid (M1.so gs (by simp [blk]))
                    have SM3 := Lib.hid (show Sml10 (upd10 P p P') from SM.out.set (v := v) (most := al) ZS.out (okb := okb) (s := s) (by rw [← hRp.out, ← hPp.out]; exact UNI.out))
                    clear M1 OX1 k11 b11 WRO K10 vfz
                    rcases UNI.out with ⟨rfl, u1, u2⟩ | ⟨rfl, u1⟩
                    · have SET := mset10 (wb := wb) M12.out HX.out hi9 ZS.out v (J.out.2.1.other P') (fun q y hy => (J.out.2.1 q y hy).2) hwb.out.symm (e := 6) (up := 0) (.inl ⟨rfl, rfl, by rw [← (J.out.2.1 p x HX.out).1, ← u1]; exact hRp.out.symm, by rw [upd10_same, u2, hPp.out]; exact (J.out.2.1 p x HX.out).1⟩)
                      clear hi9 u1 u2
                      go_region_held3 (fun w' => w'.cell? ⟨gs, p, none⟩ = some (.pointer (some ⟨x.sb, 0, none⟩)) ∧ w'.cell? ⟨X, 2, none⟩ = some (.string s) ∧ w'.cell? ⟨X, 3, none⟩ = some (.int .i64 v)) (go_keep)
                        (first
                          | (go_at_call 11; refine SET.mono ?_; rintro r wt ⟨rfl, f2, ks2, c2, o2, L2, x2, hx2, m2, r2, i2, bt, kt⟩; have HX2 := Lib.hid hx2; have T2 := Lib.hid m2; have RL := Lib.hid r2; have IMP := Lib.hid i2; have BT := Lib.hid (B11.out.trans ((Keeps.refl [] w11).drew.below B11.out.size (by simp) |>.trans bt)); have z1 := kt.cell (w := w11.drew) s5 (not_frT (by rw [OGG.out]; rfl)); have z2 := kt.cell (w := w11.drew) s2 (not_frT (by rw [OXX.out]; rfl)); have z3 := kt.cell (w := w11.drew) s3 (not_frT (by rw [OXX.out]; rfl)); clear m2 r2 i2 bt kt hx2))
                      clear s2 s3 s5 z1 z2 z3
                      go_wp2_with fail
                      go_meet
                      case rel => exact ⟨false, f2, ks2, c2, o2, L2, x2, upd10 P p P', upd10 ra p a', upd10 rc p c', rfl, HX2, T2, Lib.hid RL.out, IMP, BT, SM3⟩
                    · have SET := mset10 (wb := wb) M12.out HX.out hi9 ZS.out v (J.out.2.1.other P') (fun q y hy => (J.out.2.1 q y hy).2) hwb.out.symm (e := 0) (up := 1) (.inr ⟨rfl, rfl, by rw [upd10_same, ← (J.out.2.1 p x HX.out).1, ← u1]; exact hRp.out.symm⟩)
                      clear hi9 u1
                      go_region_held3 (fun w' => w'.cell? ⟨gs, p, none⟩ = some (.pointer (some ⟨x.sb, 0, none⟩)) ∧ w'.cell? ⟨X, 2, none⟩ = some (.string s) ∧ w'.cell? ⟨X, 3, none⟩ = some (.int .i64 v)) (go_keep)
                        (first
                          | (go_at_call 11; refine SET.mono ?_; rintro r wt ⟨rfl, f2, ks2, c2, o2, L2, x2, hx2, m2, r2, i2, bt, kt⟩; have HX2 := Lib.hid hx2; have T2 := Lib.hid m2; have RL := Lib.hid r2; have IMP := Lib.hid i2; have BT := Lib.hid (B11.out.trans ((Keeps.refl [] w11).drew.below B11.out.size (by simp) |>.trans bt)); have z1 := kt.cell (w := w11.drew) s5 (not_frT (by rw [OGG.out]; rfl)); have z2 := kt.cell (w := w11.drew) s2 (not_frT (by rw [OXX.out]; rfl)); have z3 := kt.cell (w := w11.drew) s3 (not_frT (by rw [OXX.out]; rfl)); clear m2 r2 i2 bt kt hx2))
                      clear s2 s3 s5 z1 z2 z3
                      go_wp2_with fail
                      go_meet
                      case rel => exact ⟨true, f2, ks2, c2, o2, L2, x2, upd10 P p P', upd10 ra p a', upd10 rc p c', rfl, HX2, T2, Lib.hid RL.out, IMP, BT, SM3⟩
                  · have q1 : (kd == (1 : Int)) = false := by simpa using hk1
                    by_cases hk3 : kd = 3
                    · have q3 : (kd == (3 : Int)) = true := by simpa using hk3
                      clear hk1 hk3
                      go_upto_region 33 with (fail)
                      obtain ⟨R1, t1⟩ := J.out.1.r p hp3
                      have y1 : w9.cell? ⟨gw, p, none⟩ = some (.slice (ra p) (P p).length (rc p)) := J.out.1.w.cell hp3
                      have LSC := ldel_uni w.heap.size (ra p) (rc p) (P p) s w9.drew R1 PLE.out J.out.1.lolt
                      unfold Uni10 at LSC
                      have ngw := Lib.hid (show gw ∉ blk (ra p) from fun h => by have h1 := t1 gw h; rw [J.out.1.wo gw (by simp [blk])] at h1; simp at h1)
                      have nX := Lib.hid (show X ∉ blk (ra p) from fun h => by have h1 := t1 X h; rw [OX.out] at h1; simp at h1)
                      obtain ⟨rap, hrap⟩ := ex_hid (ra p)
                      obtain ⟨rcp, hrcp⟩ := ex_hid (rc p)
                      obtain ⟨np, hnp⟩ := ex_hid (P p).length
                      obtain ⟨Rp, hRp⟩ := ex_hid (delLw (P p) s)
                      obtain ⟨Pp, hPp⟩ := ex_hid (P p)
                      rw [← hrap.out, ← hrcp.out, ← hnp.out] at y1
                      rw [← hRp.out, ← hrap.out, ← hrcp.out, ← hnp.out, ← hPp.out] at LSC
                      clear R1 t1 s0 s5
                      refine wp_regionG (fun w' => w'.cell? ⟨gw, p, none⟩ = some (.slice rap np rcp) ∧ w'.cell? ⟨X, 2, none⟩ = some (.string s)) 13 (by kernel_rfl) ⟨y1, s2⟩ (fun hF => ?_)
                      refine wpAnyG_takeY (i := 0) (v := ?_) rfl (by kernel_rfl) (by decide +kernel) (by decide +kernel) (by decide +kernel) (fun _ _ _ h => h) (by kernel_rfl) ?_ (by assumption) ?_
                      rotate_left
                      · (intro wz; go_simp; with_reducible rfl)
                      try simp only [Act.put, List.setIfInBounds_toArray, List.set_cons_zero, List.set_cons_succ]
                      refine wpAnyG_takeY (i := 1) (v := ?_) rfl (by kernel_rfl) (by decide +kernel) (by decide +kernel) (by decide +kernel) (fun _ _ _ h => h) (by kernel_rfl) ?_ (by assumption) ?_
                      rotate_left
                      · (intro wz; go_simp; with_reducible rfl)
                      try simp only [Act.put, List.setIfInBounds_toArray, List.set_cons_zero, List.set_cons_succ]
                      refine wpAnyG_takeY (i := 2) (v := ?_) rfl (by kernel_rfl) (by decide +kernel) (by decide +kernel) (by decide +kernel) (fun _ _ _ h => h) (by kernel_rfl) ?_ (by assumption) ?_
                      rotate_left
                      · (intro wz; go_simp; with_reducible rfl)
                      try simp only [Act.put, List.setIfInBounds_toArray, List.set_cons_zero, List.set_cons_succ]
                      refine wpAnyG_takeY (i := 3) (v := ?_) rfl (by kernel_rfl) (by decide +kernel) (by decide +kernel) (by decide +kernel) (fun _ _ _ h => h) (by kernel_rfl) ?_ (by assumption) ?_
                      rotate_left
                      · (intro wz; go_simp; with_reducible rfl)
                      try simp only [Act.put, List.setIfInBounds_toArray, List.set_cons_zero, List.set_cons_succ]
                      refine wpAnyG_takeY (i := 4) (v := ?_) rfl (by kernel_rfl) (by decide +kernel) (by decide +kernel) (by decide +kernel) (fun _ _ _ h => h) (by kernel_rfl) ?_ (by assumption) ?_
                      rotate_left
                      · (intro wz; go_simp; with_reducible rfl)
                      try simp only [Act.put, List.setIfInBounds_toArray, List.set_cons_zero, List.set_cons_succ]
                      refine wpAnyG_take (i := 5) (v := ?_) rfl (by kernel_rfl) (by decide +kernel) (by decide +kernel) (by decide +kernel) (by decide +kernel) (by rfl) (fun _ _ _ h => h) (by kernel_rfl) ?_ (by assumption) ?_
                      rotate_left
                      · (intro wz hSw; (try dsimp only at hSw); go_simp; with_reducible rfl)
                      try simp only [Act.put, List.setIfInBounds_toArray, List.set_cons_zero, List.set_cons_succ]
                      refine wpAnyG_takeY (i := 6) (v := ?_) rfl (by kernel_rfl) (by decide +kernel) (by decide +kernel) (by decide +kernel) (fun _ _ _ h => h) (by kernel_rfl) ?_ (by assumption) ?_
                      rotate_left
                      · (intro wz; go_simp; with_reducible rfl)
                      try simp only [Act.put, List.setIfInBounds_toArray, List.set_cons_zero, List.set_cons_succ]
                      refine wpAnyG_take (i := 7) (v := ?_) rfl (by kernel_rfl) (by decide +kernel) (by decide +kernel) (by decide +kernel) (by decide +kernel) (by rfl) (fun _ _ _ h => h) (by kernel_rfl) ?_ (by assumption) ?_
                      rotate_left
                      · (intro wz hSw; (try dsimp only at hSw); go_simp; with_reducible rfl)
                      try simp only [Act.put, List.setIfInBounds_toArray, List.set_cons_zero, List.set_cons_succ]
                      refine wpAnyG_one (i := 8) rfl (by kernel_rfl) (by kernel_rfl) (fun K hK => ?_)
                      have HK := Lib.hid hK
                      clear hK
                      go_simp
                      refine LSC.mono ?_
                      rintro r w10 ⟨okb, P', a', c', rfl, r10, k10, g10, uni⟩
                      have UNI := Lib.hid uni
                      rw [hrap.out] at k10
                      have hF2 : (fun w' : World => w'.cell? ⟨gw, p, none⟩ = some (.slice rap np rcp) ∧ w'.cell? ⟨X, 2, none⟩ = some (.string s)) w10 := ⟨k10.cell (w := w9.drew) y1 ngw.out, k10.cell (w := w9.drew) s2 nX.out⟩
                      refine HK.out _ _ hF2 ?_
                      clear HK K
                      try simp only [Act.put, List.setIfInBounds_toArray, List.set_cons_zero, List.set_cons_succ]
                      refine wpAnyG_takeY (i := 9) (v := ?_) rfl (by kernel_rfl) (by decide +kernel) (by decide +kernel) (by decide +kernel) (fun _ _ _ h => h) (by kernel_rfl) ?_ (by assumption) ?_
                      rotate_left
                      · (intro wz; go_simp; with_reducible rfl)
                      try simp only [Act.put, List.setIfInBounds_toArray, List.set_cons_zero, List.set_cons_succ]
                      refine wpAnyG_takeY (i := 10) (v := ?_) rfl (by kernel_rfl) (by decide +kernel) (by decide +kernel) (by decide +kernel) (fun _ _ _ h => h) (by kernel_rfl) ?_ (by assumption) ?_
                      rotate_left
                      · (intro wz; go_simp; with_reducible rfl)
                      try simp only [Act.put, List.setIfInBounds_toArray, List.set_cons_zero, List.set_cons_succ]
                      refine wpAnyG_takeY (i := 11) (v := ?_) rfl (by kernel_rfl) (by decide +kernel) (by decide +kernel) (by decide +kernel) (fun _ _ _ h => h) (by kernel_rfl) ?_ (by assumption) ?_
                      rotate_left
                      · (intro wz; go_simp; with_reducible rfl)
                      try simp only [Act.put, List.setIfInBounds_toArray, List.set_cons_zero, List.set_cons_succ]
                      refine wpAnyG_takeY (i := 12) (v := ?_) rfl (by kernel_rfl) (by decide +kernel) (by decide +kernel) (by decide +kernel) (fun _ _ _ h => h) (by kernel_rfl) ?_ (by assumption) ?_
                      rotate_left
                      · (intro wz; go_simp; with_reducible rfl)
                      try simp only [Act.put, List.setIfInBounds_toArray, List.set_cons_zero, List.set_cons_succ]
                      have vfz : w10.frozen? ⟨gw, p, none⟩ = false := (J.out.1.w.keeps (k10.undrew) (fun z hz hy => by simp [blk] at hz; subst hz; exact ngw.out hy)).free p
                      have WRO := Lib.hid (J.out.1.wrote hp3 r10 k10.undrew (fun z hz => by rw [← hrap.out]; exact g10 z hz))
                      have K10 := Lib.hid (show Keeps (blk (ra p)) w9 w10 from k10.undrew)
                      clear k10 r10 g10 y1 s2 LSC uni
                      refine wpAnyG_last rfl (by kernel_rfl) (by rfl) (by rfl) (fun K hK => ?_)
                      have HK := Lib.hid hK
                      clear hK
                      go_simp
                      refine HK.out _ _ ?_
                      clear HK K
                      try simp only [Act.put, List.setIfInBounds_toArray, List.set_cons_zero, List.set_cons_succ]
                      refine wpAnyG_lone (i := 14) rfl (by kernel_rfl) (by rfl) (by rfl) (fun K hK => ?_)
                      have HK := Lib.hid hK
                      clear hK
                      go_simp
                      refine HK.out _ _ ?_
                      clear HK K
                      try simp only [Act.put, List.setIfInBounds_toArray, List.set_cons_zero, List.set_cons_succ]
                      refine wpAnyG_done (by kernel_rfl) ?_ _
                      go_upto_region 34 with (fail)
                      refine wp_gen (fun V => (∃ o', MdS w.heap.size fb al i 3 (some ⟨gs, 0, none⟩) (some ⟨gw, 0, none⟩) (some ⟨gv, 0, none⟩) sc wc vc f ks c o' L (upd10 P p P') ve (upd10 ra p a') (upd10 rc p c') V ∧ o' X = .free) ∧ Keeps (gw :: blk (ra p)) w9 V) ⟨let ⟨o', h1, h2, h3⟩ := WRO.out; ⟨o', h1, (h2 X (lt_of_block BX.out)).trans OX.out⟩, let ⟨o', h1, h2, h3⟩ := WRO.out; h3⟩ ?_
                      rintro w11 ⟨⟨o1, M1, OX1⟩, k11⟩
                      have b11 := Keeps.has k11 BX.out (fun hz => (List.mem_cons.1 hz).elim (fun e => by have h1 := J.out.1.wo gw (by simp [blk]); rw [← e, OX.out] at h1; cases h1) nX.out)
                      have s2 : w11.cell? ⟨X, 2, none⟩ = some (.string s) := cell_has b11 (i := 2) rfl
                      have s5 : w11.cell? ⟨gs, p, none⟩ = some (.pointer (some ⟨x.sb, 0, none⟩)) := by
                        have h9 := M1.s.cell (k := p) hp3
                        unfold ptrV10 at h9; rw [HX.out] at h9; exact h9
                      have B11 := Lib.hid (J.out.2.2.trans (k11.below J.out.2.2.size (fun z hz => by
                        rcases List.mem_cons.1 hz with rfl | hz
                        · exact (J.out.1.w.blk_lt z (by simp [blk])).1
                        · exact (PairRow.blk_lt (J.out.1.r p hp3).1 z hz).1)))
                      have hi9 : i ≤ 900 := by omega
                      have M12 := Lib.hid (M1.quiet (Keeps.refl [] w11).drew)
                      have OXX := Lib.hid OX1
                      have OGG := Lib.hid (M1.so gs (by simp [blk]))
                      have SM3 := Lib.hid (show Sml10 (upd10 P p P') from SM.out.del (okb := okb) (s := s) (by rw [← hRp.out, ← hPp.out]; exact UNI.out))
                      clear M1 OX1 k11 b11 WRO K10 vfz
                      rcases UNI.out with ⟨rfl, u1, u2⟩ | ⟨rfl, u1⟩
                      · have SET := mdel10 (wb := wb) M12.out HX.out hi9 ZS.out (J.out.2.1.other P') (fun q y hy => (J.out.2.1 q y hy).2) hwb.out.symm (e := 7) (up := 0) (.inl ⟨rfl, rfl, by rw [← (J.out.2.1 p x HX.out).1, ← u1]; exact hRp.out.symm, by rw [upd10_same, u2, hPp.out]; exact (J.out.2.1 p x HX.out).1⟩)
                        clear hi9 u1 u2
                        go_region_held3 (fun w' => w'.cell? ⟨gs, p, none⟩ = some (.pointer (some ⟨x.sb, 0, none⟩)) ∧ w'.cell? ⟨X, 2, none⟩ = some (.string s)) (go_keep)
                          (first
                            | (go_at_call 24; refine SET.mono ?_; rintro r wt ⟨rfl, f2, ks2, c2, o2, L2, x2, hx2, m2, r2, i2, bt, kt⟩; have HX2 := Lib.hid hx2; have T2 := Lib.hid m2; have RL := Lib.hid r2; have IMP := Lib.hid i2; have BT := Lib.hid (B11.out.trans ((Keeps.refl [] w11).drew.below B11.out.size (by simp) |>.trans bt)); have z1 := kt.cell (w := w11.drew) s5 (not_frT (by rw [OGG.out]; rfl)); have z2 := kt.cell (w := w11.drew) s2 (not_frT (by rw [OXX.out]; rfl)); clear m2 r2 i2 bt kt hx2))
                        clear s2 s5 z1 z2
                        go_wp2_with fail
                        go_meet
                        case rel => exact ⟨false, f2, ks2, c2, o2, L2, x2, upd10 P p P', upd10 ra p a', upd10 rc p c', rfl, HX2, T2, Lib.hid RL.out, IMP, BT, SM3⟩
                      · have SET := mdel10 (wb := wb) M12.out HX.out hi9 ZS.out (J.out.2.1.other P') (fun q y hy => (J.out.2.1 q y hy).2) hwb.out.symm (e := 0) (up := 1) (.inr ⟨rfl, rfl, by rw [upd10_same, ← (J.out.2.1 p x HX.out).1, ← u1]; exact hRp.out.symm⟩)
                        clear hi9 u1
                        go_region_held3 (fun w' => w'.cell? ⟨gs, p, none⟩ = some (.pointer (some ⟨x.sb, 0, none⟩)) ∧ w'.cell? ⟨X, 2, none⟩ = some (.string s)) (go_keep)
                          (first
                            | (go_at_call 24; refine SET.mono ?_; rintro r wt ⟨rfl, f2, ks2, c2, o2, L2, x2, hx2, m2, r2, i2, bt, kt⟩; have HX2 := Lib.hid hx2; have T2 := Lib.hid m2; have RL := Lib.hid r2; have IMP := Lib.hid i2; have BT := Lib.hid (B11.out.trans ((Keeps.refl [] w11).drew.below B11.out.size (by simp) |>.trans bt)); have z1 := kt.cell (w := w11.drew) s5 (not_frT (by rw [OGG.out]; rfl)); have z2 := kt.cell (w := w11.drew) s2 (not_frT (by rw [OXX.out]; rfl)); clear m2 r2 i2 bt kt hx2))
                        clear s2 s5 z1 z2
                        go_wp2_with fail
                        go_meet
                        case rel => exact ⟨true, f2, ks2, c2, o2, L2, x2, upd10 P p P', upd10 ra p a', upd10 rc p c', rfl, HX2, T2, Lib.hid RL.out, IMP, BT, SM3⟩
                    · have q3 : (kd == (3 : Int)) = false := by simpa using hk3
                      clear hk1 hk3
                      go_wp2_with fail
                      go_meet
                      case rel => exact ⟨false, f, ks, c, o, L, x, P, ra, rc, rfl, HX, Lib.hid (J.out.1.mono (Nat.le_succ _)), Lib.hid (fun q y hy => ⟨(J.out.2.1 q y hy).1, fun e => by subst e; exact (J.out.2.1 q y hy).2.symm, fun _ => (J.out.2.1 q y hy).2⟩), Lib.hid (fun h9 => by rw [hwb.out]; exact (by have e9 := HX.out; exact h9)), Lib.hid J.out.2.2, SM⟩
                case rest =>
                  obtain ⟨okb, f2, ks2, c2, o2, L2, x2, P2, ra2, rc2, rfl, HX2, T2, RL, IMP, BT, SM2⟩ := hcut
                  obtain ⟨wt, hwt⟩ : ∃ y, y = wc := ⟨_, rfl⟩
                  subst hwt
                  clear J BX OX PLE HX SM ZS s0 s2 s3 s5 hwb
                  go_upto_if 153 with (fail)
                  go_cut [] from 154 to 159 (fun wx => ∃ ve3 : Nat → Nat, Hid (MdS w.heap.size fb al (i + 1) 3 (some ⟨gs, 0, none⟩) (some ⟨gw, 0, none⟩) (some ⟨gv, 0, none⟩) sc wc vc f2 ks2 c2 o2 L2 P2 ve3 ra2 rc2 wx) ∧ Hid (Rel10 f2 L2 P2 ve3) ∧ Hid (Below w.heap.size w wx))
                  case first =>
                    cases okb with
                    | true =>
                      have v0 : wt.cell? ⟨gv, p, none⟩ = some (.int .i64 (ve p : Nat)) := T2.out.v.cell hp3
                      have vf := T2.out.v.free p
                      have hvb := VB.out
                      obtain ⟨u, hu⟩ := ex_hid (ve p)
                      rw [← hu.out] at v0 hvb
                      have hw : wrap64 ((u : Int) + 1) = ((u + 1 : Nat) : Int) := up10 hvb
                      obtain ⟨C2, KC2⟩ := T2.out.count (i := p) hp3 (u + 1)
                      have C3 := Lib.hid C2
                      have KC3 := Lib.hid KC2
                      clear C2 KC2 hvb
                      go_wp2_with fail
                      go_meet
                      case rel => exact ⟨upd10 ve p (u + 1), C3, Lib.hid (fun q y hy => ⟨(RL.out q y hy).1, by
                        by_cases e : q = p
                        · rw [e, upd10_same, hu.out]; exact ((RL.out q y hy).2.1 e).symm
                        · rw [upd10_ne _ _ e]; exact (RL.out q y hy).2.2 e⟩), Lib.hid (BT.out.trans (KC3.out.below BT.out.size (fun z hz => by simp at hz; subst hz; exact (T2.out.v.blk_lt _ (by simp [blk])).1)))⟩
                    | false =>
                      go_wp2_with fail
                      go_meet
                      case rel => exact ⟨ve, T2, Lib.hid (fun q y hy => ⟨(RL.out q y hy).1, by
                        by_cases e : q = p
                        · rw [e]; exact ((RL.out q y hy).2.1 e).symm
                        · exact (RL.out q y hy).2.2 e⟩), BT⟩
                  case rest =>
                    obtain ⟨ve3, CV, REL, BV⟩ := hcut
                    obtain ⟨wv, hwv⟩ : ∃ y, y = wc := ⟨_, rfl⟩
                    subst hwv
                    clear T2 RL BT VB
                    go_upto_region 38 with (fail)
                    go_cut [168] from 160 to 168 (fun z168 wx => z168 = .bool false ∧ wv = wx)
                    case first =>
                      have hx2 := HX2.out
                      have s5 : wv.cell? ⟨gs, p, none⟩ = some (.pointer (some ⟨x2.sb, 0, none⟩)) := by
                        have h9 := CV.out.s.cell (k := p) hp3
                        unfold ptrV10 at h9; rw [hx2] at h9; exact h9
                      have SHC := jshared_any CV.out.j hx2
                      obtain ⟨bn, hbn⟩ := ex_hid x2.wy.isRow
                      rw [← hbn.out] at SHC
                      have IMB2 := Lib.hid (show bn = true → wb = true from fun h => IMP.out (hbn.out.symm.trans h))
                      clear hx2
                      go_wp2_with fail
                      refine SHC.mono ?_
                      rintro r w12 ⟨rfl, rfl⟩
                      clear SHC s5
                      cases bn with
                      | false =>
                        go_wp2_with fail
                        go_meet
                        case rel => exact ⟨rfl, rfl⟩
                      | true =>
                        have hwb := IMB2.out rfl
                        subst hwb
                        go_wp2_with fail
                        go_meet
                        case rel => exact ⟨rfl, rfl⟩
                    case rest =>
                      obtain ⟨rfl, rfl⟩ := hcut
                      go_wp2_with fail
                      go_loopw [18] (fun z18 wr => ∃ j : Nat, j ≤ 3 ∧ z18 = .int .i64 j ∧ Hid (Keeps [] wv wr)) (fun z18 _ => 3 - (intOf z18).toNat)
                      case atStart => exact ⟨0, by omega, rfl, Lib.hid (Keeps.refl _ _)⟩
                      case round =>
                        obtain ⟨j, hj, rfl, Q⟩ := hrel
                        by_cases hlt2 : j < 3
                        · have j1 : (j : Int) < 3 := by omega
                          have j0 : (0 : Int) ≤ (j : Int) := by omega
                          obtain ⟨xj, hxj⟩ : ∃ xj, L2[j]? = some xj := ⟨_, List.getElem?_eq_getElem (by rw [CV.out.ln]; exact hlt2)⟩
                          have C4 := Lib.hid (CV.out.quiet Q.out)
                          obtain ⟨rl1, rl2⟩ := REL.out j xj hxj
                          have y0 : wr.cell? ⟨gs, j, none⟩ = some (.pointer (some ⟨xj.sb, 0, none⟩)) := by
                            have h9 := C4.out.s.cell (k := j) hlt2
                            unfold ptrV10 at h9; rw [hxj] at h9; exact h9
                          have y1 : wr.cell? ⟨gw, j, none⟩ = some (.slice (ra2 j) (P2 j).length (rc2 j)) := C4.out.w.cell hlt2
                          have y2 : wr.cell? ⟨gv, j, none⟩ = some (.int .i64 (ve3 j : Nat)) := C4.out.v.cell hlt2
                          obtain ⟨R4, _⟩ := C4.out.r j hlt2
                          have PA := Lib.hid (fun (W : World) (k : Keeps [] wr W) => (show Calls Try.prog 17 #[.pointer (some ⟨xj.sb, 0, none⟩)] W (Pairs10 (P2 j) W) from by rw [rl1]; exact jpairs_any (C4.out.quiet k).j C4.out.p (by omega) hxj))
                          have LE := Lib.hid (fun (W : World) (k : Keeps [] wr W) => (show Calls Try.prog 16 #[.pointer (some ⟨xj.sb, 0, none⟩)] W (fun r w' => r = .returned (.int .i64 ((P2 j).length : Nat)) ∧ W = w') from by rw [rl1, pairsW_len]; exact jlen_any (C4.out.quiet k).j hxj))
                          have VE := Lib.hid (fun (W : World) (k : Keeps [] wr W) => (show Calls Try.prog 25 #[.pointer (some ⟨xj.sb, 0, none⟩)] W (fun r w' => r = .returned (.int .i64 (ve3 j : Nat)) ∧ W = w') from by rw [rl2]; exact jver_any (C4.out.quiet k).j C4.out.p (by omega) hxj))
                          obtain ⟨Pj, hPj⟩ := ex_hid (P2 j)
                          rw [← hPj.out] at R4 PA LE y1
                          have hPl : Pj.length ≤ 100000 := by rw [hPj.out, rl1]; exact pairsW_le C4.out.p (by omega) hxj
                          have R5 := Lib.hid R4
                          obtain ⟨vj, hvj⟩ := ex_hid (ve3 j)
                          rw [← hvj.out] at VE y2
                          obtain ⟨raj, hraj⟩ := ex_hid (ra2 j)
                          obtain ⟨rcj, hrcj⟩ := ex_hid (rc2 j)
                          rw [← hraj.out, ← hrcj.out] at R5 y1
                          have PCM := Lib.hid (fun (l1 : Nat) (a1 : Option Addr) (c1 : Nat) (W : World) (h1 : PairRow l1 a1 c1 Pj W) (h2 : PairRow w.heap.size raj rcj Pj W) => pairs10_same l1 w.heap.size c1 rcj a1 raj Pj W h1 h2 (Nat.le_trans hPl (by decide)))
                          obtain ⟨nj, hnj⟩ := ex_hid Pj.length
                          unfold Pairs10 at PA
                          rw [← hnj.out] at PA LE y1 PCM
                          have QD := Lib.hid ((Keeps.refl [] wr).drew)
                          clear R4 rl1 rl2 hPl hxj
                          go_upto_region 43 with (fail)
                          go_region_held3 (fun w' => w'.cell? ⟨gs, j, none⟩ = some (.pointer (some ⟨xj.sb, 0, none⟩)) ∧ w'.cell? ⟨gw, j, none⟩ = some (.slice raj nj rcj) ∧ w'.cell? ⟨gv, j, none⟩ = some (.int .i64 (vj : Nat))) (go_keep)
                            (first
                              | (go_at_call 17; refine (PA.out _ QD.out).mono ?_; rintro r u1 ⟨a1, c1, rfl, p1, q1⟩; have P1 := Lib.hid p1; have Q1 := Lib.hid (QD.out.trans q1); have z0 := Q1.out.cell y0 (by simp); have z1 := Q1.out.cell y1 (by simp); have z2 := Q1.out.cell y2 (by simp); clear p1 q1)
                              | (go_at_call 19; refine (PCM.out _ a1 c1 u1 P1.out (PairRow.keeps R5.out Q1.out (by simp))).mono ?_; rintro r u2 ⟨rfl, q2⟩; have Q2 := Lib.hid (Q1.out.trans q2); have z0b := Q2.out.cell y0 (by simp); have z1b := Q2.out.cell y1 (by simp); have z2b := Q2.out.cell y2 (by simp); clear q2)
                              | (go_at_call 16; refine (LE.out _ Q2.out).mono ?_; rintro r u3 ⟨rfl, rfl⟩)
                              | (go_at_call 25; refine (VE.out _ Q2.out).mono ?_; rintro r u4 ⟨rfl, rfl⟩))
                          have Q3 := Lib.hid (Q.out.trans Q2.out)
                          clear y0 y1 y2 z0 z1 z2 z0b z1b z2b
                          go_wp2_with fail
                          go_roundw
                          case rel => exact ⟨j + 1, by omega, by go_num, Q3⟩
                          case measure => simp [intOf]; omega
                        · obtain rfl : j = 3 := by omega
                          have hge2 : ¬ ((3 : Nat) : Int) < 3 := by omega
                          go_wp2_with fail
                          go_roundw
                          case rel => exact ⟨i + 1, _, _, _, _, _, _, _, _, _, by omega, by go_num, Lib.hid ⟨CV.out.quiet Q.out, REL.out, BV.out.trans (Q.out.below BV.out.size (by simp))⟩, SM2⟩
                          case measure => simp [intOf]; omega
            · obtain rfl : i = n0 := by omega
              have hge : ¬ (i : Int) < (i : Int) := by omega
              have I9 := Lib.hid I.out
              clear I
              go_wp2_with fail
              obtain ⟨wE, hwE⟩ : ∃ y, y = wr := ⟨_, rfl⟩
              subst hwE
              go_loopw [19] (fun z19 wr => ∃ j : Nat, j ≤ 3 ∧ z19 = .int .i64 j ∧ Hid (Keeps [] wE wr)) (fun z19 _ => 3 - (intOf z19).toNat)
              case atStart => exact ⟨0, by omega, rfl, Lib.hid (Keeps.refl _ _)⟩
              case round =>
                obtain ⟨j, hj, rfl, Q⟩ := hrel
                by_cases hlt2 : j < 3
                · have j1 : (j : Int) < 3 := by omega
                  have j0 : (0 : Int) ≤ (j : Int) := by omega
                  obtain ⟨xj, hxj⟩ : ∃ xj, L[j]? = some xj := ⟨_, List.getElem?_eq_getElem (by rw [I9.out.1.ln]; exact hlt2)⟩
                  have HXJ := Lib.hid hxj
                  have HPJ := Lib.hid (show (P j).length ≤ 100000 from by rw [(I9.out.2.1 j xj hxj).1]; exact pairsW_le I9.out.1.p (by omega) hxj)
                  clear hxj
                  obtain ⟨wI, hwI⟩ : ∃ y, y = wr := ⟨_, rfl⟩
                  subst hwI
                  go_wp2_with fail
                  go_loopw [20] (fun z20 wr => ∃ q : Nat, q ≤ (P j).length ∧ z20 = .int .i64 q ∧ Hid (Keeps [] wE wr)) (fun z20 _ => (P j).length - (intOf z20).toNat)
                  case atStart => exact ⟨0, Nat.zero_le _, rfl, Q⟩
                  case round =>
                    clear Q
                    obtain ⟨q, hq, rfl, Q⟩ := hrel
                    have C4 := Lib.hid (I9.out.1.quiet Q.out)
                    have y1 : wr.cell? ⟨gw, j, none⟩ = some (.slice (ra j) (P j).length (rc j)) := C4.out.w.cell hlt2
                    by_cases hlt3 : q < (P j).length
                    · have q1 : (q : Int) < ((P j).length : Int) := by omega
                      have q0 : (0 : Int) ≤ (q : Int) := by omega
                      have hwq : wrap64 ((q : Int) + 1) = ((q + 1 : Nat) : Int) := up10 (Nat.le_trans hq HPJ.out)
                      obtain ⟨R4, _⟩ := C4.out.r j hlt2
                      have hla : 0 < (P j).length := by omega
                      obtain ⟨rg, hrg⟩ := PairRow.shape R4 hla
                      rw [hrg] at y1 R4
                      obtain ⟨y, hy⟩ : ∃ y, (P j)[q]? = some y := ⟨_, List.getElem?_eq_getElem hlt3⟩
                      have y0 : wr.cell? ⟨gs, j, none⟩ = some (.pointer (some ⟨xj.sb, 0, none⟩)) := by
                        have h9 := C4.out.s.cell (k := j) hlt2
                        unfold ptrV10 at h9; rw [HXJ.out] at h9; exact h9
                      have y2 : wr.cell? ⟨rg, q * 2, none⟩ = some (.string y.1) := R4.cell hy 0 (by omega)
                      have y3 : wr.cell? ⟨rg, q * 2 + 1, none⟩ = some (.int .i64 y.2) := R4.cell hy 1 (by omega)
                      have hys : y.1.size ≤ 200 := SM.out j y (List.mem_of_getElem? hy)
                      obtain ⟨rl1, rl2⟩ := I9.out.2.1 j xj HXJ.out
                      have GE := Lib.hid (show Calls Try.prog 26 #[.pointer (some ⟨xj.sb, 0, none⟩), .string y.1] wr.drew (fun r W' => r = .returned (.tuple #[.int .i64 y.2, .bool true]) ∧ Keeps [] wr.drew W') from by
                        have h9 := getW_at C4.out.p.fk (C4.out.p.sp j _ (pure_at HXJ.out)).1 c (i := q) (p := y) (by rw [← rl1]; exact hy)
                        refine (jget_any (C4.out.quiet (Keeps.refl [] wr).drew).j C4.out.p (by omega) HXJ.out y.1 hys).mono ?_
                        rintro r W' ⟨g1, g2, g3, g4⟩
                        refine ⟨?_, g4⟩
                        rw [g1, if_pos h9.1]
                        simp only at h9
                        rw [h9.2, decide_eq_true h9.1])
                      obtain ⟨np, hnp⟩ := ex_hid (P j).length
                      rw [← hnp.out] at y1 q1 hq hlt3
                      obtain ⟨ys, hys2⟩ := ex_hid y.1
                      obtain ⟨yv, hyv⟩ := ex_hid y.2
                      rw [← hys2.out] at y2 GE
                      rw [← hyv.out] at y3 GE
                      obtain ⟨rcj, hrcj⟩ := ex_hid (rc j)
                      rw [← hrcj.out] at y1
                      clear R4 rl1 rl2 hys hla hrg
                      go_upto_region 51 with (fail)
                      go_region_held3 (fun w' => w'.cell? ⟨gs, j, none⟩ = some (.pointer (some ⟨xj.sb, 0, none⟩)) ∧ w'.cell? ⟨gw, j, none⟩ = some (.slice (some ⟨rg, 0, none⟩) np rcj) ∧ w'.cell? ⟨rg, q * 2, none⟩ = some (.string ys)) (go_keep)
                        (first
                          | (go_at_call 26; refine GE.out.mono ?_; rintro r u1 ⟨rfl, kg⟩; have Q2 := Lib.hid ((Keeps.refl [] wr).drew.trans kg); have z0 := Q2.out.cell y0 (by simp); have z1 := Q2.out.cell y1 (by simp); have z2 := Q2.out.cell y2 (by simp); have z3 := Q2.out.cell y3 (by simp); clear kg))
                      have Q3 := Lib.hid (Q.out.trans Q2.out)
                      clear y0 y2 y3 y1 z0 z2 hy
                      go_wp2_with fail
                      go_roundw
                      case rel => exact ⟨q + 1, by rw [← hnp.out]; omega, by go_num, Q3⟩
                      case measure => rw [← hnp.out]; exact meas10 hlt3 hwq
                    · obtain rfl : q = (P j).length := by omega
                      have hge3 : ¬ ((P j).length : Int) < ((P j).length : Int) := by omega
                      go_wp2_with fail
                      go_roundw
                      case rel => exact ⟨j + 1, by omega, by go_num, Q⟩
                      case measure => simp [intOf]; omega
                · obtain rfl : j = 3 := by omega
                  have hge2 : ¬ ((3 : Nat) : Int) < 3 := by omega
                  have BE := Lib.hid (I9.out.2.2.trans (Q.out.below I9.out.2.2.size (by simp)))
                  clear I9 Q
                  go_wp2_with fail
                  refine (awake10 wr).mono ?_
                  rintro r w1 ⟨rfl, k1⟩
                  have K1 := Lib.hid k1
                  clear k1
                  go_wp2_with fail
                  go_ret
                  exact ⟨rfl, BE.out.trans (K1.out.below BE.out.size (by simp))⟩
  · have BAD : decide (most < 0) = true ∨ (decide (most < 0) = false ∧ decide ((256 : Int) < most) = true) ∨ (decide (most < 0) = false ∧ decide ((256 : Int) < most) = false ∧ decide (al < 0) = true) ∨ (decide (most < 0) = false ∧ decide ((256 : Int) < most) = false ∧ decide (al < 0) = false ∧ decide ((1000 : Int) < al) = true) := by
      simp only [decide_eq_true_eq, decide_eq_false_iff_not]; omega
    clear hb
    go_enter Try.func5, Try.ntmps5
    go_wp2_with fail
    refine MU.mono ?_
    rintro r w1 ⟨rfl, (rfl | ⟨rfl, hlen, hsz⟩)⟩
    · clear MU BAD
      go_wp2_with fail
      refine (awake10 w).mono ?_
      rintro r w1 ⟨rfl, k1⟩
      have K1 := Lib.hid k1
      clear k1
      go_wp2_with fail
      go_ret
      exact ⟨rfl, K1.out.below (Nat.le_refl _) (by simp)⟩
    · clear MU hlen hsz
      rcases BAD with b1 | ⟨b1, b2⟩ | ⟨b1, b2, b3⟩ | ⟨b1, b2, b3, b4⟩
      all_goals
        go_wp2_with fail
        refine (awake10 w).mono ?_
        rintro r w1 ⟨rfl, k1⟩
        have K1 := Lib.hid k1
        clear k1
        go_wp2_with fail
        go_ret
        exact ⟨rfl, K1.out.below (Nat.le_refl _) (by simp)⟩
end Go.Proofs.Ytajmfenfajbakaa
