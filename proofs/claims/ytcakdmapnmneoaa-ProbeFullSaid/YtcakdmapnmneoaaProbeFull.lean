/- ProbeFull, walked (chapter 8's laws). -/
import Derived.Test.YtcakdmapnmneoaaDictR
namespace Go.Proofs.Ytcakdmapnmneoaa
open Go.RowKit
set_option linter.unusedVariables false
set_option linter.unusedSimpArgs false

theorem dver_any (db t lo : Nat) (S : List Nat) (mv : Value) (d : Dic) (w : World) (H : DicAt db t lo S mv d w) (hv : d.ver ≤ 1000000) :
    Calls Try.prog 17 #[.pointer (some ⟨db, 0, none⟩)] w fun r w' => r = .returned (.int .i64 d.ver) ∧ w = w' := by
  have c2 : w.cell? ⟨db, 2, none⟩ = some (.int .u64 d.ver) := cell_has H.b (i := 2) rfl
  obtain ⟨v, hvv⟩ := ex_hid d.ver
  rw [← hvv.out] at c2 hv ⊢
  have hq : wrap64 (v : Int) = (v : Int) := IntWalk.wrap64_in _ (by omega)
  have hq2 : IntKind.i64.wrap (v : Int) = (v : Int) := by rw [IntWalk.i64_left]; exact hq
  clear H
  go_enter Try.func17, Try.ntmps17
  go_wp2_with fail
  go_ret
  exact ⟨rfl, rfl⟩
def cnt8 (mm k u : Nat) : Nat := min (if u = 0 then k else k + 1) mm
theorem full_case {F : Nat → Int} {mm k u : Nat} {d : Dic} (hu : u < 2) (r : Run8 F false (cnt8 mm k u) d) (hm : d.most = mm) (g : Nat) (hg : g = 2 ∨ g = 4) (v : Int) :
    ∃ tg kd fd vl en, Tgt d (newM g (F k) k v) tg ∧ finT d (newM g (F k) k v) tg = ⟨kd, 0, fd, vl, en⟩ ∧ Run8 F false (cnt8 mm k (u + 1)) (finD d (newM g (F k) k v) tg) ∧ (finD d (newM g (F k) k v) tg).most = mm ∧ ((k < mm ∧ kd = 2 ∧ fd = decide (u = 1)) ∨ (mm ≤ k ∧ kd = 3 ∧ fd = false ∧ finD d (newM g (F k) k v) tg = d)) := by
  by_cases hk : k < mm
  · rcases (show u = 0 ∨ u = 1 by omega) with rfl | rfl
    · have e1 : cnt8 mm k 0 = k := by unfold cnt8; simp; omega
      have e2 : cnt8 mm k (0 + 1) = k + 1 := by unfold cnt8; simp; omega
      rw [e1] at r
      rw [e2]
      obtain ⟨r1, r2, r3⟩ := r.add hm (by omega) g hg v (fun h => by cases h)
      exact ⟨none, 2, false, _, _, r.absent g (F k) k _ (.inr (by omega)), r3, r1, r2, .inl ⟨hk, rfl, rfl⟩⟩
    · have e1 : cnt8 mm k 1 = k + 1 := by unfold cnt8; simp; omega
      have e2 : cnt8 mm k (1 + 1) = k + 1 := by unfold cnt8; simp; omega
      rw [e1] at r
      rw [e2]
      obtain ⟨r1, r2⟩ := r.hit hm g hg k (by omega) (F k) k v
      exact ⟨some k, 2, true, _, _, r.there g k (by omega) _, rfl, r1, r2, .inl ⟨hk, rfl, rfl⟩⟩
  · have e1 : cnt8 mm k u = mm := by unfold cnt8; split <;> omega
    have e2 : cnt8 mm k (u + 1) = mm := by unfold cnt8; simp; omega
    rw [e1] at r
    rw [e2]
    obtain ⟨r1, r2⟩ := r.full hm (by omega) g hg (F k) k v
    have r3 : finD d (newM g (F k) k v) none = d := r2
    exact ⟨none, 3, false, 0, 0, r.absent g (F k) k v (.inr (by omega)), r1, by rw [r3]; exact r, by rw [r3]; exact hm, .inr ⟨by omega, rfl, rfl, r3⟩⟩
/-- A row of pairs that outlives a search. -/
structure Was8 (lo0 : Nat) (a : Option Addr) (c : Nat) (E : List Ent) (mb sb db tb : Nat) (S : List Nat) (W : World) : Prop where
  r : EntRow lo0 a c E W
  n : ∀ x, x ∈ blk a → x ∉ S ∧ x ≠ mb ∧ x ≠ db ∧ x ≠ sb ∧ x ≠ tb ∧ x < W.heap.size
theorem Was8.told {lo0 : Nat} {a : Option Addr} {c : Nat} {E : List Ent} {mb sb db tb : Nat} {S : List Nat} {W W5 : World} (h : Was8 lo0 a c E mb sb db tb S W) (k : Keeps [mb] W W5) : Was8 lo0 a c E mb sb db tb S W5 :=
  ⟨h.r.keeps k (fun x hx => by simp; exact (h.n x hx).2.1), fun x hx => by obtain ⟨h1, h2, h3, h4, h5, h6⟩ := h.n x hx; exact ⟨h1, h2, h3, h4, h5, by have := k.size; omega⟩⟩
theorem Was8.step {lo0 : Nat} {a : Option Addr} {c : Nat} {E : List Ent} {mb sb db tb : Nat} {S S7 : List Nat} {q : Mac} {W W7 : World} (h : Was8 lo0 a c E mb sb db tb S W) (k : Keeps (feet mb sb db S q) W W7) (g : Grew S W S7) {sb7 : Nat} (l : sb7 = sb ∨ W.heap.size ≤ sb7) : Was8 lo0 a c E mb sb7 db tb S7 W7 :=
  ⟨h.r.keeps k (fun x hx hq => by
    obtain ⟨h1, h2, h3, h4, h5, h6⟩ := h.n x hx
    unfold Go.Proofs.Ytcakdmapnmneoaa.feet skS at hq
    simp only [List.mem_cons, List.mem_append] at hq
    rcases hq with hq | hq | hq | hq
    · exact h2 hq
    · exact h3 hq
    · split at hq
      · simp at hq
      · simp at hq; exact h4 hq
    · exact h1 hq), fun x hx => by
    obtain ⟨h1, h2, h3, h4, h5, h6⟩ := h.n x hx
    exact ⟨fun hs => by rcases g _ hs with h9 | h9; exact h1 h9; omega, h2, h3, by rcases l with h9 | h9; rw [h9]; exact h4; omega, h5, by have := k.size; omega⟩⟩
theorem Was8.laid {lo0 : Nat} {a : Option Addr} {c : Nat} {E : List Ent} {mb sb db tb : Nat} {S : List Nat} {W W8 : World} (h : Was8 lo0 a c E mb sb db tb S W) (k : Keeps [tb] W W8) : Was8 lo0 a c E mb sb db tb S W8 :=
  ⟨h.r.keeps k (fun x hx => by simp; exact (h.n x hx).2.2.2.2.1), fun x hx => by obtain ⟨h1, h2, h3, h4, h5, h6⟩ := h.n x hx; exact ⟨h1, h2, h3, h4, h5, by have := k.size; omega⟩⟩
theorem Was8.new {lo0 : Nat} {a : Option Addr} {c : Nat} {E : List Ent} {mb sb db t0 tb : Nat} {S : List Nat} {W W8 : World} (h : Was8 lo0 a c E mb sb db t0 S W) (k : Keeps [] W W8) (hb : W.heap.size ≤ tb) : Was8 lo0 a c E mb sb db tb S W8 :=
  ⟨h.r.keeps k (by simp), fun x hx => by obtain ⟨h1, h2, h3, h4, h5, h6⟩ := h.n x hx; exact ⟨h1, h2, h3, h4, by omega, by have := k.size; omega⟩⟩
/-- What holds of the dictionary round about. -/
def FuI (db t lo mm : Nat) (F : Nat → Int) (k u : Nat) (d : Dic) (S : List Nat) (W : World) : Prop := DicAt db t lo S (mV none) d W ∧ DicOk (2 * k + u) d ∧ Run8 F false (cnt8 mm k u) d ∧ d.most = mm
/-- In the midst of a put. -/
def FuJ (mb db t tb lo lo0 : Nat) (a : Option Addr) (c : Nat) (q0 : Mac) (tg : Option Nat) (K j : Nat) (d : Dic) (W : World) : Prop := ∃ (d1 : Dic) (q : Mac) (S : List Nat) (sb : Nat), Srch mb sb db t tb lo S d d1 q0 q W ∧ Pc8 d d1 q0 q tg j ∧ DicOk (K + 1) d1 ∧ Was8 lo0 a c (liveL d.T.E) mb sb db tb S W
theorem probeFull_early (a1 : Option Addr) (n1 c1 : Nat) (x : Int) (w : World) (h : x < 0 ∨ (0 ≤ x ∧ 100 < x) ∨ (0 ≤ x ∧ x ≤ 100 ∧ 150 < n1)) :
    Calls Try.prog 4 #[.int .i64 x, .slice a1 n1 c1] w fun e w' => e = .returned (.bool true) ∧ Below w.heap.size w w' := by
  rcases h with h | ⟨h0, h⟩ | ⟨h0, h2, h⟩
  · go_enter Try.func4, Try.ntmps4
    go_wp2_with (go_at_call 11; refine (awake8 _).mono ?_; rintro e w' ⟨rfl, hb⟩)
    go_ret
    exact ⟨rfl, hb⟩
  · have h1 : ¬ x < 0 := by omega
    go_enter Try.func4, Try.ntmps4
    go_wp2_with (go_at_call 11; refine (awake8 _).mono ?_; rintro e w' ⟨rfl, hb⟩)
    go_ret
    exact ⟨rfl, hb⟩
  · have h1 : ¬ x < 0 := by omega
    have h3 : ¬ 100 < x := by omega
    have d1 : decide ((150 : Int) < (n1 : Int)) = true := by simp; omega
    go_enter Try.func4, Try.ntmps4
    go_wp2_with (go_at_call 11; refine (awake8 _).mono ?_; rintro e w' ⟨rfl, hb⟩)
    go_ret
    exact ⟨rfl, hb⟩
set_option maxRecDepth 100000 in
set_option maxHeartbeats 8000000 in
theorem probeFull_main (a1 : Option Addr) (n1 c1 : Nat) (F1 : Nat → Int) (mm : Nat) (w : World) (h0 : mm ≤ 100) (h1 : n1 ≤ 150) (s1 : IntRow .i64 1 w a1 n1 F1) :
    Calls Try.prog 4 #[.int .i64 (mm : Int), .slice a1 n1 c1] w fun e w' => e = .returned (.bool true) ∧ Below w.heap.size w w' := by
  have d1 : decide ((150 : Int) < (n1 : Int)) = false := by simp; omega
  have d2 : ¬ (mm : Int) < 0 := by omega
  have d3 : ¬ (100 : Int) < (mm : Int) := by omega
  have Z1 := Lib.hid s1
  clear s1
  go_enter Try.func4, Try.ntmps4
  go_wp2_with fail
  refine (new8_any mm none ⟨0, 0, 0, 0⟩ w (fun b hb => by simp at hb) (by omega) (by omega)).mono ?_
  rintro r w1 ⟨db, t, S, rfl, d1', _, k1, l1⟩
  have D1 := Lib.hid d1'
  have K1 := Lib.hid (show Keeps [] w w1 from k1)
  clear d1' k1
  go_wp2_with fail
  go_loopw [7] (fun i wr => ∃ (k : Nat) (d : Dic) (S : List Nat), k ≤ n1 ∧ i = .int .i64 k ∧ FuI db t w.heap.size mm F1 k 0 d S wr ∧ Keeps [] w wr) (fun i _ => n1 - (intOf i).toNat)
  case atStart => exact ⟨0, newD mm, S, by omega, rfl, ⟨D1.out, newD_ok mm, by unfold cnt8; simp; exact Run8.new F1 false mm, rfl⟩, K1.out⟩
  case round =>
    obtain ⟨k, d0, S0, hk, rfl, hF0, hK⟩ := hrel
    clear D1 K1
    have hk0 : (0 : Int) ≤ (k : Int) := by omega
    have HF0 := Lib.hid hF0
    have HK := Lib.hid hK
    clear hF0 hK
    by_cases hlt : k < n1
    · have hlt' : (k : Int) < (n1 : Int) := by omega
      go_wp2_with fail
      obtain ⟨W0, hW0⟩ : ∃ x, x = wr := ⟨_, rfl⟩
      subst hW0
      go_loopw [8] (fun i wx => ∃ (u : Nat) (d : Dic) (S : List Nat), u ≤ 2 ∧ i = .int .i64 u ∧ FuI db t w.heap.size mm F1 k u d S wx ∧ Keeps [] w wx) (fun i _ => 2 - (intOf i).toNat)
      case atStart => exact ⟨0, d0, S0, by omega, rfl, HF0.out, HK.out⟩
      case round =>
        obtain ⟨u, d, S, hu, rfl, ⟨hD, hI, hR, hm⟩, hK⟩ := hrel
        have hu0 : (0 : Int) ≤ (u : Int) := by omega
        have HD := Lib.hid hD
        have HI := Lib.hid hI
        have HK := Lib.hid hK
        have HR := Lib.hid hR
        have HM := Lib.hid hm
        clear hD hI hK hR hm HF0
        by_cases hu2 : u < 2
        · have hu2' : (u : Int) < 2 := by omega
          have hlen : d.T.E.length ≤ 1000 := by have := HR.out.l; unfold cnt8 at this; omega
          obtain ⟨W, hW⟩ : ∃ x, x = wr := ⟨_, rfl⟩
          subst hW
          go_wp2_with fail
          refine (pairs_any db t w.heap.size S (mV none) d W HD.out hlen).mono ?_
          rintro r w2 ⟨ea, ec, rfl, e2, k2⟩
          have E2 := Lib.hid e2
          have D2 := Lib.hid (HD.out.keeps k2 (by simp) (by simp))
          have K2 := Lib.hid (HK.out.trans k2)
          have Z2 := Lib.hid k2.size
          clear e2 k2
          go_wp2_with fail
          refine (dver_any db t w.heap.size S (mV none) d w2 D2.out (by have := HI.out.v; omega)).mono ?_
          rintro r w3 ⟨rfl, rfl⟩
          obtain ⟨vr, hvr⟩ := ex_hid d.ver
          obtain ⟨ll, hll⟩ := ex_hid (liveN d.T.E)
          rw [← hvr.out, ← hll.out]
          rcases (show u = 0 ∨ u = 1 by omega) with rfl | rfl
          · go_upto_region 17 with (fail)
            rcases Z1.out with h0 | ⟨b, off, rfl, hb1, hb2, hcl⟩
            · omega
            have q0 : w2.cell? ⟨b, off + k, none⟩ = some (.int .i64 (F1 k)) := K2.out.cell (hcl k (by omega)).1 (by simp)
            obtain ⟨tg, kd, fd, vl, en, f1, f2, f3, f4, f5⟩ := full_case (u := 0) (by omega) HR.out HM.out 2 (.inl rfl) 0
            have TG := Lib.hid f1
            have FT := Lib.hid f2
            have FR := Lib.hid f3
            have FM := Lib.hid f4
            have FC := Lib.hid f5
            clear hcl f1 f2 f3 f4 f5
            go_wp2_with fail
            refine (begin_one db t w.heap.size S d 2 (F1 k) k 0 w2 (by omega) (by omega) D2.out).mono ?_
            rintro r w3 ⟨mb, rfl, d3, m3, l3, k3⟩
            have D3 := Lib.hid d3
            have M3 := Lib.hid (m3 mb)
            have K3 := Lib.hid (K2.out.trans k3)
            have WS3 : Hid (Was8 W.heap.size ea ec (liveL d.T.E) mb mb db mb S w3) := Lib.hid ⟨E2.out.keeps k3 (by simp), fun x hx => by
              have h1 := E2.out.blk_lt x hx
              have h2 := lt_of_block HD.out.b
              have h3 := k3.size
              exact ⟨fun hs => by have := (HD.out.t.foot x hs).2; omega, by omega, by omega, by omega, by omega, by omega⟩⟩
            clear d3 m3 k3 q0
            go_wp2_with fail
            refine (step_one (2 * k + 0) (by omega) mb mb db t w.heap.size S d (newM 2 (F1 k) k 0) w3 D3.out M3.out HI.out (Nat.zero_le _)).mono ?_
            rintro r w4 ⟨S4, sb4, rfl, d4, m4, k4, g4, l4⟩
            have D4 := Lib.hid d4
            have M4 := Lib.hid m4
            have K4 := Lib.hid (K3.out.then k4 (fun x hx => .inl (feet_lo M3.out D3.out x hx).1))
            have P4 := Lib.hid (Pc8.first HI.out 2 (F1 k) k 0 TG.out)
            have I4 := Lib.hid (HI.out.step (by omega) (newM 2 (F1 k) k 0))
            have WS4 := Lib.hid (WS3.out.step k4 g4 (l4.imp (fun h => h.1) id))
            clear d4 m4 k4 g4 l4
            obtain ⟨T4, hT4⟩ := ex_hid (stepM d (newM 2 (F1 k) k 0)).turn
            rw [← hT4.out]
            unfold Trn.agg
            go_upto_region 21 with (fail)
            refine wp_gen (fun V => V.heap[w4.heap.size]? = some (trnO T4) ∧ Keeps [] w4 V) ⟨has_new _ _, (Keeps.refl [] w4).alloc _⟩ ?_
            rintro w5 ⟨b5, k5⟩
            have K5 := Lib.hid (K4.out.trans k5)
            have SR := Lib.hid (Srch.begun (d := d) (q0 := newM 2 (F1 k) k 0) D4.out M4.out (by rw [← hT4.out]; exact b5) k5)
            have WS5 := Lib.hid (WS4.out.new k5 (Nat.le_refl _))
            clear b5 k5
            go_wp2_with fail
            obtain ⟨W5, hW5⟩ : ∃ x, x = w5 := ⟨_, rfl⟩
            subst hW5
            go_loopw [14] (fun i wx => ∃ j : Nat, j ≤ n1 ∧ i = .int .i64 j ∧ FuJ mb db t w4.heap.size w.heap.size W.heap.size ea ec (newM 2 (F1 k) k 0) tg (2 * k + 0) j d wx ∧ Keeps [] w wx) (fun i _ => n1 - (intOf i).toNat)
            case atStart => exact ⟨0, by omega, rfl, ⟨_, _, S4, sb4, SR.out, P4.out, I4.out, WS5.out⟩, K5.out⟩
            case round =>
              obtain ⟨j, hj, rfl, ⟨d1, q, S5, sb5, hS, hP, hI5, hWS⟩, hK5⟩ := hrel
              have hj0 : (0 : Int) ≤ (j : Int) := by omega
              have hjl : (j : Int) ≤ (n1 : Int) := by omega
              have HK5 := Lib.hid hK5
              have ST := Lib.hid hP.st
              obtain ⟨tb, htb⟩ := ex_hid w4.heap.size
              rw [← htb.out] at hS hWS ⊢
              have HS := Lib.hid hS
              have HWS := Lib.hid hWS
              clear hS hWS SR P4 I4 K4 K3 K2 D2 D3 D4 M3 M4 hK5 WS3 WS4 WS5 K5
              rcases hP with ⟨f, hw, rfl⟩ | he
              · obtain ⟨y, hy1, hy2, hy3, hy4⟩ := hw.live
                have HW := Lib.hid hw
                have hjf : j + 1 ≤ n1 := by have := hw.n; have := hw.lt; have := HR.out.l; unfold cnt8 at this; simp at this; omega
                have tu := HS.out.tu
                rw [hy4] at tu
                have TU := Lib.hid tu
                have TW := Lib.hid hy4
                obtain ⟨t0, t1, t2, t3, t4⟩ := trn_cells tu
                clear hw hy1 hy2 hy3 hy4 tu
                go_wp2_with fail
                refine (tell_one mb sb5 db t w.heap.size S5 d1 q wr HS.out.mac false).mono ?_
                rintro r w6 ⟨rfl, m6, k6⟩
                obtain ⟨d6, b6⟩ := HS.out.told false m6 k6
                have D6 := Lib.hid d6
                have M6 := Lib.hid m6
                have B6 := Lib.hid b6
                have Z6 := Lib.hid k6.size
                have WS6 := Lib.hid (HWS.out.told k6)
                have K6 := Lib.hid (HK5.out.then k6 (fun x hx => by simp at hx; subst hx; left; exact HS.out.mac.l))
                clear m6 k6 d6 b6 t0 t1 t2 t3 t4
                go_wp2_with fail
                refine (step_one (2 * k + 0) (by omega) mb sb5 db t w.heap.size S5 d1 (tellM q false) w6 D6.out M6.out HI.out (by rw [tell_sc, HW.out.sc]; omega)).mono ?_
                rintro r w7 ⟨S7, sb7, rfl, d7, m7, k7, g7, l7⟩
                have D7 := Lib.hid d7
                have M7 := Lib.hid m7
                have K7 := Lib.hid (K6.out.then k7 (fun x hx => .inl (feet_lo M6.out D6.out x hx).1))
                have B7 := Lib.hid (k7.has B6.out (HS.out.feet false))
                have G7 := Lib.hid g7
                have L7 := Lib.hid (show sb7 = sb5 ∨ w6.heap.size ≤ sb7 from l7.imp (fun h => h.1) id)
                have WS7 := Lib.hid (WS6.out.step k7 g7 L7.out)
                have P7 := Lib.hid (Pc8.no HI.out TG.out HW.out (HS.out.mac.o.sk ST.out))
                have I7 := Lib.hid (HI.out.step (by omega) (tellM q false))
                clear d7 m7 k7 g7 l7
                obtain ⟨T7, hT7⟩ := ex_hid (stepM d1 (tellM q false)).turn
                rw [← hT7.out]
                unfold Trn.agg
                have b7 := B7.out
                rw [TW.out] at b7
                obtain ⟨t0, t1, t2, t3, t4⟩ := trn_cells b7
                obtain ⟨u0, u1, u2, u3, u4⟩ := trn_free b7
                have B7' := Lib.hid b7
                clear b7
                go_upto_region 23 with (fail)
                refine wp_gen (fun V => V.heap[tb]? = some (trnO T7) ∧ Keeps [tb] w7 V) ⟨(trn_store _ T7 B7'.out).1, (trn_store _ T7 B7'.out).2⟩ ?_
                rintro w8 ⟨b8, k8⟩
                have SR8 := Lib.hid (HS.out.on ST.out Z6.out D7.out M7.out G7.out L7.out (by rw [← hT7.out]; exact b8) k8)
                have K8 := Lib.hid (K7.out.then k8 (fun x hx => by simp at hx; subst hx; left; exact HS.out.lo))
                have WS8 := Lib.hid (WS7.out.laid k8)
                clear b8 k8 t0 t1 t2 t3 t4 u0 u1 u2 u3 u4
                go_wp2_with fail
                go_roundw
                case rel => exact ⟨j + 1, hjf, by go_num, ⟨_, _, S7, sb7, SR8.out, P7.out, I7.out, WS8.out⟩, K8.out⟩
                case measure => simp [intOf]; omega
              · have htn : q.turn = ⟨kd, 0, fd, vl, en⟩ := he.turn.trans FT.out
                have hd1 : d1 = finD d (newM 2 (F1 k) k 0) tg := he.d1
                have tu := HS.out.tu
                rw [htn] at tu
                have FR' := FR.out
                have FM' := FM.out
                have FC' := FC.out
                rw [← hd1] at FR' FM' FC'
                have R1 := Lib.hid FR'
                have R2 := Lib.hid FM'
                have I5 := Lib.hid hI5
                clear he htn hd1 FR' FM' hI5 FC FT
                rcases FC' with ⟨c1, c2, c3⟩ | ⟨c1, c2, c3, c4⟩
                · subst c2
                  obtain rfl : fd = false := by rw [c3]; rfl
                  clear c3
                  have cm : ¬ (mm : Int) ≤ (k : Int) := by omega
                  obtain ⟨t0, t1, t2, t3, t4⟩ := trn_cells tu
                  clear tu
                  go_wp2_with fail
                  go_roundw
                  case rel => exact ⟨0 + 1, d1, S5, by omega, by go_num, ⟨HS.out.dic, I5.out, R1.out, R2.out⟩, HK5.out⟩
                  case measure => simp [intOf]
                · subst c2 c3
                  have cm : (mm : Int) ≤ (k : Int) := by omega
                  obtain ⟨t0, t1, t2, t3, t4⟩ := trn_cells tu
                  have C4 := Lib.hid c4
                  clear tu c4
                  go_wp2_with fail
                  refine (pairs_any db t w.heap.size S5 (mV none) d1 wr HS.out.dic (by have := R1.out.l; unfold cnt8 at this; simp at this; omega)).mono ?_
                  rintro r w9 ⟨ef, eg, rfl, e9, k9⟩
                  have K9 := Lib.hid (HK5.out.trans k9)
                  have E9 := Lib.hid e9
                  have E8 := Lib.hid (HWS.out.r.keeps k9 (by simp))
                  have D9 := Lib.hid (HS.out.dic.keeps k9 (by simp) (by simp))
                  clear e9 k9
                  go_wp2_with fail
                  rw [hll.out, C4.out, show liveN d.T.E = (liveL d.T.E).length from (liveL_len _).symm]
                  refine (entries_same _ _ eg ec ef ea (liveL d.T.E) w9 (by rw [← C4.out]; rw [C4.out]; have h := E9.out; rw [C4.out] at h; exact h) E8.out (by rw [liveL_len]; have := liveN_le d.T.E; omega)).mono ?_
                  rintro r w10 ⟨rfl, k10⟩
                  have K10 := Lib.hid (K9.out.trans k10)
                  have D10 := Lib.hid (D9.out.keeps k10 (by simp) (by simp))
                  clear k10
                  go_wp2_with fail
                  refine (dver_any db t w.heap.size S5 (mV none) d1 w10 D10.out (by have := I5.out.v; omega)).mono ?_
                  rintro r w11 ⟨rfl, rfl⟩
                  rw [C4.out, ← hvr.out]
                  go_wp2_with fail
                  go_roundw
                  case rel => exact ⟨0 + 1, d1, S5, by omega, by go_num, ⟨D10.out, I5.out, R1.out, R2.out⟩, K10.out⟩
                  case measure => simp [intOf]
          · obtain ⟨p, hp⟩ := ex_hid (k % 2)
            have hp2 : p < 2 := by rw [hp.out]; omega
            have hpm : (k : Int).tmod 2 = (p : Int) := by rw [Int.tmod_eq_emod_of_nonneg (by omega)]; rw [hp.out]; omega
            have hpw : wrap64 ((k : Int).tmod 2) = (p : Int) := by rw [hpm, IntWalk.wrap64_in _ (by omega)]
            go_upto_if 59 with (fail)
            go_cut [11] from 45 to 120 (fun y wx => w2 = wx ∧ ∃ g : Nat, (g = 2 ∨ g = 4) ∧ y = .int .i64 g)
            case first =>
              rcases (show p = 0 ∨ p = 1 by omega) with rfl | rfl
              · go_wp2_with fail
                go_meet
                exact ⟨rfl, 2, .inl rfl, rfl⟩
              · go_wp2_with fail
                go_meet
                exact ⟨rfl, 4, .inr rfl, rfl⟩
            case rest =>
              obtain ⟨rfl, g, hg, rfl⟩ := hcut
              clear hpm hpw
              rcases Z1.out with h0 | ⟨b, off, rfl, hb1, hb2, hcl⟩
              · omega
              have q0 : w2.cell? ⟨b, off + k, none⟩ = some (.int .i64 (F1 k)) := K2.out.cell (hcl k (by omega)).1 (by simp)
              obtain ⟨tg, kd, fd, vl, en, f1, f2, f3, f4, f5⟩ := full_case (u := 1) (by omega) HR.out HM.out g hg 1
              have TG := Lib.hid f1
              have FT := Lib.hid f2
              have FR := Lib.hid f3
              have FM := Lib.hid f4
              have FC := Lib.hid f5
              clear hcl f1 f2 f3 f4 f5
              go_wp2_with fail
              refine (begin_one db t w.heap.size S d g (F1 k) k 1 w2 (by omega) (by omega) D2.out).mono ?_
              rintro r w3 ⟨mb, rfl, d3, m3, l3, k3⟩
              have D3 := Lib.hid d3
              have M3 := Lib.hid (m3 mb)
              have K3 := Lib.hid (K2.out.trans k3)
              have WS3 : Hid (Was8 W.heap.size ea ec (liveL d.T.E) mb mb db mb S w3) := Lib.hid ⟨E2.out.keeps k3 (by simp), fun x hx => by
                have h1 := E2.out.blk_lt x hx
                have h2 := lt_of_block HD.out.b
                have h3 := k3.size
                exact ⟨fun hs => by have := (HD.out.t.foot x hs).2; omega, by omega, by omega, by omega, by omega, by omega⟩⟩
              clear d3 m3 k3 q0
              go_wp2_with fail
              refine (step_one (2 * k + 1) (by omega) mb mb db t w.heap.size S d (newM g (F1 k) k 1) w3 D3.out M3.out HI.out (Nat.zero_le _)).mono ?_
              rintro r w4 ⟨S4, sb4, rfl, d4, m4, k4, g4, l4⟩
              have D4 := Lib.hid d4
              have M4 := Lib.hid m4
              have K4 := Lib.hid (K3.out.then k4 (fun x hx => .inl (feet_lo M3.out D3.out x hx).1))
              have P4 := Lib.hid (Pc8.first HI.out g (F1 k) k 1 TG.out)
              have I4 := Lib.hid (HI.out.step (by omega) (newM g (F1 k) k 1))
              have WS4 := Lib.hid (WS3.out.step k4 g4 (l4.imp (fun h => h.1) id))
              clear d4 m4 k4 g4 l4
              obtain ⟨T4, hT4⟩ := ex_hid (stepM d (newM g (F1 k) k 1)).turn
              rw [← hT4.out]
              unfold Trn.agg
              go_upto_region 21 with (fail)
              refine wp_gen (fun V => V.heap[w4.heap.size]? = some (trnO T4) ∧ Keeps [] w4 V) ⟨has_new _ _, (Keeps.refl [] w4).alloc _⟩ ?_
              rintro w5 ⟨b5, k5⟩
              have K5 := Lib.hid (K4.out.trans k5)
              have SR := Lib.hid (Srch.begun (d := d) (q0 := newM g (F1 k) k 1) D4.out M4.out (by rw [← hT4.out]; exact b5) k5)
              have WS5 := Lib.hid (WS4.out.new k5 (Nat.le_refl _))
              clear b5 k5
              go_wp2_with fail
              obtain ⟨W5, hW5⟩ : ∃ x, x = w5 := ⟨_, rfl⟩
              subst hW5
              go_loopw [14] (fun i wx => ∃ j : Nat, j ≤ n1 ∧ i = .int .i64 j ∧ FuJ mb db t w4.heap.size w.heap.size W.heap.size ea ec (newM g (F1 k) k 1) tg (2 * k + 1) j d wx ∧ Keeps [] w wx) (fun i _ => n1 - (intOf i).toNat)
              case atStart => exact ⟨0, by omega, rfl, ⟨_, _, S4, sb4, SR.out, P4.out, I4.out, WS5.out⟩, K5.out⟩
              case round =>
                obtain ⟨j, hj, rfl, ⟨d1, q, S5, sb5, hS, hP, hI5, hWS⟩, hK5⟩ := hrel
                have hj0 : (0 : Int) ≤ (j : Int) := by omega
                have hjl : (j : Int) ≤ (n1 : Int) := by omega
                have HK5 := Lib.hid hK5
                have ST := Lib.hid hP.st
                obtain ⟨tb, htb⟩ := ex_hid w4.heap.size
                rw [← htb.out] at hS hWS ⊢
                have HS := Lib.hid hS
                have HWS := Lib.hid hWS
                clear hS hWS SR P4 I4 K4 K3 K2 D2 D3 D4 M3 M4 hK5 WS3 WS4 WS5 K5
                rcases hP with ⟨f, hw, rfl⟩ | he
                · obtain ⟨y, hy1, hy2, hy3, hy4⟩ := hw.live
                  have HW := Lib.hid hw
                  have hjf : j + 1 ≤ n1 := by have := hw.n; have := hw.lt; have := HR.out.l; unfold cnt8 at this; simp at this; omega
                  have tu := HS.out.tu
                  rw [hy4] at tu
                  have TU := Lib.hid tu
                  have TW := Lib.hid hy4
                  obtain ⟨t0, t1, t2, t3, t4⟩ := trn_cells tu
                  clear hw hy1 hy2 hy3 hy4 tu
                  go_wp2_with fail
                  refine (tell_one mb sb5 db t w.heap.size S5 d1 q wr HS.out.mac false).mono ?_
                  rintro r w6 ⟨rfl, m6, k6⟩
                  obtain ⟨d6, b6⟩ := HS.out.told false m6 k6
                  have D6 := Lib.hid d6
                  have M6 := Lib.hid m6
                  have B6 := Lib.hid b6
                  have Z6 := Lib.hid k6.size
                  have WS6 := Lib.hid (HWS.out.told k6)
                  have K6 := Lib.hid (HK5.out.then k6 (fun x hx => by simp at hx; subst hx; left; exact HS.out.mac.l))
                  clear m6 k6 d6 b6 t0 t1 t2 t3 t4
                  go_wp2_with fail
                  refine (step_one (2 * k + 1) (by omega) mb sb5 db t w.heap.size S5 d1 (tellM q false) w6 D6.out M6.out HI.out (by rw [tell_sc, HW.out.sc]; omega)).mono ?_
                  rintro r w7 ⟨S7, sb7, rfl, d7, m7, k7, g7, l7⟩
                  have D7 := Lib.hid d7
                  have M7 := Lib.hid m7
                  have K7 := Lib.hid (K6.out.then k7 (fun x hx => .inl (feet_lo M6.out D6.out x hx).1))
                  have B7 := Lib.hid (k7.has B6.out (HS.out.feet false))
                  have G7 := Lib.hid g7
                  have L7 := Lib.hid (show sb7 = sb5 ∨ w6.heap.size ≤ sb7 from l7.imp (fun h => h.1) id)
                  have WS7 := Lib.hid (WS6.out.step k7 g7 L7.out)
                  have P7 := Lib.hid (Pc8.no HI.out TG.out HW.out (HS.out.mac.o.sk ST.out))
                  have I7 := Lib.hid (HI.out.step (by omega) (tellM q false))
                  clear d7 m7 k7 g7 l7
                  obtain ⟨T7, hT7⟩ := ex_hid (stepM d1 (tellM q false)).turn
                  rw [← hT7.out]
                  unfold Trn.agg
                  have b7 := B7.out
                  rw [TW.out] at b7
                  obtain ⟨t0, t1, t2, t3, t4⟩ := trn_cells b7
                  obtain ⟨u0, u1, u2, u3, u4⟩ := trn_free b7
                  have B7' := Lib.hid b7
                  clear b7
                  go_upto_region 23 with (fail)
                  refine wp_gen (fun V => V.heap[tb]? = some (trnO T7) ∧ Keeps [tb] w7 V) ⟨(trn_store _ T7 B7'.out).1, (trn_store _ T7 B7'.out).2⟩ ?_
                  rintro w8 ⟨b8, k8⟩
                  have SR8 := Lib.hid (HS.out.on ST.out Z6.out D7.out M7.out G7.out L7.out (by rw [← hT7.out]; exact b8) k8)
                  have K8 := Lib.hid (K7.out.then k8 (fun x hx => by simp at hx; subst hx; left; exact HS.out.lo))
                  have WS8 := Lib.hid (WS7.out.laid k8)
                  clear b8 k8 t0 t1 t2 t3 t4 u0 u1 u2 u3 u4
                  go_wp2_with fail
                  go_roundw
                  case rel => exact ⟨j + 1, hjf, by go_num, ⟨_, _, S7, sb7, SR8.out, P7.out, I7.out, WS8.out⟩, K8.out⟩
                  case measure => simp [intOf]; omega
                · have htn : q.turn = ⟨kd, 0, fd, vl, en⟩ := he.turn.trans FT.out
                  have hd1 : d1 = finD d (newM g (F1 k) k 1) tg := he.d1
                  have tu := HS.out.tu
                  rw [htn] at tu
                  have FR' := FR.out
                  have FM' := FM.out
                  have FC' := FC.out
                  rw [← hd1] at FR' FM' FC'
                  have R1 := Lib.hid FR'
                  have R2 := Lib.hid FM'
                  have I5 := Lib.hid hI5
                  clear he htn hd1 FR' FM' hI5 FC FT
                  rcases FC' with ⟨c1, c2, c3⟩ | ⟨c1, c2, c3, c4⟩
                  · subst c2
                    obtain rfl : fd = true := by rw [c3]; rfl
                    clear c3
                    have cm : ¬ (mm : Int) ≤ (k : Int) := by omega
                    obtain ⟨t0, t1, t2, t3, t4⟩ := trn_cells tu
                    clear tu
                    go_wp2_with fail
                    go_roundw
                    case rel => exact ⟨1 + 1, d1, S5, by omega, by go_num, ⟨HS.out.dic, I5.out, R1.out, R2.out⟩, HK5.out⟩
                    case measure => simp [intOf]
                  · subst c2 c3
                    have cm : (mm : Int) ≤ (k : Int) := by omega
                    obtain ⟨t0, t1, t2, t3, t4⟩ := trn_cells tu
                    have C4 := Lib.hid c4
                    clear tu c4
                    go_wp2_with fail
                    refine (pairs_any db t w.heap.size S5 (mV none) d1 wr HS.out.dic (by have := R1.out.l; unfold cnt8 at this; simp at this; omega)).mono ?_
                    rintro r w9 ⟨ef, eg, rfl, e9, k9⟩
                    have K9 := Lib.hid (HK5.out.trans k9)
                    have E9 := Lib.hid e9
                    have E8 := Lib.hid (HWS.out.r.keeps k9 (by simp))
                    have D9 := Lib.hid (HS.out.dic.keeps k9 (by simp) (by simp))
                    clear e9 k9
                    go_wp2_with fail
                    rw [hll.out, C4.out, show liveN d.T.E = (liveL d.T.E).length from (liveL_len _).symm]
                    refine (entries_same _ _ eg ec ef ea (liveL d.T.E) w9 (by rw [← C4.out]; rw [C4.out]; have h := E9.out; rw [C4.out] at h; exact h) E8.out (by rw [liveL_len]; have := liveN_le d.T.E; omega)).mono ?_
                    rintro r w10 ⟨rfl, k10⟩
                    have K10 := Lib.hid (K9.out.trans k10)
                    have D10 := Lib.hid (D9.out.keeps k10 (by simp) (by simp))
                    clear k10
                    go_wp2_with fail
                    refine (dver_any db t w.heap.size S5 (mV none) d1 w10 D10.out (by have := I5.out.v; omega)).mono ?_
                    rintro r w11 ⟨rfl, rfl⟩
                    rw [C4.out, ← hvr.out]
                    go_wp2_with fail
                    go_roundw
                    case rel => exact ⟨1 + 1, d1, S5, by omega, by go_num, ⟨D10.out, I5.out, R1.out, R2.out⟩, K10.out⟩
                    case measure => simp [intOf]
        · obtain rfl : u = 2 := by omega
          have h22 : cnt8 mm k 2 = cnt8 mm (k + 1) 0 := by unfold cnt8; simp
          have HR2 := Lib.hid (show Run8 F1 false (cnt8 mm (k + 1) 0) d by rw [← h22]; exact HR.out)
          clear h22
          go_wp2_with fail
          go_roundw
          case rel => exact ⟨k + 1, d, S, by omega, by go_num, ⟨HD.out, HI.out.mono (by omega), HR2.out, HM.out⟩, HK.out⟩
          case measure => simp [intOf]; omega
    · obtain rfl : k = n1 := by omega
      have hge : ¬ (k : Int) < (k : Int) := by omega
      obtain ⟨hD, hI, hR, hm⟩ := HF0.out
      have HD := Lib.hid hD
      have LC := Lib.hid (show liveN d0.T.E = min k mm by rw [hR.liveN]; unfold cnt8; simp)
      clear hD hI hR hm
      by_cases hkm : k < mm
      · have hkm' : (k : Int) < (mm : Int) := by omega
        have LN := Lib.hid (show liveN d0.T.E = k by rw [LC.out]; omega)
        go_wp2_with fail
        refine (dlen_any db t w.heap.size S0 (mV none) d0 _ HD.out).mono ?_
        rintro r w2 ⟨rfl, rfl⟩
        rw [LN.out]
        go_wp2_with (go_at_call 11; refine (awake8 _).mono ?_; rintro e w13 ⟨rfl, hb⟩)
        go_ret
        exact ⟨rfl, (HK.out.trans (Below.keeps hb [])).below (Nat.le_refl _) (by simp)⟩
      · have hkm' : ¬ (k : Int) < (mm : Int) := by omega
        have LN := Lib.hid (show liveN d0.T.E = mm by rw [LC.out]; omega)
        go_wp2_with fail
        refine (dlen_any db t w.heap.size S0 (mV none) d0 _ HD.out).mono ?_
        rintro r w2 ⟨rfl, rfl⟩
        rw [LN.out]
        go_wp2_with (go_at_call 11; refine (awake8 _).mono ?_; rintro e w13 ⟨rfl, hb⟩)
        go_ret
        exact ⟨rfl, (HK.out.trans (Below.keeps hb [])).below (Nat.le_refl _) (by simp)⟩
theorem probeFull_walk (a0 : Int) (a1 : Option Addr) (len1 cap1 : Nat) (F1 : Nat → Int) (w : World) (w1 : IntRow .i64 1 w a1 len1 F1) :
    Calls Try.prog 4 #[.int .i64 a0, .slice a1 len1 cap1] w fun e w' => e = .returned (.bool true) ∧ Below w.heap.size w w' := by
  by_cases h : a0 < 0 ∨ (0 ≤ a0 ∧ 100 < a0) ∨ (0 ≤ a0 ∧ a0 ≤ 100 ∧ 150 < len1)
  · exact probeFull_early a1 len1 cap1 a0 w h
  · obtain ⟨m, rfl⟩ : ∃ m : Nat, a0 = (m : Int) := ⟨a0.toNat, by omega⟩
    exact probeFull_main a1 len1 cap1 F1 m w (by omega) (by omega) w1
end Go.Proofs.Ytcakdmapnmneoaa
