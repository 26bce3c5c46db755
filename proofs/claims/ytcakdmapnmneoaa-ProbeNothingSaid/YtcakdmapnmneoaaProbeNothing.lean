/- ProbeNothing, walked (chapter 8's laws). -/
import Derived.Test.YtcakdmapnmneoaaDictZ
import Derived.Test.YtcakdmapnmneoaaDictQ
import Derived.Test.YtcakdmapnmneoaaMixRow
namespace Go.Proofs.Ytcakdmapnmneoaa
open Go.RowKit
set_option linter.unusedVariables false
set_option linter.unusedSimpArgs false

theorem mix_int (F : Nat → Int) (B : Nat → Bool) (k i : Nat) (hi : i < 7) : mixV (fun j => [7].contains j) 8 F B (k * 8 + i) = .int .i64 (F (k * 8 + i)) := by
  unfold mixV
  rw [show (k * 8 + i) % 8 = i by omega, if_neg]
  simp; omega
theorem mix_bool (F : Nat → Int) (B : Nat → Bool) (k : Nat) : mixV (fun j => [7].contains j) 8 F B (k * 8 + 7) = .bool (B (k * 8 + 7)) := by
  unfold mixV
  rw [show (k * 8 + 7) % 8 = 7 by omega, if_pos]
  simp
/-- Each Step of a machine on a dictionary that may have no pair. -/
theorem zero_step (g : Nat) (h k v : Int) (h1 : 1 ≤ g) (h4 : g ≤ 4) : stepD (newD 0) (newM g h k v) = newD 0 ∧ ∃ a b c, (stepM (newD 0) (newM g h k v)).turn = ⟨if g = 2 ∨ g = 4 then 3 else 2, 0, a, b, c⟩ := by
  have r := Run8.new (fun _ => 0) false 0
  have hm : (newD 0).miss (newM g h k v) = newD 0 := by
    unfold Dic.miss
    split
    · rfl
    · rw [if_pos (by decide)]
  rcases step_first (newD_ok 0) g h k v (tg := none) (fun f y hy => by simp [newD, newT] at hy) with ⟨f, _, _, ⟨_, x, hx, _⟩, _⟩ | ⟨he, _⟩
  · simp [newD, newT] at hx
  · refine ⟨he.d1.trans hm, ?_⟩
    have ht : (stepM (newD 0) (newM g h k v)).turn = missT (newD 0) (newM g h k v) := he.turn
    rw [ht]
    unfold missT
    rcases (show g = 1 ∨ g = 2 ∨ g = 3 ∨ g = 4 by omega) with rfl | rfl | rfl | rfl
    · exact ⟨_, _, _, rfl⟩
    · exact ⟨_, _, _, rfl⟩
    · exact ⟨_, _, _, rfl⟩
    · exact ⟨_, _, _, rfl⟩
def ntO : Obj := .cells #[.bool false, .int .i64 0, .int .i64 0, .int .i64 0, .int .i64 0] 36 (0, 0)
/-- The zero dictionary: as it was, or with its table. -/
def ZI (zb lo : Nat) (W : World) : Prop := W.heap[zb]? = some dzO ∨ ∃ t S, DicAt zb t lo S (mV none) (newD 0) W
theorem ZI.keeps {zb lo : Nat} {W W' : World} (h : ZI zb lo W) (k : Keeps [] W W') : ZI zb lo W' := by
  rcases h with h | ⟨t, S, h⟩
  · exact .inl (k.has h (by simp))
  · exact .inr ⟨t, S, h.keeps k (by simp) (by simp)⟩
/-- A machine's first Step on it. -/
theorem z_step (zb mb g t0 : Nat) (h k v : Int) (w0 w : World) (hZ : ZI zb zb w0) (k0 : Keeps [] w0 w) (hmb : w0.heap.size ≤ mb) (HQ : ∀ sb, MacAt mb sb zb t0 (newM g h k v) w) (h1 : 1 ≤ g) (h4 : g ≤ 4) (x : Nat) (hx : x ≠ mb) (hx0 : w0.heap.size ≤ x) :
    Calls Try.prog 14 #[.pointer (some ⟨mb, 0, none⟩)] w fun r w' => r = .returned (stepM (newD 0) (newM g h k v)).turn.agg ∧ (∃ t S, DicAt zb t zb S (mV none) (newD 0) w') ∧ ∃ R, Keeps R w w' ∧ x ∉ R ∧ ∀ y, y ∈ R → zb ≤ y := by
  have hs := (zero_step g h k v h1 h4).1
  rcases hZ with hz | ⟨t, S, hD⟩
  · have hlt := lt_of_block hz
    refine (step_zero mb zb zb g h k v w (k0.has hz (by simp)) ?_ (by omega) (Nat.le_refl _)).mono ?_
    · obtain ⟨ev, a, b, c⟩ := HQ mb
      exact ⟨ev, a, b, fun hs => absurd rfl hs⟩
    · rintro r w' ⟨t, S, rfl, hd, hk⟩
      rw [hs] at hd
      exact ⟨rfl, ⟨t, S, hd⟩, [mb, zb], hk, by simp; exact ⟨hx, by omega⟩, fun y hy => by simp at hy; omega⟩
  · have hlt := lt_of_block hD.b
    have hf : ∀ y, y ∈ S → zb ≤ y ∧ y < w0.heap.size := hD.t.foot
    have hD' := hD.keeps k0 (by simp) (by simp)
    have hM : MSt mb mb zb t zb S (newD 0) (newM g h k v) w := by
      obtain ⟨ev, a, b, c⟩ := HQ mb
      exact ⟨⟨ev, a, b, fun hs => absurd rfl hs⟩, fun hy => by have := (hf _ hy).2; omega, by omega, fun hs => absurd rfl hs, newM_ok _ g h k v h1 h4, by omega⟩
    refine (step_one 0 (by omega) mb mb zb t zb S (newD 0) (newM g h k v) w hD' hM (newD_ok 0) (Nat.zero_le _)).mono ?_
    rintro r w' ⟨S', sb', rfl, hd, _, hk, _, _⟩
    rw [hs] at hd
    refine ⟨rfl, ⟨t, S', hd⟩, feet mb mb zb S (newM g h k v), hk, fun hy => ?_, fun y hy => (feet_lo hM hD' y hy).1⟩
    unfold feet skS newM at hy
    simp at hy
    rcases hy with hy | hy | hy
    · exact hx hy
    · omega
    · have := (hf _ hy).2; omega
theorem probeNothing_early (a : Option Addr) (n c : Nat) (w : World) (h : 300 < n) :
    Calls Try.prog 10 #[.slice a n c] w fun e w' => e = .returned (.bool true) ∧ Below w.heap.size w w' := by
  have d1 : decide ((300 : Int) < (n : Int)) = true := by simp; omega
  go_enter Try.func10, Try.ntmps10
  go_wp2_with (go_at_call 11; refine (awake8 _).mono ?_; rintro e w' ⟨rfl, hb⟩)
  go_ret
  exact ⟨rfl, hb⟩
set_option maxRecDepth 100000 in
set_option maxHeartbeats 8000000 in
theorem probeNothing_main (a : Option Addr) (n c : Nat) (F : Nat → Int) (B : Nat → Bool) (w : World) (hn : n ≤ 300) (s1 : MixRow (fun j => [7].contains j) 8 w a n F B) :
    Calls Try.prog 10 #[.slice a n c] w fun e w' => e = .returned (.bool true) ∧ Below w.heap.size w w' := by
  have d1 : decide ((300 : Int) < (n : Int)) = false := by simp; omega
  have Z1 := Lib.hid s1
  clear s1
  go_enter Try.func10, Try.ntmps10
  go_upto_region 6 with (fail)
  refine wp_gen (fun V => V.heap[w.heap.size]? = some dzO ∧ Keeps [] w V) ⟨has_new _ _, (Keeps.refl [] w).alloc _⟩ ?_
  rintro w1 ⟨b1, k1⟩
  have B1 := Lib.hid b1
  have K1 := Lib.hid k1
  clear b1 k1
  go_wp2_with fail
  go_loopw [6] (fun i wr => ∃ k : Nat, k ≤ n ∧ i = .int .i64 k ∧ ZI w.heap.size w.heap.size wr ∧ Keeps [] w wr) (fun i _ => n - (intOf i).toNat)
  case atStart => exact ⟨0, by omega, rfl, .inl B1.out, K1.out⟩
  case round =>
    obtain ⟨k, hk, rfl, hZ, hK⟩ := hrel
    have hk0 : (0 : Int) ≤ (k : Int) := by omega
    obtain ⟨zb, hzb⟩ := ex_hid w.heap.size
    rw [← hzb.out] at hZ ⊢
    have HZ := Lib.hid hZ
    have HK := Lib.hid hK
    clear hZ B1 K1
    by_cases hlt : k < n
    · have hlt' : (k : Int) < (n : Int) := by omega
      rcases Z1.out with h0 | ⟨b, off, rfl, hb1, hb2, hcl⟩
      · omega
      have hcell : ∀ i, i < 8 → wr.cell? ⟨b, off + (k * 8 + i), none⟩ = some (mixV (fun j => [7].contains j) 8 F B (k * 8 + i)) := fun i hi => hK.cell (hcl (k * 8 + i) (by omega)) (by simp)
      obtain ⟨x0, hx0⟩ := ex_hid (F (k * 8 + 0))
      obtain ⟨x1, hx1⟩ := ex_hid (F (k * 8 + 1))
      obtain ⟨x2, hx2⟩ := ex_hid (F (k * 8 + 2))
      obtain ⟨x3, hx3⟩ := ex_hid (F (k * 8 + 3))
      obtain ⟨x4, hx4⟩ := ex_hid (F (k * 8 + 4))
      obtain ⟨x5, hx5⟩ := ex_hid (F (k * 8 + 5))
      obtain ⟨x6, hx6⟩ := ex_hid (F (k * 8 + 6))
      obtain ⟨x7, hx7⟩ := ex_hid (B (k * 8 + 7))
      have q0 : wr.cell? ⟨b, off + k * 8, none⟩ = some (.int .i64 x0) := by have h9 := hcell 0 (by omega); rw [mix_int F B k 0 (by omega)] at h9; rw [hx0.out]; exact h9
      have q1 : wr.cell? ⟨b, off + k * 8 + 1, none⟩ = some (.int .i64 x1) := by have h9 := hcell 1 (by omega); rw [mix_int F B k 1 (by omega)] at h9; rw [hx1.out]; exact h9
      have q2 : wr.cell? ⟨b, off + k * 8 + 2, none⟩ = some (.int .i64 x2) := by have h9 := hcell 2 (by omega); rw [mix_int F B k 2 (by omega)] at h9; rw [hx2.out]; exact h9
      have q3 : wr.cell? ⟨b, off + k * 8 + 3, none⟩ = some (.int .i64 x3) := by have h9 := hcell 3 (by omega); rw [mix_int F B k 3 (by omega)] at h9; rw [hx3.out]; exact h9
      have q4 : wr.cell? ⟨b, off + k * 8 + 4, none⟩ = some (.int .i64 x4) := by have h9 := hcell 4 (by omega); rw [mix_int F B k 4 (by omega)] at h9; rw [hx4.out]; exact h9
      have q5 : wr.cell? ⟨b, off + k * 8 + 5, none⟩ = some (.int .i64 x5) := by have h9 := hcell 5 (by omega); rw [mix_int F B k 5 (by omega)] at h9; rw [hx5.out]; exact h9
      have q6 : wr.cell? ⟨b, off + k * 8 + 6, none⟩ = some (.int .i64 x6) := by have h9 := hcell 6 (by omega); rw [mix_int F B k 6 (by omega)] at h9; rw [hx6.out]; exact h9
      have q7 : wr.cell? ⟨b, off + k * 8 + 7, none⟩ = some (.bool x7) := by have h9 := hcell 7 (by omega); rw [mix_bool F B k] at h9; rw [hx7.out]; exact h9
      clear hcell hcl hK
      have hneq := fun w => neq_ent noE noE w
      simp only [noE, Ent.agg, decide_true, Bool.not_true] at hneq
      go_wp2_with fail
      refine (nclear _).mono ?_
      rintro r w2 ⟨rfl, k2⟩
      have S2 := Lib.hid (k2.has (has_new wr (.cells #[.int .i64 x0, .int .i64 x1, .int .i64 x2, .int .i64 x3, .int .i64 x4, .int .i64 x5, .int .i64 x6, .bool x7] 82)) (by simp))
      have K2 := Lib.hid (((Keeps.refl [] wr).alloc (.cells #[.int .i64 x0, .int .i64 x1, .int .i64 x2, .int .i64 x3, .int .i64 x4, .int .i64 x5, .int .i64 x6, .bool x7] 82)).trans k2)
      clear k2 q0 q1 q2 q3 q4 q5 q6 q7
      go_wp2_with fail
      refine (nfirst _).mono ?_
      rintro r w3 ⟨rfl, k3⟩
      have K3 := Lib.hid (K2.out.trans k3)
      have S3 := Lib.hid (k3.has S2.out (by simp))
      clear k3
      unfold noE Ent.agg
      go_upto_region 12 with (fail)
      refine wp_gen (fun V => V.heap[w3.heap.size]? = some ntO ∧ Keeps [] w3 V) ⟨has_new _ _, (Keeps.refl [] w3).alloc _⟩ ?_
      rintro w4 ⟨b4, k4⟩
      have K4 := Lib.hid (K3.out.trans k4)
      have S4 := Lib.hid (k4.has S3.out (by simp))
      have E4 := Lib.hid b4
      clear b4 k4
      go_wp2_with fail
      refine (nlast _).mono ?_
      rintro r w5 ⟨rfl, k5⟩
      have K5 := Lib.hid (K4.out.trans k5)
      have S5 := Lib.hid (k5.has S4.out (by simp))
      have E5 := Lib.hid (k5.has E4.out (by simp))
      clear k5
      unfold noE Ent.agg
      go_upto_region 13 with (fail)
      refine wp_gen (fun V => V.heap[w5.heap.size]? = some ntO ∧ Keeps [] w5 V) ⟨has_new _ _, (Keeps.refl [] w5).alloc _⟩ ?_
      rintro w6 ⟨b6, k6⟩
      have K6 := Lib.hid (K5.out.trans k6)
      have S6 := Lib.hid (k6.has S5.out (by simp))
      have E6 := Lib.hid (k6.has E5.out (by simp))
      have G6 := Lib.hid b6
      clear b6 k6
      have p1 := cell_has S6.out (i := 1) (v := .int .i64 x1) rfl
      have p2 := cell_has S6.out (i := 2) (v := .int .i64 x2) rfl
      have p3 := cell_has S6.out (i := 3) (v := .int .i64 x3) rfl
      have p4 := cell_has S6.out (i := 4) (v := .int .i64 x4) rfl
      go_wp2_with fail
      refine (nbegin x1 x2 x3 x4 _).mono ?_
      rintro r w7 ⟨rfl, k7⟩
      have K7 := Lib.hid (K6.out.trans k7)
      have S7 := Lib.hid (k7.has S6.out (by simp))
      have E7 := Lib.hid (k7.has E6.out (by simp))
      have G7 := Lib.hid (k7.has G6.out (by simp))
      clear k7 p1 p2 p3 p4
      go_wp2_with fail
      refine (ncopy _).mono ?_
      rintro r w8 ⟨rfl, k8⟩
      have K8 := Lib.hid (K7.out.trans k8)
      have S8 := Lib.hid (k8.has S7.out (by simp))
      have E8 := k8.has E7.out (by simp)
      have G8 := k8.has G7.out (by simp)
      clear k8
      have e0 := cell_has E8 (i := 0) (v := .bool false) rfl
      have e1 := cell_has E8 (i := 1) (v := .int .i64 0) rfl
      have e2 := cell_has E8 (i := 2) (v := .int .i64 0) rfl
      have e3 := cell_has E8 (i := 3) (v := .int .i64 0) rfl
      have e4 := cell_has E8 (i := 4) (v := .int .i64 0) rfl
      have g0 := cell_has G8 (i := 0) (v := .bool false) rfl
      have g1 := cell_has G8 (i := 1) (v := .int .i64 0) rfl
      have g2 := cell_has G8 (i := 2) (v := .int .i64 0) rfl
      have g3 := cell_has G8 (i := 3) (v := .int .i64 0) rfl
      have g4 := cell_has G8 (i := 4) (v := .int .i64 0) rfl
      clear E8 G8
      go_wp2_with fail
      refine (nlen _).mono ?_
      rintro r w9 ⟨rfl, k9⟩
      clear e0 e1 e2 e3 e4 g0 g1 g2 g3 g4
      go_wp2_with fail
      refine (nver _).mono ?_
      rintro r w10 ⟨rfl, k10⟩
      go_wp2_with fail
      refine (npairs _).mono ?_
      rintro r w11 ⟨rfl, k11⟩
      go_wp2_with fail
      refine (nsight _).mono ?_
      rintro r w12 ⟨rfl, k12⟩
      have kk := ((k9.trans k10).trans k11).trans k12
      have K12 := Lib.hid (K8.out.trans kk)
      have S12 := Lib.hid (kk.has S8.out (by simp))
      clear k9 k10 k11 k12 kk
      have hsg := sight_empty
      unfold noSight at hsg ⊢
      go_wp2_with fail
      refine (hsg _).mono ?_
      rintro r w13 ⟨rfl, b13⟩
      have K13 := Lib.hid (K12.out.trans (Below.keeps b13 []))
      have S13 := Lib.hid ((Below.keeps b13 []).has S12.out (by simp))
      clear b13 hsg
      have hqt := fun w => neq_trn noTrn noTrn w
      simp only [noTrn, Trn.agg, decide_true, Bool.not_true] at hqt
      go_wp2_with fail
      refine (nstep _).mono ?_
      rintro r w14 ⟨rfl, k14⟩
      have K14 := Lib.hid (K13.out.trans k14)
      have S14 := k14.has S13.out (by simp)
      have p7 := cell_has S14 (i := 7) (v := .bool x7) rfl
      have HS14 := Lib.hid S14
      clear k14 S14
      unfold noTrn Trn.agg
      go_wp2_with fail
      refine (ntell x7 _).mono ?_
      rintro r w15 ⟨rfl, k15⟩
      clear p7
      go_wp2_with fail
      refine (nscan _).mono ?_
      rintro r w16 ⟨rfl, k16⟩
      go_wp2_with fail
      refine (nscans _).mono ?_
      rintro r w17 ⟨rfl, k17⟩
      have kk := (k15.trans k16).trans k17
      have K17 := Lib.hid (K14.out.trans kk)
      have S17 := Lib.hid (kk.has HS14.out (by simp))
      clear k15 k16 k17 kk
      have p1 := cell_has S17.out (i := 1) (v := .int .i64 x1) rfl
      have p2 := cell_has S17.out (i := 2) (v := .int .i64 x2) rfl
      have p3 := cell_has S17.out (i := 3) (v := .int .i64 x3) rfl
      have p4 := cell_has S17.out (i := 4) (v := .int .i64 x4) rfl
      go_wp2_with fail
      by_cases hg : 1 ≤ x1 ∧ x1 ≤ 4
      · obtain ⟨g, rfl⟩ : ∃ g : Nat, x1 = (g : Int) := ⟨x1.toNat, by omega⟩
        have hg1 : 1 ≤ g := by omega
        have hg4 : g ≤ 4 := by omega
        refine (begin_any8 zb 0 g x2 x3 x4 w17 hg1 hg4).mono ?_
        rintro r w18 ⟨mb, rfl, m18, l18, k18⟩
        have K18 := Lib.hid (K17.out.trans k18)
        have S18 := Lib.hid (k18.has S17.out (by simp))
        have M18 := Lib.hid m18
        have hwr : wr.heap.size < w17.heap.size := lt_of_block S17.out
        have hwm : wr.heap.size ≤ mb := by omega
        have hne : wr.heap.size ≠ mb := by omega
        have HWM := Lib.hid hwm
        have HNE := Lib.hid hne
        clear k18 m18 l18 hwr hwm hne p1 p2 p3 p4
        go_wp2_with fail
        refine (z_step zb mb g 0 x2 x3 x4 wr w18 HZ.out K18.out HWM.out M18.out hg1 hg4 wr.heap.size HNE.out (Nat.le_refl _)).mono ?_
        rintro r w19 ⟨rfl, ⟨t, S, d19⟩, R, k19, n19, r19⟩
        obtain ⟨_, ka, kb, kc, hturn⟩ := zero_step g x2 x3 x4 hg1 hg4
        rw [hturn]
        have S19 := k19.has S18.out n19
        have D19 := Lib.hid d19
        have HS19 := Lib.hid S19
        have K19 := Lib.hid ((HK.out.trans K18.out).then k19 (fun y hy => .inl (by rw [← hzb.out]; exact r19 y hy)))
        have hlv : liveN (newD 0).T.E = 0 := rfl
        have HLV := Lib.hid hlv
        clear hturn k19 n19 r19 d19 S19 hlv
        obtain ⟨kd, hkd⟩ : ∃ kd : Int, Hid (kd = if g = 2 ∨ g = 4 then 3 else 2) := ⟨_, Lib.hid rfl⟩
        rw [← hkd.out]
        unfold Trn.agg
        go_upto_region 22 with (fail)
        refine wp_gen (fun V => V.heap[w19.heap.size]? = some (trnO ⟨kd, 0, ka, kb, kc⟩) ∧ Keeps [] w19 V) ⟨has_new _ _, (Keeps.refl [] w19).alloc _⟩ ?_
        rintro w20 ⟨b20, k20⟩
        obtain ⟨t0, t1, t2, t3, t4⟩ := trn_cells b20
        have S20 := k20.has HS19.out (by simp)
        have p1 := cell_has S20 (i := 1) (v := .int .i64 g) rfl
        have D20 := Lib.hid (D19.out.keeps k20 (by simp) (by simp))
        have K20 := Lib.hid (K19.out.trans k20)
        clear b20 k20 S20
        have HKD := hkd.out
        rcases (show g = 1 ∨ g = 2 ∨ g = 3 ∨ g = 4 by omega) with rfl | rfl | rfl | rfl
        · have hk2 : kd = 2 := by rw [HKD]; rfl
          subst hk2
          clear HKD
          go_wp2_with fail
          refine (dlen_any zb t zb S (mV none) (newD 0) _ D20.out).mono ?_
          rintro r w21 ⟨rfl, rfl⟩
          rw [HLV.out]
          go_wp2_with fail
          go_roundw
          case rel => exact ⟨k + 1, by omega, by go_num, .inr ⟨t, S, D20.out⟩, K20.out⟩
          case measure => simp [intOf]; omega
        · have hk2 : kd = 3 := by rw [HKD]; rfl
          subst hk2
          clear HKD
          go_wp2_with fail
          refine (dlen_any zb t zb S (mV none) (newD 0) _ D20.out).mono ?_
          rintro r w21 ⟨rfl, rfl⟩
          rw [HLV.out]
          go_wp2_with fail
          go_roundw
          case rel => exact ⟨k + 1, by omega, by go_num, .inr ⟨t, S, D20.out⟩, K20.out⟩
          case measure => simp [intOf]; omega
        · have hk2 : kd = 2 := by rw [HKD]; rfl
          subst hk2
          clear HKD
          go_wp2_with fail
          refine (dlen_any zb t zb S (mV none) (newD 0) _ D20.out).mono ?_
          rintro r w21 ⟨rfl, rfl⟩
          rw [HLV.out]
          go_wp2_with fail
          go_roundw
          case rel => exact ⟨k + 1, by omega, by go_num, .inr ⟨t, S, D20.out⟩, K20.out⟩
          case measure => simp [intOf]; omega
        · have hk2 : kd = 3 := by rw [HKD]; rfl
          subst hk2
          clear HKD
          go_wp2_with fail
          refine (dlen_any zb t zb S (mV none) (newD 0) _ D20.out).mono ?_
          rintro r w21 ⟨rfl, rfl⟩
          rw [HLV.out]
          go_wp2_with fail
          go_roundw
          case rel => exact ⟨k + 1, by omega, by go_num, .inr ⟨t, S, D20.out⟩, K20.out⟩
          case measure => simp [intOf]; omega
      · refine (begin_bad (some ⟨zb, 0, none⟩) x1 x2 x3 x4 _ hg).mono ?_
        rintro r w18 ⟨rfl, k18⟩
        have K18 := Lib.hid (K17.out.trans k18)
        have S18 := k18.has S17.out (by simp)
        clear p1 p2 p3 p4
        have p1 := cell_has S18 (i := 1) (v := .int .i64 x1) rfl
        clear k18 S18
        by_cases hlo1 : 1 ≤ x1
        · have hhi : ¬ x1 ≤ 4 := fun h => hg ⟨hlo1, h⟩
          clear hg
          go_wp2_with fail
          go_roundw
          case rel => exact ⟨k + 1, by omega, by go_num, HZ.out.keeps K18.out, HK.out.trans K18.out⟩
          case measure => simp [intOf]; omega
        · clear hg
          go_wp2_with fail
          go_roundw
          case rel => exact ⟨k + 1, by omega, by go_num, HZ.out.keeps K18.out, HK.out.trans K18.out⟩
          case measure => simp [intOf]; omega
    · obtain rfl : k = n := by omega
      have hge : ¬ (k : Int) < (k : Int) := by omega
      clear hK
      go_wp2_with (go_at_call 11; refine (awake8 _).mono ?_; rintro e w13 ⟨rfl, hb⟩)
      go_ret
      exact ⟨rfl, (HK.out.trans (Below.keeps hb [])).below (by first | exact Nat.le_refl _ | (have := hzb.out; omega)) (by simp)⟩
theorem probeNothing_walk (a0 : Option Addr) (len0 cap0 : Nat) (F0 : Nat → Int) (B0 : Nat → Bool) (w : World) (w0 : MixRow (fun j => [7].contains j) 8 w a0 len0 F0 B0) :
    Calls Try.prog 10 #[.slice a0 len0 cap0] w fun e w' => e = .returned (.bool true) ∧ Below w.heap.size w w' := by
  by_cases h : 300 < len0
  · exact probeNothing_early a0 len0 cap0 w h
  · exact probeNothing_main a0 len0 cap0 F0 B0 w (by omega) w0
end Go.Proofs.Ytcakdmapnmneoaa
