/- ProbeOwn, walked (chapter 8's laws). -/
import Derived.Test.YtcakdmapnmneoaaDictO
import Derived.Deep.MidRow
namespace Go.Proofs.Ytcakdmapnmneoaa
open Go.RowKit
set_option linter.unusedVariables false
set_option linter.unusedSimpArgs false

theorem two_ents8 (W : World) (B : Nat) (hB : W.heap[B]? = some (.cells #[.bool false, .int .i64 0, .int .i64 1, .int .i64 0, .int .i64 0, .bool false, .int .i64 0, .int .i64 2, .int .i64 0, .int .i64 0] 36 (0, 0))) :
    ∀ (j : Nat) u, (flatE [⟨false, 0, 1, 0, 0⟩, ⟨false, 0, 2, 0, 0⟩])[j]? = some u → W.cell? ((⟨B, 0, none⟩ : Addr).add j) = some u := by
  intro j u hj
  rw [show (⟨B, 0, none⟩ : Addr).add j = ⟨B, j, none⟩ by unfold Addr.add; split <;> simp_all, cell_of_has hB]
  simpa [flatE, Ent.cells] using hj
theorem probeOwn_early (a1 : Option Addr) (n1 c1 : Nat) (w : World) (h : 200 < n1) :
    Calls Try.prog 3 #[.slice a1 n1 c1] w fun e w' => e = .returned (.bool true) ∧ Below w.heap.size w w' := by
  have d1 : decide ((200 : Int) < (n1 : Int)) = true := by simp; omega
  go_enter Try.func3, Try.ntmps3
  go_wp2_with (go_at_call 11; refine (awake8 _).mono ?_; rintro e w' ⟨rfl, hb⟩)
  go_ret
  exact ⟨rfl, hb⟩
set_option maxRecDepth 100000 in
set_option maxHeartbeats 4000000 in
theorem probeOwn_main (a1 : Option Addr) (n1 c1 : Nat) (F1 : Nat → Int) (w : World) (h1 : n1 ≤ 200) (s1 : IntRow .i64 1 w a1 n1 F1) :
    Calls Try.prog 3 #[.slice a1 n1 c1] w fun e w' => e = .returned (.bool true) ∧ Below w.heap.size w w' := by
  have d1 : decide ((200 : Int) < (n1 : Int)) = false := by simp; omega
  have Z1 := Lib.hid s1
  clear s1
  go_enter Try.func3, Try.ntmps3
  go_wp2_with fail
  refine (new8_any 1000 none ⟨0, 0, 0, 0⟩ w (fun b hb => by simp at hb) (by omega) (by omega)).mono ?_
  rintro r w1 ⟨db, t, S, rfl, d1', _, k1, l1⟩
  have D1 := Lib.hid d1'
  have K1 := Lib.hid (show Keeps [] w w1 from k1)
  clear d1' k1
  go_wp2_with fail
  go_loopw [5] (fun i wr => ∃ (k : Nat) (d : Dic) (S : List Nat), k ≤ n1 ∧ i = .int .i64 k ∧ DicAt db t w.heap.size S (mV none) d wr ∧ DicOk k d ∧ Keeps [] w wr) (fun i _ => n1 - (intOf i).toNat)
  case atStart => exact ⟨0, newD 1000, S, by omega, rfl, D1.out, newD_ok 1000, K1.out⟩
  case round =>
    obtain ⟨k, d, S, hk, rfl, hD, hI, hK⟩ := hrel
    clear D1 K1
    have hk0 : (0 : Int) ≤ (k : Int) := by omega
    have HD := Lib.hid hD
    have HI := Lib.hid hI
    have HK := Lib.hid hK
    clear hD hI
    by_cases hlt : k < n1
    · have hlt' : (k : Int) < (n1 : Int) := by omega
      rcases Z1.out with h0 | ⟨b, off, rfl, hb1, hb2, hcl⟩
      · omega
      obtain ⟨x0, hx0⟩ := ex_hid (F1 k)
      have q0 : wr.cell? ⟨b, off + k, none⟩ = some (.int .i64 x0) := by rw [hx0.out]; exact hK.cell (hcl k (by omega)).1 (by simp)
      clear hcl hK
      go_wp2_with fail
      refine (begin_one db t w.heap.size S d 2 x0 k k wr (by omega) (by omega) HD.out).mono ?_
      rintro r w2 ⟨mb, rfl, d2, m2, l2, k2⟩
      have D2 := Lib.hid d2
      have M2 := Lib.hid (m2 mb)
      have K2 := Lib.hid (HK.out.trans k2)
      clear d2 m2 k2
      go_wp2_with fail
      refine (step_one k (by omega) mb mb db t w.heap.size S d (newM 2 x0 k k) w2 D2.out M2.out HI.out (Nat.zero_le _)).mono ?_
      rintro r w3 ⟨S3, sb3, rfl, d3, _, k3, _, _⟩
      have D3 := Lib.hid d3
      have K3 := Lib.hid (K2.out.then k3 (fun x hx => .inl (feet_lo M2.out D2.out x hx).1))
      clear d3 k3
      go_wp2_with fail
      go_roundw
      case rel => exact ⟨k + 1, _, S3, by omega, by go_num, D3.out, HI.out.step (by omega) _, K3.out⟩
      case measure => simp [intOf]; omega
    · obtain rfl : k = n1 := by omega
      obtain ⟨w5, hw5⟩ : ∃ x, x = wr := ⟨_, rfl⟩
      subst hw5
      have hge : ¬ (k : Int) < (k : Int) := by omega
      have hE := HI.out.t.ek
      clear hK
      go_wp2_with fail
      refine (pairs_any db t w.heap.size S (mV none) d w5 HD.out (by omega)).mono ?_
      rintro r w2 ⟨ea, ec, rfl, e2, k2⟩
      have E2 := Lib.hid e2
      have D2 := Lib.hid (HD.out.keeps k2 (by simp) (by simp))
      have K2 := Lib.hid (HK.out.trans k2)
      have zr := HK.out.size
      have z2 := k2.size
      clear e2 k2
      go_wp2_with fail
      refine (pairs_any db t w.heap.size S (mV none) d w2 D2.out (by omega)).mono ?_
      rintro r w3 ⟨eb, ed, rfl, e3, k3⟩
      have E3 := Lib.hid e3
      have E2' := Lib.hid (E2.out.keeps k3 (by simp))
      have D3 := Lib.hid (D2.out.keeps k3 (by simp) (by simp))
      have K3 := Lib.hid (K2.out.trans k3)
      have z3 := k3.size
      clear e3 k3
      obtain ⟨l, hl⟩ := ex_hid (liveN d.T.E)
      have hl1 : l ≤ 1000 := by rw [hl.out]; have := liveN_le d.T.E; omega
      rw [← hl.out]
      have hlen : (liveL d.T.E).length = l := by rw [liveL_len, hl.out]
      have HLEN := Lib.hid hlen
      have LA := Lib.hid E2.out.blk_lt
      clear hlen
      go_wp2_with fail
      obtain ⟨W, hW⟩ : ∃ x, x = w3 := ⟨_, rfl⟩
      subst hW
      go_loopw [8] (fun i wx => ∃ (j : Nat) (E' : List Ent), j ≤ l ∧ i = .int .i64 j ∧ E'.length = l ∧ EntRow w5.heap.size ea ec E' wx ∧ Keeps (blk ea) W wx) (fun i _ => l - (intOf i).toNat)
      case atStart => exact ⟨0, liveL d.T.E, by omega, rfl, HLEN.out, E2'.out, Keeps.refl _ _⟩
      case round =>
        obtain ⟨j, E', hj, rfl, hEl', hE2, hK2⟩ := hrel
        have hj0 : (0 : Int) ≤ (j : Int) := by omega
        have HE := Lib.hid hE2
        have HK2 := Lib.hid hK2
        have HEL := Lib.hid hEl'
        clear hEl'
        by_cases hlt2 : j < l
        · have hlt' : (j : Int) < (l : Int) := by omega
          have hle' : (j : Int) ≤ 1000 := by omega
          obtain ⟨ge, rfl⟩ := hE2.shape (by rw [HEL.out]; omega)
          have hth : wr.there ge (j * 5) 5 := fun i hi => ⟨hE2.some_cells (by rw [HEL.out]; exact hlt2) i hi, hE2.free _⟩
          have lay := hE2.lay (n := j) (by rw [HEL.out]; exact hlt2) ⟨false, 0, 900 + j, 0, 0⟩
          obtain ⟨wy, hwy⟩ : ∃ wy, wr.setCells ge (j * 5) (Ent.cells ⟨false, 0, 900 + j, 0, 0⟩) = wy := ⟨_, rfl⟩
          rw [hwy] at lay
          have LAY := Lib.hid lay
          have WY := Lib.hid hwy
          clear lay hwy hE2 hK2
          go_upto_region 15 with (fail)
          go_upto_region 14 with (refine wpList_store_mid (op := ⟨none, .store 36 (.tmp 54) (.tmp 53), _, _, _, _⟩) rfl 36 (.tmp 54) (.tmp 53) rfl ge (j * 5) (Ent.cells ⟨false, 0, 900 + j, 0, 0⟩).toArray ?hx ?hy hth (by kernel_rfl) (all_oneCell_toArray (cs := Ent.cells ⟨false, 0, 900 + j, 0, 0⟩) (Ent.one _)) ?_)
          case hy => rfl
          case hx => go_simp
          rw [WY.out]
          go_wp2_with fail
          go_roundw
          case rel => exact ⟨j + 1, _, by omega, by go_num, by rw [List.length_set]; exact HEL.out, LAY.out.1, (HK2.out.trans (LAY.out.2.mono (by simp [blk])))⟩
          case measure => simp [intOf]; omega
        · obtain rfl : j = l := by omega
          have hge : ¬ (j : Int) < (j : Int) := by omega
          clear hE2 hK2
          have kb : Keeps [] wr (wr.alloc (.cells #[.bool false, .int .i64 0, .int .i64 1, .int .i64 0, .int .i64 0, .bool false, .int .i64 0, .int .i64 2, .int .i64 0, .int .i64 0] 36)) := (Keeps.refl [] wr).alloc _
          obtain ⟨a7, c7, w7, hrun7, r7, k7, b7⟩ := ent_append_src w5.heap.size ec 2 ea E' [⟨false, 0, 1, 0, 0⟩, ⟨false, 0, 2, 0, 0⟩] (some ⟨wr.heap.size, 0, none⟩) _ (HE.out.keeps kb (by simp)) (.inr ⟨_, rfl, two_ents8 _ wr.heap.size (has_new _ _)⟩) (by rw [HEL.out]; simp; omega) (by have := HK2.out.size; have := kb.size; omega)
          rw [HEL.out] at hrun7
          simp only [List.length_cons, List.length_nil, Nat.zero_add, Nat.reduceAdd] at hrun7
          have K7 : Hid (Keeps (blk ea) W w7) := Lib.hid ((HK2.out.trans (kb.mono (by simp))).trans k7)
          have HR7 := Lib.hid hrun7
          have D7 := Lib.hid (D3.out.keeps K7.out (fun hx => by have := LA.out _ hx; have := lt_of_block HD.out.b; omega) (fun x hx hx2 => by have := (LA.out x hx2).1; have := (HD.out.t.foot x hx).2; omega))
          have E7 := Lib.hid (E3.out.keeps K7.out (fun x hx hx2 => by have := (LA.out x hx2).2; have := (E3.out.blk_lt x hx).1; omega))
          have K9 := Lib.hid ((K3.out).then (S := []) K7.out (fun x hx => .inl (by have := (LA.out x hx).1; omega)))
          clear kb r7 k7 b7 hrun7
          obtain ⟨j2, hj2⟩ := ex_hid (j + 2)
          have hq2 : IntKind.i64.wrap ((j : Int) + 2) = (j2 : Int) := by have := hj2.out; rw [IntWalk.i64_left]; rw [IntWalk.wrap64_in _ (by omega)]; omega
          have he2 : (j : Int) + 2 = (j2 : Int) := by have := hj2.out; omega
          go_wp2_with (at_builtin; refine wpList_append_run (o := ⟨some 59, _, _, _, _, _⟩) rfl _ _ 33 rfl _ _ rfl rfl _ _ HR7.out ?_)
          refine (pairs_any db t w.heap.size S (mV none) d w7 D7.out (by omega)).mono ?_
          rintro r w8 ⟨ef, eg, rfl, e8, k8⟩
          have K8 := Lib.hid k8
          have E8 := Lib.hid e8
          clear e8 k8
          go_wp2_with fail
          rw [hl.out]
          have hLL : liveN d.T.E = (liveL d.T.E).length := (liveL_len _).symm
          rw [hLL]
          refine (entries_same _ _ ed eg eb ef (liveL d.T.E) w8 (E7.out.keeps K8.out (by simp)) E8.out (by rw [liveL_len, ← hl.out]; omega)).mono ?_
          rintro r w9 ⟨rfl, k9⟩
          have K10 := Lib.hid ((K9.out.trans K8.out).trans k9)
          clear k9
          go_wp2_with (go_at_call 11; refine (awake8 _).mono ?_; rintro e w11 ⟨rfl, hb⟩)
          go_ret
          exact ⟨rfl, (K10.out.trans (Below.keeps hb [])).below (Nat.le_refl _) (by simp)⟩
theorem probeOwn_walk (a0 : Option Addr) (len0 cap0 : Nat) (F0 : Nat → Int) (w : World) (w0 : IntRow .i64 1 w a0 len0 F0) :
    Calls Try.prog 3 #[.slice a0 len0 cap0] w fun e w' => e = .returned (.bool true) ∧ Below w.heap.size w w' := by
  by_cases h : 200 < len0
  · exact probeOwn_early a0 len0 cap0 w h
  · exact probeOwn_main a0 len0 cap0 F0 w (by omega) w0
end Go.Proofs.Ytcakdmapnmneoaa
