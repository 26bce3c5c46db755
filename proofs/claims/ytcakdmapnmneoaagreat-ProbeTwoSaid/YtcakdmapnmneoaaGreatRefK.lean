/- The document's dictionary: First, Last, Copy (chapter 8). -/
import Derived.Test.YtcakdmapnmneoaaGreatRefJ
namespace Go.Proofs.YtcakdmapnmneoaaGreat
open Go.RowKit
set_option linter.unusedVariables false
set_option linter.unusedSimpArgs false

/-- The first pair, or the last one, out. -/
def Dic.outN (d : Dic) (back : Bool) : Nat := nthN d.T.E (if back = true then liveN d.T.E - 1 else 0)
def Dic.outX (d : Dic) (back : Bool) : Ent := if liveN d.T.E = 0 then noE else d.at_ (d.outN back : Nat)
def Dic.outE (d : Dic) : Int := if liveN d.T.E = 0 then 7 else 0
def Dic.outD (d : Dic) (back : Bool) : Dic := if liveN d.T.E = 0 then d else d.took (d.outN back : Nat)
theorem Dic.out_ent (d : Dic) (back : Bool) (h : liveN d.T.E ≠ 0) : d.T.ent (d.outN back : Nat) = some (d.at_ (d.outN back : Nat)) := by
  have hlt : (if back = true then liveN d.T.E - 1 else 0) < (liveL d.T.E).length := by rw [liveL_len]; split <;> omega
  obtain ⟨_, h2, h3⟩ := nthN_spec (List.getElem?_eq_getElem hlt)
  have h4 : d.T.ent (d.outN back : Nat) = some ((liveL d.T.E)[if back = true then liveN d.T.E - 1 else 0]'hlt) := by
    unfold Tab.ent; rw [if_pos (by omega)]
    simp only [Int.toNat_natCast]
    unfold Dic.outN
    rw [h2]; simp [Option.filter, h3]
  rw [h4, Dic.at_of h4]
set_option maxRecDepth 100000 in
set_option maxHeartbeats 4000000 in
theorem rlast8_any (k0 : Nat) (hk : k0 ≤ 1000) (db t lo : Nat) (S : List Nat) (m : Option Nat) (d : Dic) (w : World) (HD : RDicAt db t lo S m d w) (hI : TInv k0 d.T) (hv : d.ver ≤ 1000000) :
    Calls Tryz.prog 30 #[.pointer (some ⟨db, 0, none⟩)] w fun r w' => r = .returned (.tuple #[(d.outX true).agg, .int .i64 d.outE]) ∧ RDicAt db t lo S m (d.outD true) w' ∧ Keeps (db :: S) w w' := by
  obtain ⟨lr, hlr⟩ : ∃ lr, lr = w.heap.size := ⟨_, rfl⟩
  have HLR := Lib.hid hlr
  obtain ⟨WA, hWA⟩ : ∃ WA, w.alloc (.cells #[.bool false, .int .i64 0, .int .i64 0, .int .i64 0, .int .i64 0] 78) = WA := ⟨_, rfl⟩
  have kb : Keeps [] w WA := by rw [← hWA]; exact (Keeps.refl [] w).alloc _
  have KB := Lib.hid kb
  have BT := Lib.hid (show WA.heap[lr]? = some (entR noE) by rw [← hWA, hlr]; exact has_new _ _)
  have HWA := Lib.hid hWA
  have DA := Lib.hid (HD.keeps kb (by simp) (by simp))
  have LD := Lib.hid (lt_of_block HD.b)
  have LS := Lib.hid (show ∀ z, z ∈ S → z < w.heap.size from fun z hz => (HD.foot z (by simp [hz])).2)
  have HI := Lib.hid hI
  have HV := Lib.hid hv
  have LRN := Lib.hid (show lr ∉ db :: S from fun h => by
    simp only [List.mem_cons] at h
    have := LD.out
    rcases h with h | h
    · omega
    · have := LS.out _ h; omega)
  have y2 : WA.cell? ⟨db, 2, none⟩ = some (.pointer (some ⟨t, 0, none⟩)) := cell_has DA.out.b (i := 2) rfl
  obtain ⟨ta, tc, tq, b1, b2, _⟩ := DA.out.t
  have RN := rnumbers_any t lo d.T.L tc ta d.T.E _ _ _ _ _ _ WA b1 b2 (by have := hI.ek; omega)
  obtain ⟨n, hn⟩ := ex_hid (liveN d.T.E)
  rw [← hn.out] at RN
  have hn5 : n ≤ 1000 := by rw [hn.out]; have := liveN_le d.T.E; have := hI.ek; omega
  clear HD hlr hWA kb hI hv b1 b2
  go_enter Tryz.func30, Tryz.ntmps30
  go_upto_region 1 with (fail)
  rw [HWA.out, ← HLR.out]
  go_upto_region 2 with (go_at_call 73; refine RN.mono ?_; rintro r w1 ⟨a, c, rfl, r1, k1⟩)
  have R1 := Lib.hid r1
  have K1 := Lib.hid k1
  have D1 := Lib.hid (DA.out.keeps k1 (by simp) (by simp))
  have b1 := k1.has BT.out (by simp)
  have B1 := Lib.hid b1
  obtain ⟨s0, s1, s2, s3, s4⟩ : w1.cell? ⟨lr, 0, none⟩ = some (.bool false) ∧ w1.cell? ⟨lr, 1, none⟩ = some (.int .i64 0) ∧ w1.cell? ⟨lr, 2, none⟩ = some (.int .i64 0) ∧ w1.cell? ⟨lr, 3, none⟩ = some (.int .i64 0) ∧ w1.cell? ⟨lr, 4, none⟩ = some (.int .i64 0) := ⟨cell_has b1 (i := 0) rfl, cell_has b1 (i := 1) rfl, cell_has b1 (i := 2) rfl, cell_has b1 (i := 3) rfl, cell_has b1 (i := 4) rfl⟩
  have u0 := free_of_has b1 0
  have u1 := free_of_has b1 1
  have u2 := free_of_has b1 2
  have u3 := free_of_has b1 3
  have u4 := free_of_has b1 4
  clear r1 k1 b1 RN
  by_cases h0 : n = 0
  · have e0 : ((n : Int) == 0) = true := by simp; omega
    have E := Lib.hid (show liveN d.T.E = 0 by rw [← hn.out]; exact h0)
    clear h0
    go_wp2_with fail
    obtain ⟨v1, v2⟩ := entR_store noE noE B1.out
    have rc := cell_of_has v1
    simp only [noE] at rc
    refine bodyPost_ret (v := .tuple #[noE.agg, .int .i64 7]) (by simp [results, Tryz.results30, go_sem, Ent.agg, noE, rc]) rfl ⟨by unfold Dic.outX Dic.outE; rw [if_pos E.out, if_pos E.out], ?_, ?_⟩
    · unfold Dic.outD; rw [if_pos E.out]
      exact D1.out.keeps v2 (by simp; intro e; exact LRN.out (by simp [e])) (fun z hz h => by simp at h; subst h; exact LRN.out (by simp [hz]))
    · exact (((KB.out.trans K1.out).mono (by simp) : Keeps (db :: S) w w1).then v2 (fun z hz => by simp at hz; have := HLR.out; left; omega))
  · have e0 : ((n : Int) == 0) = false := by simp; omega
    have hl : liveN d.T.E ≠ 0 := by rw [← hn.out]; exact h0
    have E := Lib.hid hl
    obtain ⟨p, hp⟩ : ∃ p, Hid (p = liveN d.T.E - 1) := ⟨_, Lib.hid rfl⟩
    have hpn : p < n := by rw [hp.out]; have := hn.out; omega
    obtain ⟨g, rfl⟩ := R1.out.shape (by omega)
    obtain ⟨nx, hnx⟩ := ex_hid (d.outN true)
    have q0 : w1.cell? ⟨g, p, none⟩ = some (.int .i64 nx) := by
      have h9 := R1.out.cell hpn
      rw [h9]; unfold numV
      rw [hnx.out]; unfold Dic.outN nthN
      rw [hp.out]; rfl
    have hp0 : (0 : Int) ≤ (p : Int) := by omega
    have hp1 : (p : Int) < (n : Int) := by omega
    have ep : (n : Int) - 1 = (p : Int) := by have := hp.out; have := hn.out; omega
    have y2' := K1.out.cell y2 (by simp)
    have HE := d.out_ent true hl
    rw [← hnx.out] at HE
    have RT := rtake_any k0 hk db t lo S m d nx (d.at_ (nx : Nat)) w1 D1.out HI.out HV.out HE
    obtain ⟨y, hy⟩ := ex_hid (d.at_ (nx : Nat))
    rw [← hy.out] at RT
    unfold Ent.agg at RT
    clear y2 h0 hl HE
    go_wp2_with (go_at_call 74; refine RT.mono ?_; rintro r w2 ⟨rfl, d2, k2⟩; have b2 := k2.has B1.out LRN.out; have B2 := Lib.hid b2; have D2 := Lib.hid d2; have K2 := Lib.hid k2; obtain ⟨s0, s1, s2, s3, s4⟩ : w2.cell? ⟨lr, 0, none⟩ = some (.bool false) ∧ w2.cell? ⟨lr, 1, none⟩ = some (.int .i64 0) ∧ w2.cell? ⟨lr, 2, none⟩ = some (.int .i64 0) ∧ w2.cell? ⟨lr, 3, none⟩ = some (.int .i64 0) ∧ w2.cell? ⟨lr, 4, none⟩ = some (.int .i64 0) := ⟨cell_has b2 (i := 0) rfl, cell_has b2 (i := 1) rfl, cell_has b2 (i := 2) rfl, cell_has b2 (i := 3) rfl, cell_has b2 (i := 4) rfl⟩; have u0 := free_of_has b2 0; have u1 := free_of_has b2 1; have u2 := free_of_has b2 2; have u3 := free_of_has b2 3; have u4 := free_of_has b2 4; clear b2 d2 k2)
    obtain ⟨v1, v2⟩ := entR_store noE y B2.out
    have rc := cell_of_has v1
    refine bodyPost_ret (v := .tuple #[y.agg, .int .i64 0]) (by simp [results, Tryz.results30, go_sem, Ent.agg, rc]) rfl ⟨by unfold Dic.outX Dic.outE; rw [if_neg E.out, if_neg E.out, ← hnx.out, ← hy.out], ?_, ?_⟩
    · unfold Dic.outD; rw [if_neg E.out, ← hnx.out]
      exact D2.out.keeps v2 (by simp; intro e; exact LRN.out (by simp [e])) (fun z hz h => by simp at h; subst h; exact LRN.out (by simp [hz]))
    · exact ((((KB.out.trans K1.out).mono (by simp) : Keeps (db :: S) w w1).trans K2.out).then v2 (fun z hz => by simp at hz; have := HLR.out; left; omega))
set_option maxRecDepth 100000 in
set_option maxHeartbeats 4000000 in
theorem rfirst8_any (k0 : Nat) (hk : k0 ≤ 1000) (db t lo : Nat) (S : List Nat) (m : Option Nat) (d : Dic) (w : World) (HD : RDicAt db t lo S m d w) (hI : TInv k0 d.T) (hv : d.ver ≤ 1000000) :
    Calls Tryz.prog 39 #[.pointer (some ⟨db, 0, none⟩)] w fun r w' => r = .returned (.tuple #[(d.outX false).agg, .int .i64 d.outE]) ∧ RDicAt db t lo S m (d.outD false) w' ∧ Keeps (db :: S) w w' := by
  obtain ⟨lr, hlr⟩ : ∃ lr, lr = w.heap.size := ⟨_, rfl⟩
  have HLR := Lib.hid hlr
  obtain ⟨WA, hWA⟩ : ∃ WA, w.alloc (.cells #[.bool false, .int .i64 0, .int .i64 0, .int .i64 0, .int .i64 0] 78) = WA := ⟨_, rfl⟩
  have kb : Keeps [] w WA := by rw [← hWA]; exact (Keeps.refl [] w).alloc _
  have KB := Lib.hid kb
  have BT := Lib.hid (show WA.heap[lr]? = some (entR noE) by rw [← hWA, hlr]; exact has_new _ _)
  have HWA := Lib.hid hWA
  have DA := Lib.hid (HD.keeps kb (by simp) (by simp))
  have LD := Lib.hid (lt_of_block HD.b)
  have LS := Lib.hid (show ∀ z, z ∈ S → z < w.heap.size from fun z hz => (HD.foot z (by simp [hz])).2)
  have HI := Lib.hid hI
  have HV := Lib.hid hv
  have LRN := Lib.hid (show lr ∉ db :: S from fun h => by
    simp only [List.mem_cons] at h
    have := LD.out
    rcases h with h | h
    · omega
    · have := LS.out _ h; omega)
  have y2 : WA.cell? ⟨db, 2, none⟩ = some (.pointer (some ⟨t, 0, none⟩)) := cell_has DA.out.b (i := 2) rfl
  obtain ⟨ta, tc, tq, b1, b2, _⟩ := DA.out.t
  have RN := rnumbers_any t lo d.T.L tc ta d.T.E _ _ _ _ _ _ WA b1 b2 (by have := hI.ek; omega)
  obtain ⟨n, hn⟩ := ex_hid (liveN d.T.E)
  rw [← hn.out] at RN
  have hn5 : n ≤ 1000 := by rw [hn.out]; have := liveN_le d.T.E; have := hI.ek; omega
  clear HD hlr hWA kb hI hv b1 b2
  go_enter Tryz.func39, Tryz.ntmps39
  go_upto_region 1 with (fail)
  rw [HWA.out, ← HLR.out]
  go_upto_region 2 with (go_at_call 73; refine RN.mono ?_; rintro r w1 ⟨a, c, rfl, r1, k1⟩)
  have R1 := Lib.hid r1
  have K1 := Lib.hid k1
  have D1 := Lib.hid (DA.out.keeps k1 (by simp) (by simp))
  have b1 := k1.has BT.out (by simp)
  have B1 := Lib.hid b1
  obtain ⟨s0, s1, s2, s3, s4⟩ : w1.cell? ⟨lr, 0, none⟩ = some (.bool false) ∧ w1.cell? ⟨lr, 1, none⟩ = some (.int .i64 0) ∧ w1.cell? ⟨lr, 2, none⟩ = some (.int .i64 0) ∧ w1.cell? ⟨lr, 3, none⟩ = some (.int .i64 0) ∧ w1.cell? ⟨lr, 4, none⟩ = some (.int .i64 0) := ⟨cell_has b1 (i := 0) rfl, cell_has b1 (i := 1) rfl, cell_has b1 (i := 2) rfl, cell_has b1 (i := 3) rfl, cell_has b1 (i := 4) rfl⟩
  have u0 := free_of_has b1 0
  have u1 := free_of_has b1 1
  have u2 := free_of_has b1 2
  have u3 := free_of_has b1 3
  have u4 := free_of_has b1 4
  clear r1 k1 b1 RN
  by_cases h0 : n = 0
  · have e0 : ((n : Int) == 0) = true := by simp; omega
    have E := Lib.hid (show liveN d.T.E = 0 by rw [← hn.out]; exact h0)
    clear h0
    go_wp2_with fail
    obtain ⟨v1, v2⟩ := entR_store noE noE B1.out
    have rc := cell_of_has v1
    simp only [noE] at rc
    refine bodyPost_ret (v := .tuple #[noE.agg, .int .i64 7]) (by simp [results, Tryz.results39, go_sem, Ent.agg, noE, rc]) rfl ⟨by unfold Dic.outX Dic.outE; rw [if_pos E.out, if_pos E.out], ?_, ?_⟩
    · unfold Dic.outD; rw [if_pos E.out]
      exact D1.out.keeps v2 (by simp; intro e; exact LRN.out (by simp [e])) (fun z hz h => by simp at h; subst h; exact LRN.out (by simp [hz]))
    · exact (((KB.out.trans K1.out).mono (by simp) : Keeps (db :: S) w w1).then v2 (fun z hz => by simp at hz; have := HLR.out; left; omega))
  · have e0 : ((n : Int) == 0) = false := by simp; omega
    have hl : liveN d.T.E ≠ 0 := by rw [← hn.out]; exact h0
    have E := Lib.hid hl
    obtain ⟨p, hp⟩ : ∃ p, Hid (p = 0) := ⟨_, Lib.hid rfl⟩
    have hpn : p < n := by rw [hp.out]; have := hn.out; omega
    obtain ⟨g, rfl⟩ := R1.out.shape (by omega)
    obtain ⟨nx, hnx⟩ := ex_hid (d.outN false)
    have q0 : w1.cell? ⟨g, p, none⟩ = some (.int .i64 nx) := by
      have h9 := R1.out.cell hpn
      rw [h9]; unfold numV
      rw [hnx.out]; unfold Dic.outN nthN
      rw [hp.out]; rfl
    have hp0 : (0 : Int) ≤ (p : Int) := by omega
    have hp1 : (p : Int) < (n : Int) := by omega
    obtain rfl : p = 0 := hp.out
    have y2' := K1.out.cell y2 (by simp)
    have HE := d.out_ent false hl
    rw [← hnx.out] at HE
    have RT := rtake_any k0 hk db t lo S m d nx (d.at_ (nx : Nat)) w1 D1.out HI.out HV.out HE
    obtain ⟨y, hy⟩ := ex_hid (d.at_ (nx : Nat))
    rw [← hy.out] at RT
    unfold Ent.agg at RT
    clear y2 h0 hl HE
    go_wp2_with (go_at_call 74; refine RT.mono ?_; rintro r w2 ⟨rfl, d2, k2⟩; have b2 := k2.has B1.out LRN.out; have B2 := Lib.hid b2; have D2 := Lib.hid d2; have K2 := Lib.hid k2; obtain ⟨s0, s1, s2, s3, s4⟩ : w2.cell? ⟨lr, 0, none⟩ = some (.bool false) ∧ w2.cell? ⟨lr, 1, none⟩ = some (.int .i64 0) ∧ w2.cell? ⟨lr, 2, none⟩ = some (.int .i64 0) ∧ w2.cell? ⟨lr, 3, none⟩ = some (.int .i64 0) ∧ w2.cell? ⟨lr, 4, none⟩ = some (.int .i64 0) := ⟨cell_has b2 (i := 0) rfl, cell_has b2 (i := 1) rfl, cell_has b2 (i := 2) rfl, cell_has b2 (i := 3) rfl, cell_has b2 (i := 4) rfl⟩; have u0 := free_of_has b2 0; have u1 := free_of_has b2 1; have u2 := free_of_has b2 2; have u3 := free_of_has b2 3; have u4 := free_of_has b2 4; clear b2 d2 k2)
    obtain ⟨v1, v2⟩ := entR_store noE y B2.out
    have rc := cell_of_has v1
    refine bodyPost_ret (v := .tuple #[y.agg, .int .i64 0]) (by simp [results, Tryz.results39, go_sem, Ent.agg, rc]) rfl ⟨by unfold Dic.outX Dic.outE; rw [if_neg E.out, if_neg E.out, ← hnx.out, ← hy.out], ?_, ?_⟩
    · unfold Dic.outD; rw [if_neg E.out, ← hnx.out]
      exact D2.out.keeps v2 (by simp; intro e; exact LRN.out (by simp [e])) (fun z hz h => by simp at h; subst h; exact LRN.out (by simp [hz]))
    · exact ((((KB.out.trans K1.out).mono (by simp) : Keeps (db :: S) w w1).trans K2.out).then v2 (fun z hz => by simp at hz; have := HLR.out; left; omega))
end Go.Proofs.YtcakdmapnmneoaaGreat
