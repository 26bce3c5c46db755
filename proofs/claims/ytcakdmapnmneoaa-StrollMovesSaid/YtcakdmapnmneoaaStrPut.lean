/- A key is put in by somebody who says of no other that it is the same (chapter 9's laws). -/
import Derived.Test.YtcakdmapnmneoaaStrH
namespace Go.Proofs.Ytcakdmapnmneoaa
open Go.RowKit
set_option linter.unusedVariables false
set_option linter.unusedSimpArgs false

theorem finT_kind (d : Dic) (q0 : Mac) (tg : Option Nat) : (finT d q0 tg).kind = 2 ∨ (finT d q0 tg).kind = 3 := by
  cases tg with
  | none => unfold finT missT; simp only; split; exact .inl rfl; split; exact .inr rfl; exact .inl rfl
  | some x => exact .inl rfl
/-- In the midst of a search that nobody says yes to: ahead of a Step. -/
structure Mid9 (mb db t lo : Nat) (S : List Nat) (d : Dic) (q0 : Mac) (tg : Option Nat) (w : World) (j : Nat) (q : Mac) (S5 : List Nat) (sb5 : Nat) (W : World) : Prop where
  dic : DicAt db t lo S5 (mV none) d W
  mac : MSt mb sb5 db t lo S5 d q W
  pc : Pc8 d (stepD d q) q0 (stepM d q) tg j
  sc : q.scans ≤ 1000
  gr : Grew S w S5
  ks : Keeps (db :: S) w W
  sb : q.st ≠ 0 → w.heap.size ≤ sb5
theorem Mid9.feet {mb db t lo : Nat} {S : List Nat} {d : Dic} {q0 : Mac} {tg : Option Nat} {w : World} {j : Nat} {q : Mac} {S5 : List Nat} {sb5 : Nat} {W : World} (h : Mid9 mb db t lo S d q0 tg w j q S5 sb5 W) (hm : w.heap.size ≤ mb) : ∀ x, x ∈ feet mb sb5 db S5 q → w.heap.size ≤ x ∨ x ∈ db :: S := by
  intro x hx
  unfold Go.Proofs.Ytcakdmapnmneoaa.feet skS at hx
  simp only [List.mem_cons, List.mem_append] at hx ⊢
  rcases hx with rfl | rfl | hx | hx
  · exact .inl hm
  · exact .inr (.inl rfl)
  · split at hx
    · simp at hx
    · rename_i hs
      simp at hx; subst hx; exact .inl (h.sb hs)
  · rcases h.gr x hx with h1 | h1
    · exact .inr (.inr h1)
    · exact .inl h1
set_option maxRecDepth 100000 in
set_option maxHeartbeats 4000000 in
theorem put9_any (k : Nat) (hk : k ≤ 400) (db t lo : Nat) (S : List Nat) (d : Dic) (hash key v : Int) (tg : Option Nat) (w : World) (H : DicAt db t lo S (mV none) d w) (hI : DicOk k d) (hT : Tgt d (newM 2 hash key v) tg) :
    Calls Try.prog 27 #[.pointer (some ⟨db, 0, none⟩), .int .i64 hash, .int .i64 key, .int .i64 v] w fun r w' => ∃ S', r = .returned (.bool (decide ((finT d (newM 2 hash key v) tg).kind = 2))) ∧ DicAt db t lo S' (mV none) (finD d (newM 2 hash key v) tg) w' ∧ Keeps (db :: S) w w' ∧ Grew S w S' := by
  have HD := Lib.hid H
  have HI := Lib.hid hI
  have TG := Lib.hid hT
  have EK := Lib.hid hI.t.ek
  clear H hI hT
  go_enter Try.func27, Try.ntmps27
  go_wp2_with fail
  refine (begin_one db t lo S d 2 hash key v w (by omega) (by omega) HD.out).mono ?_
  rintro r w2 ⟨mb, rfl, d2, m2, l2, k2⟩
  have B2 := Lib.hid (show Mid9 mb db t lo S d (newM 2 hash key v) tg w 0 (newM 2 hash key v) S mb w2 from ⟨d2, m2 mb, Pc8.first HI.out 2 hash key v TG.out, Nat.zero_le _, Grew.refl _ _, k2.mono (by simp), fun h => absurd rfl h⟩)
  have L2 := Lib.hid l2
  clear d2 m2 l2 k2
  go_wp2_with fail
  go_loopw [10] (fun i wr => ∃ (j : Nat) (q : Mac) (S5 : List Nat) (sb5 : Nat), j ≤ k ∧ i = .int .i64 j ∧ Mid9 mb db t lo S d (newM 2 hash key v) tg w j q S5 sb5 wr) (fun i _ => 2000 - (intOf i).toNat)
  case atStart => exact ⟨0, _, S, mb, by omega, rfl, B2.out⟩
  case round =>
    obtain ⟨j, q, S5, sb5, hj, rfl, hB⟩ := hrel
    have hj0 : (0 : Int) ≤ (j : Int) := by omega
    have hj1 : (j : Int) < 2000 := by omega
    have HB := Lib.hid hB
    clear hB B2
    go_wp2_with fail
    refine (step_one k (by omega) mb sb5 db t lo S5 d q wr HB.out.dic HB.out.mac HI.out (by have := HB.out.sc; omega)).mono ?_
    rintro r w3 ⟨S7, sb7, rfl, d3, m3, k3, g3, l3⟩
    have D3 := Lib.hid d3
    have M3 := Lib.hid m3
    have K3 := Lib.hid (HB.out.ks.then k3 (HB.out.feet L2.out))
    have G3 := Lib.hid (HB.out.gr.trans g3 HB.out.ks.size)
    have L3 := Lib.hid (show w.heap.size ≤ sb7 from by
      rcases l3 with ⟨h1, h2⟩ | h1
      · rw [h1]; exact HB.out.sb h2
      · have := HB.out.ks.size; omega)
    obtain ⟨T3, hT3⟩ := ex_hid (stepM d q).turn
    rw [← hT3.out]
    clear d3 m3 k3 g3 l3
    unfold Trn.agg
    go_upto_region 8 with (fail)
    refine wp_gen (fun V => V.heap[w3.heap.size]? = some (trnO T3) ∧ Keeps [] w3 V) ⟨has_new _ _, (Keeps.refl [] w3).alloc _⟩ ?_
    rintro w4 ⟨b4, k4⟩
    have D4 := Lib.hid (D3.out.keeps k4 (by simp) (by simp))
    have M4 := Lib.hid (M3.out.keeps k4 (by simp) (by simp))
    have K4 := Lib.hid (K3.out.trans (k4.mono (by simp)))
    obtain ⟨tb, htb⟩ := ex_hid w3.heap.size
    rw [← htb.out] at b4 ⊢
    obtain ⟨t0, _, _, _, _⟩ := trn_cells b4
    clear b4 k4
    rcases HB.out.pc with ⟨f, hw, hd⟩ | he
    · obtain ⟨y, hy1, hy2, hy3, hy4⟩ := hw.live
      have hkd : T3.kind = 1 := by rw [hT3.out, hy4]
      rw [hkd] at t0
      have HW := Lib.hid hw
      have HDD := Lib.hid hd
      have hjf : j + 1 ≤ k := by have := hw.n; have := hw.lt; have := EK.out; omega
      clear hw hd hy1 hy2 hy3 hy4 hkd
      go_wp2_with fail
      rw [HDD.out] at D4 M4
      refine (tell_one mb sb7 db t lo S7 d (stepM d q) w4 M4.out false).mono ?_
      rintro r w5 ⟨rfl, m5, k5⟩
      have D5 := Lib.hid (D4.out.keeps k5 (by simp; exact M4.out.n.symm) (fun x hx hq => by simp at hq; subst hq; exact M4.out.s hx))
      have K5 := Lib.hid (K4.out.then k5 (fun x hx => by simp at hx; subst hx; exact .inl L2.out))
      have st1 : (stepM d q).st ≠ 0 := by have := HW.out.st; omega
      have P5 := Lib.hid (Pc8.no HI.out TG.out HW.out (M4.out.o.sk st1))
      have M5 := Lib.hid m5
      have SC5 := Lib.hid (show (tellM (stepM d q) false).scans ≤ 1000 by rw [tell_sc, HW.out.sc]; omega)
      clear m5 k5 t0 st1
      go_wp2_with fail
      go_roundw
      case rel => exact ⟨j + 1, _, S7, sb7, hjf, by go_num, ⟨D5.out, M5.out, P5.out, SC5.out, G3.out, K5.out, fun _ => L3.out⟩⟩
      case measure => simp [intOf]; omega
    · have hturn : T3 = finT d (newM 2 hash key v) tg := hT3.out.trans he.turn
      have hd1 : stepD d q = finD d (newM 2 hash key v) tg := he.d1
      rw [hd1] at D4
      have HT := Lib.hid hturn
      have hk2 := finT_kind d (newM 2 hash key v) tg
      rw [← hturn] at hk2
      clear he hturn hd1
      rcases hk2 with h2 | h2
      all_goals
        rw [h2] at t0
        have H2 := Lib.hid h2
        clear h2
        go_wp2_with fail
        go_ret
        exact ⟨S7, by rw [← HT.out, H2.out]; rfl, D4.out, K4.out, G3.out⟩
end Go.Proofs.Ytcakdmapnmneoaa
