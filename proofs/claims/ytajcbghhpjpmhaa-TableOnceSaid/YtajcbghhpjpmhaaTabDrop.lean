/- The dead entries are left out (chapter 7). -/
import Derived.Test.YtajcbghhpjpmhaaTabRow
import Derived.Deep.RegionHeld3
import Derived.Deep.DeepMust
namespace Go.Proofs.Ytajcbghhpjpmhaa
open Go.RowKit
set_option linter.unusedVariables false

theorem infoEnt : (Try.prog.info? 32).map (·.size) = some 5 := by kernel_rfl
theorem zeroEnt : ∀ w, (zeroValue 32).run Try.prog w = .ok noE.agg w := fun w => by kernel_rfl

theorem EntRow.drew {lo c : Nat} {a : Option Addr} {E : List Ent} {w : World} (h : EntRow lo a c E w) : EntRow lo a c E w.drew := h
theorem liveL_succ {E : List Ent} {k : Nat} {x : Ent} (h : E[k]? = some x) : liveL (E.take (k + 1)) = liveL (E.take k) ++ if x.live then [x] else [] := by
  rw [List.take_add_one, h]
  simp only [liveL, List.filter_append, Option.toList_some]
  cases hx : x.live <;> simp [hx]
structure DropI (E R : List Ent) (k n : Nat) : Prop where
  len : R.length = E.length
  tk : R.take n = liveL (E.take k)
  rest : ∀ j, k ≤ j → R[j]? = E[j]?
  nk : n ≤ k
theorem DropI.start (E : List Ent) : DropI E E 0 0 := ⟨rfl, by simp [liveL], fun _ _ => rfl, Nat.le_refl _⟩
theorem DropI.live {E R : List Ent} {k n : Nat} (h : DropI E R k n) {x : Ent} (hx : E[k]? = some x) (hl : x.live = true) : DropI E (R.set n x) (k + 1) (n + 1) := by
  have hk := (List.getElem?_eq_some_iff.1 hx).1
  have hnk := h.nk
  have hlen := h.len
  refine ⟨by simp [h.len], ?_, fun j hj => ?_, by omega⟩
  · rw [liveL_succ hx, hl, ← h.tk, List.take_add_one, List.getElem?_set_self (by omega)]
    simp only [List.take_set]
    rw [List.set_eq_of_length_le (by simp; omega)]; rfl
  · rw [List.getElem?_set_ne (by omega)]; exact h.rest j (by omega)
theorem DropI.dead {E R : List Ent} {k n : Nat} (h : DropI E R k n) {x : Ent} (hx : E[k]? = some x) (hl : x.live = false) : DropI E R (k + 1) n := by
  have := h.nk
  exact ⟨h.len, by rw [liveL_succ hx, hl, h.tk]; simp, fun j hj => h.rest j (by omega), by omega⟩

set_option maxRecDepth 100000 in
set_option maxHeartbeats 2000000 in
theorem drop_any (t lo : Nat) (S : List Nat) (m : Value) (E : List Ent) (V : Nat → Int) (L lv bi ma tu : Nat) (w : World) (H : TabC t lo S m E V L lv bi ma tu w) (h0 : 0 < E.length) (hE1 : E.length ≤ 1000000) :
    Calls Try.prog 76 #[.pointer (some ⟨t, 0, none⟩)] w fun r w' => r = .returned (.tuple #[]) ∧ TabC t lo S m (liveL E) V L lv bi ma tu w' ∧ Keeps S w w' := by
  obtain ⟨a, c, cb, cr, h1, h2, h3', h4, h5, h6, h7, h8⟩ := H
  obtain ⟨g, rfl⟩ := h2.shape h0
  have e1 : w.cell? ⟨t, 1, none⟩ = some (.slice (some ⟨g, 0, none⟩) E.length c) := cell_has h1 (i := 1) rfl
  have hcap := h2.cap_le
  obtain ⟨n, hn⟩ := ex_hid E.length
  rw [← hn.out] at e1 hE1 hcap h0
  have hcap2 : (c : Int) ≤ 9223372036854775807 := by have := hcap.2; unfold maxLen at this; omega
  have gt : t ≠ g := by have := h2.notin h1 (by decide); simpa [blk] using this
  have HC := Lib.hid h3'
  have HE := Lib.hid h2
  have HB := Lib.hid h1
  have HS := Lib.hid (show t ∈ S ∧ cb ∈ S ∧ cr ∈ S ∧ g ∈ S ∧ ∀ y, y ∈ S → lo ≤ y ∧ y < w.heap.size from ⟨h4, h5, h6, h7 g (by simp [blk]), h8⟩)
  clear h1 h2 h3' h4 h5 h6 h7 h8
  go_enter Try.func76, Try.ntmps76
  go_wp2_with fail
  go_loopw [2, 10] (fun u i wr => ∃ k q R, k ≤ n ∧ i = .int .i64 (k : Nat) ∧ u = .int .i64 (q : Nat) ∧ DropI E R k q ∧ EntRow lo (some ⟨g, 0, none⟩) c R wr ∧ Keeps [g] w wr) (fun _ i _ => n - (intOf i).toNat)
  case atStart => exact ⟨0, 0, E, by omega, rfl, rfl, DropI.start E, HE.out, Keeps.refl _ _⟩
  case round =>
    obtain ⟨k, q, R, hk, rfl, rfl, hD, hR, hK⟩ := hrel
    have hk0 : (0 : Int) ≤ (k : Int) := by omega
    have hq0 : (0 : Int) ≤ (q : Int) := by omega
    have hqk := hD.nk
    have HD := Lib.hid hD
    have HR := Lib.hid hR
    have HK := Lib.hid hK
    by_cases hlt : k < n
    · have hlt' : (k : Int) < (n : Int) := by omega
      have hx : E[k]? = some E[k] := List.getElem?_eq_getElem (by rw [← hn.out]; exact hlt)
      obtain ⟨x, hxx⟩ : ∃ x, E[k]? = some x := ⟨_, hx⟩
      have hxR : R[k]? = some x := (hD.rest k (Nat.le_refl _)).trans hxx
      have q0 : wr.cell? ⟨g, k * 5, none⟩ = some (.bool x.live) := hR.cell hxR 0 (by omega)
      have q1 : wr.cell? ⟨g, k * 5 + 1, none⟩ = some (.int .i64 x.hash) := hR.cell hxR 1 (by omega)
      have q2 : wr.cell? ⟨g, k * 5 + 2, none⟩ = some (.int .i64 x.key) := hR.cell hxR 2 (by omega)
      have q3 : wr.cell? ⟨g, k * 5 + 3, none⟩ = some (.int .i64 x.val) := hR.cell hxR 3 (by omega)
      have q4 : wr.cell? ⟨g, k * 5 + 4, none⟩ = some (.int .i64 x.birth) := hR.cell hxR 4 (by omega)
      have y1 : wr.cell? ⟨t, 1, none⟩ = some (.slice (some ⟨g, 0, none⟩) n c) := hK.cell e1 (by simpa using gt)
      have HX := Lib.hid (And.intro hxx hxR)
      clear hx hxx hxR hD hR hK
      cases hlv : x.live
      · rw [hlv] at q0
        go_wp2_with fail
        go_roundw
        case rel => exact ⟨k + 1, q, R, by omega, by go_num, rfl, HD.out.dead HX.out.1 hlv, HR.out.keeps ((Keeps.refl [] wr).alloc _) (by simp), HK.out.alloc _⟩
        case measure => simp [intOf]; omega
      · rw [hlv] at q0
        have hc1 : (q : Int) + 1 ≤ (c : Int) := by omega
        have hc2 : (k : Int) + 1 ≤ (c : Int) := by omega
        have hc3 : (c : Int) ≤ 9223372036854775807 := hcap2
        have hw1 : IntKind.i64.wrap ((q : Int) + 1) = (q : Int) + 1 := by rw [IntKind.wrap_i64]; omega
        have hw2 : IntKind.i64.wrap ((k : Int) + 1) = (k : Int) + 1 := by rw [IntKind.wrap_i64]; omega
        have hl1 : (q : Int) ≤ (q : Int) + 1 := by omega
        have hl2 : (k : Int) ≤ (k : Int) + 1 := by omega
        go_wp2_with fail
        obtain ⟨W, hW⟩ : ∃ W, wr.alloc (.cells #[.bool true, .int .i64 x.hash, .int .i64 x.key, .int .i64 x.val, .int .i64 x.birth] 32) = W := ⟨_, rfl⟩
        have kW : Keeps [] wr W := by rw [← hW]; exact (Keeps.refl [] wr).alloc _
        rw [hW]
        have R2 := Lib.hid (HR.out.keeps kW (by simp))
        have K2 := Lib.hid (HK.out.then kW (by simp))
        have yW := kW.cell y1 (by simp)
        have hqR : q < R.length := by have := HD.out.len; have := hn.out; omega
        clear hW q0 q1 q2 q3 q4 y1 kW
        have hrun := run_copy_cellsS (P := Try.prog) W.drew 25 25 3 32 g (q * 5) 1 (c - q) ⟨g, k * 5, none⟩ 1 (c - k) 5 x.cells Try.underlying25 infoEnt rfl (fun j v hj => by have := R2.out.all_cells HX.out.2 j v hj; rw [show (⟨g, k * 5, none⟩ : Addr).add j = ⟨g, k * 5 + j, none⟩ by unfold Addr.add; split <;> simp_all]; exact this) (fun j hj => R2.out.some_cells hqR j hj) (fun j _ => R2.out.free _) x.one
        have L3 := EntRow.lay R2.out.drew hqR x
        obtain ⟨w3, hw3⟩ : ∃ w3, W.drew.setCells g (q * 5) x.cells = w3 := ⟨_, rfl⟩
        rw [hw3] at hrun L3
        have y3 := L3.2.cell (w := W.drew) yW (by simpa using gt)
        have R3 := Lib.hid L3.1
        have K3 := Lib.hid (K2.out.drew.trans L3.2)
        rw [show goInt (Nat.min 1 1) = Value.int .i64 1 from rfl] at hrun
        clear hw3 L3
        go_region_held3 (fun w' => w'.cell? ⟨t, 1, none⟩ = some (.slice (some ⟨g, 0, none⟩) n c)) (go_keep) (fail)
        go_wp2_with fail
        go_roundw
        case rel => exact ⟨k + 1, q + 1, R.set q x, by omega, by go_num, by go_num, HD.out.live HX.out.1 hlv, R3.out, K3.out⟩
        case measure => simp [intOf]; omega
    · obtain rfl : k = n := by omega
      have hge : ¬ (k : Int) < (k : Int) := by omega
      have y1 : wr.cell? ⟨t, 1, none⟩ = some (.slice (some ⟨g, 0, none⟩) k c) := hK.cell e1 (by simpa using gt)
      have htk : R.take q = liveL E := by have := hD.tk; rw [hn.out, List.take_length] at this; exact this
      have TK := Lib.hid htk
      have hlR : R.length = k := by rw [hD.len, hn.out]
      have hc1 : (q : Int) ≤ (k : Int) := by omega
      have hc2 : (q : Int) ≤ (c : Int) := by omega
      have h1 := hK.has HB.out (by simpa using gt)
      have f1 := free_of_has h1 1
      have H1 := Lib.hid h1
      clear htk hD hR hK h1
      have hlt2 : (R.take q).length = q := by simp; omega
      have fin : ∀ W, EntRow lo (some ⟨g, 0, none⟩) c (R.take q) W → Keeps [g] wr W → TabC t lo S m (liveL E) V L lv bi ma tu (W.setCell ⟨t, 1, none⟩ (.slice (some ⟨g, 0, none⟩) q c)) ∧ Keeps S w (W.setCell ⟨t, 1, none⟩ (.slice (some ⟨g, 0, none⟩) q c)) := by
        intro W hE hk
        obtain ⟨s1, s2, s3, s4, s5⟩ := HS.out
        have kk : Keeps [g] w W := HK.out.trans hk
        have kt : Keeps [t, g] w (W.setCell ⟨t, 1, none⟩ (.slice (some ⟨g, 0, none⟩) q c)) := (kk.mono (by simp)).setCell (.inr (by simp)) _
        have hot := HC.out.other HB.out
        have hne := HC.out.noent HE.out
        simp [blk] at hne
        have kt2 : Keeps [t] W (W.setCell ⟨t, 1, none⟩ (.slice (some ⟨g, 0, none⟩) q c)) := (Keeps.refl _ _).setCell (.inr (by simp)) _
        refine ⟨⟨some ⟨g, 0, none⟩, c, cb, cr, ?_, ?_, HC.out.keeps kt (by simp; exact ⟨hot.1, hne.1⟩) (by simp; exact ⟨hot.2, hne.2⟩), s1, s2, s3, by simpa [blk] using s4, fun y hy => ⟨(s5 y hy).1, Nat.lt_of_lt_of_le (s5 y hy).2 kt.size⟩⟩, kt.mono (by intro y hy; simp at hy; rcases hy with rfl | rfl <;> assumption)⟩
        · have h := has_setCell (kk.has HB.out (by simpa using gt)) 1 (.slice (some ⟨g, 0, none⟩) q c)
          rw [← TK.out, hlt2]
          exact h
        · rw [← TK.out]
          exact hE.keeps kt2 (by simp [blk]; exact fun h => gt h.symm)
      have FIN := Lib.hid fin
      have hz : ∀ (a : Option Addr) (cc : Nat), (Builtin.clear_ #[25] 0 #[.slice a 0 cc]).run Try.prog wr = .ok (.tuple #[]) wr := fun a cc => run_clear_zero wr _ _ _ a cc Try.underlying25
      clear fin
      by_cases hqk2 : q < k
      · have hc0 : q < c := by omega
        have hsome : ∀ j, j < (flatE (List.replicate (k - q) noE)).length → (wr.cell? ⟨g, q * 5 + j, none⟩).isSome = true := by
          intro j hj
          rw [flatE_len, List.length_replicate] at hj
          rw [World.ownsRow.cellAt HR.out (q * 5 + j) (by rw [hlR]; omega), List.getElem?_eq_getElem (by rw [flatE_len, hlR]; omega)]
          rfl
        have hone : ∀ v ∈ flatE (List.replicate (k - q) noE), v.oneCell' = true := by
          intro v hv
          simp only [flatE, List.mem_flatMap] at hv
          obtain ⟨x, _, hx2⟩ := hv
          exact x.one v hx2
        have hrun := run_clear_cellsS (P := Try.prog) wr 25 32 0 noE.agg (flatE (List.replicate (k - q) noE)) Try.underlying25 zeroEnt g (q * 5) (k - q) (c - q) (by omega) (zero_cells _) hone hsome (fun j _ => HR.out.free _)
        have hb := EntRow.beyond (HR.out.cut (n := q) (by omega)) (o := q * 5) (by rw [hlt2]; omega) (flatE (List.replicate (k - q) noE))
        obtain ⟨w3, hw3⟩ : ∃ w3, wr.setCells g (q * 5) (flatE (List.replicate (k - q) noE)) = w3 := ⟨_, rfl⟩
        rw [hw3] at hrun hb
        have hf := Lib.hid (FIN.out w3 hb.1 hb.2)
        have y3 := hb.2.cell y1 (by simpa using gt)
        have f3 : w3.frozen? ⟨t, 1, none⟩ = false := free_of_has (hb.2.has H1.out (by simpa using gt)) 1
        clear hz hb hw3 hsome hone
        go_wp2_with fail
        go_end0
        exact ⟨rfl, hf.out⟩
      · obtain rfl : q = k := by omega
        have hf := Lib.hid (FIN.out wr (HR.out.cut (n := q) (by omega)) (Keeps.refl _ _))
        by_cases hcq : c = q
        · subst hcq
          go_wp2_with fail
          go_end0
          exact ⟨rfl, hf.out⟩
        · have hc0 : q < c := by omega
          go_wp2_with fail
          go_end0
          exact ⟨rfl, hf.out⟩
end Go.Proofs.Ytajcbghhpjpmhaa
