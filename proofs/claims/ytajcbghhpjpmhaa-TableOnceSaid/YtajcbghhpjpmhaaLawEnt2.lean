/- number, live, sight (chapter 7's laws). -/
import Derived.Test.YtajcbghhpjpmhaaLawEnt
import Derived.Test.YtajcbghhpjpmhaaNumRow
namespace Go.Proofs.Ytajcbghhpjpmhaa
open Go.RowKit
set_option linter.unusedVariables false
set_option linter.unusedSimpArgs false

theorem field_ents (x0 x1 x4 x5 x6 : Int) (a b : Option Addr) (l c l' c' : Nat) (w : World) : (Instr.field 29 (.agg #[.int .i64 x0, .int .i64 x1, .slice a l c, .slice b l' c', .int .i64 x4, .int .i64 x5, .int .i64 x6]) 3).run Try.prog w = .ok (.slice b l' c') w := by kernel_rfl
theorem field_cells (x0 x1 x4 x5 x6 : Int) (a b : Option Addr) (l c l' c' : Nat) (w : World) : (Instr.field 29 (.agg #[.int .i64 x0, .int .i64 x1, .slice a l c, .slice b l' c', .int .i64 x4, .int .i64 x5, .int .i64 x6]) 2).run Try.prog w = .ok (.slice a l c) w := by kernel_rfl
theorem field_log (x0 x1 x4 x5 x6 : Int) (a b : Option Addr) (l c l' c' : Nat) (w : World) : (Instr.field 29 (.agg #[.int .i64 x0, .int .i64 x1, .slice a l c, .slice b l' c', .int .i64 x4, .int .i64 x5, .int .i64 x6]) 0).run Try.prog w = .ok (.int .i64 x0) w := by kernel_rfl
set_option maxRecDepth 100000 in
set_option maxHeartbeats 2000000 in
theorem number_any (t lo : Nat) (S : List Nat) (m : Value) (T : Tab) (w : World) (H : TabAt t lo S m T w) (hL : T.L ≤ 20) (hF : Fits (2 ^ T.L) T.V) (hl : T.E.length ≤ 1000000) (x : Ent) (n : Nat) (hn : T.E[n]? = some x) (hno : ∀ j, j < n → T.E[j]? ≠ some x) :
    Calls Try.prog 40 #[.pointer (some ⟨t, 0, none⟩), x.agg] w fun r w' => r = .returned (.tuple #[.int .i64 n, .bool true]) ∧ Keeps [] w w' := by
  have HH := Lib.hid H
  have HF := Lib.hid hF
  have HN := Lib.hid hn
  have HNO := Lib.hid hno
  have hnl := (List.getElem?_eq_some_iff.1 hn).1
  clear H hF hn hno
  go_enter Try.func40, Try.ntmps40
  unfold Ent.agg
  go_wp2_with fail
  have k0 : Keeps [] w (w.alloc (.cells #[.bool x.live, .int .i64 x.hash, .int .i64 x.key, .int .i64 x.val, .int .i64 x.birth] 32)) := (Keeps.refl [] w).alloc _
  have b0 : (w.alloc (.cells #[.bool x.live, .int .i64 x.hash, .int .i64 x.key, .int .i64 x.val, .int .i64 x.birth] 32)).heap[w.heap.size]? = some (.cells #[.bool x.live, .int .i64 x.hash, .int .i64 x.key, .int .i64 x.val, .int .i64 x.birth] 32 (0, 0)) := has_new _ _
  have K0 := Lib.hid k0
  have B0 := Lib.hid b0
  clear k0 b0
  refine (sight_any t lo S m T _ (HH.out.keeps K0.out (by simp)) hL HF.out hl).mono ?_
  rintro r w1 ⟨a, c, ae, ce, rfl, r1, r2, b1⟩
  have K1 := Lib.hid (K0.out.trans (Below.keeps b1 []))
  have B1 := Lib.hid ((Below.keeps b1 []).has B0.out (by simp))
  have R2 := Lib.hid r2
  clear r1 r2 b1 K0 B0
  unfold sightAgg
  obtain ⟨l, hl2⟩ := ex_hid T.E.length
  rw [← hl2.out] at hnl hl ⊢
  have hfd := field_ents
  go_wp2_with fail
  go_loopw [7] (fun i wr => ∃ k : Nat, k ≤ n ∧ i = .int .i64 k ∧ Keeps [] w1 wr) (fun i _ => l - (intOf i).toNat)
  case atStart => exact ⟨0, by omega, rfl, Keeps.refl _ _⟩
  case round =>
    obtain ⟨k, hk, rfl, hK⟩ := hrel
    have hk0 : (0 : Int) ≤ (k : Int) := by omega
    have hlt' : (k : Int) < (l : Int) := by omega
    obtain ⟨y, hy⟩ : ∃ y, T.E[k]? = some y := ⟨_, List.getElem?_eq_getElem (by rw [← hl2.out]; omega)⟩
    obtain ⟨g1, rfl⟩ := R2.out.shape (by rw [← hl2.out]; omega)
    obtain ⟨p0, p1, p2, p3, p4⟩ := (R2.out.keeps hK (by simp)).five hy
    have b2 := hK.has B1.out (by simp)
    have q0 : wr.cell? ⟨w.heap.size, 0, none⟩ = some (.bool x.live) := cell_has b2 (i := 0) rfl
    have q1 : wr.cell? ⟨w.heap.size, 1, none⟩ = some (.int .i64 x.hash) := cell_has b2 (i := 1) rfl
    have q2 : wr.cell? ⟨w.heap.size, 2, none⟩ = some (.int .i64 x.key) := cell_has b2 (i := 2) rfl
    have q3 : wr.cell? ⟨w.heap.size, 3, none⟩ = some (.int .i64 x.val) := cell_has b2 (i := 3) rfl
    have q4 : wr.cell? ⟨w.heap.size, 4, none⟩ = some (.int .i64 x.birth) := cell_has b2 (i := 4) rfl
    have HK := Lib.hid (K1.out.trans hK)
    have HK1 := Lib.hid hK
    have hq := fun w => eql_ent y x w
    simp only [Ent.agg] at hq
    clear hK b2
    by_cases hyx : y = x
    · subst hyx
      have hkn : k = n := by
        rcases Nat.lt_or_ge k n with h9 | h9
        · exact absurd hy (HNO.out k h9)
        · omega
      subst hkn
      simp only [decide_true] at hq
      clear hy
      go_wp2_with fail
      go_region_held3 (fun w' => w'.cell? ⟨g1, k * 5, none⟩ = some (.bool y.live) ∧ w'.cell? ⟨g1, k * 5 + 1, none⟩ = some (.int .i64 y.hash) ∧ w'.cell? ⟨g1, k * 5 + 2, none⟩ = some (.int .i64 y.key) ∧ w'.cell? ⟨g1, k * 5 + 3, none⟩ = some (.int .i64 y.val) ∧ w'.cell? ⟨g1, k * 5 + 4, none⟩ = some (.int .i64 y.birth) ∧ w'.cell? ⟨w.heap.size, 0, none⟩ = some (.bool y.live) ∧ w'.cell? ⟨w.heap.size, 1, none⟩ = some (.int .i64 y.hash) ∧ w'.cell? ⟨w.heap.size, 2, none⟩ = some (.int .i64 y.key) ∧ w'.cell? ⟨w.heap.size, 3, none⟩ = some (.int .i64 y.val) ∧ w'.cell? ⟨w.heap.size, 4, none⟩ = some (.int .i64 y.birth)) (go_keep) (fail)
      go_wp2_with fail
      go_ret2
      exact ⟨rfl, HK.out.drew⟩
    · have hkn : k < n := by
        rcases Nat.lt_or_ge k n with h9 | h9
        · exact h9
        · obtain rfl : k = n := by omega
          rw [HN.out] at hy
          exact absurd (by simpa using hy.symm) hyx
      simp only [hyx, decide_false] at hq
      clear hy
      go_wp2_with fail
      go_region_held3 (fun w' => w'.cell? ⟨g1, k * 5, none⟩ = some (.bool y.live) ∧ w'.cell? ⟨g1, k * 5 + 1, none⟩ = some (.int .i64 y.hash) ∧ w'.cell? ⟨g1, k * 5 + 2, none⟩ = some (.int .i64 y.key) ∧ w'.cell? ⟨g1, k * 5 + 3, none⟩ = some (.int .i64 y.val) ∧ w'.cell? ⟨g1, k * 5 + 4, none⟩ = some (.int .i64 y.birth) ∧ w'.cell? ⟨w.heap.size, 0, none⟩ = some (.bool x.live) ∧ w'.cell? ⟨w.heap.size, 1, none⟩ = some (.int .i64 x.hash) ∧ w'.cell? ⟨w.heap.size, 2, none⟩ = some (.int .i64 x.key) ∧ w'.cell? ⟨w.heap.size, 3, none⟩ = some (.int .i64 x.val) ∧ w'.cell? ⟨w.heap.size, 4, none⟩ = some (.int .i64 x.birth)) (go_keep) (fail)
      go_wp2_with fail
      go_roundw
      case rel => exact ⟨k + 1, by omega, by go_num, HK1.out.drew⟩
      case measure => simp [intOf]; omega
set_option maxRecDepth 100000 in
set_option maxHeartbeats 2000000 in
theorem live_any (lo c : Nat) (a : Option Addr) (E : List Ent) (w : World) (h : EntRow lo a c E w) (hl : E.length ≤ 1000000) :
    Calls Try.prog 19 #[.slice a E.length c] w fun r w' => ∃ a' c', r = .returned (.slice a' (liveN E) c') ∧ EntRow w.heap.size a' c' (liveL E) w' ∧ Keeps [] w w' := by
  have H := Lib.hid h
  obtain ⟨n, hn⟩ := ex_hid E.length
  rw [← hn.out] at hl ⊢
  clear h
  go_enter Try.func19, Try.ntmps19
  go_wp2_with fail
  go_loopw [3, 4] (fun l i wr => ∃ (k : Nat) (b : Option Addr) (cc : Nat), k ≤ n ∧ i = .int .i64 k ∧ l = .slice b (liveL (E.take k)).length cc ∧ EntRow w.heap.size b cc (liveL (E.take k)) wr ∧ Keeps [] w wr) (fun _ i _ => n - (intOf i).toNat)
  case atStart => exact ⟨0, none, 0, by omega, rfl, by simp [liveL], by simpa [liveL] using EntRow.nil _ _, Keeps.refl _ _⟩
  case round =>
    obtain ⟨k, b, cc, hk, rfl, rfl, hR, hK⟩ := hrel
    have hk0 : (0 : Int) ≤ (k : Int) := by omega
    have HR := Lib.hid hR
    have HK := Lib.hid hK
    by_cases hlt : k < n
    · have hlt' : (k : Int) < (n : Int) := by omega
      obtain ⟨x, hx⟩ : ∃ x, E[k]? = some x := ⟨_, List.getElem?_eq_getElem (by rw [← hn.out]; exact hlt)⟩
      obtain ⟨g, rfl⟩ := H.out.shape (by rw [← hn.out]; omega)
      obtain ⟨q0, q1, q2, q3, q4⟩ := (H.out.keeps hK (by simp)).five hx
      have HX := Lib.hid hx
      cases hlv : x.live
      · rw [hlv] at q0
        clear hR hK hx
        go_wp2_with fail
        go_roundw
        case rel =>
          refine ⟨k + 1, b, cc, by omega, by go_num, ?_, ?_, HK.out⟩
          · rw [liveL_succ HX.out, hlv]; simp
          · rw [liveL_succ HX.out, hlv]; simpa using HR.out
        case measure => simp [intOf]; omega
      · rw [hlv] at q0
        have k2 : Keeps [] wr (wr.alloc (.cells #[.bool true, .int .i64 x.hash, .int .i64 x.key, .int .i64 x.val, .int .i64 x.birth] 32)) := (Keeps.refl [] wr).alloc _
        obtain ⟨g2, cap, w3, hrun, r1, r2, r3, r4⟩ := ent_append w.heap.size b cc (liveL (E.take k)) x _ wr.heap.size (hR.keeps k2 (by simp)) (by rw [hlv]; exact has_new _ _) (by rw [liveL_len]; have := liveN_le (E.take k); simp at this; omega) (by have := hK.size; have := k2.size; omega)
        have R3 := Lib.hid r1
        have K3 := Lib.hid ((hK.trans k2).then r2 (by intro y hy; exact .inl (hR.blk_lt y hy).1))
        have q5 := hlv
        have HRun := Lib.hid hrun
        clear hR hK hx k2 r1 r2 r3 r4 hlv hrun
        go_wp2_with (at_builtin; refine wpList_append_run rfl _ _ 25 rfl _ _ rfl rfl _ _ HRun.out ?_)
        go_roundw
        case rel =>
          refine ⟨k + 1, some ⟨g2, 0, none⟩, cap, by omega, by go_num, ?_, ?_, K3.out⟩
          · rw [liveL_succ HX.out, q5]; simp
          · rw [liveL_succ HX.out, q5]; exact R3.out
        case measure => simp [intOf]; omega
    · obtain rfl : k = n := by omega
      have hge : ¬ (k : Int) < (k : Int) := by omega
      have hall : liveL (E.take k) = liveL E := by rw [hn.out, List.take_length]
      have HR2 : Hid (EntRow w.heap.size b cc (liveL E) wr) := Lib.hid (by rw [← hall]; exact HR.out)
      rw [hall, liveL_len]
      clear hR hK HR
      go_wp2_with fail
      go_ret
      exact ⟨b, cc, rfl, HR2.out, HK.out⟩
end Go.Proofs.Ytajcbghhpjpmhaa
