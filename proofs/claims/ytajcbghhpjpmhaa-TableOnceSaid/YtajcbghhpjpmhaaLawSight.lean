/- Two equal sights (chapter 7's laws). -/
import Derived.Test.YtajcbghhpjpmhaaLawEnt2
namespace Go.Proofs.Ytajcbghhpjpmhaa
open Go.RowKit
set_option linter.unusedVariables false
set_option linter.unusedSimpArgs false

set_option maxRecDepth 100000 in
set_option maxHeartbeats 4000000 in
theorem sight_same (T : Tab) (lo1 lo2 lo3 lo4 c1 c2 ce1 ce2 : Nat) (a1 a2 ae1 ae2 : Option Addr) (w : World) (r1 : ValRow 3 lo1 a1 (2 ^ T.L) c1 (fun k => .int .i64 (T.V k)) w) (r2 : ValRow 3 lo2 a2 (2 ^ T.L) c2 (fun k => .int .i64 (T.V k)) w)
    (h1 : EntRow lo3 ae1 ce1 T.E w) (h2 : EntRow lo4 ae2 ce2 T.E w) (hL : T.L ≤ 20) (hl : T.E.length ≤ 1000000) :
    Calls Try.prog 16 #[sightAgg T (.slice a1 (2 ^ T.L) c1) (.slice ae1 T.E.length ce1), sightAgg T (.slice a2 (2 ^ T.L) c2) (.slice ae2 T.E.length ce2)] w fun r w' => r = .returned (.bool true) ∧ Keeps [] w w' := by
  have R1 := Lib.hid r1
  have R2 := Lib.hid r2
  have H1 := Lib.hid h1
  have H2 := Lib.hid h2
  have hn1 := pow_le hL
  have hp := pow_pos T.L
  obtain ⟨n, hn⟩ := ex_hid (2 ^ T.L)
  obtain ⟨l, hl2⟩ := ex_hid T.E.length
  obtain ⟨g1, rfl⟩ := r1.shape hp
  obtain ⟨g2, rfl⟩ := r2.shape hp
  unfold sightAgg
  rw [← hl2.out] at hl ⊢
  rw [← hn.out] at hn1 hp ⊢
  clear r1 r2 h1 h2
  go_enter Try.func16, Try.ntmps16
  go_wp2_with fail
  obtain ⟨W, hW⟩ : ∃ W, ((w.alloc (.cells #[.int .i64 T.L, .int .i64 (wdOf T.L), .slice (some ⟨g1, 0, none⟩) n c1, .slice ae1 l ce1, .int .i64 (liveN T.E : Nat), .int .i64 T.births, .int .i64 T.made] 29)).alloc (.cells #[.int .i64 T.L, .int .i64 (wdOf T.L), .slice (some ⟨g2, 0, none⟩) n c2, .slice ae2 l ce2, .int .i64 (liveN T.E : Nat), .int .i64 T.births, .int .i64 T.made] 29)) = W := ⟨_, rfl⟩
  have kW : Keeps [] w W := by rw [← hW]; exact ((Keeps.refl [] w).alloc _).alloc _
  have b1 : W.heap[w.heap.size]? = some (.cells #[.int .i64 T.L, .int .i64 (wdOf T.L), .slice (some ⟨g1, 0, none⟩) n c1, .slice ae1 l ce1, .int .i64 (liveN T.E : Nat), .int .i64 T.births, .int .i64 T.made] 29 (0, 0)) := by rw [← hW]; exact has_alloc (has_new _ _) _
  have b2 : W.heap[w.heap.size + 1]? = some (.cells #[.int .i64 T.L, .int .i64 (wdOf T.L), .slice (some ⟨g2, 0, none⟩) n c2, .slice ae2 l ce2, .int .i64 (liveN T.E : Nat), .int .i64 T.births, .int .i64 T.made] 29 (0, 0)) := by rw [← hW]; exact has_new' _ _ (by simp)
  rw [hW]
  have KW := Lib.hid kW
  have B1 := Lib.hid b1
  have B2 := Lib.hid b2
  clear hW kW b1 b2
  go_loopw [5] (fun i wr => ∃ k : Nat, k ≤ n ∧ i = .int .i64 k ∧ Keeps [] W wr) (fun i _ => n - (intOf i).toNat)
  case atStart => exact ⟨0, by omega, rfl, Keeps.refl _ _⟩
  case round =>
    obtain ⟨k, hk, rfl, hK⟩ := hrel
    have hk0 : (0 : Int) ≤ (k : Int) := by omega
    have HK := Lib.hid hK
    have b1 := hK.has B1.out (by simp)
    have b2 := hK.has B2.out (by simp)
    have x2 : wr.cell? ⟨w.heap.size, 2, none⟩ = some (.slice (some ⟨g1, 0, none⟩) n c1) := cell_has b1 (i := 2) rfl
    have y2 : wr.cell? ⟨w.heap.size + 1, 2, none⟩ = some (.slice (some ⟨g2, 0, none⟩) n c2) := cell_has b2 (i := 2) rfl
    have x3 : wr.cell? ⟨w.heap.size, 3, none⟩ = some (.slice ae1 l ce1) := cell_has b1 (i := 3) rfl
    have y3 : wr.cell? ⟨w.heap.size + 1, 3, none⟩ = some (.slice ae2 l ce2) := cell_has b2 (i := 3) rfl
    clear b1 b2
    by_cases hlt : k < n
    · have hlt' : (k : Int) < (n : Int) := by omega
      have hkk : k < 2 ^ T.L := by rw [← hn.out]; exact hlt
      have p0 := (R1.out.keeps (KW.out.trans hK) (by simp)).cell hkk
      have q0 := (R2.out.keeps (KW.out.trans hK) (by simp)).cell hkk
      obtain ⟨v, hv⟩ := ex_hid (T.V k)
      rw [← hv.out] at p0 q0
      clear hK
      go_wp2_with fail
      go_region_held3 (fun w' => w'.cell? ⟨w.heap.size, 2, none⟩ = some (.slice (some ⟨g1, 0, none⟩) n c1) ∧ w'.cell? ⟨w.heap.size + 1, 2, none⟩ = some (.slice (some ⟨g2, 0, none⟩) n c2) ∧ w'.cell? ⟨g1, k, none⟩ = some (.int .i64 v) ∧ w'.cell? ⟨g2, k, none⟩ = some (.int .i64 v)) (go_keep) (fail)
      go_wp2_with fail
      go_roundw
      case rel => exact ⟨k + 1, by omega, by go_num, HK.out.drew⟩
      case measure => simp [intOf]; omega
    · obtain rfl : k = n := by omega
      have hge : ¬ (k : Int) < (k : Int) := by omega
      clear hK
      go_wp2_with fail
      rw [hl2.out]
      refine (entries_same lo3 lo4 ce1 ce2 ae1 ae2 T.E _ (H1.out.keeps (KW.out.trans HK.out) (by simp)) (H2.out.keeps (KW.out.trans HK.out) (by simp)) (by rw [← hl2.out]; exact hl)).mono ?_
      rintro r w2 ⟨rfl, k2⟩
      have K2 := Lib.hid k2
      clear k2
      go_wp2_with fail
      go_ret
      exact ⟨rfl, (KW.out.trans HK.out).trans K2.out⟩
end Go.Proofs.Ytajcbghhpjpmhaa
