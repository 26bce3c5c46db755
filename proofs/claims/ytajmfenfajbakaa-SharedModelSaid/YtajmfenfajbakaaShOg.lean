/- The looks of chapter 10's laws: two sights, two lists of pairs, a script's size. -/
import Derived.Test.YtajmfenfajbakaaShOe
import Derived.Test.YtajmfenfajbakaaShR
namespace Go.Proofs.Ytajmfenfajbakaa
open Go.RowKit
set_option linter.unusedVariables false
set_option linter.unusedSimpArgs false

set_option maxRecDepth 100000 in
set_option maxHeartbeats 4000000 in
theorem sight10_same (T : Tab) (lo1 lo2 lo3 lo4 c1 c2 ce1 ce2 : Nat) (a1 a2 ae1 ae2 : Option Addr) (w : World) (r1 : ValRow 3 lo1 a1 (2 ^ T.L) c1 (fun k => .int .i64 (T.V k)) w) (r2 : ValRow 3 lo2 a2 (2 ^ T.L) c2 (fun k => .int .i64 (T.V k)) w)
    (h1 : EntRow lo3 ae1 ce1 T.E w) (h2 : EntRow lo4 ae2 ce2 T.E w) (hL : T.L ≤ 20) (hl : T.E.length ≤ 1000000) :
    Calls Try.prog 20 #[sightAgg T (.slice a1 (2 ^ T.L) c1) (.slice ae1 T.E.length ce1), sightAgg T (.slice a2 (2 ^ T.L) c2) (.slice ae2 T.E.length ce2)] w fun r w' => r = .returned (.bool true) ∧ Keeps [] w w' := by
  have R1 := Lib.hid r1
  have R2 := Lib.hid r2
  have H1 := Lib.hid h1
  have H2 := Lib.hid h2
  have hn1 := pow_le hL
  have hp := pow_pos T.L
  obtain ⟨n, hn⟩ := ex_hid (2 ^ T.L)
  obtain ⟨l, hl2⟩ := ex_hid T.E.length
  obtain ⟨g1, rfl⟩ := r1.shape hp
  obtain ⟨g2, rfl⟩ := r2.shape hp
  unfold sightAgg
  rw [← hl2.out] at hl ⊢
  rw [← hn.out] at hn1 hp ⊢
  obtain ⟨z1, hz1⟩ := ex_hid (wdOf T.L)
  obtain ⟨z2, hz2⟩ := ex_hid (liveN T.E)
  rw [← hz1.out, ← hz2.out]
  clear r1 r2 h1 h2
  go_enter Try.func20, Try.ntmps20
  go_upto_region 1 with (fail)
  obtain ⟨W, hW⟩ : ∃ W, ((w.alloc (.cells #[.int .i64 T.L, .int .i64 z1, .slice (some ⟨g1, 0, none⟩) n c1, .slice ae1 l ce1, .int .i64 z2, .int .i64 T.births, .int .i64 T.made] 53)).alloc (.cells #[.int .i64 T.L, .int .i64 z1, .slice (some ⟨g2, 0, none⟩) n c2, .slice ae2 l ce2, .int .i64 z2, .int .i64 T.births, .int .i64 T.made] 53)) = W := ⟨_, rfl⟩
  have kW : Keeps [] w W := by rw [← hW]; exact ((Keeps.refl [] w).alloc _).alloc _
  have b1 : W.heap[w.heap.size]? = some (.cells #[.int .i64 T.L, .int .i64 z1, .slice (some ⟨g1, 0, none⟩) n c1, .slice ae1 l ce1, .int .i64 z2, .int .i64 T.births, .int .i64 T.made] 53 (0, 0)) := by rw [← hW]; exact has_alloc (has_new _ _) _
  have b2 : W.heap[w.heap.size + 1]? = some (.cells #[.int .i64 T.L, .int .i64 z1, .slice (some ⟨g2, 0, none⟩) n c2, .slice ae2 l ce2, .int .i64 z2, .int .i64 T.births, .int .i64 T.made] 53 (0, 0)) := by rw [← hW]; exact has_new' _ _ (by simp)
  rw [hW]
  have KW := Lib.hid kW
  have B1 := Lib.hid b1
  have B2 := Lib.hid b2
  have x0 : W.cell? ⟨w.heap.size, 0, none⟩ = some (.int .i64 T.L) := cell_has b1 (i := 0) rfl
  have y0 : W.cell? ⟨w.heap.size + 1, 0, none⟩ = some (.int .i64 T.L) := cell_has b2 (i := 0) rfl
  have x1 : W.cell? ⟨w.heap.size, 1, none⟩ = some (.int .i64 z1) := cell_has b1 (i := 1) rfl
  have y1 : W.cell? ⟨w.heap.size + 1, 1, none⟩ = some (.int .i64 z1) := cell_has b2 (i := 1) rfl
  have x2 : W.cell? ⟨w.heap.size, 2, none⟩ = some (.slice (some ⟨g1, 0, none⟩) n c1) := cell_has b1 (i := 2) rfl
  have y2 : W.cell? ⟨w.heap.size + 1, 2, none⟩ = some (.slice (some ⟨g2, 0, none⟩) n c2) := cell_has b2 (i := 2) rfl
  have x3 : W.cell? ⟨w.heap.size, 3, none⟩ = some (.slice ae1 l ce1) := cell_has b1 (i := 3) rfl
  have y3 : W.cell? ⟨w.heap.size + 1, 3, none⟩ = some (.slice ae2 l ce2) := cell_has b2 (i := 3) rfl
  have x4 : W.cell? ⟨w.heap.size, 4, none⟩ = some (.int .i64 z2) := cell_has b1 (i := 4) rfl
  have y4 : W.cell? ⟨w.heap.size + 1, 4, none⟩ = some (.int .i64 z2) := cell_has b2 (i := 4) rfl
  have x5 : W.cell? ⟨w.heap.size, 5, none⟩ = some (.int .i64 T.births) := cell_has b1 (i := 5) rfl
  have y5 : W.cell? ⟨w.heap.size + 1, 5, none⟩ = some (.int .i64 T.births) := cell_has b2 (i := 5) rfl
  have x6 : W.cell? ⟨w.heap.size, 6, none⟩ = some (.int .i64 T.made) := cell_has b1 (i := 6) rfl
  have y6 : W.cell? ⟨w.heap.size + 1, 6, none⟩ = some (.int .i64 T.made) := cell_has b2 (i := 6) rfl
  clear hW kW b1 b2
  go_wp2_with fail
  clear x0 y0 x1 y1 x2 y2 x3 y3 x4 y4 x5 y5 x6 y6
  go_loopw [5] (fun i wr => ∃ k : Nat, k ≤ n ∧ i = .int .i64 k ∧ Keeps [] W wr) (fun i _ => n - (intOf i).toNat)
  case atStart => exact ⟨0, by omega, rfl, Keeps.refl _ _⟩
  case round =>
    obtain ⟨k, hk, rfl, hK⟩ := hrel
    have hk0 : (0 : Int) ≤ (k : Int) := by omega
    have HK := Lib.hid hK
    have b1 := hK.has B1.out (by simp)
    have b2 := hK.has B2.out (by simp)
    have x2 : wr.cell? ⟨w.heap.size, 2, none⟩ = some (.slice (some ⟨g1, 0, none⟩) n c1) := cell_has b1 (i := 2) rfl
    have y2 : wr.cell? ⟨w.heap.size + 1, 2, none⟩ = some (.slice (some ⟨g2, 0, none⟩) n c2) := cell_has b2 (i := 2) rfl
    clear b1 b2
    by_cases hlt : k < n
    · have hlt' : (k : Int) < (n : Int) := by omega
      have hkk : k < 2 ^ T.L := by rw [← hn.out]; exact hlt
      have p0 := (R1.out.keeps (KW.out.trans hK) (by simp)).cell hkk
      have q0 := (R2.out.keeps (KW.out.trans hK) (by simp)).cell hkk
      obtain ⟨v, hv⟩ := ex_hid (T.V k)
      rw [← hv.out] at p0 q0
      clear hK
      go_wp2_with fail
      go_region_held3 (fun w' => w'.cell? ⟨w.heap.size, 2, none⟩ = some (.slice (some ⟨g1, 0, none⟩) n c1) ∧ w'.cell? ⟨w.heap.size + 1, 2, none⟩ = some (.slice (some ⟨g2, 0, none⟩) n c2) ∧ w'.cell? ⟨g1, k, none⟩ = some (.int .i64 v) ∧ w'.cell? ⟨g2, k, none⟩ = some (.int .i64 v)) (go_keep) (fail)
      go_wp2_with fail
      go_roundw
      case rel => exact ⟨k + 1, by omega, by go_num, HK.out.drew⟩
      case measure => simp [intOf]; omega
    · obtain rfl : k = n := by omega
      have hge : ¬ (k : Int) < (k : Int) := by omega
      clear hK
      obtain ⟨WU, hWU⟩ : ∃ W, W = wr := ⟨_, rfl⟩
      rw [← hWU] at HK x2 y2 ⊢
      clear hWU
      go_wp2_with fail
      clear x2 y2
      go_loopw [6] (fun i wr => ∃ k : Nat, k ≤ l ∧ i = .int .i64 k ∧ Keeps [] W wr) (fun i _ => l - (intOf i).toNat)
      case atStart => exact ⟨0, by omega, rfl, HK.out⟩
      case round =>
        obtain ⟨j, hj, rfl, hJ⟩ := hrel
        have hj0 : (0 : Int) ≤ (j : Int) := by omega
        have HJ := Lib.hid hJ
        have b1 := hJ.has B1.out (by simp)
        have b2 := hJ.has B2.out (by simp)
        have x3 : wr.cell? ⟨w.heap.size, 3, none⟩ = some (.slice ae1 l ce1) := cell_has b1 (i := 3) rfl
        have y3 : wr.cell? ⟨w.heap.size + 1, 3, none⟩ = some (.slice ae2 l ce2) := cell_has b2 (i := 3) rfl
        clear b1 b2
        by_cases hlt : j < l
        · have hlt' : (j : Int) < (l : Int) := by omega
          obtain ⟨x, hx⟩ : ∃ x, T.E[j]? = some x := ⟨_, List.getElem?_eq_getElem (by rw [← hl2.out]; exact hlt)⟩
          obtain ⟨g3, rfl⟩ := H1.out.shape (by rw [← hl2.out]; omega)
          obtain ⟨g4, rfl⟩ := H2.out.shape (by rw [← hl2.out]; omega)
          obtain ⟨p0, p1, p2, p3, p4⟩ := (H1.out.keeps (KW.out.trans hJ) (by simp)).five hx
          obtain ⟨q0, q1, q2, q3, q4⟩ := (H2.out.keeps (KW.out.trans hJ) (by simp)).five hx
          have hq := fun w => neq_ent x x w
          simp only [decide_true, Bool.not_true, Ent.agg] at hq
          clear hJ hx
          go_wp2_with fail
          go_region_held3 (fun w' => w'.cell? ⟨w.heap.size, 3, none⟩ = some (.slice (some ⟨g3, 0, none⟩) l ce1) ∧ w'.cell? ⟨w.heap.size + 1, 3, none⟩ = some (.slice (some ⟨g4, 0, none⟩) l ce2) ∧ w'.cell? ⟨g3, j * 5, none⟩ = some (.bool x.live) ∧ w'.cell? ⟨g3, j * 5 + 1, none⟩ = some (.int .i64 x.hash) ∧ w'.cell? ⟨g3, j * 5 + 2, none⟩ = some (.int .i64 x.key) ∧ w'.cell? ⟨g3, j * 5 + 3, none⟩ = some (.int .i64 x.val) ∧ w'.cell? ⟨g3, j * 5 + 4, none⟩ = some (.int .i64 x.birth) ∧ w'.cell? ⟨g4, j * 5, none⟩ = some (.bool x.live) ∧ w'.cell? ⟨g4, j * 5 + 1, none⟩ = some (.int .i64 x.hash) ∧ w'.cell? ⟨g4, j * 5 + 2, none⟩ = some (.int .i64 x.key) ∧ w'.cell? ⟨g4, j * 5 + 3, none⟩ = some (.int .i64 x.val) ∧ w'.cell? ⟨g4, j * 5 + 4, none⟩ = some (.int .i64 x.birth)) (go_keep) (fail)
          go_wp2_with fail
          go_roundw
          case rel => exact ⟨j + 1, by omega, by go_num, HJ.out.drew⟩
          case measure => simp [intOf]; omega
        · obtain rfl : j = l := by omega
          have hge : ¬ (j : Int) < (j : Int) := by omega
          clear hJ
          go_wp2_with fail
          go_ret
          exact ⟨rfl, KW.out.trans HJ.out⟩
set_option maxRecDepth 100000 in
set_option maxHeartbeats 4000000 in
theorem sight10_zero (w : World) :
    Calls Try.prog 20 #[noSight, noSight] w fun r w' => r = .returned (.bool true) ∧ Keeps [] w w' := by
  unfold noSight
  go_enter Try.func20, Try.ntmps20
  go_upto_region 1 with (fail)
  obtain ⟨W, hW⟩ : ∃ W, (w.alloc (.cells #[.int .i64 0, .int .i64 0, .slice none 0 0, .slice none 0 0, .int .i64 0, .int .i64 0, .int .i64 0] 53)).alloc (.cells #[.int .i64 0, .int .i64 0, .slice none 0 0, .slice none 0 0, .int .i64 0, .int .i64 0, .int .i64 0] 53) = W := ⟨_, rfl⟩
  have kW : Keeps [] w W := by rw [← hW]; exact ((Keeps.refl [] w).alloc _).alloc _
  have b1 : W.heap[w.heap.size]? = some (.cells #[.int .i64 0, .int .i64 0, .slice none 0 0, .slice none 0 0, .int .i64 0, .int .i64 0, .int .i64 0] 53 (0, 0)) := by rw [← hW]; exact has_alloc (has_new _ _) _
  have b2 : W.heap[w.heap.size + 1]? = some (.cells #[.int .i64 0, .int .i64 0, .slice none 0 0, .slice none 0 0, .int .i64 0, .int .i64 0, .int .i64 0] 53 (0, 0)) := by rw [← hW]; exact has_new' _ _ (by simp)
  rw [hW]
  have KW := Lib.hid kW
  have B1 := Lib.hid b1
  have B2 := Lib.hid b2
  have x0 : W.cell? ⟨w.heap.size, 0, none⟩ = some (.int .i64 0) := cell_has b1 (i := 0) rfl
  have y0 : W.cell? ⟨w.heap.size + 1, 0, none⟩ = some (.int .i64 0) := cell_has b2 (i := 0) rfl
  have x1 : W.cell? ⟨w.heap.size, 1, none⟩ = some (.int .i64 0) := cell_has b1 (i := 1) rfl
  have y1 : W.cell? ⟨w.heap.size + 1, 1, none⟩ = some (.int .i64 0) := cell_has b2 (i := 1) rfl
  have x2 : W.cell? ⟨w.heap.size, 2, none⟩ = some (.slice none 0 0) := cell_has b1 (i := 2) rfl
  have y2 : W.cell? ⟨w.heap.size + 1, 2, none⟩ = some (.slice none 0 0) := cell_has b2 (i := 2) rfl
  have x3 : W.cell? ⟨w.heap.size, 3, none⟩ = some (.slice none 0 0) := cell_has b1 (i := 3) rfl
  have y3 : W.cell? ⟨w.heap.size + 1, 3, none⟩ = some (.slice none 0 0) := cell_has b2 (i := 3) rfl
  have x4 : W.cell? ⟨w.heap.size, 4, none⟩ = some (.int .i64 0) := cell_has b1 (i := 4) rfl
  have y4 : W.cell? ⟨w.heap.size + 1, 4, none⟩ = some (.int .i64 0) := cell_has b2 (i := 4) rfl
  have x5 : W.cell? ⟨w.heap.size, 5, none⟩ = some (.int .i64 0) := cell_has b1 (i := 5) rfl
  have y5 : W.cell? ⟨w.heap.size + 1, 5, none⟩ = some (.int .i64 0) := cell_has b2 (i := 5) rfl
  have x6 : W.cell? ⟨w.heap.size, 6, none⟩ = some (.int .i64 0) := cell_has b1 (i := 6) rfl
  have y6 : W.cell? ⟨w.heap.size + 1, 6, none⟩ = some (.int .i64 0) := cell_has b2 (i := 6) rfl
  clear hW kW b1 b2
  go_wp2_with fail
  go_loopw [5] (fun i wr => i = .int .i64 0 ∧ W = wr) (fun _ _ => 0)
  case atStart => exact ⟨rfl, rfl⟩
  case round =>
    obtain ⟨rfl, rfl⟩ := hrel
    go_wp2_with fail
    go_loopw [6] (fun i wr => i = .int .i64 0 ∧ W = wr) (fun _ _ => 0)
    case atStart => exact ⟨rfl, rfl⟩
    case round =>
      obtain ⟨rfl, rfl⟩ := hrel
      go_wp2_with fail
      go_ret
      exact ⟨rfl, KW.out⟩
theorem neq_pair10 (x : Pr10) (w : World) : (binOp .neq 56 (.agg #[.string x.1, .int .i64 x.2]) (.agg #[.string x.1, .int .i64 x.2])).run Try.prog w = .ok (.bool false) w := by
  simp [go_sem]
set_option maxRecDepth 100000 in
set_option maxHeartbeats 4000000 in
theorem pairs10_same (lo1 lo2 c1 c2 : Nat) (a1 a2 : Option Addr) (P : List Pr10) (w : World) (h1 : PairRow lo1 a1 c1 P w) (h2 : PairRow lo2 a2 c2 P w) (hl : P.length ≤ 1000000) :
    Calls Try.prog 19 #[.slice a1 P.length c1, .slice a2 P.length c2] w fun r w' => r = .returned (.bool true) ∧ Keeps [] w w' := by
  have H1 := Lib.hid h1
  have H2 := Lib.hid h2
  obtain ⟨n, hn⟩ := ex_hid P.length
  rw [← hn.out] at hl ⊢
  clear h1 h2
  go_enter Try.func19, Try.ntmps19
  go_wp2_with fail
  go_loopw [5] (fun i wr => ∃ k : Nat, k ≤ n ∧ i = .int .i64 k ∧ Keeps [] w wr) (fun i _ => n - (intOf i).toNat)
  case atStart => exact ⟨0, by omega, rfl, Keeps.refl _ _⟩
  case round =>
    obtain ⟨k, hk, rfl, hK⟩ := hrel
    have hk0 : (0 : Int) ≤ (k : Int) := by omega
    have HK := Lib.hid hK
    by_cases hlt : k < n
    · have hlt' : (k : Int) < (n : Int) := by omega
      obtain ⟨x, hx⟩ : ∃ x, P[k]? = some x := ⟨_, List.getElem?_eq_getElem (by rw [← hn.out]; exact hlt)⟩
      obtain ⟨g1, rfl⟩ := PairRow.shape H1.out (by rw [← hn.out]; omega)
      obtain ⟨g2, rfl⟩ := PairRow.shape H2.out (by rw [← hn.out]; omega)
      have p0 : wr.cell? ⟨g1, k * 2, none⟩ = some (.string x.1) := (PairRow.keeps H1.out hK (by simp)).cell hx 0 (by omega)
      have p1 : wr.cell? ⟨g1, k * 2 + 1, none⟩ = some (.int .i64 x.2) := (PairRow.keeps H1.out hK (by simp)).cell hx 1 (by omega)
      have q0 : wr.cell? ⟨g2, k * 2, none⟩ = some (.string x.1) := (PairRow.keeps H2.out hK (by simp)).cell hx 0 (by omega)
      have q1 : wr.cell? ⟨g2, k * 2 + 1, none⟩ = some (.int .i64 x.2) := (PairRow.keeps H2.out hK (by simp)).cell hx 1 (by omega)
      have hq := fun w => neq_pair10 x w
      obtain ⟨s, hs⟩ := ex_hid x.1
      obtain ⟨v, hv⟩ := ex_hid x.2
      rw [← hs.out] at p0 q0
      rw [← hv.out] at p1 q1
      simp only [← hs.out, ← hv.out] at hq
      clear hK hx
      go_wp2_with fail
      go_region_held3 (fun w' => w'.cell? ⟨g1, k * 2, none⟩ = some (.string s) ∧ w'.cell? ⟨g1, k * 2 + 1, none⟩ = some (.int .i64 v) ∧ w'.cell? ⟨g2, k * 2, none⟩ = some (.string s) ∧ w'.cell? ⟨g2, k * 2 + 1, none⟩ = some (.int .i64 v)) (go_keep) (fail)
      go_wp2_with fail
      go_roundw
      case rel => exact ⟨k + 1, by omega, by go_num, HK.out.drew⟩
      case measure => simp [intOf]; omega
    · obtain rfl : k = n := by omega
      have hge : ¬ (k : Int) < (k : Int) := by omega
      clear hK
      go_wp2_with fail
      go_ret
      exact ⟨rfl, HK.out⟩
end Go.Proofs.Ytajmfenfajbakaa
