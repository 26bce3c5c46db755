/- TableOwn, walked (chapter 7's laws). -/
import Derived.Test.YtajcbghhpjpmhaaLawLaid
import Derived.Test.YtajcbghhpjpmhaaLawSight
import Derived.Test.YtajcbghhpjpmhaaTabAwake
import Derived.Deep.MidRow
namespace Go.Proofs.Ytajcbghhpjpmhaa
open Go.RowKit
set_option linter.unusedVariables false
set_option linter.unusedSimpArgs false

theorem two_ints (lo c m : Nat) (a : Option Addr) (V : Nat → Value) (W : World) (B : Nat) (x y : Int) (h : ValRow 3 lo a m c V W) (hB : W.heap[B]? = some (.cells #[.int .i64 x, .int .i64 y] 3 (0, 0))) (hl : m ≤ 1048576) (hlo : lo ≤ W.heap.size) :
    ∃ g c' w', (Builtin.append_ #[22, 22] 22 #[.slice a m c, .slice (some ⟨B, 0, none⟩) 2 2]).run Try.prog W = .ok (.slice (some ⟨g, 0, none⟩) (m + 2) c') w' ∧ Keeps (blk a) W w' := by
  obtain ⟨j0, hi, hz0, hz1, hz2⟩ := info_parts info64
  obtain ⟨g, cap, w', r1, r2, r3, r4, r5⟩ := run_append_lies (P := Try.prog) W 22 22 lo 3 j0 (.int .i64 0) 1 8 Try.underlying22 hi hz0 hz1 hz2 rfl (by decide) _ m (valR m V) h ⟨B, 0, none⟩ 2 2 [.int .i64 x, .int .i64 y] rfl
    (by
      intro j u hj
      rw [show (⟨B, 0, none⟩ : Addr).add j = ⟨B, j, none⟩ by unfold Addr.add; split <;> simp_all]
      have hlt := (List.getElem?_eq_some_iff.1 hj).1
      rw [cell_of_has hB]
      match j, hlt with
      | 0, _ => simpa using hj
      | 1, _ => simpa using hj)
    (by intro v hv; simp at hv; rcases hv with rfl | rfl <;> rfl) (by omega) (by unfold maxLen; omega) (by omega) hlo _ rfl
  exact ⟨g, cap, w', r1, ⟨r3.os, r3.tape, r3.output, r3.size, fun k hk hn => r3.block k hk (fun e => hn (blk_own a _ _ k e.symm))⟩⟩
theorem ValRow.disj0 {lo lo2 g n c c2 : Nat} {a : Option Addr} {V : Nat → Value} {E : List Ent} {W : World} (h : ValRow 3 lo (some ⟨g, 0, none⟩) n c V W) (h2 : EntRow lo2 a c2 E W) : g ∉ blk a := by
  rcases h.2 with ⟨q1, _⟩ | ⟨g1, cap, cur, q1, q2, q3, _⟩
  · simp at q1
  · simp at q1
    obtain ⟨rfl, rfl⟩ := q1
    exact h2.notin q3 (by decide)
theorem two_ents (W : World) (B : Nat) (hB : W.heap[B]? = some (.cells #[.bool false, .int .i64 0, .int .i64 7, .int .i64 0, .int .i64 0, .bool false, .int .i64 0, .int .i64 7, .int .i64 0, .int .i64 0] 32 (0, 0))) :
    ∀ (j : Nat) u, (flatE [⟨false, 0, 7, 0, 0⟩, ⟨false, 0, 7, 0, 0⟩])[j]? = some u → W.cell? ((⟨B, 0, none⟩ : Addr).add j) = some u := by
  intro j u hj
  rw [show (⟨B, 0, none⟩ : Addr).add j = ⟨B, j, none⟩ by unfold Addr.add; split <;> simp_all, cell_of_has hB]
  simpa [flatE, Ent.cells] using hj
theorem tableOwn_early (a1 a2 : Option Addr) (n1 n2 c1 c2 : Nat) (w : World) (h : 300 < n1 ∨ (n1 ≤ 300 ∧ 300 < n2)) :
    Calls Try.prog 4 #[.slice a1 n1 c1, .slice a2 n2 c2] w fun e w' => e = .returned (.bool true) ∧ Below w.heap.size w w' := by
  rcases h with h | ⟨h, h2⟩
  · have d1 : decide ((300 : Int) < (n1 : Int)) = true := by simp; omega
    go_enter Try.func4, Try.ntmps4
    go_wp2_with (go_at_call 13; refine (awake7 _).mono ?_; rintro e w' ⟨rfl, hb⟩)
    go_ret
    exact ⟨rfl, hb⟩
  · have d1 : decide ((300 : Int) < (n1 : Int)) = false := by simp; omega
    have d2 : decide ((300 : Int) < (n2 : Int)) = true := by simp; omega
    go_enter Try.func4, Try.ntmps4
    go_wp2_with (go_at_call 13; refine (awake7 _).mono ?_; rintro e w' ⟨rfl, hb⟩)
    go_ret
    exact ⟨rfl, hb⟩
set_option maxRecDepth 100000 in
set_option maxHeartbeats 8000000 in
theorem tableOwn_main (a1 a2 : Option Addr) (n1 n2 c1 c2 : Nat) (F1 F2 : Nat → Int) (w : World) (h1 : n1 ≤ 300) (h2 : n2 ≤ 300) (s1 : IntRow .i64 1 w a1 n1 F1) (s2 : IntRow .i64 1 w a2 n2 F2) :
    Calls Try.prog 4 #[.slice a1 n1 c1, .slice a2 n2 c2] w fun e w' => e = .returned (.bool true) ∧ Below w.heap.size w w' := by
  have d1 : decide ((300 : Int) < (n1 : Int)) = false := by simp; omega
  have d2 : decide ((300 : Int) < (n2 : Int)) = false := by simp; omega
  have Z1 := Lib.hid s1
  have Z2 := Lib.hid s2
  clear s1 s2
  go_enter Try.func4, Try.ntmps4
  go_wp2_with fail
  refine (laid_any a1 a2 n1 c1 n2 c2 F1 F2 _ Z1.out Z2.out h1 h2).mono ?_
  have I := laidT_inv F1 F2 n2 n1 (by omega)
  generalize laidT F1 F2 n2 n1 = T at *
  have HI := Lib.hid I
  have hEl := I.inv.ek
  have hL := I.inv.l12
  clear I d1 d2
  rintro r w1 ⟨t, S, wa, wc, rfl, t1, _, _, k1⟩
  have T1 := Lib.hid t1
  have K1 := Lib.hid k1
  clear t1 k1
  go_wp2_with fail
  refine (sight_any t w.heap.size S (mV none) T _ T1.out (by omega) HI.out.inv.ft (by omega)).mono ?_
  rintro r w2 ⟨ca, cc, ea, ec, rfl, q1, q2, b2⟩
  have Q1 := Lib.hid q1
  have Q2 := Lib.hid q2
  have K2 := Lib.hid (Below.keeps b2 [])
  clear q1 q2 b2
  unfold sightAgg
  go_wp2_with fail
  obtain ⟨M, hM⟩ := ex_hid (2 ^ T.L)
  have hM1 : M ≤ 1048576 := by rw [hM.out]; exact pow_le (by omega)
  have hM0 : 0 < M := by rw [hM.out]; exact pow_pos _
  obtain ⟨l, hl⟩ := ex_hid T.E.length
  have hl1 : l ≤ 600 := by rw [hl.out]; omega
  have hsh := Q1.out.shape (by rw [← hM.out]; exact hM0)
  obtain ⟨gc, rfl⟩ := hsh
  have QL := Lib.hid (show ∀ x, x ∈ gc :: blk ea → w1.heap.size ≤ x ∧ x < w2.heap.size from fun x hx => by
    rcases List.mem_cons.1 hx with rfl | hx
    · exact Q1.out.blk_lt _ (by simp [blk])
    · exact Q2.out.blk_lt x hx)
  have kA : Keeps [] w2 (w2.alloc (.cells #[.int .i64 T.L, .int .i64 (wdOf T.L), .slice (some ⟨gc, 0, none⟩) (2 ^ T.L) cc, .slice ea T.E.length ec, .int .i64 (liveN T.E : Nat), .int .i64 T.births, .int .i64 T.made] 29)) := (Keeps.refl [] w2).alloc _
  have bA : (w2.alloc (.cells #[.int .i64 T.L, .int .i64 (wdOf T.L), .slice (some ⟨gc, 0, none⟩) (2 ^ T.L) cc, .slice ea T.E.length ec, .int .i64 (liveN T.E : Nat), .int .i64 T.births, .int .i64 T.made] 29)).heap[w2.heap.size]? = some (sightO T (.slice (some ⟨gc, 0, none⟩) (2 ^ T.L) cc) (.slice ea T.E.length ec)) := has_new _ _
  have BA := Lib.hid bA
  have Q1A := Lib.hid (Q1.out.keeps kA (by simp))
  have Q2A := Lib.hid (Q2.out.keeps kA (by simp))
  have KA := Lib.hid (K2.out.trans kA)
  clear kA bA
  refine (sight_any t w.heap.size S (mV none) T _ (T1.out.keeps KA.out (by simp)) (by omega) HI.out.inv.ft (by omega)).mono ?_
  rintro r w3 ⟨cb, cd, eb, ed, rfl, q1, q2, b2⟩
  have P1 := Lib.hid q1
  have P2 := Lib.hid q2
  have k3 := Below.keeps b2 []
  have Z3 := Lib.hid (show w2.heap.size < w3.heap.size from by have := k3.size; simp at this; omega)
  have kB : Keeps [] w3 (w3.alloc (.cells #[.int .i64 T.L, .int .i64 (wdOf T.L), .slice cb (2 ^ T.L) cd, .slice eb T.E.length ed, .int .i64 (liveN T.E : Nat), .int .i64 T.births, .int .i64 T.made] 29)) := (Keeps.refl [] w3).alloc _
  have bB : (w3.alloc (.cells #[.int .i64 T.L, .int .i64 (wdOf T.L), .slice cb (2 ^ T.L) cd, .slice eb T.E.length ed, .int .i64 (liveN T.E : Nat), .int .i64 T.births, .int .i64 T.made] 29)).heap[w3.heap.size]? = some (sightO T (.slice cb (2 ^ T.L) cd) (.slice eb T.E.length ed)) := has_new _ _
  have HA := Lib.hid (kB.has (k3.has BA.out (by simp)) (by simp))
  have HB := Lib.hid bB
  have A1 := Lib.hid ((Q1A.out.keeps k3 (by simp)).keeps kB (by simp))
  have A2 := Lib.hid ((Q2A.out.keeps k3 (by simp)).keeps kB (by simp))
  have B1 := Lib.hid (P1.out.keeps kB (by simp))
  have B2 := Lib.hid (P2.out.keeps kB (by simp))
  have KB := Lib.hid ((KA.out.trans k3).trans kB)
  have zA := Lib.hid (show w1.heap.size ≤ w2.heap.size from K2.out.size)
  simp only [World.size_alloc] at B1 B2
  clear q1 q2 b2 k3 kB bB BA Q1A Q2A P1 P2 Q1 Q2
  unfold sightAgg
  go_wp2_with fail
  obtain ⟨W, hW⟩ : ∃ W, w3.alloc (.cells #[.int .i64 T.L, .int .i64 (wdOf T.L), .slice cb (2 ^ T.L) cd, .slice eb T.E.length ed, .int .i64 (liveN T.E : Nat), .int .i64 T.births, .int .i64 T.made] 29) = W := ⟨_, rfl⟩
  rw [hW] at HA HB A1 A2 B1 B2 KB ⊢
  have zW : W.heap.size = w3.heap.size + 1 := by rw [← hW]; simp
  clear hW
  -- no block of the second is one of the first
  have nab : ∀ x, x ∈ gc :: blk ea → x ≠ w2.heap.size ∧ x ≠ w3.heap.size ∧ x ∉ blk cb ∧ x ∉ blk eb ∧ x ∉ S ∧ w.heap.size ≤ x := by
    intro x hx
    have hx2 := QL.out x hx
    refine ⟨by omega, by have := Z3.out; omega, fun h => ?_, fun h => ?_, fun h => ?_, by have := K1.out.size; omega⟩
    · have := (B1.out.blk_lt x h).1; omega
    · have := (B2.out.blk_lt x h).1; omega
    · have := (T1.out.foot x h).2; omega
  have NAB := Lib.hid nab
  have hge : gc ∉ blk ea := A1.out.disj0 A2.out
  clear nab
  have HGE := Lib.hid hge
  clear hge
  have nAB : ∀ x, x = w2.heap.size ∨ x = w3.heap.size → x ∉ gc :: blk ea := fun x hx h => by
    have := NAB.out x h
    rcases hx with rfl | rfl
    · exact this.1 rfl
    · exact this.2.1 rfl
  have NN := Lib.hid nAB
  clear nAB
  go_loopw [10] (fun i wr => ∃ (k : Nat) (V' : Nat → Value), k ≤ M ∧ i = .int .i64 k ∧ ValRow 3 w1.heap.size (some ⟨gc, 0, none⟩) (2 ^ T.L) cc V' wr ∧ Keeps [gc] W wr) (fun i _ => M - (intOf i).toNat)
  case atStart => exact ⟨0, _, by omega, rfl, A1.out, Keeps.refl _ _⟩
  case round =>
    obtain ⟨k, V', hk, rfl, hV, hK⟩ := hrel
    have hk0 : (0 : Int) ≤ (k : Int) := by omega
    have HV := Lib.hid hV
    have HK := Lib.hid hK
    have b2 := hK.has HA.out (by have := NN.out w2.heap.size (.inl rfl); simp at this ⊢; exact this.1)
    have x2 : wr.cell? ⟨w2.heap.size, 2, none⟩ = some (.slice (some ⟨gc, 0, none⟩) M cc) := by rw [hM.out]; exact cell_has b2 (i := 2) rfl
    have B2' := Lib.hid b2
    clear b2
    by_cases hlt : k < M
    · have hlt' : (k : Int) < (M : Int) := by omega
      have cq : wr.cell? ⟨gc, k, none⟩ = some (V' k) := hV.cell (by rw [← hM.out]; exact hlt)
      have fq := hV.free k
      clear hV hK
      go_wp2_with fail
      go_roundw
      case rel => exact ⟨k + 1, _, by omega, by go_num, HV.out.put k _, HK.out.setCell (.inr (by simp)) _⟩
      case measure => simp [intOf]; omega
    · obtain rfl : k = M := by omega
      have hge : ¬ (k : Int) < (k : Int) := by omega
      have A2' := Lib.hid (A2.out.keeps hK (fun x hx hx2 => by simp at hx2; subst hx2; exact HGE.out hx))
      clear hV hK
      go_wp2_with fail
      obtain ⟨w5, hw5⟩ : ∃ x, x = wr := ⟨_, rfl⟩
      subst hw5
      go_loopw [11] (fun i wx => ∃ (j : Nat) (E' : List Ent), j ≤ l ∧ i = .int .i64 j ∧ E'.length = l ∧ EntRow w1.heap.size ea ec E' wx ∧ Keeps (blk ea) w5 wx) (fun i _ => l - (intOf i).toNat)
      case atStart => exact ⟨0, T.E, by omega, rfl, by rw [hl.out], A2'.out, Keeps.refl _ _⟩
      case round =>
        obtain ⟨j, E', hj, rfl, hEl', hE, hK⟩ := hrel
        have hj0 : (0 : Int) ≤ (j : Int) := by omega
        have HE := Lib.hid hE
        have HK2 := Lib.hid hK
        have b3 := hK.has B2'.out (fun hx => NN.out _ (.inl rfl) (by simp [hx]))
        have B3' := Lib.hid b3
        have x3 : wr.cell? ⟨w2.heap.size, 3, none⟩ = some (.slice ea l ec) := by rw [hl.out]; exact cell_has b3 (i := 3) rfl
        have x2 : wr.cell? ⟨w2.heap.size, 2, none⟩ = some (.slice (some ⟨gc, 0, none⟩) k cc) := by rw [hM.out]; exact cell_has b3 (i := 2) rfl
        have HEL := Lib.hid hEl'
        clear b3 hEl'
        by_cases hlt2 : j < l
        · have hlt' : (j : Int) < (l : Int) := by omega
          obtain ⟨ge, rfl⟩ := hE.shape (by rw [HEL.out]; omega)
          have hth : wr.there ge (j * 5) 5 := fun i hi => ⟨hE.some_cells (by rw [HEL.out]; exact hlt2) i hi, hE.free _⟩
          have lay := hE.lay (n := j) (by rw [HEL.out]; exact hlt2) ⟨false, 0, 500 + j, 0, 0⟩
          obtain ⟨wy, hwy⟩ : ∃ wy, wr.setCells ge (j * 5) (Ent.cells ⟨false, 0, 500 + j, 0, 0⟩) = wy := ⟨_, rfl⟩
          rw [hwy] at lay
          have LAY := Lib.hid lay
          have WY := Lib.hid hwy
          clear lay hwy hE hK
          go_upto_region 15 with (fail)
          go_upto_region 14 with (refine wpList_store_mid (op := ⟨none, .store 32 (.tmp 62) (.tmp 61), _, _, _, _⟩) rfl 32 (.tmp 62) (.tmp 61) rfl ge (j * 5) (Ent.cells ⟨false, 0, 500 + j, 0, 0⟩).toArray ?hx ?hy hth (by kernel_rfl) (all_oneCell_toArray (cs := Ent.cells ⟨false, 0, 500 + j, 0, 0⟩) (Ent.one _)) ?_)
          case hy => rfl
          case hx => go_simp
          rw [WY.out]
          go_wp2_with fail
          go_roundw
          case rel => exact ⟨j + 1, _, by omega, by go_num, by rw [List.length_set]; exact HEL.out, LAY.out.1, (HK2.out.trans (LAY.out.2.mono (by simp [blk])))⟩
          case measure => simp [intOf]; omega
        · obtain rfl : j = l := by omega
          have hge : ¬ (j : Int) < (j : Int) := by omega
          have KK := Lib.hid ((HK.out.mono (T := gc :: blk ea) (by simp)).trans (HK2.out.mono (by intro x hx; simp [hx])))
          have V2 := Lib.hid (HV.out.keeps hK (fun x hx hx2 => by simp [blk] at hx; subst hx; exact HGE.out hx2))
          clear hE hK
          -- the appends
          have ka : Keeps [] wr (wr.alloc (.cells #[.int .i64 7, .int .i64 7] 3)) := (Keeps.refl [] wr).alloc _
          obtain ⟨g6, c6, w6, hrun6, k6⟩ := two_ints w1.heap.size cc (2 ^ T.L) (some ⟨gc, 0, none⟩) V' _ wr.heap.size 7 7 (V2.out.keeps ka (by simp)) (has_new _ _) (by rw [← hM.out]; exact hM1) (by have := KK.out.size; have := KB.out.size; have := ka.size; omega)
          rw [← hM.out] at hrun6
          have K6 : Hid (Keeps (gc :: blk ea) W w6) := Lib.hid ((KK.out.trans (ka.mono (by simp))).trans (k6.mono (by simp [blk])))
          have hE6 := ((HE.out.keeps ka (by simp)).keeps k6 (fun x hx hx2 => by simp [blk] at hx2; subst hx2; exact HGE.out hx))
          have E6 := Lib.hid hE6
          have kb : Keeps [] w6 (w6.alloc (.cells #[.bool false, .int .i64 0, .int .i64 7, .int .i64 0, .int .i64 0, .bool false, .int .i64 0, .int .i64 7, .int .i64 0, .int .i64 0] 32)) := (Keeps.refl [] w6).alloc _
          obtain ⟨a7, c7, w7, hrun7, r7, k7, b7⟩ := ent_append_src w1.heap.size ec 2 ea E' [⟨false, 0, 7, 0, 0⟩, ⟨false, 0, 7, 0, 0⟩] (some ⟨w6.heap.size, 0, none⟩) _ (hE6.keeps kb (by simp)) (.inr ⟨_, rfl, two_ents _ w6.heap.size (has_new _ _)⟩) (by rw [HEL.out]; simp; omega) (by have := K6.out.size; have := KB.out.size; have := kb.size; omega)
          rw [HEL.out] at hrun7
          simp only [List.length_cons, List.length_nil, Nat.zero_add, Nat.reduceAdd] at hrun7
          have K7 : Hid (Keeps (gc :: blk ea) W w7) := Lib.hid ((K6.out.trans (kb.mono (by simp))).trans (k7.mono (by intro x hx; simp [hx])))
          have HR6 := Lib.hid hrun6
          have HR7 := Lib.hid hrun7
          have y3 : w6.cell? ⟨w2.heap.size, 3, none⟩ = some (.slice ea j ec) := by rw [hl.out]; exact cell_has (K6.out.has HA.out (NN.out _ (.inl rfl))) (i := 3) rfl
          clear ka k6 hE6 kb r7 k7 b7 hrun6 hrun7
          go_wp2_with (first | (at_builtin; refine wpList_append_run (o := ⟨some 66, _, _, _, _, _⟩) rfl _ _ 22 rfl _ _ rfl rfl _ _ HR6.out ?_) | (at_builtin; refine wpList_append_run (o := ⟨some 72, _, _, _, _, _⟩) rfl _ _ 25 rfl _ _ rfl rfl _ _ HR7.out ?_))
          have hA7 := K7.out.has HA.out (NN.out _ (.inl rfl))
          have hB7 := K7.out.has HB.out (NN.out _ (.inr rfl))
          have u2 : w7.cell? ⟨w2.heap.size, 2, none⟩ = some (.slice (some ⟨gc, 0, none⟩) k cc) := by rw [hM.out]; exact cell_has hA7 (i := 2) rfl
          have u3 : w7.cell? ⟨w2.heap.size, 3, none⟩ = some (.slice ea j ec) := by rw [hl.out]; exact cell_has hA7 (i := 3) rfl
          have z0 : w7.cell? ⟨w3.heap.size, 0, none⟩ = some (.int .i64 T.L) := cell_has hB7 (i := 0) rfl
          have z1 : w7.cell? ⟨w3.heap.size, 1, none⟩ = some (.int .i64 (wdOf T.L)) := cell_has hB7 (i := 1) rfl
          have z2 : w7.cell? ⟨w3.heap.size, 2, none⟩ = some (.slice cb (2 ^ T.L) cd) := cell_has hB7 (i := 2) rfl
          have z3 : w7.cell? ⟨w3.heap.size, 3, none⟩ = some (.slice eb T.E.length ed) := cell_has hB7 (i := 3) rfl
          have z4 : w7.cell? ⟨w3.heap.size, 4, none⟩ = some (.int .i64 (liveN T.E : Nat)) := cell_has hB7 (i := 4) rfl
          have z5 : w7.cell? ⟨w3.heap.size, 5, none⟩ = some (.int .i64 T.births) := cell_has hB7 (i := 5) rfl
          have z6 : w7.cell? ⟨w3.heap.size, 6, none⟩ = some (.int .i64 T.made) := cell_has hB7 (i := 6) rfl
          have T7 := Lib.hid ((T1.out.keeps KB.out (by simp)).keeps K7.out (fun x hx hx2 => (NAB.out x hx2).2.2.2.2.1 hx))
          have R1 := Lib.hid (B1.out.keeps K7.out (fun x hx hx2 => (NAB.out x hx2).2.2.1 hx))
          have R2 := Lib.hid (B2.out.keeps K7.out (fun x hx hx2 => (NAB.out x hx2).2.2.2.1 hx))
          have K9 := Lib.hid ((K1.out.trans KB.out).then (S := []) K7.out (fun x hx => .inl (NAB.out x hx).2.2.2.2.2))
          clear hA7 hB7 y3 x3 x2
          obtain ⟨k2, hk2⟩ := ex_hid (k + 2)
          obtain ⟨j2, hj2⟩ := ex_hid (j + 2)
          have hq1 : IntKind.i64.wrap ((k : Int) + 2) = (k2 : Int) := by have := hk2.out; rw [IntWalk.i64_left]; rw [IntWalk.wrap64_in _ (by omega)]; omega
          have hq2 : IntKind.i64.wrap ((j : Int) + 2) = (j2 : Int) := by have := hj2.out; rw [IntWalk.i64_left]; rw [IntWalk.wrap64_in _ (by omega)]; omega
          rw [← hk2.out, ← hj2.out]
          go_region_held3 (fun w' => w'.cell? ⟨w2.heap.size, 2, none⟩ = some (.slice (some ⟨gc, 0, none⟩) k cc) ∧ w'.cell? ⟨w2.heap.size, 3, none⟩ = some (.slice ea j ec) ∧ w'.cell? ⟨w3.heap.size, 0, none⟩ = some (.int .i64 T.L) ∧ w'.cell? ⟨w3.heap.size, 1, none⟩ = some (.int .i64 (wdOf T.L)) ∧ w'.cell? ⟨w3.heap.size, 2, none⟩ = some (.slice cb (2 ^ T.L) cd) ∧ w'.cell? ⟨w3.heap.size, 3, none⟩ = some (.slice eb T.E.length ed) ∧ w'.cell? ⟨w3.heap.size, 4, none⟩ = some (.int .i64 (liveN T.E : Nat)) ∧ w'.cell? ⟨w3.heap.size, 5, none⟩ = some (.int .i64 T.births) ∧ w'.cell? ⟨w3.heap.size, 6, none⟩ = some (.int .i64 T.made)) (go_keep)
            (first
              | (go_at_call 15; refine (sight_any t w.heap.size S (mV none) T _ (T7.out.keeps (Keeps.refl [] w7).drew (by simp)) (by omega) HI.out.inv.ft (by omega)).mono ?_; rintro r w8 ⟨ca8, cc8, ea8, ec8, rfl, q1, q2, b8⟩; have k8 := Below.keeps b8 []; have pu2 := k8.cell (w := w7.drew) u2 (by simp); have pu3 := k8.cell (w := w7.drew) u3 (by simp); have pz0 := k8.cell (w := w7.drew) z0 (by simp); have pz1 := k8.cell (w := w7.drew) z1 (by simp); have pz2 := k8.cell (w := w7.drew) z2 (by simp); have pz3 := k8.cell (w := w7.drew) z3 (by simp); have pz4 := k8.cell (w := w7.drew) z4 (by simp); have pz5 := k8.cell (w := w7.drew) z5 (by simp); have pz6 := k8.cell (w := w7.drew) z6 (by simp); have G1 := Lib.hid q1; have G2 := Lib.hid q2; have K8 := Lib.hid (((Keeps.refl [] w7).drew).trans k8); clear q1 q2 b8 k8; unfold sightAgg)
              | (go_at_call 16; refine (sight_same T _ _ _ _ _ _ _ _ _ _ _ _ _ (R1.out.keeps K8.out (by simp)) G1.out (R2.out.keeps K8.out (by simp)) G2.out (by omega) (by omega)).mono ?_; rintro r w10 ⟨rfl, k10⟩; have qu2 := k10.cell (w := w8) pu2 (by simp); have qu3 := k10.cell (w := w8) pu3 (by simp); have qz0 := k10.cell (w := w8) pz0 (by simp); have qz1 := k10.cell (w := w8) pz1 (by simp); have qz2 := k10.cell (w := w8) pz2 (by simp); have qz3 := k10.cell (w := w8) pz3 (by simp); have qz4 := k10.cell (w := w8) pz4 (by simp); have qz5 := k10.cell (w := w8) pz5 (by simp); have qz6 := k10.cell (w := w8) pz6 (by simp); have K10 := Lib.hid (K8.out.trans k10); clear k10)
              | (go_at_call 13; refine (awake7 _).mono ?_; rintro r w11 ⟨rfl, b11⟩; have k11 := Below.keeps b11 []; have ru2 := k11.cell (w := w10) qu2 (by simp); have ru3 := k11.cell (w := w10) qu3 (by simp); have rz0 := k11.cell (w := w10) qz0 (by simp); have rz1 := k11.cell (w := w10) qz1 (by simp); have rz2 := k11.cell (w := w10) qz2 (by simp); have rz3 := k11.cell (w := w10) qz3 (by simp); have rz4 := k11.cell (w := w10) qz4 (by simp); have rz5 := k11.cell (w := w10) qz5 (by simp); have rz6 := k11.cell (w := w10) qz6 (by simp); have K11 := Lib.hid (K10.out.trans k11); clear k11 b11))
          go_wp2_with fail
          go_ret
          exact ⟨rfl, (K9.out.trans K11.out).below (by simp) (by simp)⟩
theorem tableOwn_walk (a0 : Option Addr) (len0 cap0 : Nat) (F0 : Nat → Int) (a1 : Option Addr) (len1 cap1 : Nat) (F1 : Nat → Int) (w : World) (w0 : IntRow .i64 1 w a0 len0 F0) (w1 : IntRow .i64 1 w a1 len1 F1) :
    Calls Try.prog 4 #[.slice a0 len0 cap0, .slice a1 len1 cap1] w fun e w' => e = .returned (.bool true) ∧ Below w.heap.size w w' := by
  by_cases h : 300 < len0 ∨ (len0 ≤ 300 ∧ 300 < len1)
  · exact tableOwn_early a0 a1 len0 len1 cap0 cap1 w h
  · exact tableOwn_main a0 a1 len0 len1 cap0 cap1 F0 F1 w (by omega) (by omega) w0 w1
end Go.Proofs.Ytajcbghhpjpmhaa
