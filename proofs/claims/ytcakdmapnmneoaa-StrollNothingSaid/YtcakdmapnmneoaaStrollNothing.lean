/- StrollNothing, walked (chapter 9's laws). -/
import Derived.Test.YtcakdmapnmneoaaStrH
namespace Go.Proofs.Ytcakdmapnmneoaa
open Go.RowKit
set_option linter.unusedVariables false
set_option linter.unusedSimpArgs false

def noneP (z sb : Nat) (i : Nat) : Value := if i = 0 then .pointer none else if i = 1 then .pointer (some ⟨z, 0, none⟩) else .pointer (some ⟨sb, 0, none⟩)
theorem neq_ent9 (x0 : Bool) (x1 x2 x3 x4 : Int) (w : World) : (binOp .neq 36 (.agg #[.bool x0, .int .i64 x1, .int .i64 x2, .int .i64 x3, .int .i64 x4]) (.agg #[.bool false, .int .i64 0, .int .i64 0, .int .i64 0, .int .i64 0])).run Try.prog w = .ok (.bool (!(x0 == false && x1 == 0 && x2 == 0 && x3 == 0 && x4 == 0))) w := by
  simp [go_sem]
  repeat (split <;> try simp_all)
set_option maxRecDepth 100000 in
set_option maxHeartbeats 4000000 in
theorem strollNothing_walk (a0 : Bool) (a1 : Int) (w : World) :
    Calls Try.prog 6 #[.bool a0, .int .i64 a1] w fun e w' => e = .returned (.bool true) ∧ Below w.heap.size w w' := by
  go_enter Try.func6, Try.ntmps6
  go_wp2_with fail
  refine (snew_nil a0 _).mono ?_
  rintro r w1 ⟨sb, size, ver, prs, nx, ps, rfl, b1, l1, k1⟩
  go_upto_region 3 with (fail)
  have kz := (Keeps.refl [] w).alloc (.cells #[.pointer none, .int .i64 0, .int .i64 0, .slice none 0 0, .bool false, .nilFunc, .nilFunc] 50)
  have bz := has_new w (.cells #[.pointer none, .int .i64 0, .int .i64 0, .slice none 0 0, .bool false, .nilFunc, .nilFunc] 50)
  have kR : ∀ o, Keeps [] w1 (w1.alloc o) := fun o => (Keeps.refl [] w1).alloc o
  obtain ⟨z, hz⟩ := ex_hid w.heap.size
  obtain ⟨R, hR⟩ := ex_hid w1.heap.size
  rw [← hz.out, ← hR.out]
  refine wp_gen (fun V => V.heap[R]? = some (.cells #[.pointer none, .pointer (some ⟨z, 0, none⟩), .pointer (some ⟨sb, 0, none⟩)] 46 (0, 0)) ∧ V.heap[z]? = some (strO (.pointer none) 0 0 (.slice none 0 0) false .nilFunc .nilFunc) ∧ V.heap[sb]? = some (strO (.pointer none) size ver prs false nx ps) ∧ Keeps [] w V) ⟨by rw [hR.out]; exact has_new _ _, by rw [hz.out]; exact has_alloc (k1.has bz (by simp)) _, has_alloc b1 _, (kz.trans k1).trans (kR _)⟩ ?_
  rintro W2 ⟨r2, z2, s2, k2⟩
  have K2 := Lib.hid k2
  have HC := Lib.hid (show ∀ i : Nat, i < 3 → W2.cell? ⟨R, i, none⟩ = some (noneP z sb i) from fun i hi => by
    match i, hi with
    | 0, _ => exact cell_has r2 (i := 0) rfl
    | 1, _ => exact cell_has r2 (i := 1) rfl
    | 2, _ => exact cell_has r2 (i := 2) rfl)
  have HN := Lib.hid (show ∀ i : Nat, i < 3 → ∀ W, Keeps [] W2 W → Calls Try.prog 24 #[noneP z sb i] W (fun r w' => r = .returned (.tuple #[noE.agg, .int .i64 10]) ∧ Keeps [] W w') from fun i hi W hW => by
    match i, hi with
    | 0, _ => exact snext_nil W
    | 1, _ => exact snext_ended z 0 0 (.slice none 0 0) false .nilFunc .nilFunc W (hW.has z2 (by simp))
    | 2, _ => exact snext_ended sb size ver prs false nx ps W (hW.has s2 (by simp)))
  have hne := neq_ent9
  clear kz bz kR b1 l1 k1 r2 z2 s2 k2
  go_wp2_with fail
  go_loopw [7] (fun i wr => ∃ k : Nat, k ≤ 3 ∧ i = .int .i64 k ∧ Keeps [] W2 wr) (fun i _ => 3 - (intOf i).toNat)
  case atStart => exact ⟨0, by omega, rfl, Keeps.refl _ _⟩
  case round =>
    obtain ⟨k, hk, rfl, hK⟩ := hrel
    have hk0 : (0 : Int) ≤ (k : Int) := by omega
    have HK := Lib.hid hK
    clear hK
    by_cases hlt : k < 3
    · have hlt' : (k : Int) < 3 := by omega
      go_wp2_with fail
      obtain ⟨W4, hW4⟩ : ∃ x, x = wr := ⟨_, rfl⟩
      subst hW4
      go_loopw [8] (fun i wx => ∃ m : Nat, m ≤ 10 ∧ i = .int .i64 m ∧ Keeps [] W2 wx) (fun i _ => 10 - (intOf i).toNat)
      case atStart => exact ⟨0, by omega, rfl, HK.out⟩
      case round =>
        obtain ⟨m, hm, rfl, hK5⟩ := hrel
        have hm0 : (0 : Int) ≤ (m : Int) := by omega
        have HK5 := Lib.hid hK5
        have pc : wr.cell? ⟨R, k, none⟩ = some (noneP z sb k) := hK5.cell (HC.out k hlt) (by simp)
        have PN := HN.out k hlt wr HK5.out
        obtain ⟨pv, hpv⟩ := ex_hid (noneP z sb k)
        rw [← hpv.out] at pc PN
        clear hK5
        by_cases h10 : m < 10
        · have h10' : (m : Int) < 10 := by omega
          by_cases hn : (m : Int) ≤ a1
          · have d1 : decide ((m : Int) ≤ a1) = true := by simpa using hn
            go_wp2_with fail
            refine PN.mono ?_
            rintro r w5 ⟨rfl, k5⟩
            have K5 := Lib.hid (HK5.out.trans k5)
            clear k5 pc PN
            unfold Ent.agg noE
            go_upto_region 10 with (fail)
            refine wp_gen (fun V => V.heap[w5.heap.size]? = some (ent9 noE) ∧ Keeps [] w5 V) ⟨has_new _ _, (Keeps.refl [] w5).alloc _⟩ ?_
            rintro w6 ⟨b6, k6⟩
            obtain ⟨t0, t1, t2, t3, t4⟩ := ent9_cells b6
            have K6 := Lib.hid (K5.out.trans k6)
            clear b6 k6
            simp only [noE] at t0 t1 t2 t3 t4
            go_wp2_with fail
            go_roundw
            case rel => exact ⟨m + 1, by omega, by go_num, K6.out⟩
            case measure => simp [intOf]; omega
          · have d1 : decide ((m : Int) ≤ a1) = false := by simpa using hn
            clear pc PN
            go_wp2_with fail
            go_roundw
            case rel => exact ⟨k + 1, by omega, by go_num, HK5.out⟩
            case measure => simp [intOf]; omega
        · obtain rfl : m = 10 := by omega
          clear pc PN
          by_cases hn : (10 : Int) ≤ a1
          · have d1 : decide ((10 : Int) ≤ a1) = true := by simpa using hn
            have d2 : decide (((10 : Nat) : Int) ≤ a1) = true := by simpa using hn
            go_wp2_with fail
            go_roundw
            case rel => exact ⟨k + 1, by omega, by go_num, HK5.out⟩
            case measure => simp [intOf]; omega
          · have d1 : decide ((10 : Int) ≤ a1) = false := by simpa using hn
            have d2 : decide (((10 : Nat) : Int) ≤ a1) = false := by simpa using hn
            go_wp2_with fail
            go_roundw
            case rel => exact ⟨k + 1, by omega, by go_num, HK5.out⟩
            case measure => simp [intOf]; omega
    · obtain rfl : k = 3 := by omega
      go_wp2_with (go_at_call 25; refine (awake9 _).mono ?_; rintro e w13 ⟨rfl, hb⟩)
      go_ret
      exact ⟨rfl, ((K2.out.trans HK.out).trans (Below.keeps hb [])).below (Nat.le_refl _) (by simp)⟩
end Go.Proofs.Ytcakdmapnmneoaa
