/- The document's dictionary: New, Begin, Tell, Scan, Clear, Copy (chapter 8). -/
import Derived.Test.YtcakdmapnmneoaaGreatRefH
import Derived.Test.YtcakdmapnmneoaaGreatRTabCopy
namespace Go.Proofs.YtcakdmapnmneoaaGreat
open Go.RowKit
set_option linter.unusedVariables false
set_option linter.unusedSimpArgs false

section
variable {W : World} {rb db g : Nat} {h k v : Int} {skp : Value} {kept : Nat} {at_ : Int} {waits same over : Bool} {x : Trn} {scans : Nat}
theorem rm_told (b : Bool) (H : W.heap[rb]? = some (rmO db g h k v skp kept at_ waits same over x scans)) :
    ((W.setCell ⟨rb, 8, none⟩ (.bool false)).setCell ⟨rb, 9, none⟩ (.bool b)).heap[rb]? = some (rmO db g h k v skp kept at_ false b over x scans) ∧ Keeps [rb] W ((W.setCell ⟨rb, 8, none⟩ (.bool false)).setCell ⟨rb, 9, none⟩ (.bool b)) := by
  unfold rmO at H
  have h0 := has_setCell H 8 (.bool false)
  simp only [List.setIfInBounds_toArray, List.set_cons_zero, List.set_cons_succ] at h0
  have h1 := has_setCell h0 9 (.bool b)
  simp only [List.setIfInBounds_toArray, List.set_cons_zero, List.set_cons_succ] at h1
  exact ⟨h1, ((Keeps.refl [rb] W).setCell (p := ⟨rb, 8, none⟩) (.inr (by simp)) _).setCell (p := ⟨rb, 9, none⟩) (.inr (by simp)) _⟩
end
theorem rtell_any (rb kb db t : Nat) (q : Mac) (w : World) (H : RMacAt rb kb db t q w) (b : Bool) (hkb : q.st ≠ 0 → kb ≠ rb) (hst : q.st ≤ 4) :
    Calls Tryz.prog 37 #[.pointer (some ⟨rb, 0, none⟩), .bool b] w fun r w' => r = .returned (.int .i64 (tellE q)) ∧ RMacAt rb kb db t (tellM q b) w' ∧ Keeps [rb] w w' := by
  obtain ⟨at_, same, hb, hat, hsm, hsk⟩ := H
  by_cases h2 : q.st = 2
  · have eT : tellM q b = { q with st := if b then 3 else 1 } := by unfold tellM; rw [if_pos h2]
    have eE : tellE q = 0 := by unfold tellE; rw [if_pos h2]
    rw [eT, eE]
    rw [show (q.st == 4) = false by simp; omega, show (q.st == 2) = true by simp; omega] at hb
    have HB := Lib.hid hb
    obtain ⟨_, _, _, _, _, _, _, _, c8, c9, c10, _⟩ := rm_cells hb
    have f8 := free_of_has hb 8
    have f9 := free_of_has hb 9
    have fin : ∀ W9 : World, W9.heap[rb]? = some (rmO db q.g q.h q.k q.v (skV q.st kb) q.ver at_ false b false q.turn q.scans) → Keeps [rb] w W9 → RMacAt rb kb db t { q with st := if b then 3 else 1 } W9 := fun W9 h9 k9 => by
      have e5 : skV q.st kb = skV (if b then 3 else 1) kb := by unfold skV; rw [if_neg (by omega)]; cases b <;> rfl
      refine ⟨at_, b, ?_, fun _ => hat (.inl h2), fun _ => by cases b <;> rfl, fun _ => (hsk (by omega)).keeps k9 (by simp; exact hkb (by omega))⟩
      rw [e5] at h9
      have e8 : ((if b = true then 3 else 1 : Nat) == 2) = false := by cases b <;> rfl
      have e9 : ((if b = true then 3 else 1 : Nat) == 4) = false := by cases b <;> rfl
      show W9.heap[rb]? = some (rmO db q.g q.h q.k q.v (skV (if b = true then 3 else 1) kb) q.ver at_ ((if b = true then 3 else 1 : Nat) == 2) b ((if b = true then 3 else 1 : Nat) == 4) q.turn q.scans)
      rw [e8, e9]; exact h9
    obtain ⟨q2, hq2⟩ := ex_hid ({ q with st := if b then 3 else 1 } : Mac)
    rw [← hq2.out] at fin ⊢
    have FIN := Lib.hid fin
    clear fin hb hat hsm hsk eT eE h2 hkb hst
    go_enter Tryz.func37, Tryz.ntmps37
    go_wp2_with fail
    go_ret
    have R := rm_told b HB.out
    exact ⟨rfl, FIN.out _ R.1 R.2, R.2⟩
  · have eT : tellM q b = q := by unfold tellM; rw [if_neg h2]
    have eE : tellE q = 8 := by unfold tellE; rw [if_neg h2]
    rw [eT, eE]
    have FIN := Lib.hid (show RMacAt rb kb db t q w from ⟨at_, same, hb, hat, hsm, hsk⟩)
    rw [show (q.st == 2) = false by simp; omega] at hb
    obtain ⟨_, _, _, _, _, _, _, _, c8, c9, c10, _⟩ := rm_cells hb
    obtain ⟨ov, hov⟩ := ex_hid (q.st == 4)
    rw [← hov.out] at c10
    clear hb hat hsm hsk eT eE h2 hkb hst
    cases ov
    all_goals
      go_enter Tryz.func37, Tryz.ntmps37
      go_wp2_with fail
      go_ret
      exact ⟨rfl, FIN.out, Keeps.refl _ _⟩
theorem rscan8_any (rb kb db t : Nat) (q : Mac) (w : World) (H : RMacAt rb kb db t q w) :
    Calls Tryz.prog 82 #[.pointer (some ⟨rb, 0, none⟩)] w fun r w' => r = .returned (.int .i64 (scanN q)) ∧ w = w' := by
  obtain ⟨at_, same, hb, _, _, hsk⟩ := H
  obtain ⟨_, _, _, _, _, c5, _⟩ := rm_cells hb
  by_cases h0 : q.st = 0
  · have e5 : skV q.st kb = .pointer none := by unfold skV; rw [if_pos h0]
    have e6 : scanN q = 0 := by unfold scanN; rw [if_pos h0]
    rw [e5] at c5
    rw [e6]
    clear hb hsk h0 e5 e6
    go_enter Tryz.func82, Tryz.ntmps82
    go_wp2_with fail
    go_ret
    exact ⟨rfl, rfl⟩
  · have e5 : skV q.st kb = .pointer (some ⟨kb, 0, none⟩) := by unfold skV; rw [if_neg h0]
    have e6 : scanN q = q.sk.vis := by unfold scanN; rw [if_neg h0]
    rw [e5] at c5
    rw [e6]
    obtain ⟨c9, p9, h9, _⟩ := hsk h0
    have x6 : w.cell? ⟨kb, 6, none⟩ = some (.int .i64 q.sk.vis) := cell_has h9 (i := 6) rfl
    obtain ⟨vi, hvi⟩ := ex_hid q.sk.vis
    rw [← hvi.out] at x6 ⊢
    clear hb hsk h0 e5 e6 h9
    go_enter Tryz.func82, Tryz.ntmps82
    go_wp2_with fail
    go_ret
    exact ⟨rfl, rfl⟩
theorem rbegin_any (db t : Nat) (g : Nat) (h k v : Int) (w : World) (h1 : 1 ≤ g) (h4 : g ≤ 4) :
    Calls Tryz.prog 35 #[.pointer (some ⟨db, 0, none⟩), .int .i64 g, .int .i64 h, .int .i64 k, .int .i64 v] w fun r w' => ∃ rb, r = .returned (.pointer (some ⟨rb, 0, none⟩)) ∧ (∀ kb, RMacAt rb kb db t (newM g h k v) w') ∧ w.heap.size ≤ rb ∧ Keeps [] w w' := by
  have g1 : ¬ (g : Int) < 1 := by omega
  have g4 : ¬ 4 < (g : Int) := by omega
  go_enter Tryz.func35, Tryz.ntmps35
  go_wp2_with fail
  go_ret
  refine ⟨w.heap.size, rfl, fun kb => ⟨0, false, ?_, (fun h => by rcases h with h | h <;> cases h), fun _ => rfl, fun h => absurd rfl h⟩, Nat.le_refl _, (Keeps.refl [] w).alloc _⟩
  exact has_new w _
theorem rbegin_bad (db : Nat) (g h k v : Int) (w : World) (hg : ¬ (1 ≤ g ∧ g ≤ 4)) :
    Calls Tryz.prog 35 #[.pointer (some ⟨db, 0, none⟩), .int .i64 g, .int .i64 h, .int .i64 k, .int .i64 v] w fun r w' => r = .returned (.pointer none) ∧ Keeps [] w w' := by
  have hq : decide (g < 1) = true ∨ (decide (g < 1) = false ∧ decide (4 < g) = true) := by
    by_cases h : g < 1
    · left; simpa using h
    · right; simp; omega
  rcases hq with q1 | ⟨q1, q2⟩
  all_goals
    go_enter Tryz.func35, Tryz.ntmps35
    go_wp2_with fail
    go_ret
    exact ⟨rfl, Keeps.refl _ _⟩
end Go.Proofs.YtcakdmapnmneoaaGreat
