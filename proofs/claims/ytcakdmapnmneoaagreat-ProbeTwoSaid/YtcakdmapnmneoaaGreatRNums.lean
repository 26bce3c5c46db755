/- The document's numbers of live entries (chapter 7). -/
import Derived.Test.YtcakdmapnmneoaaGreatB9
import Derived.Test.YtcakdmapnmneoaaGreatPast
namespace Go.Proofs.YtcakdmapnmneoaaGreat
open Go.RowKit
set_option linter.unusedVariables false
set_option linter.unusedSimpArgs false

theorem int_append (lo : Nat) (a : Option Addr) (c m : Nat) (V : Nat → Value) (x : Int) (W : World) (B : Nat) (h : ValRow 3 lo a m c V W) (hV : ∀ k, k < m → ∃ y, V k = .int .i64 y) (hB : W.heap[B]? = some (.cells #[.int .i64 x] 3 (0, 0))) (hm : m ≤ 1000000) (hlo : lo ≤ W.heap.size) :
    ∃ g cap w', (Builtin.append_ #[108, 108] 108 #[.slice a m c, .slice (some ⟨B, 0, none⟩) 1 1]).run Tryz.prog W = .ok (.slice (some ⟨g, 0, none⟩) (m + 1) cap) w' ∧ ValRow 3 lo (some ⟨g, 0, none⟩) (m + 1) cap (putV V m (.int .i64 x)) w' ∧ Keeps (blk a) W w' ∧ (g ∈ blk a ∨ g = W.heap.size) ∧ g < w'.heap.size := by
  obtain ⟨j0, hi, hz0, hz1, hz2⟩ := info_parts info64
  obtain ⟨g, cap, w', r1, r2, r3, r4, r5⟩ := run_append_lies (P := Tryz.prog) W 108 108 lo 3 j0 (.int .i64 0) 1 8 Tryz.underlying108 hi hz0 hz1 hz2 rfl (by decide) _ m (valR m V) h ⟨B, 0, none⟩ 1 1 [.int .i64 x] rfl
    (fun j u hj => by
      have hlt : j < 1 := by have := (List.getElem?_eq_some_iff.1 hj).1; simpa using this
      obtain rfl : j = 0 := by omega
      rw [show (⟨B, 0, none⟩ : Addr).add 0 = ⟨B, 0, none⟩ by unfold Addr.add; split <;> simp_all, cell_of_has hB]
      simpa using hj) (by intro u hu; simp at hu; subst hu; rfl) (by decide) (by unfold maxLen; omega) (by omega) hlo _ rfl
  refine ⟨g, cap, w', r1, ValRow.of_append r2, ?_, ?_, r5⟩
  · exact ⟨r3.os, r3.tape, r3.output, r3.size, fun k hk hn => r3.block k hk (fun e => hn (blk_own a _ _ k e.symm))⟩
  · rcases r4 with r4 | r4
    · exact .inl (blk_own a _ _ g r4)
    · exact .inr r4
/-- The numbers as values. -/
def numV (N : List (Nat × Ent)) (k : Nat) : Value := .int .i64 (N.getD k (0, noE)).1
theorem rnumbers_any (t lo L c : Nat) (a : Option Addr) (E : List Ent) (cl lv bi ma tu m : Value) (w : World) (hb : w.heap[t]? = some (rtabO (.slice a E.length c) L cl lv bi ma tu m)) (h : EntRow lo a c E w) (hl : E.length ≤ 1000000) :
    Calls Tryz.prog 73 #[.pointer (some ⟨t, 0, none⟩)] w fun r w' => ∃ a' c', r = .returned (.slice a' (liveN E) c') ∧ ValRow 3 w.heap.size a' (liveN E) c' (numV (numL E 0)) w' ∧ Keeps [] w w' := by
  have H := Lib.hid h
  have e0 : w.cell? ⟨t, 0, none⟩ = some (.slice a E.length c) := cell_has hb (i := 0) rfl
  obtain ⟨n, hn⟩ := ex_hid E.length
  rw [← hn.out] at hl e0
  clear h hb
  go_enter Tryz.func73, Tryz.ntmps73
  go_wp2_with fail
  go_loopw [3, 4] (fun l i wr => ∃ (k : Nat) (b : Option Addr) (cc : Nat), k ≤ n ∧ i = .int .i64 k ∧ l = .slice b (numL (E.take k) 0).length cc ∧ ValRow 3 w.heap.size b (numL (E.take k) 0).length cc (numV (numL (E.take k) 0)) wr ∧ Keeps [] w wr) (fun _ i _ => n - (intOf i).toNat)
  case atStart => exact ⟨0, none, 0, by omega, rfl, by simp [numL], by simpa [numL] using ValRow.nil _ _ _ _, Keeps.refl _ _⟩
  case round =>
    obtain ⟨k, b, cc, hk, rfl, rfl, hR, hK⟩ := hrel
    have hk0 : (0 : Int) ≤ (k : Int) := by omega
    have HR := Lib.hid hR
    have HK := Lib.hid hK
    have e0 := hK.cell e0 (by simp)
    by_cases hlt : k < n
    · have hlt' : (k : Int) < (n : Int) := by omega
      obtain ⟨x, hx⟩ : ∃ x, E[k]? = some x := ⟨_, List.getElem?_eq_getElem (by rw [← hn.out]; exact hlt)⟩
      obtain ⟨g, rfl⟩ := H.out.shape (by rw [← hn.out]; omega)
      obtain ⟨q0, q1, q2, q3, q4⟩ := (H.out.keeps hK (by simp)).five hx
      have HX := Lib.hid hx
      cases hlv : x.live
      · rw [hlv] at q0
        clear hR hK hx
        go_wp2_with fail
        go_roundw
        case rel =>
          refine ⟨k + 1, b, cc, by omega, by go_num, ?_, ?_, HK.out⟩
          · rw [numL_succ HX.out, hlv]; simp
          · rw [numL_succ HX.out, hlv]; simpa using HR.out
        case measure => simp [intOf]; omega
      · rw [hlv] at q0
        obtain ⟨q, hq⟩ := ex_hid (numL (E.take k) 0).length
        have hq6 : q ≤ 1000000 := by rw [hq.out, numL_len]; have := liveN_le (E.take k); simp at this; omega
        have k2 : Keeps [] wr (wr.alloc (.cells #[.int .i64 k] 3)) := (Keeps.refl [] wr).alloc _
        obtain ⟨g2, cap, w3, hrun, r1, r2, r3, r4⟩ := int_append w.heap.size b cc q (numV (numL (E.take k) 0)) k _ wr.heap.size (by rw [hq.out]; exact hR.keeps k2 (by simp)) (fun j _ => ⟨_, rfl⟩) (has_new _ _) hq6 (by have := hK.size; have := k2.size; omega)
        have R3 := Lib.hid r1
        have K3 := Lib.hid ((hK.trans k2).then r2 (by intro y hy; exact .inl (hR.blk_lt y hy).1))
        have q5 := hlv
        have HRun := Lib.hid hrun
        rw [← hq.out]
        clear hR hK hx k2 r1 r2 r3 r4 hlv hrun
        go_wp2_with (at_builtin; refine wpList_append_run rfl _ _ 108 rfl _ _ rfl rfl _ _ HRun.out ?_)
        go_roundw
        case rel =>
          refine ⟨k + 1, some ⟨g2, 0, none⟩, cap, by omega, by go_num, ?_, ?_, K3.out⟩
          · rw [numL_succ HX.out, q5, hq.out]; simp
          · rw [numL_succ HX.out, q5]
            have h9 := R3.out
            rw [hq.out] at h9
            refine ValRow.congr (by simpa using h9) (fun j hj => ?_)
            unfold putV numV
            by_cases hj2 : j = (numL (E.take k) 0).length
            · rw [if_pos hj2]; subst hj2; simp [List.getD]
            · rw [if_neg hj2]
              have hj3 : j < (numL (E.take k) 0).length := by simp at hj; omega
              simp [List.getD, List.getElem?_append_left hj3]
        case measure => simp [intOf]; omega
    · obtain rfl : k = n := by omega
      have hge : ¬ (k : Int) < (k : Int) := by omega
      have hall : numL (E.take k) 0 = numL E 0 := by rw [hn.out, List.take_length]
      have HR2 : Hid (ValRow 3 w.heap.size b (liveN E) cc (numV (numL E 0)) wr) := Lib.hid (by have h9 := HR.out; rw [hall, numL_len] at h9; exact h9)
      rw [hall, numL_len]
      clear hR hK HR
      go_wp2_with fail
      go_ret
      exact ⟨b, cc, rfl, HR2.out, HK.out⟩
end Go.Proofs.YtcakdmapnmneoaaGreat
