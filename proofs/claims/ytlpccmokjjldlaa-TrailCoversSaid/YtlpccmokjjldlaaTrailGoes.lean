/- TrailGoes, walked (chapter 5). -/
import Derived.Test.YtlpccmokjjldlaaTrailRef
import Derived.Test.YtlpccmokjjldlaaArgs
namespace Go.Proofs.Ytlpccmokjjldlaa
open Go.RowKit

theorem cells_none (h l m : Int) (hl : l < 0 ∨ 20 < l) (w : World) :
    Calls Try.prog 19 #[.int .i64 h, .int .i64 l, .int .i64 m] w (CellsGot w.heap.size [] w) := by
  have hq := eql_seq_nil
  go_enter Try.func19, Try.ntmps19
  go_wp2_with (first | (go_at_call 27; refine (all_any _ _ _).mono ?_; rintro e w' ⟨rfl, rfl⟩) | (go_at_call 57; refine (all1_none _ _ _ l _ hl (cell_has (has_alloc (has_new' _ _ (by simp)) _) rfl)).mono ?_; rintro e w' ⟨rfl, rfl⟩))
  go_ret2
  refine ⟨none, 0, rfl, World.ownsRow_nil _ _ _ _, ?_⟩
  exact ((((Below.refl _ _).alloc (Nat.le_refl _) _).alloc (by simp) _).alloc (by simp <;> omega) _).alloc (by simp <;> omega) _

/-- The first 'most' cells of the trail, of any hash and log. -/
def trList (h l : Int) (most : Nat) : List Int := if l < 0 ∨ 20 < l then [] else trL l.toNat (uh h) (min most (2 ^ l.toNat + 13))
def trFirst (h l : Int) : Int := if l < 0 ∨ 20 < l then 0 else (trC l.toNat (uh h) 0 : Nat)
theorem trList_le (h l : Int) (most : Nat) : (trList h l most).length ≤ most := by
  unfold trList
  split
  · simp
  · rw [trL_len]; omega

theorem cells_any (h l m : Int) (most : Nat) (h1 : 1 ≤ most) (h2 : most ≤ 3000) (hm : m = (most : Int)) (w : World) :
    Calls Try.prog 19 #[.int .i64 h, .int .i64 l, .int .i64 m] w (CellsGot w.heap.size (trList h l most) w) := by
  unfold trList
  split
  · rename_i hl; exact cells_none h l m hl w
  · exact cells_some h l l.toNat most (by omega) (by omega) h1 h2 m hm w
theorem ref_any (h l m : Int) (most : Nat) (h2 : most ≤ 3000) (hm : m = (most : Int)) (w : World) :
    Calls Try.prog 21 #[.int .i64 h, .int .i64 l, .int .i64 m] w (RefGot w.heap.size (trList h l most) w) := by
  unfold trList
  split
  · rename_i hl; exact ref_none h l m hl w
  · exact ref_some h l l.toNat most (by omega) (by omega) m hm (by omega) w
theorem firstv_any (h l : Int) (w : World) :
    Calls Try.prog 22 #[.int .i64 h, .int .i64 l] w fun e w' => e = .returned (.int .i64 (trFirst h l)) ∧ w = w' := by
  by_cases hl : l < 0 ∨ 20 < l
  · rw [show trFirst h l = 0 by simp [trFirst, hl]]; exact first_none h l w hl
  · rw [show trFirst h l = (trC l.toNat (uh h) 0 : Nat) by simp only [trFirst, if_neg hl]]; exact first_any h l w l.toNat (by omega) (by omega)
theorem rfirstv_any (h l : Int) (w : World) :
    Calls Try.prog 23 #[.int .i64 h, .int .i64 l] w fun e w' => e = .returned (.int .i64 (trFirst h l)) ∧ w = w' := by
  by_cases hl : l < 0 ∨ 20 < l
  · rw [show trFirst h l = 0 by simp [trFirst, hl]]; exact rfirst_none h l w hl
  · rw [show trFirst h l = (trC l.toNat (uh h) 0 : Nat) by simp only [trFirst, if_neg hl]]; exact rfirst_any h l w l.toNat (by omega) (by omega)

/-- The law's own closed call. -/
theorem awake5 (w : World) : Calls Try.prog 26 #[] w fun e w' => e = .returned (.bool true) ∧ w = w' := by
  have e1 : (trC 3 (uh (-1)) 0 : Nat) = 7 := by decide
  have e2 : (shN (uh 32) : Nat) = 2 := by decide
  have E1 := Lib.hid e1
  have E2 := Lib.hid e2
  clear e1 e2
  go_enter Try.func26, Try.ntmps26
  go_wp2_with fail
  refine (first_any (-1) 3 _ 3 rfl (by omega)).mono ?_
  rintro e w' ⟨rfl, rfl⟩
  rw [E1.out]
  go_wp2_with fail
  refine (shifts_any 32 _).mono ?_
  rintro e w' ⟨rfl, rfl⟩
  rw [E2.out]
  go_wp2_with fail
  go_ret
  exact ⟨rfl, rfl⟩

set_option maxHeartbeats 400000 in
theorem trailGoes_core (h l m : Int) (most : Nat) (h1 : 1 ≤ most) (h2 : most ≤ 3000) (hm : (m < 1 ∧ most = 3000) ∨ (3000 < m ∧ most = 3000) ∨ m = (most : Int)) (w : World) :
    Calls Try.prog 6 #[.int .i64 h, .int .i64 l, .int .i64 m] w fun e w' => e = .returned (.bool true) ∧ Below w.heap.size w w' := by
  obtain ⟨n, hn⟩ : ∃ n, n = (trList h l most).length := ⟨_, rfl⟩
  have hnl : n ≤ 3000 := by rw [hn]; exact Nat.le_trans (trList_le _ _ _) h2
  obtain ⟨xs, hxs⟩ := ex_hid (trList h l most)
  have HX := Lib.hid hxs.out.symm
  have HN : Hid (xs.length = n) := Lib.hid (by rw [hn, hxs.out])
  clear hn hxs
  rcases hm with ⟨h3, h4⟩ | ⟨h3, h4⟩ | h3
  · have HM := Lib.hid h4
    have hd : decide (m < 1) = true := by simpa using h3
    clear h4
    go_enter Try.func6, Try.ntmps6
    go_wp2_with fail
    refine (cells_any h l _ most h1 h2 (by rw [HM.out]; rfl) _).mono ?_
    rintro e w1 ⟨a, cap, rfl, o1, b1⟩
    rw [HX.out, HN.out] at o1 ⊢
    have O1 := Lib.hid o1
    have B1 := Lib.hid b1
    clear o1 b1
    go_wp2_with fail
    refine (ref_any h l _ most h2 (by rw [HM.out]; rfl) _).mono ?_
    rintro e w2 ⟨a', cap', rfl, o2, b2⟩
    rw [HX.out, HN.out] at o2 ⊢
    have R2 := Lib.hid (reads_own o2)
    have R1 := Lib.hid ((reads_own O1.out).below b2)
    have B2 := Lib.hid (B1.out.trans (b2.mono B1.out.size))
    clear o2 b2 O1 B1
    go_wp2_with fail
    refine (same_eq xs _ _ n _ _ _ R1.out R2.out (by omega)).mono ?_
    rintro e w3 ⟨rfl, b3⟩
    have B3 := Lib.hid (B2.out.trans (b3.mono B2.out.size))
    clear b3 B2 R1 R2
    go_wp2_with (first | (go_at_call 22; refine (firstv_any _ _ _).mono ?_; rintro e w' ⟨rfl, rfl⟩) | (go_at_call 23; refine (rfirstv_any _ _ _).mono ?_; rintro e w' ⟨rfl, rfl⟩) | (go_at_call 24; refine (shifts_any _ _).mono ?_; rintro e w' ⟨rfl, rfl⟩) | (go_at_call 25; refine (rshifts_any _ _).mono ?_; rintro e w' ⟨rfl, rfl⟩) | (go_at_call 26; refine (awake5 _).mono ?_; rintro e w' ⟨rfl, rfl⟩))
    go_ret
    exact ⟨rfl, B3.out⟩
  · have HM := Lib.hid h4
    have hd : decide (m < 1) = false := by simp; omega
    have hd2 : decide (3000 < m) = true := by simpa using h3
    clear h4
    go_enter Try.func6, Try.ntmps6
    go_wp2_with fail
    refine (cells_any h l _ most h1 h2 (by rw [HM.out]; rfl) _).mono ?_
    rintro e w1 ⟨a, cap, rfl, o1, b1⟩
    rw [HX.out, HN.out] at o1 ⊢
    have O1 := Lib.hid o1
    have B1 := Lib.hid b1
    clear o1 b1
    go_wp2_with fail
    refine (ref_any h l _ most h2 (by rw [HM.out]; rfl) _).mono ?_
    rintro e w2 ⟨a', cap', rfl, o2, b2⟩
    rw [HX.out, HN.out] at o2 ⊢
    have R2 := Lib.hid (reads_own o2)
    have R1 := Lib.hid ((reads_own O1.out).below b2)
    have B2 := Lib.hid (B1.out.trans (b2.mono B1.out.size))
    clear o2 b2 O1 B1
    go_wp2_with fail
    refine (same_eq xs _ _ n _ _ _ R1.out R2.out (by omega)).mono ?_
    rintro e w3 ⟨rfl, b3⟩
    have B3 := Lib.hid (B2.out.trans (b3.mono B2.out.size))
    clear b3 B2 R1 R2
    go_wp2_with (first | (go_at_call 22; refine (firstv_any _ _ _).mono ?_; rintro e w' ⟨rfl, rfl⟩) | (go_at_call 23; refine (rfirstv_any _ _ _).mono ?_; rintro e w' ⟨rfl, rfl⟩) | (go_at_call 24; refine (shifts_any _ _).mono ?_; rintro e w' ⟨rfl, rfl⟩) | (go_at_call 25; refine (rshifts_any _ _).mono ?_; rintro e w' ⟨rfl, rfl⟩) | (go_at_call 26; refine (awake5 _).mono ?_; rintro e w' ⟨rfl, rfl⟩))
    go_ret
    exact ⟨rfl, B3.out⟩
  · subst h3
    have hd : decide ((most : Int) < 1) = false := by simp; omega
    have hd2 : decide (3000 < (most : Int)) = false := by simp; omega
    go_enter Try.func6, Try.ntmps6
    go_wp2_with fail
    refine (cells_any h l _ most h1 h2 rfl _).mono ?_
    rintro e w1 ⟨a, cap, rfl, o1, b1⟩
    rw [HX.out, HN.out] at o1 ⊢
    have O1 := Lib.hid o1
    have B1 := Lib.hid b1
    clear o1 b1
    go_wp2_with fail
    refine (ref_any h l _ most h2 rfl _).mono ?_
    rintro e w2 ⟨a', cap', rfl, o2, b2⟩
    rw [HX.out, HN.out] at o2 ⊢
    have R2 := Lib.hid (reads_own o2)
    have R1 := Lib.hid ((reads_own O1.out).below b2)
    have B2 := Lib.hid (B1.out.trans (b2.mono B1.out.size))
    clear o2 b2 O1 B1
    go_wp2_with fail
    refine (same_eq xs _ _ n _ _ _ R1.out R2.out (by omega)).mono ?_
    rintro e w3 ⟨rfl, b3⟩
    have B3 := Lib.hid (B2.out.trans (b3.mono B2.out.size))
    clear b3 B2 R1 R2
    go_wp2_with (first | (go_at_call 22; refine (firstv_any _ _ _).mono ?_; rintro e w' ⟨rfl, rfl⟩) | (go_at_call 23; refine (rfirstv_any _ _ _).mono ?_; rintro e w' ⟨rfl, rfl⟩) | (go_at_call 24; refine (shifts_any _ _).mono ?_; rintro e w' ⟨rfl, rfl⟩) | (go_at_call 25; refine (rshifts_any _ _).mono ?_; rintro e w' ⟨rfl, rfl⟩) | (go_at_call 26; refine (awake5 _).mono ?_; rintro e w' ⟨rfl, rfl⟩))
    go_ret
    exact ⟨rfl, B3.out⟩

theorem trailGoes_walk (h l m : Int) (w : World) (_ : (Lit.int .i64 h).wf = true) (_ : (Lit.int .i64 l).wf = true) (_ : (Lit.int .i64 m).wf = true) :
    Calls Try.prog 6 #[.int .i64 h, .int .i64 l, .int .i64 m] w fun e w' => e = .returned (.bool true) ∧ Below w.heap.size w w' := by
  by_cases h1 : m < 1
  · exact trailGoes_core h l m 3000 (by omega) (by omega) (.inl ⟨h1, rfl⟩) w
  by_cases h2 : 3000 < m
  · exact trailGoes_core h l m 3000 (by omega) (by omega) (.inr (.inl ⟨h2, rfl⟩)) w
  exact trailGoes_core h l m m.toNat (by omega) (by omega) (.inr (.inr (by omega))) w
end Go.Proofs.Ytlpccmokjjldlaa
