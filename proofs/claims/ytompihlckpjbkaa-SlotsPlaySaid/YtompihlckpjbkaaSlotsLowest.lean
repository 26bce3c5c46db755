/- SlotsLowest, walked (chapter 11). -/
import Derived.Test.YtompihlckpjbkaaSlotAwake
import Derived.Test.YtompihlckpjbkaaArgs
import Derived.Deep.DeepMust
import Derived.Deep.RegionHeld3
namespace Go.Proofs.Ytompihlckpjbkaa
open Go.RowKit
open SI
set_option linter.unusedVariables false
attribute [local go_sem ↓] Go.wp_at_zero Go.wp_at_succ

/-- A list of ints of the law's. -/
def RowI (w : World) (a : Option Addr) (n : Nat) (F : Nat → Int) : Prop := ∀ i, i < n → ∃ b off, a = some ⟨b, off, none⟩ ∧ b < w.heap.size ∧ w.cell? ⟨b, off + i, none⟩ = some (.int .i64 (F i)) ∧ -9223372036854775808 ≤ F i ∧ F i ≤ 9223372036854775807
theorem rowI_of {w : World} {a : Option Addr} {n : Nat} {F : Nat → Int} (h : IntRow .i64 1 w a n F) : RowI w a n F := by
  intro i hi
  rcases h with h0 | ⟨b, off, h1, h2, _, h4⟩
  · omega
  · have := h4 i (by omega)
    exact ⟨b, off, h1, h2, this.1, bounds_i64 this.2⟩
theorem first_free (T : Nat → Bool) (m : Nat) : ∃ i, i ≤ m ∧ (∀ j, j < i → T j = true) ∧ (i = m ∨ (i < m ∧ T i = false)) := by
  induction m with
  | zero => exact ⟨0, Nat.le_refl _, fun j hj => by omega, .inl rfl⟩
  | succ m ih =>
    obtain ⟨i, h1, h2, h3⟩ := ih
    rcases h3 with rfl | ⟨h3, h4⟩
    · by_cases hT : T i = true
      · exact ⟨i + 1, Nat.le_refl _, fun j hj => by
          by_cases e : j = i
          · rw [e]; exact hT
          · exact h2 j (by omega), .inl rfl⟩
      · exact ⟨i, by omega, h2, .inr ⟨by omega, by simpa using hT⟩⟩
    · exact ⟨i, by omega, h2, .inr ⟨by omega, h4⟩⟩

/-- What is known between two rounds. -/
structure LoS (sb lo : Nat) (ta : Option Addr) (tc m : Nat) (T : Nat → Bool) (w W : World) : Prop where
  st : ∃ S V, SlotSt sb lo S m V T W ∧ (∀ x, x ∈ blk ta → x ∉ S)
  row : ValRow 4 lo ta m tc (flagV T) W
  since : Below lo w W
theorem slotsLowest_early (a1 a2 : Option Addr) (n1 n2 c1 c2 : Nat) (w : World) (h : 400 < n1 ∨ (n1 ≤ 400 ∧ 400 < n2)) :
    Calls Try.prog 3 #[.slice a1 n1 c1, .slice a2 n2 c2] w fun e w' => e = .returned (.bool true) ∧ Below w.heap.size w w' := by
  rcases h with h | ⟨h, h2⟩
  · have d1 : decide ((400 : Int) < (n1 : Int)) = true := by simp; omega
    go_enter Try.func3, Try.ntmps3
    go_wp2_with (go_at_call 12; refine (awake11 _).mono ?_; rintro e w' ⟨rfl, hb⟩)
    go_ret
    exact ⟨rfl, hb⟩
  · have d1 : decide ((400 : Int) < (n1 : Int)) = false := by simp; omega
    have d2 : decide ((400 : Int) < (n2 : Int)) = true := by simp; omega
    go_enter Try.func3, Try.ntmps3
    go_wp2_with (go_at_call 12; refine (awake11 _).mono ?_; rintro e w' ⟨rfl, hb⟩)
    go_ret
    exact ⟨rfl, hb⟩

set_option maxRecDepth 100000 in
set_option maxHeartbeats 4000000 in
theorem slotsLowest_main (a1 a2 : Option Addr) (n1 n2 c1 c2 : Nat) (F1 F2 : Nat → Int) (w : World) (h1 : n1 ≤ 400) (h2 : n2 ≤ 400) (r1 : RowI w a1 n1 F1) (r2 : RowI w a2 n2 F2) :
    Calls Try.prog 3 #[.slice a1 n1 c1, .slice a2 n2 c2] w fun e w' => e = .returned (.bool true) ∧ Below w.heap.size w w' := by
  obtain ⟨j0, hi, hz0, hz1, hz2⟩ := info_parts infoB
  have HJ := Lib.hid (And.intro hi (And.intro hz0 (And.intro hz1 hz2)))
  clear hi hz0 hz1 hz2
  have d1 : decide ((400 : Int) < (n1 : Int)) = false := by simp; omega
  have d2 : decide ((400 : Int) < (n2 : Int)) = false := by simp; omega
  have R1 := Lib.hid r1
  have R2 := Lib.hid r2
  have hn1 : (n1 : Int) ≤ 400 := by omega
  clear r1 r2
  go_enter Try.func3, Try.ntmps3
  go_wp2_with fail
  refine (new_any _).mono ?_
  rintro e w0 ⟨rfl, rfl⟩
  have H0 : Hid (LoS w.heap.size w.heap.size none 0 0 (fun _ => false) w (w.alloc (.cells #[.slice none 0 0, .slice none 0 0, .slice none 0 0] 34))) :=
    Lib.hid ⟨⟨_, _, st_new w w.heap.size (Nat.le_refl _) (fun _ => .int .i64 0) (fun _ => false), by simp [blk]⟩, ValRow.nil _ _ _ _, (Below.refl _ _).alloc (Nat.le_refl _) _⟩
  go_wp2_with fail
  go_loopw [6, 7, 8, 9] (fun tk hi n i wr => ∃ (k m : Nat) (ta : Option Addr) (tc : Nat) (T : Nat → Bool), k ≤ n1 ∧ m ≤ k ∧ i = .int .i64 k ∧ tk = .slice ta m tc ∧ hi = .int .i64 m ∧ n = .int .i64 (cntT T m) ∧ LoS w.heap.size w.heap.size ta tc m T w wr) (fun _ _ _ i _ => n1 - (intOf i).toNat)
  case atStart => exact ⟨0, 0, none, 0, fun _ => false, by omega, by omega, rfl, rfl, rfl, rfl, H0.out⟩
  case round =>
    obtain ⟨k, m, ta, tc, T, hk, hmk, rfl, rfl, rfl, rfl, hL⟩ := hrel
    clear H0
    have k0 : (0 : Int) ≤ (k : Int) := by omega
    have m0 : (m : Int) ≤ 400 := by omega
    have cm := cntT_le T m
    have HL := Lib.hid hL
    clear hL
    by_cases hlt : k < n1
    · have hlt' : (k : Int) < (n1 : Int) := by omega
      obtain ⟨i0, hi0, hlow, hend⟩ := first_free T m
      have HLOW := Lib.hid hlow
      obtain ⟨N, hN⟩ := ex_hid (cntT T m)
      rw [← hN.out] at cm ⊢
      clear hlow
      go_wp2_with fail
      obtain ⟨wo, rfl⟩ : ∃ wo : World, wo = wr := ⟨_, rfl⟩
      go_loopw [10] (fun lw wr' => ∃ q : Nat, q ≤ i0 ∧ lw = .int .i64 q ∧ Keeps [] wo wr') (fun lw _ => i0 - (intOf lw).toNat)
      case atStart => exact ⟨0, by omega, rfl, Keeps.refl _ _⟩
      case round =>
        obtain ⟨q, hq, rfl, hkp⟩ := hrel
        have q0 : (0 : Int) ≤ (q : Int) := by omega
        have row := HL.out.row.keeps hkp (by simp)
        by_cases hq2 : q < i0
        · obtain ⟨g, rfl⟩ := row.shape (by omega)
          have c1 := row.cell (k := q) (by omega)
          rw [show flagV T q = .bool true by simp [flagV, HLOW.out q hq2]] at c1
          have q1 : (q : Int) < (m : Int) := by omega
          have KP := Lib.hid hkp
          clear row hkp
          go_wp2_with fail
          go_roundw
          case rel => exact ⟨q + 1, by omega, by go_num, KP.out⟩
          case measure => simp [intOf]; omega
        · have hqi : q = i0 := by omega
          subst hqi
          have KP := Lib.hid hkp
          have ROW := Lib.hid row
          clear hkp row
          rcases hend with rfl | ⟨hlt2, hT⟩
          · have e0 : ¬ (q : Int) < (q : Int) := by omega
            have q3 : q + 1 ≤ maxLen := by unfold maxLen; omega
            have q4 : (q + 1) * 1 ≤ 140737488355328 := by omega
            have q5 : w.heap.size ≤ wr.heap.size := by have := HL.out.since.size; have := KP.out.size; omega
            have G := Lib.hid (And.intro q3 (And.intro q4 q5))
            clear q3 q4 q5
            have hNq : N = q := by rw [hN.out]; exact cntT_all HLOW.out
            subst hNq
            go_wp2_with (at_builtin; go_must (refine wpList_append_lies _ rfl _ _ 26 rfl w.heap.size 4 j0 (.bool false) 1 1 Try.underlying26 HJ.out.1 HJ.out.2.1 HJ.out.2.2.1 HJ.out.2.2.2 rfl (by decide) _ N (valR N (flagV T)) rfl (World.ownsRow.alloc ROW.out _) ⟨wr.heap.size, 0, none⟩ 1 1 [_] rfl rfl (cell_one_new _ _ _) (by intro u hu; simp at hu; subst hu; rfl) (by decide) G.out.1 G.out.2.1 (by have := G.out.2.2; simp <;> omega) (wr.heap.size + 1) (by simp) ?_); go_must (intro g cap1 w1 hown hgrow hat hlt1; have K1 := grown_keeps hgrow; have Y2 := Lib.hid (ValRow.of_append hown); have c1 : w1.cell? ⟨g, N, none⟩ = some (.bool false) := (by rw [Y2.out.cell (k := N) (by omega)]; simp [putV]); have f1 := Y2.out.free N; have Y1 := Lib.hid K1; have Y3 := Lib.hid (lies_in (h := wr.heap.size) hat (by omega)); have B1 := Lib.hid ((HL.out.since.trans (KP.out.below HL.out.since.size (by simp))).trans (K1.below (by have := G.out.2.2; omega) (fun x hx => (ROW.out.blk_lt x hx).1))); obtain ⟨ab, ao, rfl, hab, a0, ahi, alo⟩ := R1.out k hlt; have a1 : w1.cell? ⟨ab, ao + k, none⟩ = some (.int .i64 (F1 k)) := (B1.out.cell (p := ⟨ab, ao + k, none⟩) hab).trans a0; have ag0 := (Y2.out.blk_lt g (by simp [blk])).1; have ag : g ≠ ab := (by omega); clear ag0; clear hgrow hown hat K1 a0))
            obtain ⟨S, V, hst, hdis⟩ := HL.out.st
            have st1 := hst.keeps ((KP.out.mono (by simp)).trans Y1.out) (fun x hx hy => hdis x hy hx)
            have gS : g ∉ S := fun h => by rcases Y3.out with h' | h'; exact hdis g h' h; have := (hst.foot g h).2; have := KP.out.size; omega
            have st2 : SlotSt w.heap.size w.heap.size S N V T (w1.setCell ⟨g, N, none⟩ (.bool true)) := st1.keeps (S' := [g]) ((Keeps.refl _ _).setCell (.inr (by simp)) _) (fun y hy hy2 => by simp at hy2; exact gS (hy2 ▸ hy))
            have row2 : ValRow 4 w.heap.size (some ⟨g, 0, none⟩) (N + 1) cap1 (flagV (putB T N true)) (w1.setCell ⟨g, N, none⟩ (.bool true)) := (Y2.out.put N (.bool true)).congr (fun y hy => by unfold putV flagV putB; by_cases h : y = N <;> simp [h])
            have B2 : Below w.heap.size w (w1.setCell ⟨g, N, none⟩ (.bool true)) := B1.out.setCell (Y2.out.blk_lt g (by simp [blk])).1 _
            have Z := Lib.hid (And.intro st2 (And.intro row2 (And.intro B2 gS)))
            clear hst hdis st1 gS st2 row2 B2 c1 f1 a1
            refine (add_st_new _ _ _ _ _ _ _ _ Z.out.1 (by omega) HLOW.out).mono ?_
            rintro e w3 ⟨rfl, S3, h3, k3, f3⟩
            have HL3 : Hid (LoS w.heap.size w.heap.size (some ⟨g, 0, none⟩) cap1 (N + 1) (putB T N true) w w3) := Lib.hid ⟨⟨S3, _, h3, by intro y hy hy2; simp [blk] at hy; subst hy; exact (f3 y hy2).elim Z.out.2.2.2 (fun h => by have := (Z.out.2.1.blk_lt y (by simp [blk])).2; omega)⟩, Z.out.2.1.keeps k3 (by intro y hy; simp [blk] at hy; subst hy; exact Z.out.2.2.2), st_below Z.out.1 Z.out.2.2.1 (Nat.le_refl _) k3⟩
            clear h3 k3 f3
            obtain ⟨T1, hT1⟩ := ex_hid (putB T N true)
            have hct : Hid (cntT T1 (N + 1) = N + 1) := Lib.hid (by rw [hT1.out]; exact by simp only [cntT]; rw [cntT_congr (T := putB T N true) (U := T) (m := N) (fun i hi => by simp [putB, show i ≠ N by omega]), ← hN.out]; simp [putB])
            rw [← hT1.out] at HL3
            go_wp2_with fail
            obtain ⟨S3', V3, st3, d3⟩ := HL3.out.st
            refine (high_st _ _ _ _ _ _ _ st3).mono ?_
            rintro e w4 ⟨rfl, rfl⟩
            go_wp2_with fail
            refine (len_st _ _ _ _ _ _ _ st3 (by omega)).mono ?_
            rintro e w5 ⟨rfl, k5⟩
            rw [hct.out]
            have HL5 : Hid (LoS w.heap.size w.heap.size (some ⟨g, 0, none⟩) cap1 (N + 1) T1 w w5) := Lib.hid ⟨⟨S3', V3, st3.keeps k5 (by simp), d3⟩, HL3.out.row.keeps k5 (by simp), HL3.out.since.trans (k5.below HL3.out.since.size (by simp))⟩
            have hgl := (HL5.out.row.blk_lt g (by simp [blk])).1
            clear st3 d3 k5
            by_cases hf1 : k < n2
            · obtain ⟨fb, fo, rfl, hfb, b0, bhi, blo⟩ := R2.out k hf1
              have b1 : w5.cell? ⟨fb, fo + k, none⟩ = some (.int .i64 (F2 k)) := (HL5.out.since.cell (p := ⟨fb, fo + k, none⟩) hfb).trans b0
              have hf1' : (k : Int) < (n2 : Int) := by omega
              clear b0
              by_cases hf2 : 0 ≤ F2 k
              · obtain ⟨x, hx⟩ := Int.eq_ofNat_of_zero_le hf2
                rw [hx] at b1
                have HX := Lib.hid hx
                have xhi : (x : Int) ≤ 9223372036854775807 := by omega
                have x0 : (0 : Int) ≤ (x : Int) := by omega
                obtain ⟨r, hr⟩ := ex_hid (x % (N + 1))
                have rlt : r < (N + 1) := by rw [hr.out]; exact Nat.mod_lt _ (by omega)
                have e3 : (x : Int) % ((N : Int) + 1) = (r : Int) := by rw [hr.out]; simp
                have r0 : (0 : Int) ≤ (r : Int) := by omega
                have r1 : (r : Int) < (N : Int) + 1 := by omega
                have hM0 : (1 : Int) ≤ (N : Int) + 1 := by omega
                clear hx bhi blo hf2
                obtain ⟨S5, V5, st5, d5⟩ := HL5.out.st
                have gS5 : g ∉ S5 := d5 g (by simp [blk])
                have rc := HL5.out.row.cell (k := r) rlt
                by_cases hTr : T1 r = true
                · rw [show flagV T1 r = .bool true by simp [flagV, hTr]] at rc
                  have HTr := Lib.hid hTr
                  have hB : isB (N + 1) T1 (r : Int) = true := by simp [isB, hTr]; omega
                  clear hTr
                  have ST5 := Lib.hid st5
                  have D5 := Lib.hid d5
                  clear st5 d5
                  go_wp2_with fail
                  rw [e3]
                  go_region_held3 (fun w' => w'.cell? ⟨g, r, none⟩ = some (.bool true)) (go_keep) (first | (go_at_call 17; refine (free_st_in _ _ _ _ _ _ r _ rfl _ (ST5.out.keeps ((Keeps.refl [] w5).drew) (by simp)) hB (by omega)).mono ?_; rintro e w6 ⟨rfl, S6, h6, k6, f6⟩; have rc6 := k6.cell (w := w5.drew) rc gS5; have Z6 := Lib.hid (And.intro h6 (And.intro k6 f6)); clear h6 k6 f6))
                  have h6 := Z6.out.1
                  have k6 := Z6.out.2.1.undrew
                  have f6 : ∀ y, y ∈ S6 → y ∈ S5 ∨ w5.heap.size ≤ y := Z6.out.2.2
                  have st5 := ST5.out
                  have d5 := D5.out
                  clear rc6
                  have row6 := HL5.out.row.keeps k6 d5
                  have rc6 := row6.cell (k := r) rlt
                  rw [show flagV T1 r = .bool true by simp [flagV, HTr.out]] at rc6
                  have fc6 := row6.free r
                  have gS6 : g ∉ S6 := fun h => by rcases f6 g h with h' | h'; exact gS5 h'; have := (HL5.out.row.blk_lt g (by simp [blk])).2; omega
                  have HL6 : Hid (LoS w.heap.size w.heap.size (some ⟨g, 0, none⟩) cap1 (N + 1) (putB T1 r false) w (w6.setCell ⟨g, r, none⟩ (.bool false))) := Lib.hid ⟨⟨S6, _, h6.keeps (S' := [g]) ((Keeps.refl _ _).setCell (.inr (by simp)) _) (fun y hy hy2 => by simp at hy2; exact gS6 (hy2 ▸ hy)), by intro y hy; simp [blk] at hy; subst hy; exact gS6⟩, by rw [← flagV_put]; exact row6.put _ _, (st_below st5 HL5.out.since (Nat.le_refl _) k6).setCell hgl _⟩
                  clear rc b1 row6 h6 k6 f6 st5 d5 hB
                  go_wp2_with fail
                  go_roundw
                  case rel =>
                    refine ⟨k + 1, (N + 1), _, cap1, putB T1 r false, by omega, by omega, by go_num, rfl, by first | rfl | go_num, ?_, HL6.out⟩
                    have := cntT_put (T := T1) (m := (N + 1)) (i := r) false rlt
                    rw [HTr.out, hct.out] at this
                    simp at this
                    rw [show cntT (putB T1 r false) (N + 1) = N by omega]
                  case measure => simp [intOf]; omega
                · have hTr' : T1 r = false := by simpa using hTr
                  rw [show flagV T1 r = .bool false by simp [flagV, hTr']] at rc
                  have HTr := Lib.hid hTr'
                  have hB : isB (N + 1) T1 (r : Int) = false := by simp [isB, hTr']
                  clear hTr hTr'
                  have ST5 := Lib.hid st5
                  have D5 := Lib.hid d5
                  clear st5 d5
                  go_wp2_with fail
                  rw [e3]
                  go_region_held3 (fun w' => w'.cell? ⟨g, r, none⟩ = some (.bool false)) (go_keep) (first | (go_at_call 17; refine (free_st_out _ _ _ _ _ _ _ _ (ST5.out.keeps ((Keeps.refl [] w5).drew) (by simp)) hB).mono ?_; rintro e w6 ⟨rfl, S6, h6, k6, f6⟩; have rc6 := k6.cell (w := w5.drew) rc gS5; have Z6 := Lib.hid (And.intro h6 (And.intro k6 f6)); clear h6 k6 f6))
                  have h6 := Z6.out.1
                  have k6 := Z6.out.2.1.undrew
                  have f6 : ∀ y, y ∈ S6 → y ∈ S5 ∨ w5.heap.size ≤ y := Z6.out.2.2
                  have st5 := ST5.out
                  have d5 := D5.out
                  clear rc6
                  have row6 := HL5.out.row.keeps k6 d5
                  have rc6 := row6.cell (k := r) rlt
                  rw [show flagV T1 r = .bool false by simp [flagV, HTr.out]] at rc6
                  have fc6 := row6.free r
                  have gS6 : g ∉ S6 := fun h => by rcases f6 g h with h' | h'; exact gS5 h'; have := (HL5.out.row.blk_lt g (by simp [blk])).2; omega
                  have HL6 : Hid (LoS w.heap.size w.heap.size (some ⟨g, 0, none⟩) cap1 (N + 1) T1 w (w6.setCell ⟨g, r, none⟩ (.bool false))) := Lib.hid ⟨⟨S6, _, h6.keeps (S' := [g]) ((Keeps.refl _ _).setCell (.inr (by simp)) _) (fun y hy hy2 => by simp at hy2; exact gS6 (hy2 ▸ hy)), by intro y hy; simp [blk] at hy; subst hy; exact gS6⟩, (row6.put r (.bool false)).congr (fun y hy => by unfold putV flagV; by_cases h : y = r <;> simp [h, HTr.out]), (st_below st5 HL5.out.since (Nat.le_refl _) k6).setCell hgl _⟩
                  clear rc b1 row6 h6 k6 f6 st5 d5 hB
                  go_wp2_with fail
                  go_roundw
                  case rel => exact ⟨k + 1, (N + 1), _, cap1, T1, by omega, by omega, by go_num, rfl, by first | rfl | go_num, by rw [hct.out]; go_num, HL6.out⟩
                  case measure => simp [intOf]; omega
              · have hf2' : F2 k < 0 := by omega
                go_wp2_with fail
                go_roundw
                case rel => exact ⟨k + 1, (N + 1), _, cap1, T1, by omega, by omega, by go_num, rfl, by first | rfl | go_num, by rw [hct.out]; go_num, HL5.out⟩
                case measure => simp [intOf]; omega
            · have hf1' : ¬ (k : Int) < (n2 : Int) := by omega
              go_wp2_with fail
              go_roundw
              case rel => exact ⟨k + 1, (N + 1), _, cap1, T1, by omega, by omega, by go_num, rfl, by first | rfl | go_num, by rw [hct.out]; go_num, HL5.out⟩
              case measure => simp [intOf]; omega
          · have hne : ((q : Int) == (m : Int)) = false := by simp; omega
            obtain ⟨g, rfl⟩ := ROW.out.shape (by omega)
            have c1 := ROW.out.cell hlt2
            rw [show flagV T q = .bool false by simp [flagV, hT]] at c1
            have f1 := ROW.out.free q
            have HT := Lib.hid hT
            have hput := cntT_put (T := T) (m := m) (i := q) true hlt2
            rw [hT, ← hN.out] at hput
            simp at hput
            have hle := cntT_le (putB T q true) m
            have HPUT := Lib.hid hput
            have dn : decide ((m : Int) < (N : Int) + 1) = false := by simp; omega
            have q1 : (q : Int) < (m : Int) := by omega
            obtain ⟨ab, ao, rfl, hab, a0, ahi, alo⟩ := R1.out k hlt
            have BW := Lib.hid (HL.out.since.trans (KP.out.below HL.out.since.size (by simp)))
            have a1 : wr.cell? ⟨ab, ao + k, none⟩ = some (.int .i64 (F1 k)) := (BW.out.cell (p := ⟨ab, ao + k, none⟩) hab).trans a0
            have ag0 := (ROW.out.blk_lt g (by simp [blk])).1
            have ag : g ≠ ab := by omega
            clear hput hT a0 hle
            go_wp2_with fail
            obtain ⟨S, V, hst, hdis⟩ := HL.out.st
            have st1 := hst.keeps KP.out (by simp)
            have gS : g ∉ S := hdis g (by simp [blk])
            have st2 : SlotSt w.heap.size w.heap.size S m V T (wr.setCell ⟨g, q, none⟩ (.bool true)) := st1.keeps (S' := [g]) ((Keeps.refl _ _).setCell (.inr (by simp)) _) (fun y hy hy2 => by simp at hy2; exact gS (hy2 ▸ hy))
            have row2 : ValRow 4 w.heap.size (some ⟨g, 0, none⟩) m tc (flagV (putB T q true)) (wr.setCell ⟨g, q, none⟩ (.bool true)) := by rw [← flagV_put]; exact ROW.out.put _ _
            have B2 : Below w.heap.size w (wr.setCell ⟨g, q, none⟩ (.bool true)) := BW.out.setCell ag0 _
            have Z := Lib.hid (And.intro st2 (And.intro row2 (And.intro B2 gS)))
            clear hst hdis st1 gS st2 row2 B2 c1 f1 a1
            refine (add_st_old _ _ _ _ _ _ q _ _ Z.out.1 (by omega) HLOW.out hlt2 HT.out).mono ?_
            rintro e w3 ⟨rfl, S3, h3, k3, f3⟩
            have HL3 : Hid (LoS w.heap.size w.heap.size (some ⟨g, 0, none⟩) tc m (putB T q true) w w3) := Lib.hid ⟨⟨S3, _, h3, by intro y hy hy2; simp [blk] at hy; subst hy; exact (f3 y hy2).elim Z.out.2.2.2 (fun h => by have := (Z.out.2.1.blk_lt y (by simp [blk])).2; omega)⟩, Z.out.2.1.keeps k3 (by intro y hy; simp [blk] at hy; subst hy; exact Z.out.2.2.2), st_below Z.out.1 Z.out.2.2.1 (Nat.le_refl _) k3⟩
            clear h3 k3 f3
            obtain ⟨T1, hT1⟩ := ex_hid (putB T q true)
            have hct : Hid (cntT T1 m = N + 1) := Lib.hid (by rw [hT1.out]; exact HPUT.out)
            rw [← hT1.out] at HL3
            go_wp2_with fail
            obtain ⟨S3', V3, st3, d3⟩ := HL3.out.st
            refine (high_st _ _ _ _ _ _ _ st3).mono ?_
            rintro e w4 ⟨rfl, rfl⟩
            go_wp2_with fail
            refine (len_st _ _ _ _ _ _ _ st3 (by omega)).mono ?_
            rintro e w5 ⟨rfl, k5⟩
            rw [hct.out]
            have HL5 : Hid (LoS w.heap.size w.heap.size (some ⟨g, 0, none⟩) tc m T1 w w5) := Lib.hid ⟨⟨S3', V3, st3.keeps k5 (by simp), d3⟩, HL3.out.row.keeps k5 (by simp), HL3.out.since.trans (k5.below HL3.out.since.size (by simp))⟩
            have hgl := (HL5.out.row.blk_lt g (by simp [blk])).1
            clear st3 d3 k5
            by_cases hf1 : k < n2
            · obtain ⟨fb, fo, rfl, hfb, b0, bhi, blo⟩ := R2.out k hf1
              have b1 : w5.cell? ⟨fb, fo + k, none⟩ = some (.int .i64 (F2 k)) := (HL5.out.since.cell (p := ⟨fb, fo + k, none⟩) hfb).trans b0
              have hf1' : (k : Int) < (n2 : Int) := by omega
              clear b0
              by_cases hf2 : 0 ≤ F2 k
              · obtain ⟨x, hx⟩ := Int.eq_ofNat_of_zero_le hf2
                rw [hx] at b1
                have HX := Lib.hid hx
                have xhi : (x : Int) ≤ 9223372036854775807 := by omega
                have x0 : (0 : Int) ≤ (x : Int) := by omega
                obtain ⟨r, hr⟩ := ex_hid (x % m)
                have rlt : r < m := by rw [hr.out]; exact Nat.mod_lt _ (by omega)
                have e3 : (x : Int) % ((m : Int)) = (r : Int) := by rw [hr.out]; simp
                have r0 : (0 : Int) ≤ (r : Int) := by omega
                have r1 : (r : Int) < (m : Int) := by omega
                have hM0 : (1 : Int) ≤ (m : Int) := by omega
                clear hx bhi blo hf2
                obtain ⟨S5, V5, st5, d5⟩ := HL5.out.st
                have gS5 : g ∉ S5 := d5 g (by simp [blk])
                have rc := HL5.out.row.cell (k := r) rlt
                by_cases hTr : T1 r = true
                · rw [show flagV T1 r = .bool true by simp [flagV, hTr]] at rc
                  have HTr := Lib.hid hTr
                  have hB : isB m T1 (r : Int) = true := by simp [isB, hTr]; omega
                  clear hTr
                  have ST5 := Lib.hid st5
                  have D5 := Lib.hid d5
                  clear st5 d5
                  go_wp2_with fail
                  rw [e3]
                  go_region_held3 (fun w' => w'.cell? ⟨g, r, none⟩ = some (.bool true)) (go_keep) (first | (go_at_call 17; refine (free_st_in _ _ _ _ _ _ r _ rfl _ (ST5.out.keeps ((Keeps.refl [] w5).drew) (by simp)) hB (by omega)).mono ?_; rintro e w6 ⟨rfl, S6, h6, k6, f6⟩; have rc6 := k6.cell (w := w5.drew) rc gS5; have Z6 := Lib.hid (And.intro h6 (And.intro k6 f6)); clear h6 k6 f6))
                  have h6 := Z6.out.1
                  have k6 := Z6.out.2.1.undrew
                  have f6 : ∀ y, y ∈ S6 → y ∈ S5 ∨ w5.heap.size ≤ y := Z6.out.2.2
                  have st5 := ST5.out
                  have d5 := D5.out
                  clear rc6
                  have row6 := HL5.out.row.keeps k6 d5
                  have rc6 := row6.cell (k := r) rlt
                  rw [show flagV T1 r = .bool true by simp [flagV, HTr.out]] at rc6
                  have fc6 := row6.free r
                  have gS6 : g ∉ S6 := fun h => by rcases f6 g h with h' | h'; exact gS5 h'; have := (HL5.out.row.blk_lt g (by simp [blk])).2; omega
                  have HL6 : Hid (LoS w.heap.size w.heap.size (some ⟨g, 0, none⟩) tc m (putB T1 r false) w (w6.setCell ⟨g, r, none⟩ (.bool false))) := Lib.hid ⟨⟨S6, _, h6.keeps (S' := [g]) ((Keeps.refl _ _).setCell (.inr (by simp)) _) (fun y hy hy2 => by simp at hy2; exact gS6 (hy2 ▸ hy)), by intro y hy; simp [blk] at hy; subst hy; exact gS6⟩, by rw [← flagV_put]; exact row6.put _ _, (st_below st5 HL5.out.since (Nat.le_refl _) k6).setCell hgl _⟩
                  clear rc b1 row6 h6 k6 f6 st5 d5 hB
                  go_wp2_with fail
                  go_roundw
                  case rel =>
                    refine ⟨k + 1, m, _, tc, putB T1 r false, by omega, by omega, by go_num, rfl, by first | rfl | go_num, ?_, HL6.out⟩
                    have := cntT_put (T := T1) (m := m) (i := r) false rlt
                    rw [HTr.out, hct.out] at this
                    simp at this
                    rw [show cntT (putB T1 r false) m = N by omega]
                  case measure => simp [intOf]; omega
                · have hTr' : T1 r = false := by simpa using hTr
                  rw [show flagV T1 r = .bool false by simp [flagV, hTr']] at rc
                  have HTr := Lib.hid hTr'
                  have hB : isB m T1 (r : Int) = false := by simp [isB, hTr']
                  clear hTr hTr'
                  have ST5 := Lib.hid st5
                  have D5 := Lib.hid d5
                  clear st5 d5
                  go_wp2_with fail
                  rw [e3]
                  go_region_held3 (fun w' => w'.cell? ⟨g, r, none⟩ = some (.bool false)) (go_keep) (first | (go_at_call 17; refine (free_st_out _ _ _ _ _ _ _ _ (ST5.out.keeps ((Keeps.refl [] w5).drew) (by simp)) hB).mono ?_; rintro e w6 ⟨rfl, S6, h6, k6, f6⟩; have rc6 := k6.cell (w := w5.drew) rc gS5; have Z6 := Lib.hid (And.intro h6 (And.intro k6 f6)); clear h6 k6 f6))
                  have h6 := Z6.out.1
                  have k6 := Z6.out.2.1.undrew
                  have f6 : ∀ y, y ∈ S6 → y ∈ S5 ∨ w5.heap.size ≤ y := Z6.out.2.2
                  have st5 := ST5.out
                  have d5 := D5.out
                  clear rc6
                  have row6 := HL5.out.row.keeps k6 d5
                  have rc6 := row6.cell (k := r) rlt
                  rw [show flagV T1 r = .bool false by simp [flagV, HTr.out]] at rc6
                  have fc6 := row6.free r
                  have gS6 : g ∉ S6 := fun h => by rcases f6 g h with h' | h'; exact gS5 h'; have := (HL5.out.row.blk_lt g (by simp [blk])).2; omega
                  have HL6 : Hid (LoS w.heap.size w.heap.size (some ⟨g, 0, none⟩) tc m T1 w (w6.setCell ⟨g, r, none⟩ (.bool false))) := Lib.hid ⟨⟨S6, _, h6.keeps (S' := [g]) ((Keeps.refl _ _).setCell (.inr (by simp)) _) (fun y hy hy2 => by simp at hy2; exact gS6 (hy2 ▸ hy)), by intro y hy; simp [blk] at hy; subst hy; exact gS6⟩, (row6.put r (.bool false)).congr (fun y hy => by unfold putV flagV; by_cases h : y = r <;> simp [h, HTr.out]), (st_below st5 HL5.out.since (Nat.le_refl _) k6).setCell hgl _⟩
                  clear rc b1 row6 h6 k6 f6 st5 d5 hB
                  go_wp2_with fail
                  go_roundw
                  case rel => exact ⟨k + 1, m, _, tc, T1, by omega, by omega, by go_num, rfl, by first | rfl | go_num, by rw [hct.out]; go_num, HL6.out⟩
                  case measure => simp [intOf]; omega
              · have hf2' : F2 k < 0 := by omega
                go_wp2_with fail
                go_roundw
                case rel => exact ⟨k + 1, m, _, tc, T1, by omega, by omega, by go_num, rfl, by first | rfl | go_num, by rw [hct.out]; go_num, HL5.out⟩
                case measure => simp [intOf]; omega
            · have hf1' : ¬ (k : Int) < (n2 : Int) := by omega
              go_wp2_with fail
              go_roundw
              case rel => exact ⟨k + 1, m, _, tc, T1, by omega, by omega, by go_num, rfl, by first | rfl | go_num, by rw [hct.out]; go_num, HL5.out⟩
              case measure => simp [intOf]; omega
    · have hge : ¬ (k : Int) < (n1 : Int) := by omega
      go_wp2_with (go_at_call 12; refine (awake11 _).mono ?_; rintro e w' ⟨rfl, hb⟩)
      go_ret
      exact ⟨rfl, HL.out.since.trans (hb.mono HL.out.since.size)⟩

theorem slotsLowest_walk (a1 : Option Addr) (n1 c1 : Nat) (F1 : Nat → Int) (a2 : Option Addr) (n2 c2 : Nat) (F2 : Nat → Int) (w : World) (r1 : IntRow .i64 1 w a1 n1 F1) (r2 : IntRow .i64 1 w a2 n2 F2) :
    Calls Try.prog 3 #[.slice a1 n1 c1, .slice a2 n2 c2] w fun e w' => e = .returned (.bool true) ∧ Below w.heap.size w w' := by
  by_cases h1 : 400 < n1
  · exact slotsLowest_early a1 a2 n1 n2 c1 c2 w (.inl h1)
  by_cases h2 : 400 < n2
  · exact slotsLowest_early a1 a2 n1 n2 c1 c2 w (.inr ⟨by omega, h2⟩)
  exact slotsLowest_main a1 a2 n1 n2 c1 c2 F1 F2 w (by omega) (by omega) (rowI_of r1) (rowI_of r2)
end Go.Proofs.Ytompihlckpjbkaa
