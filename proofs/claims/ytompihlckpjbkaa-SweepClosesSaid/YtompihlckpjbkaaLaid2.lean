/- laid, walked (chapter 12). -/
import Derived.Test.YtompihlckpjbkaaLaid
import Derived.Test.YtompihlckpjbkaaSweepSame
import Derived.Deep.DeepMust
namespace Go.Proofs.Ytompihlckpjbkaa
open Go.RowKit
set_option linter.unusedVariables false

/-- Numbers that came in. -/
def IntAt (w : World) (a : Option Addr) (n : Nat) (F : Nat → Int) : Prop := ∀ i, i < n → ∃ b off, a = some ⟨b, off, none⟩ ∧ w.cell? ⟨b, off + i, none⟩ = some (.int .i64 (F i))
theorem IntAt.keeps {w w' : World} {a : Option Addr} {n : Nat} {F : Nat → Int} (h : IntAt w a n F) (k : Keeps [] w w') : IntAt w' a n F := fun i hi => by
  obtain ⟨b, off, h1, h2⟩ := h i hi
  exact ⟨b, off, h1, k.cell h2 (by simp)⟩

/-- Behind laid. -/
def LaidC (n n2 : Nat) (LL : Nat → List Int) (w : World) (e : Ending) (w' : World) : Prop :=
  ∃ sb wb S R V U T, e = .returned (.tuple #[.pointer (some ⟨sb, 0, none⟩), .pointer (some ⟨wb, 0, none⟩), .bool true]) ∧ SW sb wb w.heap.size S R n V U T LL w' ∧ Keeps [] w w' ∧ (n2 = 0 → ∀ i, T i = true)

theorem putV_self (V : Nat → Value) (k : Nat) : putV V k (V k) = V := by funext i; unfold putV; split <;> simp_all
theorem putB_true (k : Nat) : putB (fun _ => true) k true = fun _ => true := by funext i; simp [putB]

set_option maxRecDepth 100000 in
set_option maxHeartbeats 4000000 in
theorem laid_any (la : Option Addr) (n lc : Nat) (V0 : Nat → Value) (LL : Nat → List Int) (fa : Option Addr) (n2 fc : Nat) (F2 : Nat → Int) (w : World) (hl : RowsAt w la n V0 LL) (hn : n ≤ 200) (hL : ∀ i, i < n → (LL i).length ≤ 60) (hf : IntAt w fa n2 F2) :
    Calls Try.prog 26 #[.slice la n lc, .slice fa n2 fc] w (LaidC n n2 LL w) := by
  obtain ⟨j0, hi, hz0, hz1, hz2⟩ := info_parts infoI
  have HJ := Lib.hid (And.intro hi (And.intro hz0 (And.intro hz1 hz2)))
  clear hi hz0 hz1 hz2
  have HL := Lib.hid hl
  have HLL := Lib.hid hL
  have HF := Lib.hid hf
  have hn' : (n : Int) ≤ 200 := by omega
  clear hl hL hf
  go_enter Try.func26, Try.ntmps26
  go_wp2_with fail
  refine (SL.new_any _).mono ?_
  rintro e w0 ⟨rfl, rfl⟩
  have S0 : Hid (SW w.heap.size (w.heap.size + 1) w.heap.size [w.heap.size] [w.heap.size + 1] 0 (fun _ => .slice none 0 0) V0 (fun _ => true) LL ((w.alloc (.cells #[.slice none 0 0, .slice none 0 0, .slice none 0 0] 89)).alloc (.cells #[.slice none 0 0, .slice none 0 0] 38))) :=
    Lib.hid ⟨(SL.st_new w w.heap.size (Nat.le_refl _) _ _).keeps ((Keeps.refl [] _).alloc _) (by simp), ⟨none, 0, none, 0, has_new' _ _ (by simp), ValRow.nil _ _ _ _, ValRow.nil _ _ _ _, by omega, by simp [blk]⟩, fun i hi => by omega, fun i hi => by omega, by simp⟩
  go_wp2_with fail
  go_loopw [9] (fun i wr => ∃ (k : Nat) (S R : List Nat) (V : Nat → Value), k ≤ n ∧ i = .int .i64 k ∧ SW w.heap.size (w.heap.size + 1) w.heap.size S R k V V0 (fun _ => true) LL wr ∧ Keeps [] w wr) (fun i _ => n - (intOf i).toNat)
  case atStart => exact ⟨0, _, _, _, by omega, rfl, S0.out, ((Keeps.refl _ _).alloc _).alloc _⟩
  case round =>
    clear S0
    obtain ⟨k, S, R, V, hk, rfl, hS, hK⟩ := hrel
    have HS := Lib.hid hS
    have HK := Lib.hid hK
    have k0 : (0 : Int) ≤ (k : Int) := by omega
    clear hS hK
    by_cases hlt : k < n
    · have hlt' : (k : Int) < (n : Int) := by omega
      obtain ⟨b, off, a, c, rfl, g1, g2, g3, g4⟩ := HL.out k hlt
      have G2 := Lib.hid g2
      have G3 := Lib.hid g3
      have G4 := Lib.hid (g4.keeps HK.out)
      have l60 := HLL.out k hlt
      have c1 := HK.out.cell g1 (by simp)
      have hsrc : Hid (∀ j, j < (LL k).length → ∃ b off, a = some ⟨b, off, none⟩ ∧ wr.cell? ⟨b, off + j, none⟩ = some (Value.int .i64 ((LL k).getD j 0))) := Lib.hid (by
        obtain ⟨a', c', e1, e2⟩ := G4.out
        rw [G2.out] at e1
        simp at e1
        obtain ⟨rfl, rfl⟩ := e1
        exact e2)
      have q3 : (LL k).length ≤ maxLen := by unfold maxLen; omega
      have q4 : (LL k).length * 8 ≤ 140737488355328 := by omega
      have G := Lib.hid (And.intro q3 q4)
      obtain ⟨N, hN⟩ := ex_hid (LL k).length
      have hN60 : (N : Int) ≤ 60 := by have := hN.out; omega
      have fS : Hid (∀ x, x ∈ S ++ R → w.heap.size ≤ x ∧ x < wr.heap.size) := Lib.hid fun x hx => (List.mem_append.1 hx).elim (HS.out.st.foot x) (HS.out.rf.foot x)
      rw [← hN.out] at c1
      clear g1 g2 g3 g4 q3 q4 l60
      go_wp2_with (at_builtin; go_must (refine wpList_append_src rfl _ _ 22 rfl wr.heap.size 3 j0 (.int .i64 0) 8 Try.underlying22 HJ.out.1 HJ.out.2.1 HJ.out.2.2.1 HJ.out.2.2.2 rfl rfl a N c (fun j => .int .i64 ((LL k).getD j 0)) rfl (fun h => (by have := G3.out h; subst this; subst h; refine ⟨?_, rfl⟩; rcases Nat.eq_zero_or_pos N with h0 | h0; exact h0; obtain ⟨b', off', e1, _⟩ := hsrc.out 0 (by rw [← hN.out]; exact h0); simp at e1)) (by rw [hN.out]; exact hsrc.out) (fun k hk => rfl) (by rw [hN.out]; exact G.out.1) (by rw [hN.out]; exact G.out.2) (Nat.le_refl _) ?_); go_must (intro xa xc w1 row1 k1; have ROW := Lib.hid row1; have K1 := Lib.hid k1; clear row1 k1))
      have st1 := HS.out.st.keeps K1.out (by simp)
      have K2 := Lib.hid ((HK.out.trans K1.out))
      have lv1 : LeadsX (S ++ R) (k + 1) (putV V k (.slice xa N xc)) (fun _ => true) LL w1 := fun i hi ht => by
        unfold putV
        by_cases e : i = k
        · subst e
          rw [if_pos rfl]
          refine ⟨⟨xa, xc, by rw [hN.out], fun j hj => ?_⟩, HLL.out i hlt⟩
          have hjN : j < N := by rw [hN.out]; exact hj
          obtain ⟨g, rfl⟩ := ROW.out.shape (by omega)
          have hg := (ROW.out.blk_lt g (by simp [blk])).1
          exact ⟨g, 0, rfl, fun hx => by have := (fS.out g hx).2; omega, by rw [Nat.zero_add]; exact ROW.out.cell hjN⟩
        · rw [if_neg e]
          exact ⟨((HS.out.lv i (by omega) rfl).1).keeps K1.out (by simp), (HS.out.lv i (by omega) rfl).2⟩
      have lu1 : LeadsX (S ++ R) (k + 1) V0 (fun _ => true) LL w1 := fun i hi ht => by
        by_cases e : i = k
        · subst e
          exact ⟨((HL.out i hlt).elim fun b h => by obtain ⟨off, a', c', _, _, _, _, h⟩ := h; exact (h.rowX (S ++ R) (fun x hx => (fS.out x hx).1)).keeps K2.out (by simp)), HLL.out i hlt⟩
        · exact ⟨((HS.out.lu i (by omega) rfl).1).keeps K1.out (by simp), (HS.out.lu i (by omega) rfl).2⟩
      have ST1 := Lib.hid st1
      have LV1 := Lib.hid lv1
      have LU1 := Lib.hid lu1
      clear st1 lv1 lu1
      have c2 := K1.out.cell c1 (by simp)
      refine (SL.add_st_new _ _ _ _ _ _ xa N xc _ ST1.out (by omega) (fun _ _ => rfl)).mono ?_
      rintro e w2 ⟨rfl, S2, st2, k2, f2⟩
      have hS2 : ∀ x, x ∈ S2 → x ∉ R := fun x hx hy => by
        rcases f2 x hx with h | h
        · exact HS.out.dj x h hy
        · have h1 := (fS.out x (by simp [hy])).2; have h2 := K1.out.size; omega
      have hq : ∀ x, x ∈ S2 ++ R → x ∈ S ++ R ∨ w1.heap.size ≤ x := fun x hx => by
        rcases List.mem_append.1 hx with h1 | h1
        · exact (f2 x h1).elim (fun h => .inl (by simp [h])) .inr
        · exact .inl (by simp [h1])
      have LV2 := Lib.hid (LV1.out.go k2 (by simp +contextual) hq)
      have LU2 := Lib.hid (LU1.out.go k2 (by simp +contextual) hq)
      have RF2 := Lib.hid ((HS.out.rf.keeps K1.out (by simp)).keeps k2 (fun x hx hy => HS.out.dj x hy hx))
      rw [putB_true] at st2
      have ST2 := Lib.hid st2
      have HS2 := Lib.hid hS2
      have bn : b ∉ S := fun hx => by have h1 := (fS.out b (by simp [hx])).1; have h2 := World.block_lt_of_cell? _ _ (HL.out k hlt).choose_spec.choose_spec.choose_spec.choose_spec.2.1; obtain ⟨b', off', a', c', e1, _⟩ := HL.out k hlt; simp at e1; have e3 := (HL.out k hlt).choose_spec.choose_spec.choose_spec.choose_spec.1; simp at e3; simp at h2; omega
      have c3 := k2.cell c2 bn
      have K3 := Lib.hid (K2.out.then k2 (fun x hx => .inl (fS.out x (by simp [hx])).1))
      clear st2 k2 f2 hS2 hq bn c1 c2
      go_wp2_with fail
      refine (refAdd_new _ _ _ _ _ _ a N c _ RF2.out (by omega) (fun _ _ => rfl)).mono ?_
      rintro e w3 ⟨rfl, R3, rf3, k3, f3⟩
      have hv : (Value.slice a N c) = V0 k := by rw [G2.out, hN.out]
      rw [putB_true, hv, putV_self] at rf3
      have S3 : Hid (SW w.heap.size (w.heap.size + 1) w.heap.size S2 R3 (k + 1) (putV V k (.slice xa N xc)) V0 (fun _ => true) LL w3) := Lib.hid
        ⟨ST2.out.keeps k3 (fun x hx hy => HS2.out x hx hy), rf3, LV2.out.right k3 f3, LU2.out.right k3 f3, fun x hx hy => (f3 x hy).elim (HS2.out x hx) (fun h => by have := (ST2.out.foot x hx).2; omega)⟩
      have K4 := Lib.hid (K3.out.then k3 (fun x hx => .inl (fS.out x (by simp [hx])).1))
      clear rf3 k3 f3 hv c3
      go_wp2_with fail
      go_roundw
      case rel => exact ⟨k + 1, S2, R3, _, by omega, by go_num, S3.out, K4.out⟩
      case measure => simp [intOf]; omega
    · obtain rfl : k = n := by omega
      have hge : ¬ (k : Int) < (k : Int) := by omega
      go_wp2_with fail
      go_loopw [11] (fun i wr => ∃ (j : Nat) (S R : List Nat) (V U : Nat → Value) (T : Nat → Bool), j ≤ n2 ∧ i = .int .i64 j ∧ SW w.heap.size (w.heap.size + 1) w.heap.size S R k V U T LL wr ∧ Keeps [] w wr ∧ (n2 = 0 → ∀ i, T i = true)) (fun i _ => n2 - (intOf i).toNat)
      case atStart => exact ⟨0, S, R, V, V0, _, by omega, rfl, HS.out, HK.out, fun _ _ => rfl⟩
      case round =>
        clear HS HK
        obtain ⟨j, S, R, V, U, T, hj, rfl, hS, hK, hT⟩ := hrel
        have HS := Lib.hid hS
        have HK := Lib.hid hK
        have HT := Lib.hid hT
        have j0' : (0 : Int) ≤ (j : Int) := by omega
        have fS : Hid (∀ x, x ∈ S ++ R → w.heap.size ≤ x ∧ x < wr.heap.size) := Lib.hid fun x hx => (List.mem_append.1 hx).elim (HS.out.st.foot x) (HS.out.rf.foot x)
        clear hS hK hT
        by_cases hlt2 : j < n2 ∧ j < 200
        · obtain ⟨g1, g2⟩ := hlt2
          have d1 : (j : Int) < (n2 : Int) := by omega
          have d2 : (j : Int) < 200 := by omega
          obtain ⟨b, off, rfl, c0⟩ := HF.out j g1
          have c1 := HK.out.cell c0 (by simp)
          have hbw := World.block_lt_of_cell? _ _ c0
          have bS : Hid (b ∉ S ++ R) := Lib.hid fun hx => by have := (fS.out b hx).1; simp at hbw; omega
          obtain ⟨f, hf⟩ := ex_hid (F2 j)
          rw [← hf.out] at c1
          clear c0 hbw
          by_cases hB : isB k T f = true
          · have hb := isB_lt hB
            obtain ⟨y, hy⟩ := Int.eq_ofNat_of_zero_le hb.1
            subst hy
            have HB := Lib.hid hB
            clear hb hB
            go_wp2_with fail
            refine (SL.free_st_in _ _ _ _ _ _ y _ rfl _ HS.out.st HB.out (by omega)).mono ?_
            rintro e w2 ⟨rfl, S2, st2, k2, f2⟩
            obtain ⟨rf2, lv2, lu2, dj2⟩ := HS.out.left k2 f2
            have c2 := k2.cell c1 (fun h => bS.out (by simp [h]))
            have ST2 := Lib.hid st2
            have RF2 := Lib.hid rf2
            have LV2 := Lib.hid lv2
            have LU2 := Lib.hid lu2
            have DJ2 := Lib.hid dj2
            have K2 := Lib.hid (HK.out.then k2 (fun x hx => .inl (fS.out x (by simp [hx])).1))
            clear st2 rf2 lv2 lu2 dj2 k2 f2 c1
            go_wp2_with fail
            refine (refFree_in _ _ _ _ _ _ (y : Int) _ RF2.out HB.out).mono ?_
            rintro e w3 ⟨rfl, R3, rf3, k3, f3⟩
            simp only [Int.toNat_natCast] at rf3
            have sub : ∀ (X : Nat → Value), ∀ i, i < k → putB T y false i = true → T i = true ∧ putV X y (.slice none 0 0) i = X i := fun X i hi ht => by
              unfold putB at ht
              split at ht
              · simp at ht
              · rename_i e; exact ⟨ht, by unfold putV; rw [if_neg e]⟩
            have S3 : Hid (SW w.heap.size (w.heap.size + 1) w.heap.size S2 R3 k (putV V y (.slice none 0 0)) (putV U y (.slice none 0 0)) (putB T y false) LL w3) := Lib.hid
              ⟨ST2.out.keeps k3 (fun x hx hy => DJ2.out x hx hy), rf3, (LV2.out.right k3 f3).sub (sub V), (LU2.out.right k3 f3).sub (sub U), fun x hx hy => (f3 x hy).elim (DJ2.out x hx) (fun h => by have := (ST2.out.foot x hx).2; omega)⟩
            have K4 := Lib.hid (K2.out.then k3 (fun x hx => .inl (fS.out x (by simp [hx])).1))
            clear rf3 k3 f3 c2 sub
            go_wp2_with fail
            go_roundw
            case rel => exact ⟨j + 1, S2, R3, _, _, _, by omega, by go_num, S3.out, K4.out, fun h => by omega⟩
            case measure => simp [intOf]; omega
          · have hB' : isB k T f = false := by simpa using hB
            have HB := Lib.hid hB'
            clear hB hB'
            go_wp2_with fail
            refine (SL.free_st_out _ _ _ _ _ _ _ _ HS.out.st HB.out).mono ?_
            rintro e w2 ⟨rfl, S2, st2, k2, f2⟩
            obtain ⟨rf2, lv2, lu2, dj2⟩ := HS.out.left k2 f2
            have c2 := k2.cell c1 (fun h => bS.out (by simp [h]))
            have ST2 := Lib.hid st2
            have RF2 := Lib.hid rf2
            have LV2 := Lib.hid lv2
            have LU2 := Lib.hid lu2
            have DJ2 := Lib.hid dj2
            have K2 := Lib.hid (HK.out.then k2 (fun x hx => .inl (fS.out x (by simp [hx])).1))
            clear st2 rf2 lv2 lu2 dj2 k2 f2 c1
            go_wp2_with fail
            refine (refFree_out _ _ _ _ _ _ _ _ RF2.out HB.out).mono ?_
            rintro e w3 ⟨rfl, R3, rf3, k3, f3⟩
            have S3 : Hid (SW w.heap.size (w.heap.size + 1) w.heap.size S2 R3 k V U T LL w3) := Lib.hid
              ⟨ST2.out.keeps k3 (fun x hx hy => DJ2.out x hx hy), rf3, LV2.out.right k3 f3, LU2.out.right k3 f3, fun x hx hy => (f3 x hy).elim (DJ2.out x hx) (fun h => by have := (ST2.out.foot x hx).2; omega)⟩
            have K4 := Lib.hid (K2.out.then k3 (fun x hx => .inl (fS.out x (by simp [hx])).1))
            clear rf3 k3 f3 c2
            go_wp2_with fail
            go_roundw
            case rel => exact ⟨j + 1, S2, R3, _, _, _, by omega, by go_num, S3.out, K4.out, fun h => by omega⟩
            case measure => simp [intOf]; omega
        · have fin : ∀ e : Ending, e = .returned (.tuple #[.pointer (some ⟨w.heap.size, 0, none⟩), .pointer (some ⟨w.heap.size + 1, 0, none⟩), .bool true]) → LaidC k n2 LL w e wr := fun e he => ⟨_, _, S, R, V, U, T, he, HS.out, HK.out, HT.out⟩
          have FIN := Lib.hid fin
          clear fin
          by_cases h1 : j < n2
          · have d1 : (j : Int) < (n2 : Int) := by omega
            have d2 : ¬ (j : Int) < 200 := by omega
            go_wp2_with fail
            refine bodyPost_ret (results_tmp3 rfl _ _ _) rfl (FIN.out _ rfl)
          · have d1 : ¬ (j : Int) < (n2 : Int) := by omega
            go_wp2_with fail
            refine bodyPost_ret (results_tmp3 rfl _ _ _) rfl (FIN.out _ rfl)
end Go.Proofs.Ytompihlckpjbkaa
