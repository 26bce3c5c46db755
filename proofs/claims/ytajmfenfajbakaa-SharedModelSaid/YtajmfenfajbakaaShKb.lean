/- The laws' own del (chapter 10). -/
import Derived.Test.YtajmfenfajbakaaShKa
namespace Go.Proofs.Ytajmfenfajbakaa
open Go.RowKit
set_option linter.unusedVariables false
set_option linter.unusedSimpArgs false

def LDelP (lo : Nat) (a : Option Addr) (c : Nat) (P : List Pr10) (s : ByteArray) (w : World) (r : Ending) (w' : World) : Prop :=
  match delLw P s with
  | some P' => ∃ a' c', r = .returned (.tuple #[.slice a' P'.length c', .bool true]) ∧ PairRow lo a' c' P' w' ∧ Keeps [] w w' ∧ ∀ z, z ∈ blk a' → w.heap.size ≤ z
  | none => r = .returned (.tuple #[.slice a P.length c, .bool false]) ∧ Keeps [] w w'
set_option maxRecDepth 100000 in
set_option maxHeartbeats 4000000 in
theorem ldel_any (lo : Nat) (a : Option Addr) (c : Nat) (P : List Pr10) (s : ByteArray) (w : World) (H : PairRow lo a c P w) (hl : P.length ≤ 100000) (hlo : lo ≤ w.heap.size) :
    Calls Try.prog 23 #[.slice a P.length c, .string s] w (LDelP lo a c P s w) := by
  have HH := Lib.hid H
  obtain ⟨n, hn⟩ := ex_hid P.length
  rw [← hn.out] at hl ⊢
  have CAP := H.cap_le
  clear H
  go_enter Try.func23, Try.ntmps23
  go_wp2_with fail
  go_loopw [6] (fun z6 wr => ∃ i : Nat, i ≤ n ∧ z6 = .int .i64 i ∧ w = wr ∧ Hid (∀ j, j < i → (P.map (·.1))[j]? ≠ some s)) (fun z6 _ => n - (intOf z6).toNat)
  case atStart => exact ⟨0, Nat.zero_le _, rfl, rfl, Lib.hid (fun j hj => absurd hj (by omega))⟩
  case round =>
    obtain ⟨i, hi, rfl, rfl, I⟩ := hrel
    by_cases hlt : i < n
    · have i1 : (i : Int) < (n : Int) := by omega
      have i0 : (0 : Int) ≤ (i : Int) := by omega
      obtain ⟨g, rfl⟩ := PairRow.shape HH.out (by rw [← hn.out]; omega)
      obtain ⟨x, hx⟩ : ∃ x, P[i]? = some x := ⟨_, List.getElem?_eq_getElem (by rw [← hn.out]; exact hlt)⟩
      have p0 : w.cell? ⟨g, i * 2, none⟩ = some (.string x.1) := HH.out.cell hx 0 (by omega)
      have HX := Lib.hid hx
      have hnm : (P.map (·.1))[i]? = some x.1 := by rw [List.getElem?_map, hx]; rfl
      have HNM := Lib.hid hnm
      obtain ⟨t, ht⟩ := ex_hid x.1
      rw [← ht.out] at p0
      clear hx hnm
      by_cases he : t = s
      · have hb : (t.toList == s.toList) = true := by rw [bytes_list10]; simpa using he
        have HE := Lib.hid he
        have hic : (i : Int) ≤ (c : Int) := by have := CAP.1; rw [← hn.out] at this; omega
        have hin : (i : Int) ≤ (n : Int) := by omega
        clear he
        go_upto_region 6 with (fail)
        have hPl : (P.take i).length = i := by rw [List.length_take, ← hn.out]; omega
        obtain ⟨a5, c5, W5, run5, v5, k5, g5⟩ := pair_append_src w.heap.size 0 c none [] (P.take i) (some ⟨g, 0, none⟩) w (PairRow.nil _ _) (.inr ⟨_, rfl, HH.out.front i⟩) (by simp; omega) (Nat.le_refl _)
        rw [List.nil_append] at v5
        rw [hPl, List.length_nil, Nat.zero_add] at run5
        have RUN5 := Lib.hid run5
        have KK5 := Lib.hid (show Keeps [] w W5 from k5.mono (by simp [blk]))
        have V5 := Lib.hid v5
        have HPL := Lib.hid hPl
        have G5 := Lib.hid (show ∀ z, z ∈ blk a5 → w.heap.size ≤ z from fun z hz => (g5 z hz).elim (fun h => by simp [blk] at h) (fun h => by omega))
        have H5 := Lib.hid (PairRow.keeps HH.out KK5.out (by simp))
        clear run5 k5 v5 g5 hPl p0
        go_upto_region 7 with (at_builtin; refine wpList_append_run rfl _ _ 49 rfl _ _ rfl rfl _ _ RUN5.out ?_)
        have hw : wrap64 ((i : Int) + 1) = ((i + 1 : Nat) : Int) := by rw [IntWalk.wrap64_in _ (by omega)]; omega
        have hin2 : ((i + 1 : Nat) : Int) ≤ (n : Int) := by omega
        have hz2 : (0 : Int) ≤ ((i + 1 : Nat) : Int) := by omega
        have HDL := Lib.hid (show (P.drop (i + 1)).length = n - (i + 1) from by rw [List.length_drop, ← hn.out])
        have FIN0 : ∀ (a6 : Option Addr) (c6 : Nat) (W6 : World), (PairRow w.heap.size a6 c6 (P.take i ++ P.drop (i + 1)) W6 ∧ Keeps (blk a5) W5 W6 ∧ ∀ x, x ∈ blk a6 → x ∈ blk a5 ∨ x = W5.heap.size) → LDelP lo (some ⟨g, 0, none⟩) c P s w (.returned (.tuple #[.slice a6 (i + (n - (i + 1))) c6, .bool true])) W6 := by
          rintro a6 c6 W6 ⟨q1, q2, q3⟩
          have h9 : numI (P.map (·.1)) s = (i : Int) := numI_first (by rw [HNM.out, ← ht.out, HE.out]) I.out
          unfold LDelP delLw
          rw [h9, if_pos (by omega)]
          simp only [Int.toNat_natCast]
          rw [List.eraseIdx_eq_take_drop_succ]
          refine ⟨a6, c6, by rw [List.length_append, HPL.out, HDL.out], ownsRow_base q1 hlo, KK5.out.then q2 (fun z hz => .inl (G5.out z hz)), fun z hz => ?_⟩
          rcases q3 z hz with h | h
          · exact G5.out z h
          · have := KK5.out.size; omega
        have FIN0 := Lib.hid FIN0
        by_cases hci : c = i + 1
        · obtain ⟨a6, c6, W6, run6, v6, k6, g6⟩ := pair_append_src w.heap.size c5 (0) a5 (P.take i) (P.drop (i + 1)) (some ⟨g, 0, none⟩) W5 V5.out (.inl (List.drop_eq_nil_of_le (by have := CAP.1; omega))) (by rw [HPL.out, HDL.out]; omega) KK5.out.size
          rw [HPL.out, HDL.out] at run6
          have RUN6 := Lib.hid run6
          have FIN := Lib.hid (And.intro v6 (And.intro k6 g6))
          clear run6 v6 k6 g6
          go_wp2_with (at_builtin; refine wpList_append_run rfl _ _ 49 rfl _ _ rfl rfl _ _ RUN6.out ?_)
          go_ret2
          exact FIN0.out _ _ _ FIN.out
        · obtain ⟨a6, c6, W6, run6, v6, k6, g6⟩ := pair_append_src w.heap.size c5 (c - (i + 1)) a5 (P.take i) (P.drop (i + 1)) (some ⟨g, (i + 1) * 2, none⟩) W5 V5.out (.inr ⟨_, rfl, H5.out.part (i + 1)⟩) (by rw [HPL.out, HDL.out]; omega) KK5.out.size
          rw [HPL.out, HDL.out] at run6
          have RUN6 := Lib.hid run6
          have FIN := Lib.hid (And.intro v6 (And.intro k6 g6))
          clear run6 v6 k6 g6
          go_wp2_with (at_builtin; refine wpList_append_run rfl _ _ 49 rfl _ _ rfl rfl _ _ RUN6.out ?_)
          go_ret2
          exact FIN0.out _ _ _ FIN.out
      · have hb : (t.toList == s.toList) = false := by rw [bytes_list10]; simpa using he
        have HE := Lib.hid he
        clear he
        go_wp2_with fail
        go_roundw
        case rel =>
          refine ⟨i + 1, by omega, by go_num, trivial, Lib.hid (fun j hj => ?_)⟩
          rcases Nat.lt_or_ge j i with h | h
          · exact I.out j h
          · obtain rfl : j = i := by omega
            rw [HNM.out, ← ht.out]
            simpa using HE.out
        case measure => simp [intOf]; omega
    · obtain rfl : i = n := by omega
      have hge : ¬ (i : Int) < (i : Int) := by omega
      have NO := Lib.hid (show numI (P.map (·.1)) s = -1 from numI_none (fun hm => by
        obtain ⟨j, hj⟩ := List.mem_iff_getElem?.1 hm
        have hjl := (List.getElem?_eq_some_iff.1 hj).1
        rw [List.length_map, ← hn.out] at hjl
        exact I.out j hjl hj))
      go_wp2_with fail
      go_ret2
      unfold LDelP delLw
      rw [NO.out, if_neg (by omega)]
      exact ⟨by rw [← hn.out]; rfl, Keeps.refl _ _⟩
end Go.Proofs.Ytajmfenfajbakaa
