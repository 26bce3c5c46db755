/- Names, each once (chapter 10's laws). -/
import Derived.Test.YtajmfenfajbakaaShQ
import Derived.Test.YtajmfenfajbakaaShR
namespace Go.Proofs.Ytajmfenfajbakaa
open Go.RowKit
set_option linter.unusedVariables false
set_option linter.unusedSimpArgs false

instance memDec10 (s : ByteArray) (l : List ByteArray) : Decidable (s ∈ l) := decidable_of_iff (l.any (fun t => decide (s = t)) = true) (by simp)
def uniqN (N : Nat → ByteArray) : Nat → List ByteArray
  | 0 => []
  | i + 1 => if N i ∈ uniqN N i then uniqN N i else uniqN N i ++ [N i]
theorem uniqN_len (N : Nat → ByteArray) (i : Nat) : (uniqN N i).length ≤ i := by
  induction i with
  | zero => simp [uniqN]
  | succ i ih =>
    unfold uniqN
    split
    · omega
    · simp; omega
theorem uniqN_nodup (N : Nat → ByteArray) (i : Nat) : (uniqN N i).Nodup := by
  induction i with
  | zero => simp [uniqN]
  | succ i ih =>
    unfold uniqN
    split
    · exact ih
    · rename_i h
      rw [List.nodup_append]
      exact ⟨ih, by simp, fun a ha b hb => by simp at hb; subst hb; exact fun e => h (e ▸ ha)⟩
theorem uniqN_mem {N : Nat → ByteArray} {s : ByteArray} : ∀ {i : Nat}, s ∈ uniqN N i → ∃ j, j < i ∧ s = N j := by
  intro i
  induction i with
  | zero => intro h; simp [uniqN] at h
  | succ i ih =>
    intro h
    unfold uniqN at h
    split at h
    · obtain ⟨j, h1, h2⟩ := ih h; exact ⟨j, by omega, h2⟩
    · rcases List.mem_append.1 h with h | h
      · obtain ⟨j, h1, h2⟩ := ih h; exact ⟨j, by omega, h2⟩
      · simp at h; exact ⟨i, by omega, h⟩
theorem take_succ_mem {L : List ByteArray} {k : Nat} {s : ByteArray} (hk : k < L.length) : s ∈ L.take (k + 1) ↔ s ∈ L.take k ∨ s = L.getD k .empty := by
  rw [List.take_succ_eq_append_getElem hk, List.mem_append]
  simp [List.getD, hk]
set_option maxRecDepth 100000 in
set_option maxHeartbeats 4000000 in
theorem unlike_any (a : Option Addr) (len c : Nat) (N : Nat → ByteArray) (w : World) (H : StrRow w a len N) (hl : len ≤ 60) :
    Calls Try.prog 8 #[.slice a len c] w fun r w' => ∃ a' c', r = .returned (.slice a' (uniqN N len).length c') ∧ ValRow 9 w.heap.size a' (uniqN N len).length c' (strV (uniqN N len)) w' ∧ Keeps [] w w' := by
  have HH := Lib.hid H
  clear H
  go_enter Try.func8, Try.ntmps8
  go_wp2_with fail
  go_loopw [3, 4] (fun z3 z4 wr => ∃ (i : Nat) (ao : Option Addr) (co : Nat), i ≤ len ∧ z4 = .int .i64 i ∧ z3 = .slice ao (uniqN N i).length co ∧ Hid (ValRow 9 w.heap.size ao (uniqN N i).length co (strV (uniqN N i)) wr ∧ Keeps [] w wr)) (fun _ z4 _ => len - (intOf z4).toNat)
  case atStart => exact ⟨0, none, 0, Nat.zero_le _, rfl, rfl, Lib.hid ⟨ValRow.nil _ _ _ _, Keeps.refl _ _⟩⟩
  case round =>
    obtain ⟨i, ao, co, hi, rfl, rfl, I⟩ := hrel
    by_cases hlt : i < len
    · have i1 : (i : Int) < (len : Int) := by omega
      have i0 : (0 : Int) ≤ (i : Int) := by omega
      obtain ⟨b, off, rfl, hb, _, hc⟩ : ∃ b off, a = some ⟨b, off, none⟩ ∧ b < w.heap.size ∧ True ∧ ∀ j, j < len → w.cell? ⟨b, off + j, none⟩ = some (.string (N j)) := by
        rcases HH.out with h | ⟨b, off, h1, h2, _, h4⟩
        · omega
        · exact ⟨b, off, h1, h2, trivial, h4⟩
      have SC := Lib.hid (hc i hlt)
      clear hc
      obtain ⟨s, hs⟩ := ex_hid (N i)
      obtain ⟨U, hU⟩ := ex_hid (uniqN N i)
      have HLU := Lib.hid (show U.length ≤ i from by rw [hU.out]; exact uniqN_len N i)
      have IU := Lib.hid (show ValRow 9 w.heap.size ao U.length co (strV U) wr ∧ Keeps [] w wr from by rw [hU.out]; exact I.out)
      rw [← hU.out]
      obtain ⟨n, hn⟩ := ex_hid U.length
      rw [← hn.out]
      go_wp2_with fail
      have nl : n ≤ 60 := by have := HLU.out; have := hn.out; omega
      obtain ⟨wo, rfl⟩ : ∃ wo, wo = wr := ⟨_, rfl⟩
      go_loopw [5, 6] (fun z5 z6 wr => ∃ k : Nat, k ≤ n ∧ z6 = .int .i64 k ∧ z5 = .bool (decide (s ∉ U.take k)) ∧ Hid (Keeps [] wo wr)) (fun _ z6 _ => n - (intOf z6).toNat)
      case atStart => exact ⟨0, Nat.zero_le _, rfl, by simp, Lib.hid (Keeps.refl _ _)⟩
      case round =>
        obtain ⟨k, hk, rfl, rfl, J⟩ := hrel
        by_cases hkn : k < n
        · have k1 : (k : Int) < (n : Int) := by omega
          have k0 : (0 : Int) ≤ (k : Int) := by omega
          obtain ⟨g, rfl⟩ := IU.out.1.shape (by rw [← hn.out]; omega)
          have x1 : wr.cell? ⟨g, k, none⟩ = some (.string (U.getD k .empty)) := (IU.out.1.keeps J.out (by simp)).cell (by rw [← hn.out]; exact hkn)
          have x2 : wr.cell? ⟨b, off + i, none⟩ = some (.string s) := by rw [hs.out]; exact J.out.cell (IU.out.2.cell SC.out (by simp)) (by simp)
          have TM := Lib.hid (take_succ_mem (L := U) (k := k) (s := s) (by rw [← hn.out]; exact hkn))
          obtain ⟨u, hu⟩ := ex_hid (U.getD k .empty)
          rw [← hu.out] at x1
          by_cases hnew : s ∈ U.take k
          · have hd : decide (s ∉ U.take k) = false := by simp [hnew]
            rw [hd]
            have HN2 := Lib.hid hnew
            clear hnew hd
            go_wp2_with fail
            refine wp_regionG (fun w' => w'.cell? ⟨g, k, none⟩ = some (.string u)) 13 (by kernel_rfl) x1 (fun hF => ?_)
            refine wpAnyG_takeY (i := 0) (v := ?_) rfl (by kernel_rfl) (by decide +kernel) (by decide +kernel) (by decide +kernel) (fun _ _ _ h => h) (by kernel_rfl) ?_ (by assumption) ?_
            rotate_left
            · (intro wz; go_simp; with_reducible rfl)
            try simp only [Act.put, List.setIfInBounds_toArray, List.set_cons_zero, List.set_cons_succ]
            refine wpAnyG_takeY (i := 1) (v := ?_) rfl (by kernel_rfl) (by decide +kernel) (by decide +kernel) (by decide +kernel) (fun _ _ _ h => h) (by kernel_rfl) ?_ (by assumption) ?_
            rotate_left
            · (intro wz; go_simp; with_reducible rfl)
            try simp only [Act.put, List.setIfInBounds_toArray, List.set_cons_zero, List.set_cons_succ]
            refine wpAnyG_takeU (i := 2) rfl (by kernel_rfl) (by decide +kernel) (by decide +kernel) (by decide +kernel) (fun _ _ _ h => h) (by kernel_rfl) (by assumption) ?_
            try simp only [Act.put, List.setIfInBounds_toArray, List.set_cons_zero, List.set_cons_succ]
            refine wpAnyG_takeU (i := 3) rfl (by kernel_rfl) (by decide +kernel) (by decide +kernel) (by decide +kernel) (fun _ _ _ h => h) (by kernel_rfl) (by assumption) ?_
            try simp only [Act.put, List.setIfInBounds_toArray, List.set_cons_zero, List.set_cons_succ]
            refine wpAnyG_takeU (i := 4) rfl (by kernel_rfl) (by decide +kernel) (by decide +kernel) (by decide +kernel) (fun _ _ _ h => h) (by kernel_rfl) (by assumption) ?_
            try simp only [Act.put, List.setIfInBounds_toArray, List.set_cons_zero, List.set_cons_succ]
            refine wpAnyG_takeU (i := 5) rfl (by kernel_rfl) (by decide +kernel) (by decide +kernel) (by decide +kernel) (fun _ _ _ h => h) (by kernel_rfl) (by assumption) ?_
            try simp only [Act.put, List.setIfInBounds_toArray, List.set_cons_zero, List.set_cons_succ]
            refine wpAnyG_takeU (i := 6) rfl (by kernel_rfl) (by decide +kernel) (by decide +kernel) (by decide +kernel) (fun _ _ _ h => h) (by kernel_rfl) (by assumption) ?_
            try simp only [Act.put, List.setIfInBounds_toArray, List.set_cons_zero, List.set_cons_succ]
            refine wpAnyG_takeU (i := 7) rfl (by kernel_rfl) (by decide +kernel) (by decide +kernel) (by decide +kernel) (fun _ _ _ h => h) (by kernel_rfl) (by assumption) ?_
            try simp only [Act.put, List.setIfInBounds_toArray, List.set_cons_zero, List.set_cons_succ]
            refine wpAnyG_takeU (i := 8) rfl (by kernel_rfl) (by decide +kernel) (by decide +kernel) (by decide +kernel) (fun _ _ _ h => h) (by kernel_rfl) (by assumption) ?_
            try simp only [Act.put, List.setIfInBounds_toArray, List.set_cons_zero, List.set_cons_succ]
            refine wpAnyG_takeU (i := 9) rfl (by kernel_rfl) (by decide +kernel) (by decide +kernel) (by decide +kernel) (fun _ _ _ h => h) (by kernel_rfl) (by assumption) ?_
            try simp only [Act.put, List.setIfInBounds_toArray, List.set_cons_zero, List.set_cons_succ]
            refine wpAnyG_takeU (i := 10) rfl (by kernel_rfl) (by decide +kernel) (by decide +kernel) (by decide +kernel) (fun _ _ _ h => h) (by kernel_rfl) (by assumption) ?_
            try simp only [Act.put, List.setIfInBounds_toArray, List.set_cons_zero, List.set_cons_succ]
            refine wpAnyG_takeY (i := 11) (v := ?_) rfl (by kernel_rfl) (by decide +kernel) (by decide +kernel) (by decide +kernel) (fun _ _ _ h => h) (by kernel_rfl) ?_ (by assumption) ?_
            rotate_left
            · (intro wz; go_simp; with_reducible rfl)
            try simp only [Act.put, List.setIfInBounds_toArray, List.set_cons_zero, List.set_cons_succ]
            refine wpAnyG_takeY (i := 12) (v := ?_) rfl (by kernel_rfl) (by decide +kernel) (by decide +kernel) (by decide +kernel) (fun _ _ _ h => h) (by kernel_rfl) ?_ (by assumption) ?_
            rotate_left
            · (intro wz; go_simp; with_reducible rfl)
            try simp only [Act.put, List.setIfInBounds_toArray, List.set_cons_zero, List.set_cons_succ]
            refine wpAnyG_done (by kernel_rfl) ?_ _
            go_simp
            all_goals go_wp2_with fail
            all_goals go_roundw
            case rel => exact ⟨k + 1, by omega, by go_num, by have : s ∈ U.take (k + 1) := TM.out.2 (.inl HN2.out); simp [this], Lib.hid J.out.drew⟩
            case measure => simp [intOf]; omega
          · have hd : decide (s ∉ U.take k) = true := by simp [hnew]
            rw [hd]
            have HN2 := Lib.hid hnew
            clear hnew hd
            obtain ⟨bb, hbb⟩ : ∃ bb, Hid (bb = (u.toList == s.toList)) := ⟨_, Lib.hid rfl⟩
            have hbq : (u.toList == s.toList) = bb := hbb.out.symm
            go_wp2_with fail
            go_region_held3 (fun w' => w'.cell? ⟨g, k, none⟩ = some (.string u) ∧ w'.cell? ⟨b, off + i, none⟩ = some (.string s)) (go_keep) (fail)
            all_goals go_wp2_with fail
            all_goals go_roundw
            case rel =>
              refine ⟨k + 1, by omega, by go_num, ?_, Lib.hid J.out.drew⟩
              have h1 : bb = decide (s = u) := by rw [hbb.out, bytes_list10]; simp [eq_comm]
              have h2 : decide (s ∉ U.take (k + 1)) = !decide (s = u) := by
                have h3 := TM.out
                rw [← hu.out] at h3
                by_cases he : s = u
                · have h4 : s ∈ U.take (k + 1) := h3.2 (.inr he)
                  rw [decide_eq_false (fun h => h h4), decide_eq_true he]; rfl
                · have h4 : s ∉ U.take (k + 1) := fun h => by
                    rcases h3.1 h with h | h
                    · exact HN2.out h
                    · exact he h
                  rw [decide_eq_true h4, decide_eq_false he]; rfl
              rw [h2, ← h1]
            case measure => simp [intOf]; omega
        · obtain rfl : k = n := by omega
          have ht : U.take k = U := List.take_of_length_le (by rw [hn.out]; exact Nat.le_refl _)
          rw [ht]
          have K0 := Lib.hid (IU.out.2.trans J.out)
          have V0 := Lib.hid (IU.out.1.keeps J.out (by simp))
          have kl : k ≤ 60 := by have := HLU.out; have := hn.out; omega
          by_cases hm : s ∈ U
          · have hd : decide (s ∉ U) = false := by simp [hm]
            rw [hd]
            have HM := Lib.hid (show uniqN N (i + 1) = U from by show (if N i ∈ uniqN N i then uniqN N i else uniqN N i ++ [N i]) = U; rw [← hU.out, ← hs.out, if_pos hm])
            clear hm hd ht
            go_wp2_with fail
            go_roundw
            case rel => exact ⟨i + 1, ao, co, by omega, by go_num, by rw [HM.out, ← hn.out], Lib.hid ⟨by rw [HM.out]; exact V0.out, K0.out⟩⟩
            case measure => simp [intOf]; omega
          · have hd : decide (s ∉ U) = true := by simp [hm]
            rw [hd]
            have HM := Lib.hid (show uniqN N (i + 1) = U ++ [s] from by show (if N i ∈ uniqN N i then uniqN N i else uniqN N i ++ [N i]) = U ++ [s]; rw [← hU.out, ← hs.out, if_neg hm])
            have x2 : wr.cell? ⟨b, off + i, none⟩ = some (.string s) := by rw [hs.out]; exact K0.out.cell SC.out (by simp)
            have v0 := V0.out
            rw [← hn.out] at v0
            obtain ⟨g, cap, W2, run2, v2, k2, g2, l2⟩ := str_app w.heap.size ao co k (strV U) s (wr.alloc (.cells #[.string s] 9)) wr.heap.size (v0.keeps ((Keeps.refl [] wr).alloc _) (by simp)) (has_new _ _) (by omega) (by have := K0.out.size; simp; omega)
            have RUN := Lib.hid run2
            have FIN := Lib.hid (And.intro v2 (And.intro k2 (And.intro g2 l2)))
            clear hm hd ht run2 v2 k2 g2 l2 v0
            go_wp2_with (at_builtin; refine wpList_append_run rfl _ _ 22 rfl _ _ rfl rfl _ _ RUN.out ?_)
            go_roundw
            case rel =>
              refine ⟨i + 1, some ⟨g, 0, none⟩, cap, by omega, by go_num, ?_, Lib.hid ⟨?_, ?_⟩⟩
              · rw [HM.out]; simp [hn.out]
              · rw [HM.out]
                have e1 : (U ++ [s]).length = k + 1 := by simp [hn.out]
                rw [e1]
                refine FIN.out.1.congr (fun j hj => ?_)
                rw [hn.out]; exact strV_push U s j (by rw [← hn.out]; exact hj)
              · exact (K0.out.alloc _).then FIN.out.2.1 (fun z hz => .inl (by have := (V0.out.blk_lt z hz).1; omega))
            case measure => simp [intOf]; omega
    · obtain rfl : i = len := by omega
      go_wp2_with fail
      go_ret
      exact ⟨ao, co, rfl, I.out.1, I.out.2⟩
end Go.Proofs.Ytajmfenfajbakaa
