/- A zero family begins; a script's size (chapter 10). -/
import Derived.Test.YtajmfenfajbakaaShNil
import Derived.Test.YtajmfenfajbakaaShOg
import Derived.Test.YtajmfenfajbakaaShQ
namespace Go.Proofs.Ytajmfenfajbakaa
open Go.RowKit
set_option linter.unusedVariables false
set_option linter.unusedSimpArgs false

theorem TabAt.lower10 {t lo lo' : Nat} {S : List Nat} {m : Value} {T : Tab} {w : World} (h : TabAt t lo' S m T w) (hl : lo ≤ lo') : TabAt t lo S m T w := by
  obtain ⟨a, c, cb, cr, h1, h2, h3, h4, h5, h6, h7, h8⟩ := h
  exact ⟨a, c, cb, cr, h1, h2.lift (fun x hx => by have := (h2.blk_lt x hx).1; omega), h3, h4, h5, h6, h7, fun x hx => ⟨by have := (h8 x hx).1; omega, (h8 x hx).2⟩⟩
def zeroF : Obj := .cells #[.int .i64 0, .int .i64 0, .pointer none, .pointer none, .slice none 0 0, .map none] 78 (0, 0)
set_option maxRecDepth 100000 in
theorem fbegin_zero (zb : Nat) (w : World) (h : w.heap[zb]? = some zeroF) :
    Calls Try.prog 29 #[.pointer (some ⟨zb, 0, none⟩)] w fun r w' => r = .returned (.pointer (some ⟨zb, 0, none⟩)) ∧ ∃ t mb ST, FamAt zb t mb zb none ST none ⟨0, 0, newT, []⟩ w' ∧ Keeps [zb] w w' ∧ ∀ z, z ∈ famS zb mb none ST → z = zb ∨ w.heap.size ≤ z := by
  have hmm := @run_makeMap Try.prog
  have NT := newt_any none ⟨0, 0, 0, 0⟩ w (fun b hb => by cases hb)
  have c3 : w.cell? ⟨zb, 3, none⟩ = some (.pointer none) := cell_has h (i := 3) rfl
  have H0 := Lib.hid h
  have zl := lt_of_block h
  rw [show mV none = .pointer none from rfl] at NT
  clear h
  go_enter Try.func29, Try.ntmps29
  go_wp2_with fail
  refine NT.mono ?_
  rintro r w1 ⟨t, ST, rfl, t1, m1, k1⟩
  have T1 := Lib.hid t1
  have K1 := Lib.hid (show Keeps [] w w1 from k1.mono (by simp [mS]))
  have b1 := K1.out.has H0.out (by simp)
  have B1 := Lib.hid b1
  have b1a := has_alloc b1 (.map #[] 0)
  have s3 := free_of_has b1a 3
  have s5 := free_of_has b1a 5
  have d3 : (w1.alloc (.map #[] 0)).cell? ⟨zb, 3, none⟩ = some (.pointer none) := cell_has b1a (i := 3) rfl
  have d5 : (w1.alloc (.map #[] 0)).cell? ⟨zb, 5, none⟩ = some (.map none) := cell_has b1a (i := 5) rfl
  clear b1a
  clear t1 m1 k1 b1 NT c3
  go_upto_region 3 with (fail)
  refine wp_gen (fun V => V.heap[zb]? = some (famO 0 0 (.pointer none) t (.slice none 0 0) w1.heap.size) ∧ V.heap[w1.heap.size]? = some (numO []) ∧ Keeps [zb] w1 V) ⟨?_, ?_, ?_⟩ ?_
  · have h0 := has_setCell (has_setCell (has_alloc B1.out (.map #[] 0)) 3 (.pointer (some ⟨t, 0, none⟩))) 5 (.map (some w1.heap.size))
    unfold famO
    simpa [zeroF] using h0
  · have hne : w1.heap.size ≠ zb := by have := lt_of_block B1.out; omega
    exact has_setCell_other (has_setCell_other (has_new w1 (.map #[] 0)) hne _) hne _
  · exact (((Keeps.refl [zb] w1).alloc _).setCell (.inr (by simp)) _).setCell (.inr (by simp)) _
  rintro w2 ⟨b2, n2, k2⟩
  have B2 := Lib.hid b2
  have N2 := Lib.hid n2
  have K2 := Lib.hid k2
  clear b2 n2 k2
  go_wp2_with fail
  go_ret
  have ft := T1.out.foot
  refine ⟨rfl, t, w1.heap.size, ST, ⟨⟨0, B2.out, ValRow.nil _ _ _ _⟩, ?_, N2.out, ?_, ?_, by simp [blk], ⟨Nat.le_refl _, ?_⟩⟩, ?_, ?_⟩
  · exact TabAt.lower10 (T1.out.keeps K2.out (fun z hz => by have := (ft z hz).1; simp; omega)) (by omega)
  · simp only [blk, List.nil_append, List.mem_cons, not_or]
    exact ⟨by have := lt_of_block B1.out; omega, fun h => by have := (ft _ h).1; omega⟩
  · simp only [blk, List.nil_append]
    exact fun h => by have := (ft _ h).2; omega
  · have := lt_of_block B1.out; omega
  · exact (K1.out.mono (by simp)).trans K2.out
  · intro z hz
    unfold famS at hz
    simp only [blk, List.nil_append, List.mem_cons] at hz
    rcases hz with h | h | h
    · exact .inl h
    · right; have := K1.out.size; omega
    · right; exact (ft z h).1
theorem fmake_zero (zb : Nat) (w : World) (h : w.heap[zb]? = some zeroF) :
    Calls Try.prog 10 #[.pointer (some ⟨zb, 0, none⟩)] w fun r w' => ∃ t mb ST sb rb, r = .returned (.pointer (some ⟨sb, 0, none⟩)) ∧ SRow zb t mb zb none ST none ⟨0, 0, newT, []⟩ sb rb none [] 0 ⟨0, 0, 0, 0⟩ w' ∧ Keeps [zb] w w' ∧ ∀ z, z ∈ spFeet zb mb none ST none sb rb none → z = zb ∨ w.heap.size ≤ z := by
  have BG := fbegin_zero zb w h
  have zl := lt_of_block h
  clear h
  go_enter Try.func10, Try.ntmps10
  go_wp2_with fail
  refine BG.mono ?_
  rintro r w1 ⟨rfl, t, mb, ST, f1, k1, n1⟩
  have N1 := Lib.hid n1
  have F1 := Lib.hid f1
  have K1 := Lib.hid k1
  clear f1 k1 n1 BG
  go_wp2_with fail
  go_ret
  have ft := F1.out.foot
  have lo2 := (ft zb (by unfold famS; simp)).2
  obtain ⟨F, hF⟩ : ∃ F, F = (w1.alloc (rowWO (.slice none 0 0))).alloc (spO zb (wayR w1.heap.size) (0 : Nat)) := ⟨_, rfl⟩
  have kF : Keeps [] w1 F := by rw [hF]; exact ((Keeps.refl [] w1).alloc _).alloc _
  have hb : F.heap[w1.heap.size + 1]? = some (spO zb (wayR w1.heap.size) (0 : Nat)) := by
    rw [hF]; have := has_new (w1.alloc (rowWO (.slice none 0 0))) (spO zb (wayR w1.heap.size) (0 : Nat)); simpa using this
  have hn : F.heap[w1.heap.size]? = some (rowWO (.slice none 0 0)) := by
    rw [hF]; exact has_alloc (has_new w1 _) _
  refine ⟨t, mb, ST, w1.heap.size + 1, w1.heap.size, by simp, ?_, ?_, ?_⟩
  · have h9 : SRow zb t mb zb none ST none ⟨0, 0, newT, []⟩ (w1.heap.size + 1) w1.heap.size none [] 0 ⟨0, 0, 0, 0⟩ F := ⟨F1.out.keeps kF (by simp), ⟨⟨0, hn, ValRow.nil _ _ _ _⟩, by simp [blk], by omega⟩, (fun b hb => by cases hb), hb, fun z hz hy => by simp [blk] at hy; subst hy; have := (ft _ hz).2; omega, ⟨fun h => by have := (ft _ h).2; omega, by simp [blk]⟩, by omega, (fun b hb => by cases hb)⟩
    rw [hF] at h9; exact h9
  · rw [hF] at kF; exact K1.out.trans (kF.mono (by simp))
  · intro z hz
    have zw := K1.out.size
    unfold spFeet at hz
    simp only [blk, mS, List.append_nil, List.mem_cons, List.mem_append, List.not_mem_nil, or_false] at hz
    rcases hz with h | h | h
    · right; omega
    · exact N1.out z h
    · right; omega
/-- Is a script more than is looked at? -/
theorem much10_any (a : Option Addr) (len c : Nat) (F : Nat → Int) (N : Nat → ByteArray) (w : World) (H : FldRow (fun j => [2].contains j) 4 w a len F N) :
    Calls Try.prog 21 #[.slice a len c] w fun r w' => w = w' ∧ (r = .returned (.bool true) ∨ (r = .returned (.bool false) ∧ len ≤ 300 ∧ ∀ i, i < len → (N (i * 4 + 2)).size ≤ 200)) := by
  have HH := Lib.hid H
  clear H
  by_cases h0 : 300 < len
  · have b0 : decide ((300 : Int) < (len : Int)) = true := by simp; omega
    go_enter Try.func21, Try.ntmps21
    go_wp2_with fail
    go_ret
    exact ⟨rfl, .inl rfl⟩
  have b0 : decide ((300 : Int) < (len : Int)) = false := by simp; omega
  go_enter Try.func21, Try.ntmps21
  go_wp2_with fail
  go_loopw [3] (fun z3 wr => ∃ i : Nat, i ≤ len ∧ z3 = .int .i64 i ∧ w = wr ∧ Hid (∀ j, j < i → (N (j * 4 + 2)).size ≤ 200)) (fun z3 _ => len - (intOf z3).toNat)
  case atStart => exact ⟨0, Nat.zero_le _, rfl, rfl, Lib.hid (fun j hj => absurd hj (by omega))⟩
  case round =>
    obtain ⟨i, hi, rfl, rfl, I⟩ := hrel
    by_cases hlt : i < len
    · have i1 : (i : Int) < (len : Int) := by omega
      have i0 : (0 : Int) ≤ (i : Int) := by omega
      rcases HH.out with h9 | ⟨b, off, rfl, _, _, hc⟩
      · omega
      have x1 := hc (i * 4 + 2) (by omega)
      have hm : (i * 4 + 2) % 4 = 2 := by omega
      rw [show fldV (fun j => [2].contains j) 4 F N (i * 4 + 2) = .string (N (i * 4 + 2)) from by unfold fldV; rw [hm]; rfl] at x1
      obtain ⟨s, hs⟩ := ex_hid (N (i * 4 + 2))
      rw [← hs.out] at x1
      have x2 : w.cell? ⟨b, off + i * 4 + 2, none⟩ = some (.string s) := by rw [Nat.add_assoc]; exact x1
      clear hm hc
      by_cases hz : 200 < s.size
      · have bz : decide ((200 : Int) < (s.size : Int)) = true := by simp; omega
        go_wp2_with fail
        go_ret
        exact ⟨rfl, .inl rfl⟩
      · have bz : decide ((200 : Int) < (s.size : Int)) = false := by simp; omega
        go_wp2_with fail
        go_roundw
        case rel =>
          refine ⟨i + 1, by omega, by go_num, trivial, Lib.hid (fun j hj => ?_)⟩
          rcases Nat.lt_or_ge j i with h | h
          · exact I.out j h
          · obtain rfl : j = i := by omega
            rw [← hs.out]; omega
        case measure => simp [intOf]; omega
    · obtain rfl : i = len := by omega
      have hge : ¬ (i : Int) < (i : Int) := by omega
      go_wp2_with fail
      go_ret
      exact ⟨rfl, .inr ⟨rfl, by omega, I.out⟩⟩
end Go.Proofs.Ytajmfenfajbakaa
