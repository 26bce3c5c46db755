/- A new stroll (chapter 9). -/
import Derived.Test.YtcakdmapnmneoaaGreatStrB
import Derived.Test.YtcakdmapnmneoaaGreatDictV
import Derived.Test.YtcakdmapnmneoaaGreatStrM
namespace Go.Proofs.YtcakdmapnmneoaaGreat
open Go.RowKit
set_option linter.unusedVariables false
set_option linter.unusedSimpArgs false

def nextF (back : Bool) (tb ab lb : Nat) : Value := .func (.func (if back = true then 58 else 57)) #[] #[.pointer (some ⟨tb, 0, none⟩), .pointer (some ⟨ab, 0, none⟩), .pointer (some ⟨lb, 0, none⟩)]
def passF (tb lb : Nat) : Value := .func (.func 53) #[] #[.pointer (some ⟨tb, 0, none⟩), .pointer (some ⟨lb, 0, none⟩)]
def aboveF (bx : Nat) : Value := .func (.func 54) #[] #[.pointer (some ⟨bx, 0, none⟩)]
def dpV (dp : Option Nat) : Value := .pointer (dp.map fun b => ⟨b, 0, none⟩)
structure StrAt (lo b : Nat) (F : List Nat) (s : Str) (W : World) : Prop where
  row : ∃ a c, W.heap[b]? = some (strO (dpV s.dp) s.size s.ver (.slice a s.prs.length c) s.broken (nextF s.back (b + 2) (b + 4) (b + 3)) (passF (b + 2) (b + 3))) ∧ EntRow lo a c s.prs W ∧ ∀ x, x ∈ blk a → x ∈ F
  box : W.heap[b + 1]? = some (.cells #[.pointer (some ⟨b, 0, none⟩)] 72 (0, 0))
  told : W.heap[b + 2]? = some (.cells #[.bool s.told] 4 (0, 0))
  last : W.heap[b + 3]? = some (.cells #[.int .i64 s.last] 3 (0, 0))
  above : W.heap[b + 4]? = some (.cells #[aboveF (b + 1)] 131 (0, 0))
  five : ∀ i, i < 5 → b + i ∈ F
  lo : ∀ x, x ∈ F → lo ≤ x ∧ x < W.heap.size
theorem StrAt.mono {lo lo' b : Nat} {F : List Nat} {s : Str} {W : World} (h : StrAt lo b F s W) (hl : lo' ≤ lo) : StrAt lo' b F s W := by
  obtain ⟨⟨a, c, h1, h2, h3⟩, h4, h5, h6, h7, h8, h9⟩ := h
  exact ⟨⟨a, c, h1, h2.lift (fun x hx => by have := h2.blk_lt x hx; omega), h3⟩, h4, h5, h6, h7, h8, fun x hx => by have := h9 x hx; omega⟩
theorem StrAt.keeps {lo b : Nat} {F R : List Nat} {s : Str} {W W' : World} (h : StrAt lo b F s W) (k : Keeps R W W') (hd : ∀ x, x ∈ F → x ∉ R) : StrAt lo b F s W' := by
  obtain ⟨⟨a, c, h1, h2, h3⟩, h4, h5, h6, h7, h8, h9⟩ := h
  exact ⟨⟨a, c, k.has h1 (hd _ (h8 0 (by omega))), h2.keeps k (fun x hx => hd _ (h3 x hx)), h3⟩, k.has h4 (hd _ (h8 1 (by omega))), k.has h5 (hd _ (h8 2 (by omega))), k.has h6 (hd _ (h8 3 (by omega))), k.has h7 (hd _ (h8 4 (by omega))), h8, fun x hx => by have := h9 x hx; have := k.size; omega⟩
set_option maxRecDepth 100000 in
theorem snew_any (db t lo : Nat) (S : List Nat) (mv : Value) (d : Dic) (back : Bool) (w : World) (H : DicAt db t lo S mv d w) (hl : d.T.E.length ≤ 1000) (hv : d.ver ≤ 1000000) :
    Calls Tryz.prog 19 #[.pointer (some ⟨db, 0, none⟩), .bool back] w fun r w' => ∃ b F, r = .returned (.pointer (some ⟨b, 0, none⟩)) ∧ StrAt w.heap.size b F (newS db d back) w' ∧ Keeps [] w w' := by
  have HD := Lib.hid H
  clear H
  go_enter Tryz.func19, Tryz.ntmps19
  go_wp2_with fail
  refine (dlen_any db t lo S mv d _ HD.out).mono ?_
  rintro r w1 ⟨rfl, rfl⟩
  obtain ⟨ln, hln⟩ := ex_hid (liveN d.T.E)
  rw [← hln.out]
  go_wp2_with fail
  refine (dver8_any db t lo S mv d _ HD.out hv).mono ?_
  rintro r w2 ⟨rfl, rfl⟩
  obtain ⟨vr, hvr⟩ := ex_hid d.ver
  rw [← hvr.out]
  go_wp2_with fail
  refine (pairs_any db t lo S mv d _ HD.out hl).mono ?_
  rintro r w3 ⟨a, c, rfl, e3, k3⟩
  rw [← hln.out]
  have E3 := Lib.hid e3
  have K3 := Lib.hid k3
  clear e3 k3
  cases back
  all_goals
    go_wp2_with fail
    go_ret
    have zz := K3.out.size
    refine ⟨w3.heap.size, [w3.heap.size, w3.heap.size + 1, w3.heap.size + 2, w3.heap.size + 3, w3.heap.size + 4] ++ blk a, rfl, ⟨⟨a, c, ?_, E3.out.keeps ((((((Keeps.refl [] w3).alloc _).alloc _).alloc _).alloc _).alloc _) (by simp), fun x hx => List.mem_append_right _ hx⟩, ?_, ?_, ?_, ?_, ?_, ?_⟩, (((((K3.out.alloc _).alloc _).alloc _).alloc _).alloc _)⟩
    · refine Eq.trans (has_alloc (has_alloc (has_alloc (has_alloc (has_new w3 _) _) _) _) _) ?_
      simp only [newS]
      rw [liveL_len, ← hln.out, ← hvr.out]
      rfl
    · exact has_alloc (has_alloc (has_alloc (has_new' _ _ (by simp)) _) _) _
    · exact has_alloc (has_alloc (has_new' _ _ (by simp)) _) _
    · exact has_alloc (has_new' _ _ (by simp)) _
    · exact has_new' _ _ (by simp)
    · intro i hi
      match i, hi with
      | 0, _ | 1, _ | 2, _ | 3, _ | 4, _ => simp
    · intro x hx
      rw [List.mem_append] at hx
      rcases hx with hx | hx
      · simp at hx; simp; omega
      · have := E3.out.blk_lt x hx; simp; omega
end Go.Proofs.YtcakdmapnmneoaaGreat
