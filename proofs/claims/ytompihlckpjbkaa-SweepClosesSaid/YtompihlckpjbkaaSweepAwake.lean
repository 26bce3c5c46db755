/- The law's own closed call (chapter 12). -/
import Derived.Test.YtompihlckpjbkaaTaken
namespace Go.Proofs.Ytompihlckpjbkaa
open Go.RowKit
set_option linter.unusedVariables false

/-- The closed call's lists. -/
def aLL : Nat → List Int
  | 0 => [1]
  | 1 => [0]
  | _ => []
theorem aLL_len (i : Nat) : (aLL i).length ≤ 60 := by unfold aLL; split <;> simp
theorem aRch {T : Nat → Bool} (hT : ∀ i, T i = true) (i : Nat) : Rch 3 T aLL [0] i ↔ i < 2 := by
  have b0 : isB 3 T 0 = true := by simp [isB, hT]
  have b1 : isB 3 T 1 = true := by simp [isB, hT]
  constructor
  · intro h
    induction h with
    | root hx hb => simp at hx; subst hx; simp
    | @step j x hj hx hb ih =>
      have : j = 0 ∨ j = 1 := by omega
      rcases this with rfl | rfl <;> (simp [aLL] at hx; subst hx; simp)
  · intro h
    have r0 : Rch 3 T aLL [0] 0 := Rch.root (x := 0) (by simp) b0
    have : i = 0 ∨ i = 1 := by omega
    rcases this with rfl | rfl
    · exact r0
    · exact Rch.step (x := 1) r0 (by simp [aLL]) b1
theorem RowN.reads {w : World} {a : Option Addr} {l : List Nat} {n : Nat} (h : RowN w a l) (hn : n = l.length) : ReadsN w a n (fun k => .int .i64 (l.getD k 0 : Int)) := fun k hk => by
  obtain ⟨b, off, h1, h2⟩ := h k (by omega)
  exact ⟨b, off, h1, h2, _, rfl⟩
theorem ReadsN.congr {w : World} {a : Option Addr} {n : Nat} {B C : Nat → Value} (h : ReadsN w a n B) (hc : ∀ k, k < n → B k = C k) : ReadsN w a n C := fun k hk => by
  obtain ⟨b, off, h1, h2, x, h3⟩ := h k hk
  exact ⟨b, off, h1, by rw [← hc k hk]; exact h2, x, by rw [← hc k hk]; exact h3⟩

set_option maxRecDepth 100000 in
set_option maxHeartbeats 2000000 in
theorem awake12 (w : World) : Calls Try.prog 25 #[] w fun e w' => e = .returned (.bool true) ∧ Keeps [] w w' := by
  have hRows : RowsAt ((((w.alloc (.cells #[.int .i64 1] 3)).alloc (.cells #[.int .i64 0] 3)).alloc (.cells #[] 3)).alloc (.cells #[.slice (some ⟨w.heap.size, 0, none⟩) 1 1, .slice (some ⟨w.heap.size + 1, 0, none⟩) 1 1, .slice (some ⟨w.heap.size + 1 + 1, 0, none⟩) 0 0] 22)) (some ⟨w.heap.size + 1 + 1 + 1, 0, none⟩) 3
      (fun i => if i = 0 then .slice (some ⟨w.heap.size, 0, none⟩) 1 1 else if i = 1 then .slice (some ⟨w.heap.size + 1, 0, none⟩) 1 1 else .slice (some ⟨w.heap.size + 1 + 1, 0, none⟩) 0 0) aLL := by
    intro i hi
    have hb := has_new' (((w.alloc (.cells #[.int .i64 1] 3)).alloc (.cells #[.int .i64 0] 3)).alloc (.cells #[] 3)) (.cells #[.slice (some ⟨w.heap.size, 0, none⟩) 1 1, .slice (some ⟨w.heap.size + 1, 0, none⟩) 1 1, .slice (some ⟨w.heap.size + 1 + 1, 0, none⟩) 0 0] 22) (b := w.heap.size + 1 + 1 + 1) (by simp)
    have : i = 0 ∨ i = 1 ∨ i = 2 := by omega
    rcases this with rfl | rfl | rfl
    · refine ⟨_, 0, some ⟨w.heap.size, 0, none⟩, 1, rfl, cell_has hb rfl, rfl, by simp, some ⟨w.heap.size, 0, none⟩, 1, rfl, fun k hk => ⟨_, 0, rfl, ?_⟩⟩
      simp [aLL] at hk
      subst hk
      exact cell_has (has_alloc (has_alloc (has_alloc (has_new _ _) _) _) _) rfl
    · refine ⟨_, 0, some ⟨w.heap.size + 1, 0, none⟩, 1, rfl, cell_has hb rfl, rfl, by simp, some ⟨w.heap.size + 1, 0, none⟩, 1, rfl, fun k hk => ⟨_, 0, rfl, ?_⟩⟩
      simp [aLL] at hk
      subst hk
      exact cell_has (has_alloc (has_alloc (has_new' _ _ (by simp)) _) _) rfl
    · exact ⟨_, 0, some ⟨w.heap.size + 1 + 1, 0, none⟩, 0, rfl, cell_has hb rfl, rfl, by simp, some ⟨w.heap.size + 1 + 1, 0, none⟩, 0, rfl, fun k hk => by simp [aLL] at hk⟩
  have HR := Lib.hid hRows
  have K0 := Lib.hid (((((Keeps.refl [] w).alloc (.cells #[.int .i64 1] 3)).alloc (.cells #[.int .i64 0] 3)).alloc (.cells #[] 3)).alloc (.cells #[.slice (some ⟨w.heap.size, 0, none⟩) 1 1, .slice (some ⟨w.heap.size + 1, 0, none⟩) 1 1, .slice (some ⟨w.heap.size + 1 + 1, 0, none⟩) 0 0] 22))
  clear hRows
  go_enter Try.func25, Try.ntmps25
  go_wp2_with fail
  refine (laid_any _ 3 3 _ aLL none 0 0 (fun _ => 0) _ HR.out (by omega) (fun i _ => aLL_len i) (fun i hi => by omega)).mono ?_
  rintro e w1 ⟨sb, wb, S, R, V, U, T, rfl, hS, hK, hT⟩
  obtain ⟨Q, hQ⟩ := rch_ex 3 T aLL [0]
  have hT' := hT rfl
  have q : ∀ i, Q i = decide (i < 2) := fun i => by rw [Bool.eq_iff_iff, hQ i, aRch hT']; simp
  obtain rfl : Q = fun i => decide (i < 2) := funext q
  obtain rfl : T = fun _ => true := funext hT'
  have HQ := Lib.hid hQ
  have HS := Lib.hid hS
  have K1 := Lib.hid (K0.out.trans hK)
  have z1 : w.heap.size ≤ w1.heap.size := K1.out.size
  have st1 := Lib.hid (hS.keeps ((Keeps.refl [] w1).alloc (.cells #[.int .i64 0] 3)))
  have rr : Hid (RowL (w1.alloc (.cells #[.int .i64 0] 3)) (.slice (some ⟨w1.heap.size, 0, none⟩) ([0] : List Int).length 1) [0]) := Lib.hid ⟨_, 1, rfl, fun k hk => ⟨_, 0, rfl, by simp at hk; subst hk; exact cell_has (has_new _ _) rfl⟩⟩
  clear hS hK hT hT' q hQ
  go_wp2_with fail
  refine (mark_any _ aLL aLL (.inl ⟨rfl, rfl⟩) sb _ 3 S V _ [0] (some ⟨w1.heap.size, 0, none⟩) 1 _ HQ.out _ st1.out.st (by omega) st1.out.lv.at rr.out (by simp)).mono ?_
  rintro e w2 ⟨a, cap, rfl, hown, k2⟩
  have RN := Lib.hid (rowN_of hown (idxL_len _ _))
  have K2 := Lib.hid k2
  clear hown k2
  have e2 : cntT (fun i => decide (i < 2)) 3 = 2 := rfl
  have e3 : idxL (fun i => decide (i < 2)) 3 = [0, 1] := rfl
  rw [e3] at RN
  rw [e2]
  clear e2 e3
  have SM : Hid (ReadsN (w2.alloc (.cells #[.int .i64 0, .int .i64 1] 3)) a 2 (fun k => .int .i64 (([0, 1] : List Nat).getD k 0 : Int)) ∧ ReadsN (w2.alloc (.cells #[.int .i64 0, .int .i64 1] 3)) (some ⟨w2.heap.size, 0, none⟩) 2 (fun k => .int .i64 (([0, 1] : List Nat).getD k 0 : Int))) := Lib.hid
    ⟨(RN.out.keeps ((Keeps.refl [] _).alloc _)).reads rfl, fun k hk => ⟨_, 0, rfl, by
      have : k = 0 ∨ k = 1 := by omega
      rcases this with rfl | rfl <;> exact cell_has (has_new _ _) rfl, _, rfl⟩⟩
  go_wp2_with fail
  refine (same_eq _ _ _ 2 _ _ _ SM.out.1 SM.out.2 (by omega)).mono ?_
  rintro e w3 ⟨rfl, hb3⟩
  have K3 := Lib.hid ((((Keeps.refl [] w1).alloc (.cells #[.int .i64 0] 3)).trans K2.out).trans (((Keeps.refl [] w2).alloc (.cells #[.int .i64 0, .int .i64 1] 3)).trans (Below.keeps hb3 [])))
  have st3 := Lib.hid ((HS.out.keeps K3.out).keeps ((Keeps.refl [] w3).alloc (.cells #[.int .i64 0] 3)))
  have rr3 : Hid (RowL (w3.alloc (.cells #[.int .i64 0] 3)) (.slice (some ⟨w3.heap.size, 0, none⟩) ([0] : List Int).length 1) [0]) := Lib.hid ⟨_, 1, rfl, fun k hk => ⟨_, 0, rfl, by simp at hk; subst hk; exact cell_has (has_new _ _) rfl⟩⟩
  clear hb3
  go_wp2_with fail
  refine (sweep_any aLL sb _ 3 S V _ [0] (some ⟨w3.heap.size, 0, none⟩) 1 _ HQ.out _ st3.out.st (by omega) st3.out.lv.at rr3.out (by simp)).mono ?_
  rintro e w4 ⟨a4, cap4, S4, V4, rfl, hown4, st4, hv4, k4, f4⟩
  have RN4 := Lib.hid (rowN_of hown4 (idxL_len _ _))
  have K4 := Lib.hid (K1.out.trans (K3.out.trans ((Keeps.refl [] w3).alloc (.cells #[.int .i64 0] 3))))
  have K5 := Lib.hid (K4.out.then k4 (fun x hx => .inl (by have := (HS.out.st.foot x hx).1; have := K0.out.size; omega)))
  have e2 : cntT (freed (fun _ => true) fun i => decide (i < 2)) 3 = 1 := rfl
  have e3 : idxL (freed (fun _ => true) fun i => decide (i < 2)) 3 = [2] := rfl
  rw [e3] at RN4
  rw [e2]
  clear e2 e3 hown4 st4 hv4 k4 f4
  have SM4 : Hid (ReadsN (w4.alloc (.cells #[.int .i64 2] 3)) a4 1 (fun k => .int .i64 (([2] : List Nat).getD k 0 : Int)) ∧ ReadsN (w4.alloc (.cells #[.int .i64 2] 3)) (some ⟨w4.heap.size, 0, none⟩) 1 (fun k => .int .i64 (([2] : List Nat).getD k 0 : Int))) := Lib.hid
    ⟨(RN4.out.keeps ((Keeps.refl [] _).alloc _)).reads rfl, fun k hk => ⟨_, 0, rfl, by
      have : k = 0 := by omega
      subst this; exact cell_has (has_new _ _) rfl, _, rfl⟩⟩
  go_wp2_with fail
  refine (same_eq _ _ _ 1 _ _ _ SM4.out.1 SM4.out.2 (by omega)).mono ?_
  rintro e w5 ⟨rfl, hb5⟩
  have K6 := Lib.hid (K5.out.trans (((Keeps.refl [] w4).alloc (.cells #[.int .i64 2] 3)).trans (Below.keeps hb5 [])))
  clear hb5
  go_wp2_with fail
  go_ret
  exact ⟨rfl, K6.out⟩
end Go.Proofs.Ytompihlckpjbkaa
