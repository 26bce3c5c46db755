/- What the document fixes of namespaces (chapter 10). -/
import Derived.Test.YtajmfenfajbakaaShP
namespace Go.Proofs.Ytajmfenfajbakaa
open Go.RowKit
set_option linter.unusedVariables false
set_option linter.unusedSimpArgs false

theorem strRow_lit (g lo : Nat) (N : List ByteArray) (W : World) (h : W.heap[g]? = some (.cells (N.map Value.string).toArray 9 (0, 0))) (hl : lo ≤ g) (hN : N.length ≤ 1000) : ValRow 9 lo (some ⟨g, 0, none⟩) N.length N.length (strV N) W := by
  refine ⟨by rw [valR_len]; omega, .inr ⟨g, N.length, _, rfl, hl, h, Nat.le_refl _, by unfold maxLen; omega, by simp, ?_⟩⟩
  apply List.ext_getElem?
  intro k
  rcases Nat.lt_or_ge k N.length with h1 | h1
  · rw [valR_get h1, List.getElem?_take_of_lt (by omega)]
    simp [strV, List.getElem?_eq_getElem h1, List.getD]
  · rw [List.getElem?_eq_none (by simp; omega), List.getElem?_eq_none (by rw [valR_len]; exact h1)]
theorem FamOk.new (most pairs : Int) : FamOk 0 ⟨most, pairs, newT, []⟩ [] :=
  ⟨TInv.new, fun i x h => by simp [newT] at h, by simp, fun i x h => by simp [newT] at h, by simp [newT], by simp⟩
theorem SRow.low {fb t mb lo : Nat} {a : Option Addr} {ST : List Nat} {m : Option Nat} {f : Fam} {sb rb : Nat} {ar : Option Addr} {vs : List Int} {ver : Nat} {c : C4} {W : World} (h : SRow fb t mb lo a ST m f sb rb ar vs ver c W) : ∀ z, z ∈ spFeet fb mb a ST m sb rb ar → lo ≤ z ∨ z ∈ mS m := fun z hz => by
  unfold spFeet at hz
  simp only [List.mem_cons, List.mem_append] at hz
  rcases hz with h1 | (h1 | h1) | h1
  · rw [h1]; exact .inl h.ls
  · exact .inl (h.F.foot z h1).1
  · exact .inl (h.R.foot z (by simp only [List.mem_cons]; exact h1)).1
  · exact .inr h1
def xS : ByteArray := ⟨#[120]⟩
def yS : ByteArray := ⟨#[121]⟩
theorem xyS : xS ≠ yS := by decide
set_option maxRecDepth 100000 in
set_option maxHeartbeats 4000000 in
theorem awake10 (w : World) : Calls Try.prog 7 #[] w fun e w' => e = .returned (.bool true) ∧ Keeps [] w w' := by
  have sx : (⟨#[120]⟩ : ByteArray) = xS := rfl
  have sy : (⟨#[121]⟩ : ByteArray) = yS := rfl
  have SX := Lib.hid sx
  have SY := Lib.hid sy
  clear sx sy
  go_enter Try.func7, Try.ntmps7
  go_wp2_with fail
  refine (fnew_any 3 10 none ⟨0, 0, 0, 0⟩ w (MtrAt.nil _ _) (by omega) (by omega) (by omega) (by omega)).mono ?_
  rintro r w1 ⟨fb, t, mb, ST, rfl, f1, m1, k1⟩
  have F1 := Lib.hid f1
  have K1 := Lib.hid k1
  clear f1 m1 k1
  go_wp2_with fail
  refine (fmake_any fb t mb w.heap.size none ST none _ ⟨0, 0, 0, 0⟩ w1 F1.out (MtrAt.nil _ _) (fun b h => by cases h)).mono ?_
  rintro r w2 ⟨sb, rb, rfl, s2, k2, zs, zr⟩
  have S2 := Lib.hid s2
  have K2 := Lib.hid (K1.out.trans k2)
  have Z2 := Lib.hid (show w.heap.size ≤ sb ∧ w.heap.size ≤ rb from by have := K1.out.size; omega)
  clear s2 k2 zs zr
  go_wp2_with fail
  refine (sset_next 0 (by omega) fb t mb w.heap.size none ST none _ [] sb rb none [] 0 _ xS 1 w2 S2.out (FamOk.new 3 10) (by decide) (by omega) (by simp) (by simp) (by simp) (by simp) (.inr ⟨rfl, by simp, by simp⟩)).mono ?_
  rintro r w3 ⟨rfl, f3, c3, a3, ST3, ar3, ⟨o3, p3, q3, n3, _, _⟩, s3, k3, g3, g4⟩
  have O3 := Lib.hid (show FamOk 1 f3 [xS] from by simpa using o3)
  have Q3 := Lib.hid (And.intro p3 (And.intro q3 n3))
  have S3 := Lib.hid s3
  have K3 := Lib.hid (show Keeps [] w w3 from (K2.out.mono (by simp [mS])).then k3 (fun z hz => .inl (by rcases S2.out.low z hz with h | h; exact h; simp [mS] at h)))
  clear o3 p3 q3 n3 s3 k3 g3 g4
  go_wp2_with fail
  have hp3 : f3.pairs = 10 := Q3.out.2.1
  have hm3 : f3.most = 3 := Q3.out.1
  have hn3 := Q3.out.2.2
  refine (sset_next 1 (by omega) fb t mb w.heap.size a3 ST3 none f3 [xS] sb rb ar3 _ _ c3 yS 2 w3 S3.out O3.out (by decide) (by omega) (by simp at hn3; omega) (by simp) (by simp; exact fun e => xyS e.symm) (by rw [hp3]; simp) (.inr ⟨rfl, by simp; exact fun e => xyS e.symm, by rw [hm3]; simp⟩)).mono ?_
  rintro r w4 ⟨rfl, f4, c4, a4, ST4, ar4, ⟨o4, p4, q4, n4, _, _⟩, s4, k4, g5, g6⟩
  have O4 := Lib.hid (show FamOk 2 f4 [xS, yS] from by simpa using o4)
  have S4 := Lib.hid s4
  have K4 := Lib.hid (show Keeps [] w w4 from K3.out.then k4 (fun z hz => .inl (by rcases S3.out.low z hz with h | h; exact h; simp [mS] at h)))
  clear o4 p4 q4 n4 s4 k4 g5 g6 hp3 hm3 hn3
  go_wp2_with fail
  refine (sget_has 2 (by omega) fb t mb w.heap.size a4 ST4 none f4 [xS, yS] sb rb ar4 _ _ c4 yS w4 S4.out O4.out (by decide) 1 rfl (by simp)).mono ?_
  rintro r w5 ⟨rfl, c5, _, s5, k5⟩
  have S5 := Lib.hid s5
  have K5 := Lib.hid (show Keeps [] w w5 from K4.out.trans (k5.mono (by simp [mS])))
  clear s5 k5
  simp only [List.nil_append, List.cons_append, List.getD, List.getElem?_cons_succ, List.getElem?_cons_zero, Option.getD_some]
  go_wp2_with fail
  refine (sshared_row sb fb rb _ w5 S5.out.s).mono ?_
  rintro r w6 ⟨rfl, rfl⟩
  go_wp2_with fail
  refine (names_any 2 (by omega) fb t mb w.heap.size a4 ST4 none f4 [xS, yS] w5 S5.out.F O4.out).mono ?_
  rintro r w7 ⟨lo7, a7, c7, _, rfl, v7, k7⟩
  have V7 := Lib.hid v7
  have K7 := Lib.hid (K5.out.trans k7)
  clear v7 k7
  go_wp2_with fail
  refine (names_cmp lo7 0 a7 (some ⟨w7.heap.size, 0, none⟩) c7 2 [xS, yS] [xS, yS] (w7.alloc (.cells #[.string xS, .string yS] 9)) (V7.out.keeps ((Keeps.refl [] w7).alloc _) (by simp)) (strRow_lit _ _ [xS, yS] _ (has_new _ _) (Nat.zero_le _) (by simp)) (by simp)).mono ?_
  rintro r w8 ⟨rfl, k8⟩
  have K8 := Lib.hid ((K7.out.alloc _).trans k8)
  clear k8
  go_wp2_with fail
  go_ret
  exact ⟨rfl, K8.out⟩
end Go.Proofs.Ytajmfenfajbakaa
