/- Values alone: the row of a shared namespace (chapter 10). -/
import Derived.Test.YtajmfenfajbakaaGreatShE
import Derived.Test.YtajmfenfajbakaaGreatTabAddS
import Derived.Test.YtajmfenfajbakaaGreatTabAddG
namespace Go.Proofs.YtajmfenfajbakaaGreat
open Go.RowKit
set_option linter.unusedVariables false
set_option linter.unusedSimpArgs false

def C4.val (c : C4) : C4 := { c with c := wrap64 (c.c + 1) }
def C4.shf (c : C4) : C4 := { c with d := wrap64 (c.d + 1) }
theorem mcharge_any (m : Option Nat) (c : C4) (w : World) (h : MtrAt m c w) : Calls Tryz.prog 141 #[mV m, .int .i64 1] w (Cntd m c.val w) := by
  cases m with
  | none =>
    go_enter Tryz.func141, Tryz.ntmps141
    simp only [mV, Option.map_none]
    go_wp2_with fail
    refine (count_nil _ _ _).mono ?_
    rintro e w1 ⟨rfl, rfl⟩
    go_wp2_with fail
    go_end0
    exact ⟨rfl, Keeps.refl _ _, MtrAt.nil _ _⟩
  | some b =>
    have H := Lib.hid (h b rfl)
    clear h
    go_enter Tryz.func141, Tryz.ntmps141
    simp only [mV, Option.map_some]
    go_wp2_with fail
    refine (count_yes b 2 (by omega) 2 rfl c.c 1 _ _ _ H.out rfl (by omega) (by omega)).mono ?_
    rintro e w1 ⟨rfl, k1, h1⟩
    have K := Lib.hid k1
    have H1 := Lib.hid h1
    clear k1 h1
    go_wp2_with fail
    go_end0
    exact ⟨rfl, K.out, fun b' hb => by cases hb; exact H1.out⟩
theorem mturn_any (m : Option Nat) (c : C4) (w : World) (h : MtrAt m c w) : Calls Tryz.prog 69 #[mV m] w (Cntd m c.shf w) := by
  cases m with
  | none =>
    go_enter Tryz.func69, Tryz.ntmps69
    simp only [mV, Option.map_none]
    go_wp2_with fail
    refine (count_nil _ _ _).mono ?_
    rintro e w1 ⟨rfl, rfl⟩
    go_wp2_with fail
    go_end0
    exact ⟨rfl, Keeps.refl _ _, MtrAt.nil _ _⟩
  | some b =>
    have H := Lib.hid (h b rfl)
    clear h
    go_enter Tryz.func69, Tryz.ntmps69
    simp only [mV, Option.map_some]
    go_wp2_with fail
    refine (count_yes b 3 (by omega) 3 rfl c.d 1 _ _ _ H.out rfl (by omega) (by omega)).mono ?_
    rintro e w1 ⟨rfl, k1, h1⟩
    have K := Lib.hid k1
    have H1 := Lib.hid h1
    clear k1 h1
    go_wp2_with fail
    go_end0
    exact ⟨rfl, K.out, fun b' hb => by cases hb; exact H1.out⟩
theorem add10_tab (k : Nat) (hk : k ≤ 1000) (t lo : Nat) (S : List Nat) (m : Option Nat) (c : C4) (T : Tab) (w : World) (H : TabAt t lo S (mV m) T w) (hM : MtrAt m c w) (hm : ∀ b, m = some b → b < lo) (hI : TInv k T) (h ky v : Int) :
    Calls Tryz.prog 87 #[.pointer (some ⟨t, 0, none⟩), .int .i64 h, .int .i64 ky, .int .i64 v] w (AddP t lo S m (if T.E.length = T.room then c.tab else c) T.ready h ky v w) := by
  by_cases he : T.E.length = T.room
  · rw [if_pos he]
    exact add_grow k hk t lo S m c T w H hM hm hI he h ky v
  · rw [if_neg he]
    have hr : T.ready = T := by unfold Tab.ready; rw [if_neg he]
    rw [hr]
    exact add_stay k hk t lo S m c T w H hM hm hI he h ky v
def rowWO (v : Value) : Obj := .cells #[v] 109 (0, 0)
def intL (vs : List Int) (i : Nat) : Value := .int .i64 (vs.getD i 0)
structure RowAt (rb lo : Nat) (a : Option Addr) (vs : List Int) (W : World) : Prop where
  b : ∃ c, W.heap[rb]? = some (rowWO (.slice a vs.length c)) ∧ ValRow 3 lo a vs.length c (intL vs) W
  d : rb ∉ blk a
  l : lo ≤ rb
section
variable {rb lo : Nat} {a : Option Addr} {vs : List Int} {W W' : World} {R : List Nat}
theorem RowAt.keeps (h : RowAt rb lo a vs W) (k : Keeps R W W') (hd : ∀ z, z ∈ rb :: blk a → z ∉ R) : RowAt rb lo a vs W' := by
  obtain ⟨c, h1, h2⟩ := h.b
  exact ⟨⟨c, k.has h1 (hd _ (by simp)), h2.keeps k (fun z hz => hd z (by simp [hz]))⟩, h.d, h.l⟩
theorem RowAt.foot (h : RowAt rb lo a vs W) : ∀ z, z ∈ rb :: blk a → lo ≤ z ∧ z < W.heap.size := by
  intro z hz
  obtain ⟨c, h1, h2⟩ := h.b
  rcases List.mem_cons.1 hz with rfl | hz
  · exact ⟨h.l, lt_of_block h1⟩
  · exact h2.blk_lt z hz
end
theorem rlen_any (rb lo : Nat) (a : Option Addr) (vs : List Int) (w : World) (H : RowAt rb lo a vs w) :
    Calls Tryz.prog 136 #[.pointer (some ⟨rb, 0, none⟩)] w fun r w' => r = .returned (.int .i64 (vs.length : Nat)) ∧ w = w' := by
  obtain ⟨c, h1, _⟩ := H.b
  have c0 : w.cell? ⟨rb, 0, none⟩ = some (.slice a vs.length c) := cell_has h1 (i := 0) rfl
  clear H h1
  go_enter Tryz.func136, Tryz.ntmps136
  go_wp2_with fail
  go_ret
  exact ⟨rfl, rfl⟩
theorem rvalue_any (rb lo : Nat) (a : Option Addr) (vs : List Int) (i : Nat) (hi : i < vs.length) (w : World) (H : RowAt rb lo a vs w) :
    Calls Tryz.prog 139 #[.pointer (some ⟨rb, 0, none⟩), .int .i64 i] w fun r w' => r = .returned (.int .i64 (vs.getD i 0)) ∧ w = w' := by
  obtain ⟨c, h1, h2⟩ := H.b
  obtain ⟨g, rfl⟩ := h2.shape (by omega)
  have c0 : w.cell? ⟨rb, 0, none⟩ = some (.slice (some ⟨g, 0, none⟩) vs.length c) := cell_has h1 (i := 0) rfl
  have c1 : w.cell? ⟨g, i, none⟩ = some (.int .i64 (vs.getD i 0)) := h2.cell hi
  obtain ⟨x, hx⟩ := ex_hid (vs.getD i 0)
  rw [← hx.out] at c1 ⊢
  obtain ⟨n, hn⟩ := ex_hid vs.length
  rw [← hn.out] at c0 hi
  have i0 : (0 : Int) ≤ (i : Int) := by omega
  have i1 : (i : Int) < (n : Int) := by omega
  clear H h1 h2
  go_enter Tryz.func139, Tryz.ntmps139
  go_wp2_with fail
  go_ret
  exact ⟨rfl, rfl⟩
theorem intL_set (vs : List Int) (i : Nat) (v : Int) (hi : i < vs.length) : ∀ k, k < vs.length → putV (intL vs) i (.int .i64 v) k = intL (vs.set i v) k := by
  intro k hk
  unfold putV intL
  by_cases e : k = i
  · subst e; simp [List.getD, hk]
  · have e2 : ¬ i = k := fun h => e h.symm
    simp [e, e2, List.getD, List.getElem?_set]
theorem rturn_any (rb lo : Nat) (a : Option Addr) (vs : List Int) (i : Nat) (v : Int) (hi : i < vs.length) (w : World) (H : RowAt rb lo a vs w) :
    Calls Tryz.prog 138 #[.pointer (some ⟨rb, 0, none⟩), .int .i64 i, .int .i64 v] w fun r w' => r = .returned (.tuple #[]) ∧ RowAt rb lo a (vs.set i v) w' ∧ Keeps (blk a) w w' := by
  have HH := Lib.hid H
  obtain ⟨c, h1, h2⟩ := H.b
  obtain ⟨g, rfl⟩ := h2.shape (by omega)
  have c0 : w.cell? ⟨rb, 0, none⟩ = some (.slice (some ⟨g, 0, none⟩) vs.length c) := cell_has h1 (i := 0) rfl
  have c1 : w.cell? ⟨g, i, none⟩ = some (.int .i64 (vs.getD i 0)) := h2.cell hi
  have c2 := h2.free i
  have H1 := Lib.hid h1
  have H2 := Lib.hid h2
  have HI := Lib.hid hi
  obtain ⟨x, hx⟩ := ex_hid (vs.getD i 0)
  rw [← hx.out] at c1
  obtain ⟨n, hn⟩ := ex_hid vs.length
  rw [← hn.out] at c0 hi
  have i0 : (0 : Int) ≤ (i : Int) := by omega
  have i1 : (i : Int) < (n : Int) := by omega
  clear H h1 h2
  go_enter Tryz.func138, Tryz.ntmps138
  go_wp2_with fail
  go_end0
  have kS : Keeps (blk (some (⟨g, 0, none⟩ : Addr))) w (w.setCell ⟨g, i, none⟩ (.int .i64 v)) := (Keeps.refl _ _).setCell (.inr (by simp [blk])) _
  refine ⟨rfl, ⟨⟨c, ?_, ?_⟩, HH.out.d, HH.out.l⟩, kS⟩
  · rw [List.length_set]; exact kS.has H1.out HH.out.d
  · rw [List.length_set]; exact (H2.out.put i (.int .i64 v)).congr (intL_set vs i v HI.out)
def rowFindI (vs : List Int) (i : Int) : Int := if i < vs.length then i else -1
theorem rfind_any (k : Nat) (hk : k ≤ 1000) (fb t mb lo : Nat) (a : Option Addr) (ST : List Nat) (m : Option Nat) (f : Fam) (rb lor : Nat) (ar : Option Addr) (vs : List Int) (c : C4) (s : ByteArray) (w : World) (H : FamAt fb t mb lo a ST m f w) (HR : RowAt rb lor ar vs w) (hM : MtrAt m c w) (hm : ∀ b, m = some b → b < lo) (hmr : ∀ b, m = some b → b ∉ rb :: blk ar) (hI : TInv k f.K) (hs : s.size ≤ 1000000) :
    Calls Tryz.prog 135 #[.pointer (some ⟨rb, 0, none⟩), .pointer (some ⟨fb, 0, none⟩), .string s] w fun r w' => r = .returned (.int .i64 (rowFindI vs (seekR f.K (numI f.N s) (txtH s) c).1)) ∧ MtrAt m (seekR f.K (numI f.N s) (txtH s) c).2 w' ∧ Keeps (mS m) w w' := by
  obtain ⟨c9, h1, _⟩ := H.b
  have c3 : w.cell? ⟨fb, 3, none⟩ = some (.pointer (some ⟨t, 0, none⟩)) := cell_has h1 (i := 3) rfl
  have FA := find_any k hk fb t mb lo a ST m f t lo ST f.K c s w H H.k hM hm hI hs
  have HRR := Lib.hid HR
  have NM := Lib.hid (show ∀ z, z ∈ rb :: blk ar → z ∉ mS m from fun z hz hy => by
    cases m with
    | none => simp [mS] at hy
    | some b => simp [mS] at hy; subst hy; exact hmr _ rfl hz)
  obtain ⟨R, hR⟩ := ex_hid (seekR f.K (numI f.N s) (txtH s) c)
  unfold FindP at FA
  rw [← hR.out] at FA ⊢
  clear H HR hM hm hmr hI h1
  go_enter Tryz.func135, Tryz.ntmps135
  go_wp2_with fail
  refine FA.mono ?_
  rintro r w1 ⟨rfl, m1, k1⟩
  obtain ⟨c8, g1, _⟩ := (HRR.out.keeps k1 NM.out).b
  have y0 : w1.cell? ⟨rb, 0, none⟩ = some (.slice ar vs.length c8) := cell_has g1 (i := 0) rfl
  have M1 := Lib.hid m1
  have K1 := Lib.hid k1
  obtain ⟨r1, hr1⟩ := ex_hid R.1
  rw [← hr1.out]
  obtain ⟨n, hn⟩ := ex_hid vs.length
  rw [← hn.out] at y0
  clear m1 k1 g1 FA c3
  by_cases hlt : r1 < (n : Int)
  · have hb : decide (r1 < (n : Int)) = true := by simpa using hlt
    go_wp2_with fail
    go_ret
    exact ⟨by unfold rowFindI; rw [← hn.out, ← hr1.out, if_pos hlt]; rfl, M1.out, K1.out⟩
  · have hb : decide (r1 < (n : Int)) = false := by simpa using hlt
    go_wp2_with fail
    go_ret
    exact ⟨by unfold rowFindI; rw [← hn.out, ← hr1.out, if_neg (by omega)]; rfl, M1.out, K1.out⟩
end Go.Proofs.YtajmfenfajbakaaGreat
