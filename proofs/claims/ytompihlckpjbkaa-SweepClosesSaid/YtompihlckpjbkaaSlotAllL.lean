/- All of slots of []int: a list of the taken ones (chapter 11), and the iterator over it. -/
import Derived.Test.YtompihlckpjbkaaMark
import Derived.Test.YtompihlckpjbkaaRangeF
import Derived.Deep.RegionLaw
namespace Go.Proofs.Ytompihlckpjbkaa.SL
open Go.RowKit Go.Shelf
set_option linter.unusedVariables false
attribute [local go_sem ↓] Go.wp_at_zero Go.wp_at_succ

/-- Slots and what they have, as cells. -/
def pairsL (V : Nat → Value) (l : List Nat) : List Value := l.flatMap fun i : Nat => [.int .i64 (i : Int), V i]
theorem pairsL_len (V : Nat → Value) (l : List Nat) : (pairsL V l).length = l.length * 2 := by
  induction l with
  | nil => rfl
  | cons a l ih =>
    have e : pairsL V (a :: l) = .int .i64 (a : Int) :: V a :: pairsL V l := by simp [pairsL]
    rw [e]; simp only [List.length_cons, ih]; omega
theorem pairsL_snoc (V : Nat → Value) (l : List Nat) (i : Nat) : pairsL V (l ++ [i]) = pairsL V l ++ [.int .i64 (i : Int), V i] := by
  simp [pairsL]
theorem pairsL_get (V : Nat → Value) (l : List Nat) : ∀ k i, l[k]? = some i → (pairsL V l)[k * 2]? = some (.int .i64 (i : Int)) ∧ (pairsL V l)[k * 2 + 1]? = some (V i) := by
  induction l with
  | nil => intro k i h; simp at h
  | cons a l ih =>
    intro k i h
    cases k with
    | zero => simp at h; subst h; simp [pairsL]
    | succ k =>
      have h2 := ih k i (by simpa using h)
      have e : pairsL V (a :: l) = .int .i64 (a : Int) :: V a :: pairsL V l := by simp [pairsL]
      rw [e, show (k + 1) * 2 = k * 2 + 1 + 1 by omega]
      simpa using h2
theorem infoP : (Try.prog.info? 101).map (fun i => (i.zero, i.size, i.bytes)) = some (some (.agg #[.int .i64 0, .slice none 0 0]), 2, 32) := by kernel_rfl
theorem own_notin {E TY : TypeId} {lo size n c : Nat} {a : Option Addr} {xs : List Value} {w : World} {b : Nat} {cs : Array Value} {f : Nat × Nat} (h : w.ownsRow lo E size (.slice a n c) n xs) (hb : w.heap[b]? = some (.cells cs TY f)) (he : E ≠ TY) : b ∉ blk a := by
  intro hx
  rcases h.2 with ⟨q, _⟩ | ⟨g1, cap, cur, a1, a2, a3, _⟩
  · simp at q; rw [q.1] at hx; simp [blk] at hx
  · simp at a1; rw [a1.1] at hx; simp [blk] at hx; rw [← hx, hb] at a3; simp at a3; exact he a3.2.1.symm
theorem own_keeps {E : TypeId} {lo size n c : Nat} {a : Option Addr} {xs : List Value} {w w' : World} {S : List Nat} (h : w.ownsRow lo E size (.slice a n c) n xs) (k : Keeps S w w') (hd : ∀ x, x ∈ blk a → x ∉ S) : w'.ownsRow lo E size (.slice a n c) n xs := by
  obtain ⟨h1, h2⟩ := h
  refine ⟨h1, ?_⟩
  rcases h2 with h2 | ⟨g, cap, cur, a1, a2, a3, a4⟩
  · exact .inl h2
  · refine .inr ⟨g, cap, cur, a1, a2, k.has a3 (hd g ?_), a4⟩
    simp at a1
    simp [a1.1, blk]

theorem idxL_mem (T : Nat → Bool) (m : Nat) : ∀ x, x ∈ idxL T m ↔ x < m ∧ T x = true := by
  induction m with
  | zero => intro x; simp [idxL]
  | succ m ih =>
    intro x
    simp only [idxL, List.mem_append, ih]
    constructor
    · rintro (h | h)
      · exact ⟨by omega, h.2⟩
      · split at h
        · rename_i e; simp at h; subst h; exact ⟨by omega, e⟩
        · simp at h
    · rintro ⟨h1, h2⟩
      by_cases e : x = m
      · subst e; right; simp [h2]
      · left; exact ⟨by omega, h2⟩
/-- The taken slot number k. -/
def ixN (T : Nat → Bool) (m k : Nat) : Nat := (idxL T m).getD k 0
theorem ixN_is (T : Nat → Bool) (m k : Nat) (hk : k < cntT T m) : ixN T m k < m ∧ T (ixN T m k) = true ∧ (idxL T m)[k]? = some (ixN T m k) := by
  rw [← idxL_len] at hk
  have h : (idxL T m)[k]? = some (ixN T m k) := by simp [ixN, List.getD_eq_getElem?_getD, List.getElem?_eq_getElem hk]
  have hm := (idxL_mem T m _).1 (List.mem_of_getElem? h)
  exact ⟨hm.1, hm.2, h⟩

/-- What the iterator leans on. -/
def AllPriv (bl m cap : Nat) (a : Option Addr) (V : Nat → Value) (T : Nat → Bool) (w : World) : Prop :=
  w.cell? ⟨bl, 0, none⟩ = some (.slice a (cntT T m) cap) ∧ ∀ k, k < cntT T m → ∃ g, a = some ⟨g, 0, none⟩ ∧ w.cell? ⟨g, k * 2, none⟩ = some (.int .i64 (ixN T m k : Int)) ∧ w.cell? ⟨g, k * 2 + 1, none⟩ = some (V (ixN T m k))
/-- Behind All. -/
def SAllC (m : Nat) (V : Nat → Value) (T : Nat → Bool) (w : World) (e : Ending) (w' : World) : Prop :=
  ∃ a cap, e = .returned (.func (.func 61) #[] #[.pointer (some ⟨w.heap.size, 0, none⟩)]) ∧ AllPriv w.heap.size m cap a V T w' ∧ Below w.heap.size w w'

set_option maxRecDepth 100000 in
set_option maxHeartbeats 4000000 in
theorem sAll_any (sb lo : Nat) (S : List Nat) (m : Nat) (V : Nat → Value) (T : Nat → Bool) (w : World) (H : SlotSt sb lo S m V T w) (hm : m ≤ 60000) (hV : ∀ i, i < m → T i = true → ∃ a n c, V i = .slice a n c) :
    Calls Try.prog 57 #[.pointer (some ⟨sb, 0, none⟩)] w (SAllC m V T w) := by
  obtain ⟨i0, hi, hz0, hz1, hz2⟩ := info_parts infoP
  have HI := Lib.hid (And.intro hi (And.intro hz0 (And.intro hz1 hz2)))
  clear hi hz0 hz1 hz2
  have HH := Lib.hid H
  have HV := Lib.hid hV
  have hm' : (m : Int) ≤ 60000 := by omega
  clear H hV
  go_enter Try.func57, Try.ntmps57
  go_wp2_with fail
  refine (high_st _ _ _ _ _ _ _ (HH.out.keeps (S' := []) ((Keeps.refl [] w).alloc _) (by simp))).mono ?_
  rintro e w1 ⟨rfl, rfl⟩
  go_wp2_with fail
  have hO : Hid ((w.alloc (.cells #[.slice none 0 0] 99)).ownsRow w.heap.size 101 2 (.slice none 0 0) 0 (pairsL V (idxL T 0))) := Lib.hid (World.ownsRow_nil _ _ _ _)
  go_loopw [7] (fun i wr => ∃ (k : Nat) (a : Option Addr) (cap : Nat), k ≤ m ∧ i = .int .i64 k ∧ wr.heap[w.heap.size]? = some (.cells #[.slice a (cntT T k) cap] 99 (0, 0)) ∧ wr.ownsRow w.heap.size 101 2 (.slice a (cntT T k) cap) (cntT T k) (pairsL V (idxL T k)) ∧ Below w.heap.size w wr) (fun i _ => m - (intOf i).toNat)
  case atStart => exact ⟨0, _, _, by omega, rfl, has_new _ _, hO.out, (Below.refl _ _).alloc (Nat.le_refl _) _⟩
  case round =>
    obtain ⟨k, a, cap, hk, rfl, hbl, hO, hb⟩ := hrel
    have k0 : (0 : Int) ≤ (k : Int) := by omega
    by_cases hlt : k < m
    · have hlt' : (k : Int) < (m : Int) := by omega
      obtain ⟨n, F, hst, hinv⟩ := HH.out.keeps (Below.keeps hb []) (by simp)
      obtain ⟨g, lc, q, tc, fa, fc, h1, h2, h3, h4, h5, hS, -⟩ := hst.parts (by omega)
      have c0 := cell_has h1 (i := 0) rfl
      have c1 := cell_has h1 (i := 1) rfl
      have c2 := h2.cell hlt
      have c3 := h3.cell hlt
      have x0 := cell_has hbl (i := 0) rfl
      have f0 := free_of_has hbl 0
      have zb := lt_of_block hbl
      have hcl := cntT_le T k
      have HB := Lib.hid hb
      have HBL := Lib.hid hbl
      have HO := Lib.hid hO
      clear h1 h2 h3 h4 h5 hS hst hinv hb hbl hO
      by_cases hT : T k = true
      · rw [show flagV T k = .bool true by simp [flagV, hT]] at c3
        obtain ⟨va, vn, vc, hve⟩ := HV.out k hlt hT
        have HT := Lib.hid hT
        have HVE := Lib.hid hve
        rw [hve] at c2
        clear hT hve
        have q3 : cntT T k + 1 ≤ maxLen := by unfold maxLen; omega
        have q4 : (cntT T k + 1) * 32 ≤ 140737488355328 := by omega
        have q5 : w.heap.size ≤ wr.heap.size := HB.out.size
        have G := Lib.hid (And.intro q3 (And.intro q4 q5))
        have NB := Lib.hid (own_notin HO.out HBL.out (by decide))
        clear q3 q4 q5
        go_wp2_with fail
        go_region_law ((refine step_append_lies (o := ⟨some 28, _, _, _, _, _⟩) _ (by rfl) _ _ 99 (by rfl) w.heap.size 101 i0 (.agg #[.int .i64 0, .slice none 0 0]) 2 32 Try.underlying99 HI.out.1 HI.out.2.1 HI.out.2.2.1 HI.out.2.2.2 rfl (by decide) (.slice a (cntT T k) cap) (cntT T k) (pairsL V (idxL T k)) (by rfl) (by repeat (first | exact HO.out | refine World.ownsRow.alloc ?_ _ | refine World.ownsRow.drew ?_)) ⟨wr.heap.size, 0, none⟩ 1 1 [.int .i64 (k : Int), .slice va vn vc] (by rfl) (by rfl) (World.news_of_block (cs := #[.int .i64 (k : Int), .slice va vn vc]) (t := 101) (fr := (0, 0)) (has_drew (has_new wr _))) (by intro u hu; simp at hu; rcases hu with rfl | rfl <;> rfl) (by decide) G.out.1 G.out.2.1 (by have := G.out.2.2; simp <;> omega) _ rfl ?_; intro g1 cap1 w2 hown hgrow hat hlt1; have K1 : Keeps (blk a) wr w2 := Keeps.trans (by repeat (first | exact Keeps.refl _ _ | refine Keeps.alloc ?_ _ | refine Keeps.drew ?_)) (grown_kp hgrow); have B1 := K1.has HBL.out NB.out; have x1 := cell_has B1 (i := 0) rfl; have f1 := free_of_has B1 0; have zb1 := lt_of_block B1; have Y1 := Lib.hid K1; have Y2 := Lib.hid hown; have YB := Lib.hid B1; have Y3 := Lib.hid (Keeps.below K1 G.out.2.2 (fun y hy => by (rcases HO.out.2 with ⟨q', _⟩ | ⟨g2, cap2, cur2, b1, b2, b3, _⟩; (simp at q'; rw [q'.1] at hy; simp [blk] at hy); (simp at b1; rw [b1.1] at hy; simp [blk] at hy; subst hy; exact b2)))); clear hown hgrow hat K1 B1))
        all_goals
          go_wp2_with fail
          go_roundw
          case rel =>
            refine ⟨k + 1, some ⟨g1, 0, none⟩, cap1, by omega, by go_num, ?_, ?_, (HB.out.trans Y3.out).setCell (Nat.le_refl _) _⟩
            · have := has_setCell YB.out 0 (.slice (some ⟨g1, 0, none⟩) (cntT T k + 1) cap1)
              simpa [cntT, HT.out] using this
            · have h := own_keeps Y2.out (S := [w.heap.size]) ((Keeps.refl _ _).setCell (p := ⟨w.heap.size, 0, none⟩) (.inr (by simp)) (.slice (some ⟨g1, 0, none⟩) (cntT T k + 1) cap1)) (fun y hy hy2 => by simp at hy2; subst hy2; exact own_notin Y2.out YB.out (by decide) hy)
              simp only [cntT, idxL, HT.out, if_true]
              rw [pairsL_snoc, HVE.out]
              exact h
          case measure => simp [intOf]; omega
      · have hT' : T k = false := by simpa using hT
        rw [show flagV T k = .bool false by simp [flagV, hT']] at c3
        have HT := Lib.hid hT'
        clear hT hT' c2
        go_wp2_with fail
        go_roundw
        case rel =>
          refine ⟨k + 1, a, cap, by omega, by go_num, ?_, ?_, HB.out⟩
          · simpa [cntT, HT.out] using HBL.out
          · have h := HO.out
            simp only [cntT, idxL, HT.out]
            simpa using h
        case measure => simp [intOf]; omega
    · have hke : k = m := by omega
      subst hke
      have hge : ¬ (k : Int) < (k : Int) := by omega
      have HB := Lib.hid hb
      have HBL := Lib.hid hbl
      have HO := Lib.hid hO
      clear hb hbl hO
      go_wp2_with fail
      go_ret
      refine ⟨a, cap, rfl, ⟨cell_has HBL.out rfl, fun j hj => ?_⟩, HB.out⟩
      obtain ⟨g, c', hv, hg1, hg2⟩ := HO.out.form (by omega)
      simp at hv
      obtain ⟨rfl, rfl⟩ := hv
      have hp := pairsL_get V (idxL T k) j _ (ixN_is T k j hj).2.2
      exact ⟨g, rfl, by rw [HO.out.cellAt _ (by omega)]; exact hp.1, by rw [HO.out.cellAt _ (by omega)]; exact hp.2⟩
end Go.Proofs.Ytompihlckpjbkaa.SL
