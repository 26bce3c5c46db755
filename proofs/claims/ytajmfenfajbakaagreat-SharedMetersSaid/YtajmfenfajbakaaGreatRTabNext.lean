/- The document's Next (chapter 7). -/
import Derived.Test.YtajmfenfajbakaaGreatB9
import Derived.Test.YtajmfenfajbakaaGreatTabNxtL
import Derived.Test.YtajmfenfajbakaaGreatB1
import Derived.Deep.LoopGhost
import Derived.Deep.Cut
import Derived.Deep.CutRange
namespace Go
section
variable {P : Program} {ops : Array Oper} {Q : Exit → Act → World → Prop} {md : Region.Mode} {F : World → Prop} {s : Nat}
/-- Behind the operation that F was held for: F is wanted no more. -/
theorem wpAnyG_takeZ {i : Nat} {oi : Oper} {v : Value} {fuel : Nat} {listed : Array Bool} {a : Act} {w : World} (hi : ops[i]? = some oi)
    (hs : Region.noSelect ops = true) (hf : Region.free md ops listed i = true) (hr : (Region.ready md ops listed).contains i = true) (hne : (i == s) = false) (hu : listed.getD s false = true)
    (hQ : ∀ c a w, Q (.panic c) (a.put oi.dst v) w → Q (.panic c) a w) (hw : Region.wanted oi (yielded ops a.tmps) = true) (hy : ∀ w, (execOp a.eval oi).run P w = .ok (.value v) w)
    (h : wpAnyG P md ops Q F s fuel (listed.setIfInBounds i true) (a.put oi.dst v) w) : wpAnyG P md ops Q F s (fuel + 1) listed a w :=
  wpAnyG_firstY hi (Region.noSelect_spec hs) hQ (by simpa using hne) fuel listed a w (Region.free_spec hi hf) (by simpa using hr) (.inl ⟨hw, fun w _ => hy w⟩) (fun h9 => by rw [hu] at h9; cases h9) h
/-- Two may come up, in either order. -/
theorem wpAnyG_two {i j : Nat} {oi oj : Oper} {fuel : Nat} {listed : Array Bool} {a : Act} {w : World} (hi : ops[i]? = some oi) (hj : ops[j]? = some oj) (hr : Region.ready md ops listed = [i, j]) (hu1 : (listed.setIfInBounds i true).getD s false = true) (hu2 : (listed.setIfInBounds j true).getD s false = true)
    (hw1 : Region.wanted oi (yielded ops a.tmps) = true) (hw2 : Region.wanted oj (yielded ops a.tmps) = true)
    (h1 : ∀ K : Act → World → Prop, (∀ a w, wpAnyG P md ops Q F s fuel (listed.setIfInBounds i true) a w → K a w) → Oper.wp P oi a w K Q)
    (h2 : ∀ K : Act → World → Prop, (∀ a w, wpAnyG P md ops Q F s fuel (listed.setIfInBounds j true) a w → K a w) → Oper.wp P oj a w K Q) : wpAnyG P md ops Q F s (fuel + 1) listed a w := by
  refine ⟨(fun h0 => by rw [hr] at h0; cases h0), fun k hk => ?_⟩
  rw [hr] at hk
  simp only [List.mem_cons, List.not_mem_nil, or_false] at hk
  rcases hk with rfl | rfl
  · exact wpOp_step hi (fun K' hK => by rw [if_pos hw1]; exact h1 K' (fun a w hW => hK a w ⟨(fun h9 => by rw [hu1] at h9; cases h9), hW⟩))
  · exact wpOp_step hj (fun K' hK => by rw [if_pos hw2]; exact h2 K' (fun a w hW => hK a w ⟨(fun h9 => by rw [hu2] at h9; cases h9), hW⟩))
theorem wpAnyG_oneZ {i : Nat} {oi : Oper} {fuel : Nat} {listed : Array Bool} {a : Act} {w : World} (hi : ops[i]? = some oi) (hr : Region.ready md ops listed = [i]) (hu : (listed.setIfInBounds i true).getD s false = true) (hw : Region.wanted oi (yielded ops a.tmps) = true)
    (h : ∀ K : Act → World → Prop, (∀ a w, wpAnyG P md ops Q F s fuel (listed.setIfInBounds i true) a w → K a w) → Oper.wp P oi a w K Q) : wpAnyG P md ops Q F s (fuel + 1) listed a w := by
  refine ⟨(fun h0 => by rw [hr] at h0; cases h0), fun j hj => ?_⟩
  rw [hr] at hj
  obtain rfl : j = i := by simpa using hj
  exact wpOp_step hi (fun K' hK => by rw [if_pos hw]; exact h K' (fun a w hW => hK a w ⟨(fun h9 => by rw [hu] at h9; cases h9), hW⟩))
end
end Go
namespace Go.Proofs.YtajmfenfajbakaaGreat
open Go.RowKit
set_option linter.unusedVariables false
set_option linter.unusedSimpArgs false

def RNextP (kb t : Nat) (m : Option Nat) (c : C4) (T : Tab) (s : Sk) (w : World) (r : Ending) (w' : World) : Prop :=
  r = .returned (.tuple #[.int .i64 (T.next s).says, .bool (!(T.next s).over)]) ∧ RSkAt kb t (T.next s) w' ∧ CtrAt m (c.visN (T.walks s)) w' ∧ Keeps (kb :: mS m) w w'
set_option maxRecDepth 100000 in
set_option maxHeartbeats 4000000 in
theorem rnext_spent (kb t lo : Nat) (S : List Nat) (m : Option Nat) (c : C4) (T : Tab) (s : Sk) (w : World) (H : RTabAt t lo S m T w) (hM : CtrAt m c w) (hs : RSkAt kb t s w) (hkb : kb ∉ S) (hsp : T.spent s = true) :
    Calls Tryz.prog 72 #[.pointer (some ⟨kb, 0, none⟩)] w (RNextP kb t m c T s w) := by
  obtain ⟨a, cc, q, h1, _⟩ := H
  obtain ⟨c1, p1, hb, _⟩ := hs
  have hmk := hM.ne hb (by decide)
  have fin : ∀ w', w'.heap[kb]? = (w.setCell ⟨kb, 5, none⟩ (.bool true)).heap[kb]? → Keeps [kb] w w' → RNextP kb t m c T s w (.returned (.tuple #[.int .i64 (-1), .bool false])) w' := by
    intro w' h1 h2
    have e1 : T.next s = { s with over := true } := by unfold Tab.next; rw [if_pos hsp]
    have e2 : T.walks s = 0 := by unfold Tab.walks; rw [if_pos hsp]
    unfold RNextP
    rw [e1, e2]
    refine ⟨rfl, ⟨c1, p1, ?_, fun h => by cases h⟩, hM.keeps h2 (fun b hb2 hx => by simp at hx; subst hx; exact hmk (by rw [hb2]; simp [mS])), h2.mono (by simp)⟩
    rw [h1]
    exact has_setCell hb 5 _
  have FIN := Lib.hid fin
  have e0 : w.cell? ⟨kb, 0, none⟩ = some (.pointer (some ⟨t, 0, none⟩)) := cell_has hb (i := 0) rfl
  have e2 : w.cell? ⟨kb, 2, none⟩ = some (.int .i64 s.tu) := cell_has hb (i := 2) rfl
  have e5 : w.cell? ⟨kb, 5, none⟩ = some (.bool s.over) := cell_has hb (i := 5) rfl
  have y6 : w.cell? ⟨t, 6, none⟩ = some (.int .i64 T.turns) := cell_has h1 (i := 6) rfl
  have f5 : w.frozen? ⟨kb, 5, none⟩ = false := free_of_has hb 5
  have HB := Lib.hid hb
  unfold Tab.spent at hsp
  clear fin hb h1 hM hmk
  cases ho : s.over
  · rw [ho] at e5 hsp
    have ht : ((s.tu : Int) == (T.turns : Int)) = false := by simp at hsp ⊢; omega
    have ht2 : ¬ s.tu = T.turns := by simp at hsp; exact hsp
    clear hsp
    have hnf : (!false) = true := rfl
    have hnt : (!true) = false := rfl
    go_enter Tryz.func72, Tryz.ntmps72
    go_wp2_with fail
    go_loopw [4] (fun x wr => w = wr) (fun _ _ => 0)
    case atStart => exact rfl
    case round =>
      subst hrel
      go_wp2_with fail
      go_region_held3 (fun w' => w'.cell? ⟨kb, 0, none⟩ = some (.pointer (some ⟨t, 0, none⟩)) ∧ w'.cell? ⟨kb, 2, none⟩ = some (.int .i64 s.tu) ∧ w'.cell? ⟨kb, 5, none⟩ = some (.bool false) ∧ w'.cell? ⟨t, 6, none⟩ = some (.int .i64 T.turns)) (go_keep) (fail)
      go_wp2_with fail
      go_ret2
      exact FIN.out _ rfl (((Keeps.refl [kb] w).drew).setCell (.inr (by simp)) _)
  · rw [ho] at e5
    clear hsp
    have hnf : (!false) = true := rfl
    have hnt : (!true) = false := rfl
    go_enter Tryz.func72, Tryz.ntmps72
    go_wp2_with fail
    go_loopw [4] (fun x wr => w = wr) (fun _ _ => 0)
    case atStart => exact rfl
    case round =>
      subst hrel
      go_wp2_with fail
      refine wp_regionG (fun w' => w'.cell? ⟨kb, 5, none⟩ = some (.bool true)) 19 (by kernel_rfl) e5 (fun hF => ?_)
      refine wpAnyG_takeY (i := 0) (v := ?_) rfl (by kernel_rfl) (by decide +kernel) (by decide +kernel) (by decide +kernel) (fun _ _ _ h => h) (by kernel_rfl) ?_ (by assumption) ?_
      rotate_left
      · (intro wz; go_simp; with_reducible rfl)
      try simp only [Act.put, List.setIfInBounds_toArray, List.set_cons_zero, List.set_cons_succ]
      refine wpAnyG_takeY (i := 1) (v := ?_) rfl (by kernel_rfl) (by decide +kernel) (by decide +kernel) (by decide +kernel) (fun _ _ _ h => h) (by kernel_rfl) ?_ (by assumption) ?_
      rotate_left
      · (intro wz; go_simp; with_reducible rfl)
      try simp only [Act.put, List.setIfInBounds_toArray, List.set_cons_zero, List.set_cons_succ]
      refine wpAnyG_takeY (i := 2) (v := ?_) rfl (by kernel_rfl) (by decide +kernel) (by decide +kernel) (by decide +kernel) (fun _ _ _ h => h) (by kernel_rfl) ?_ (by assumption) ?_
      rotate_left
      · (intro wz; go_simp; with_reducible rfl)
      try simp only [Act.put, List.setIfInBounds_toArray, List.set_cons_zero, List.set_cons_succ]
      refine wpAnyG_take (i := 3) (v := ?_) rfl (by kernel_rfl) (by decide +kernel) (by decide +kernel) (by decide +kernel) (by decide +kernel) (by rfl) (fun _ _ _ h => h) (by kernel_rfl) ?_ (by assumption) ?_
      rotate_left
      · (intro wz hSw; (try dsimp only at hSw); go_simp; with_reducible rfl)
      try simp only [Act.put, List.setIfInBounds_toArray, List.set_cons_zero, List.set_cons_succ]
      refine wpAnyG_takeY (i := 4) (v := ?_) rfl (by kernel_rfl) (by decide +kernel) (by decide +kernel) (by decide +kernel) (fun _ _ _ h => h) (by kernel_rfl) ?_ (by assumption) ?_
      rotate_left
      · (intro wz; go_simp; with_reducible rfl)
      try simp only [Act.put, List.setIfInBounds_toArray, List.set_cons_zero, List.set_cons_succ]
      refine wpAnyG_takeY (i := 5) (v := ?_) rfl (by kernel_rfl) (by decide +kernel) (by decide +kernel) (by decide +kernel) (fun _ _ _ h => h) (by kernel_rfl) ?_ (by assumption) ?_
      rotate_left
      · (intro wz; go_simp; with_reducible rfl)
      try simp only [Act.put, List.setIfInBounds_toArray, List.set_cons_zero, List.set_cons_succ]
      refine wpAnyG_takeU (i := 6) rfl (by kernel_rfl) (by decide +kernel) (by decide +kernel) (by decide +kernel) (fun _ _ _ h => h) (by kernel_rfl) (by assumption) ?_
      try simp only [Act.put, List.setIfInBounds_toArray, List.set_cons_zero, List.set_cons_succ]
      refine wpAnyG_takeU (i := 7) rfl (by kernel_rfl) (by decide +kernel) (by decide +kernel) (by decide +kernel) (fun _ _ _ h => h) (by kernel_rfl) (by assumption) ?_
      try simp only [Act.put, List.setIfInBounds_toArray, List.set_cons_zero, List.set_cons_succ]
      refine wpAnyG_takeU (i := 8) rfl (by kernel_rfl) (by decide +kernel) (by decide +kernel) (by decide +kernel) (fun _ _ _ h => h) (by kernel_rfl) (by assumption) ?_
      try simp only [Act.put, List.setIfInBounds_toArray, List.set_cons_zero, List.set_cons_succ]
      refine wpAnyG_takeU (i := 9) rfl (by kernel_rfl) (by decide +kernel) (by decide +kernel) (by decide +kernel) (fun _ _ _ h => h) (by kernel_rfl) (by assumption) ?_
      try simp only [Act.put, List.setIfInBounds_toArray, List.set_cons_zero, List.set_cons_succ]
      refine wpAnyG_takeU (i := 10) rfl (by kernel_rfl) (by decide +kernel) (by decide +kernel) (by decide +kernel) (fun _ _ _ h => h) (by kernel_rfl) (by assumption) ?_
      try simp only [Act.put, List.setIfInBounds_toArray, List.set_cons_zero, List.set_cons_succ]
      refine wpAnyG_takeU (i := 11) rfl (by kernel_rfl) (by decide +kernel) (by decide +kernel) (by decide +kernel) (fun _ _ _ h => h) (by kernel_rfl) (by assumption) ?_
      try simp only [Act.put, List.setIfInBounds_toArray, List.set_cons_zero, List.set_cons_succ]
      refine wpAnyG_takeU (i := 12) rfl (by kernel_rfl) (by decide +kernel) (by decide +kernel) (by decide +kernel) (fun _ _ _ h => h) (by kernel_rfl) (by assumption) ?_
      try simp only [Act.put, List.setIfInBounds_toArray, List.set_cons_zero, List.set_cons_succ]
      refine wpAnyG_takeU (i := 13) rfl (by kernel_rfl) (by decide +kernel) (by decide +kernel) (by decide +kernel) (fun _ _ _ h => h) (by kernel_rfl) (by assumption) ?_
      try simp only [Act.put, List.setIfInBounds_toArray, List.set_cons_zero, List.set_cons_succ]
      refine wpAnyG_takeU (i := 14) rfl (by kernel_rfl) (by decide +kernel) (by decide +kernel) (by decide +kernel) (fun _ _ _ h => h) (by kernel_rfl) (by assumption) ?_
      try simp only [Act.put, List.setIfInBounds_toArray, List.set_cons_zero, List.set_cons_succ]
      refine wpAnyG_takeU (i := 15) rfl (by kernel_rfl) (by decide +kernel) (by decide +kernel) (by decide +kernel) (fun _ _ _ h => h) (by kernel_rfl) (by assumption) ?_
      try simp only [Act.put, List.setIfInBounds_toArray, List.set_cons_zero, List.set_cons_succ]
      refine wpAnyG_takeU (i := 16) rfl (by kernel_rfl) (by decide +kernel) (by decide +kernel) (by decide +kernel) (fun _ _ _ h => h) (by kernel_rfl) (by assumption) ?_
      try simp only [Act.put, List.setIfInBounds_toArray, List.set_cons_zero, List.set_cons_succ]
      refine wpAnyG_takeU (i := 17) rfl (by kernel_rfl) (by decide +kernel) (by decide +kernel) (by decide +kernel) (fun _ _ _ h => h) (by kernel_rfl) (by assumption) ?_
      try simp only [Act.put, List.setIfInBounds_toArray, List.set_cons_zero, List.set_cons_succ]
      refine wpAnyG_takeY (i := 18) (v := ?_) rfl (by kernel_rfl) (by decide +kernel) (by decide +kernel) (by decide +kernel) (fun _ _ _ h => h) (by kernel_rfl) ?_ (by assumption) ?_
      rotate_left
      · (intro wz; go_simp; with_reducible rfl)
      try simp only [Act.put, List.setIfInBounds_toArray, List.set_cons_zero, List.set_cons_succ]
      refine wpAnyG_done (by kernel_rfl) ?_ _
      go_simp
      go_wp2_with fail
      go_ret2
      exact FIN.out _ rfl (((Keeps.refl [kb] w).drew).setCell (.inr (by simp)) _)
/-- Behind an empty cell. -/
def RNxtO (kb t : Nat) (m : Option Nat) (c : C4) (T : Tab) (s : Sk) (w wr : World) : Prop :=
  ∃ c9 p9, wr.heap[kb]? = some (rskO t { s with i := s.i + T.far s, vis := s.vis + T.far s + 1, over := true } c9 p9) ∧ CtrAt m (c.visN (T.far s + 1)) wr ∧ T.cellAt s = -1 ∧ Keeps (kb :: mS m) w wr
set_option maxRecDepth 100000 in
set_option maxHeartbeats 4000000 in
theorem rnext_live (k : Nat) (hk : k ≤ 1000) (kb t lo : Nat) (S : List Nat) (m : Option Nat) (c : C4) (T : Tab) (s : Sk) (w : World) (H : RTabAt t lo S m T w) (hM : CtrAt m c w) (hm : ∀ b, m = some b → b < lo) (hI : TInv k T) (hs : RSkAt kb t s w) (hkb : kb ∉ S) (hok : SkOk T s) (ho : s.over = false) (ht : s.tu = T.turns) :
    Calls Tryz.prog 72 #[.pointer (some ⟨kb, 0, none⟩)] w (RNextP kb t m c T s w) := by
  have HH := Lib.hid H
  have HM := Lib.hid hM
  have HI := Lib.hid hI
  have HO := Lib.hid hok
  have HOV := Lib.hid ho
  have HT := Lib.hid ht
  obtain ⟨c1, p1, hb, hcp⟩ := hs
  obtain ⟨rfl, rfl⟩ := hcp ho
  have hmS : kb ∉ mS m := hM.ne hb (by decide)
  have hSm : ∀ x, x ∈ S → x ∉ kb :: mS m := by
    intro x hx hx2
    simp at hx2
    rcases hx2 with rfl | hx2
    · exact hkb hx
    · cases m with
      | none => simp [mS] at hx2
      | some b => simp [mS] at hx2; subst hx2; have := hm _ rfl; have := (H.foot _ hx).1; omega
  obtain ⟨a, cc, q, h1, h2, h3, h4, h5, h6, h7⟩ := H
  have htb : t ≠ kb := fun e => hkb (e ▸ h4)
  have hqb : q ≠ kb := fun e => hkb (e ▸ h5)
  have hnow := hok.now ho ht
  have hfar := hI.far_le ho ht hok
  have hfe := hI.fe_lt s.h
  have hL12 := hI.l12
  have h2L : 2 ^ T.L ≤ 4096 := Nat.pow_le_pow_right (n := 2) (by omega) hL12
  have hvis := hok.v1 ho
  have hB1 := Lib.hid h1
  have HE := Lib.hid h2
  have HQ := Lib.hid h3
  have HSM := Lib.hid (show t ∉ kb :: mS m ∧ q ∉ kb :: mS m ∧ ∀ x, x ∈ blk a → x ∉ kb :: mS m from ⟨hSm _ h4, hSm _ h5, fun x hx => hSm _ (h6 x hx)⟩)
  have HMB := Lib.hid (show ∀ b, m = some b → b ∉ [kb] from fun b hb2 hx => by simp at hx; subst hx; exact hmS (by rw [hb2]; simp [mS]))
  have hteq : ((s.tu : Int) == (T.turns : Int)) = true := by simp; omega
  have HB := Lib.hid hb
  obtain ⟨p, hp⟩ : ∃ p : Option Addr, Hid (mV m = .pointer p) := ⟨_, Lib.hid rfl⟩
  have hnf : (!false) = true := rfl
  clear hb h1 h2 h3 h4 h5 h6 h7 hM hI hok hcp hSm hm hkb
  go_enter Tryz.func72, Tryz.ntmps72
  go_wp2_with fail
  go_loopg [4] (T.far s + 1) (fun gk x wr => (∃ j : Nat, gk = T.far s + 1 - j ∧ j ≤ T.far s ∧ wr.heap[kb]? = some (rskO t (s.at j j) (skC (s.at j j)) (skP (s.at j j))) ∧ CtrAt m (c.visN j) wr ∧ Keeps (kb :: mS m) w wr) ∨ gk = 0 ∧ RNxtO kb t m c T s w wr)
  case atStart => exact .inl ⟨0, rfl, Nat.zero_le _, HB.out, HM.out, Keeps.refl _ _⟩
  case round =>
   rcases hrel with ⟨j, rfl, hj, hb, hmt, hkw⟩ | ⟨rfl, hov⟩
   case inr =>
    have HOVR := Lib.hid hov
    obtain ⟨c9, p9, hb9, _⟩ := hov
    have x5 : wr.cell? ⟨kb, 5, none⟩ = some (.bool true) := cell_has hb9 (i := 5) rfl
    have f5 := free_of_has hb9 5
    clear hb9
    go_wp2_with fail
    refine wp_regionG (fun w' => w'.cell? ⟨kb, 5, none⟩ = some (.bool true)) 19 (by kernel_rfl) x5 (fun hF => ?_)
    refine wpAnyG_takeY (i := 0) (v := ?_) rfl (by kernel_rfl) (by decide +kernel) (by decide +kernel) (by decide +kernel) (fun _ _ _ h => h) (by kernel_rfl) ?_ (by assumption) ?_
    rotate_left
    · (intro wz; go_simp; with_reducible rfl)
    try simp only [Act.put, List.setIfInBounds_toArray, List.set_cons_zero, List.set_cons_succ]
    refine wpAnyG_takeY (i := 1) (v := ?_) rfl (by kernel_rfl) (by decide +kernel) (by decide +kernel) (by decide +kernel) (fun _ _ _ h => h) (by kernel_rfl) ?_ (by assumption) ?_
    rotate_left
    · (intro wz; go_simp; with_reducible rfl)
    try simp only [Act.put, List.setIfInBounds_toArray, List.set_cons_zero, List.set_cons_succ]
    refine wpAnyG_takeY (i := 2) (v := ?_) rfl (by kernel_rfl) (by decide +kernel) (by decide +kernel) (by decide +kernel) (fun _ _ _ h => h) (by kernel_rfl) ?_ (by assumption) ?_
    rotate_left
    · (intro wz; go_simp; with_reducible rfl)
    try simp only [Act.put, List.setIfInBounds_toArray, List.set_cons_zero, List.set_cons_succ]
    refine wpAnyG_take (i := 3) (v := ?_) rfl (by kernel_rfl) (by decide +kernel) (by decide +kernel) (by decide +kernel) (by decide +kernel) (by rfl) (fun _ _ _ h => h) (by kernel_rfl) ?_ (by assumption) ?_
    rotate_left
    · (intro wz hSw; (try dsimp only at hSw); go_simp; with_reducible rfl)
    try simp only [Act.put, List.setIfInBounds_toArray, List.set_cons_zero, List.set_cons_succ]
    refine wpAnyG_takeY (i := 4) (v := ?_) rfl (by kernel_rfl) (by decide +kernel) (by decide +kernel) (by decide +kernel) (fun _ _ _ h => h) (by kernel_rfl) ?_ (by assumption) ?_
    rotate_left
    · (intro wz; go_simp; with_reducible rfl)
    try simp only [Act.put, List.setIfInBounds_toArray, List.set_cons_zero, List.set_cons_succ]
    refine wpAnyG_takeY (i := 5) (v := ?_) rfl (by kernel_rfl) (by decide +kernel) (by decide +kernel) (by decide +kernel) (fun _ _ _ h => h) (by kernel_rfl) ?_ (by assumption) ?_
    rotate_left
    · (intro wz; go_simp; with_reducible rfl)
    try simp only [Act.put, List.setIfInBounds_toArray, List.set_cons_zero, List.set_cons_succ]
    refine wpAnyG_takeU (i := 6) rfl (by kernel_rfl) (by decide +kernel) (by decide +kernel) (by decide +kernel) (fun _ _ _ h => h) (by kernel_rfl) (by assumption) ?_
    try simp only [Act.put, List.setIfInBounds_toArray, List.set_cons_zero, List.set_cons_succ]
    refine wpAnyG_takeU (i := 7) rfl (by kernel_rfl) (by decide +kernel) (by decide +kernel) (by decide +kernel) (fun _ _ _ h => h) (by kernel_rfl) (by assumption) ?_
    try simp only [Act.put, List.setIfInBounds_toArray, List.set_cons_zero, List.set_cons_succ]
    refine wpAnyG_takeU (i := 8) rfl (by kernel_rfl) (by decide +kernel) (by decide +kernel) (by decide +kernel) (fun _ _ _ h => h) (by kernel_rfl) (by assumption) ?_
    try simp only [Act.put, List.setIfInBounds_toArray, List.set_cons_zero, List.set_cons_succ]
    refine wpAnyG_takeU (i := 9) rfl (by kernel_rfl) (by decide +kernel) (by decide +kernel) (by decide +kernel) (fun _ _ _ h => h) (by kernel_rfl) (by assumption) ?_
    try simp only [Act.put, List.setIfInBounds_toArray, List.set_cons_zero, List.set_cons_succ]
    refine wpAnyG_takeU (i := 10) rfl (by kernel_rfl) (by decide +kernel) (by decide +kernel) (by decide +kernel) (fun _ _ _ h => h) (by kernel_rfl) (by assumption) ?_
    try simp only [Act.put, List.setIfInBounds_toArray, List.set_cons_zero, List.set_cons_succ]
    refine wpAnyG_takeU (i := 11) rfl (by kernel_rfl) (by decide +kernel) (by decide +kernel) (by decide +kernel) (fun _ _ _ h => h) (by kernel_rfl) (by assumption) ?_
    try simp only [Act.put, List.setIfInBounds_toArray, List.set_cons_zero, List.set_cons_succ]
    refine wpAnyG_takeU (i := 12) rfl (by kernel_rfl) (by decide +kernel) (by decide +kernel) (by decide +kernel) (fun _ _ _ h => h) (by kernel_rfl) (by assumption) ?_
    try simp only [Act.put, List.setIfInBounds_toArray, List.set_cons_zero, List.set_cons_succ]
    refine wpAnyG_takeU (i := 13) rfl (by kernel_rfl) (by decide +kernel) (by decide +kernel) (by decide +kernel) (fun _ _ _ h => h) (by kernel_rfl) (by assumption) ?_
    try simp only [Act.put, List.setIfInBounds_toArray, List.set_cons_zero, List.set_cons_succ]
    refine wpAnyG_takeU (i := 14) rfl (by kernel_rfl) (by decide +kernel) (by decide +kernel) (by decide +kernel) (fun _ _ _ h => h) (by kernel_rfl) (by assumption) ?_
    try simp only [Act.put, List.setIfInBounds_toArray, List.set_cons_zero, List.set_cons_succ]
    refine wpAnyG_takeU (i := 15) rfl (by kernel_rfl) (by decide +kernel) (by decide +kernel) (by decide +kernel) (fun _ _ _ h => h) (by kernel_rfl) (by assumption) ?_
    try simp only [Act.put, List.setIfInBounds_toArray, List.set_cons_zero, List.set_cons_succ]
    refine wpAnyG_takeU (i := 16) rfl (by kernel_rfl) (by decide +kernel) (by decide +kernel) (by decide +kernel) (fun _ _ _ h => h) (by kernel_rfl) (by assumption) ?_
    try simp only [Act.put, List.setIfInBounds_toArray, List.set_cons_zero, List.set_cons_succ]
    refine wpAnyG_takeU (i := 17) rfl (by kernel_rfl) (by decide +kernel) (by decide +kernel) (by decide +kernel) (fun _ _ _ h => h) (by kernel_rfl) (by assumption) ?_
    try simp only [Act.put, List.setIfInBounds_toArray, List.set_cons_zero, List.set_cons_succ]
    refine wpAnyG_takeY (i := 18) (v := ?_) rfl (by kernel_rfl) (by decide +kernel) (by decide +kernel) (by decide +kernel) (fun _ _ _ h => h) (by kernel_rfl) ?_ (by assumption) ?_
    rotate_left
    · (intro wz; go_simp; with_reducible rfl)
    try simp only [Act.put, List.setIfInBounds_toArray, List.set_cons_zero, List.set_cons_succ]
    refine wpAnyG_done (by kernel_rfl) ?_ _
    go_simp
    go_wp2_with fail
    go_ret2
    have kz : Keeps [kb] wr ((wr.setCell ⟨kb, 5, none⟩ (.bool true)).drew) := ((Keeps.refl _ _).setCell (.inr (by simp)) _).drew
    have hns : T.spent s = false := by unfold Tab.spent; rw [HOV.out, HT.out]; simp
    obtain ⟨c9, p9, hb9, hm9, hca, hk9⟩ := HOVR.out
    have e1 : T.next s = { s with i := s.i + T.far s, vis := s.vis + T.far s + 1, over := true } := by
      unfold Tab.next; rw [if_neg (by rw [hns]; simp), if_pos hca]
    have e2 : T.walks s = T.far s + 1 := by unfold Tab.walks; rw [if_neg (by rw [hns]; simp)]
    unfold RNextP
    rw [e1, e2]
    exact ⟨rfl, ⟨c9, p9, has_setCell hb9 5 (.bool true), fun h => by cases h⟩, hm9.keeps kz HMB.out, hk9.trans (kz.mono (by simp))⟩
   case inl =>
    have x0 : wr.cell? ⟨kb, 0, none⟩ = some (.pointer (some ⟨t, 0, none⟩)) := cell_has hb (i := 0) rfl
    have x2 : wr.cell? ⟨kb, 2, none⟩ = some (.int .i64 s.tu) := cell_has hb (i := 2) rfl
    have x5 : wr.cell? ⟨kb, 5, none⟩ = some (.bool false) := by rw [← HOV.out]; exact cell_has hb (i := 5) rfl
    have y6 : wr.cell? ⟨t, 6, none⟩ = some (.int .i64 T.turns) := hkw.cell (cell_has hB1.out (i := 6) rfl) HSM.out.1
    obtain ⟨cN, hcN⟩ := ex_hid (trC T.L (uh s.h) (s.i + j))
    obtain ⟨n2, hn2⟩ := ex_hid (2 ^ T.L)
    obtain ⟨vN, hvN⟩ := ex_hid (s.vis + j)
    obtain ⟨pN, hpN⟩ := ex_hid (skP (s.at j j))
    have hpl : pN < 18446744073709551616 := by rw [hpN.out]; exact skP_lt _
    have hsc : skC (s.at j j) = cN := by rw [hcN.out, ← hnow.1]; rfl
    rw [hsc, ← hpN.out] at hb
    have x3 : wr.cell? ⟨kb, 3, none⟩ = some (.int .i64 cN) := cell_has hb (i := 3) rfl
    have y2 : wr.cell? ⟨t, 2, none⟩ = some (.slice (some ⟨q, 0, none⟩) n2 n2) := by rw [hn2.out]; exact hkw.cell (cell_has hB1.out (i := 2) rfl) HSM.out.1
    have hc2 : cN < n2 := by rw [hcN.out, hn2.out]; exact trC_lt _ _ _
    have hn1 : n2 ≤ 1048576 := by rw [hn2.out]; omega
    have hk0 : (0 : Int) ≤ (cN : Int) := by omega
    have hk1 : (cN : Int) < (n2 : Int) := by omega
    have q3 : wr.cell? ⟨q, cN, none⟩ = some (.int .i64 (T.V cN)) := hkw.cell (cell_has HQ.out (numA_get (by rw [← hn2.out]; exact hc2))) HSM.out.2.1
    obtain ⟨v, hv0⟩ := ex_hid (T.V cN)
    rw [← hv0.out] at q3
    have HB := Lib.hid hb
    have HMT := Lib.hid hmt
    have HKW := Lib.hid hkw
    clear hb hmt hkw
    go_wp2_with fail
    go_region_held3 (fun w' => w'.cell? ⟨kb, 0, none⟩ = some (.pointer (some ⟨t, 0, none⟩)) ∧ w'.cell? ⟨kb, 2, none⟩ = some (.int .i64 s.tu) ∧ w'.cell? ⟨kb, 5, none⟩ = some (.bool false) ∧ w'.cell? ⟨t, 6, none⟩ = some (.int .i64 T.turns)) (go_keep) (fail)
    have x0 : wr.drew.cell? ⟨kb, 0, none⟩ = some (.pointer (some ⟨t, 0, none⟩)) := x0
    have x3 : wr.drew.cell? ⟨kb, 3, none⟩ = some (.int .i64 cN) := x3
    have y2 : wr.drew.cell? ⟨t, 2, none⟩ = some (.slice (some ⟨q, 0, none⟩) n2 n2) := y2
    have q3 : wr.drew.cell? ⟨q, cN, none⟩ = some (.int .i64 v) := q3
    obtain ⟨w4, hw4⟩ : ∃ x, wr.drew = x := ⟨_, rfl⟩
    rw [hw4] at x0 x3 y2 q3
    have k4 : Keeps [] wr w4 := by rw [← hw4]; exact (Keeps.refl [] wr).drew
    rw [hw4]
    go_wp2_with fail
    go_region_held3 (fun w' => w'.cell? ⟨kb, 0, none⟩ = some (.pointer (some ⟨t, 0, none⟩)) ∧ w'.cell? ⟨kb, 3, none⟩ = some (.int .i64 cN) ∧ w'.cell? ⟨t, 2, none⟩ = some (.slice (some ⟨q, 0, none⟩) n2 n2) ∧ w'.cell? ⟨q, cN, none⟩ = some (.int .i64 v)) (go_keep) (fail)
    have k5 : Keeps [] wr w4.drew := k4.drew
    have b5 := k5.has HB.out (by simp)
    have v6 : w4.drew.cell? ⟨kb, 6, none⟩ = some (.int .i64 vN) := by rw [hvN.out]; exact cell_has b5 (i := 6) rfl
    have f6 := free_of_has b5 6
    have u0 : w4.drew.cell? ⟨kb, 0, none⟩ = some (.pointer (some ⟨t, 0, none⟩)) := x0
    have hv2 : (vN : Int) ≤ 10000 := by have := hvN.out; omega
    have hv1 : (0 : Int) ≤ (vN : Int) := by omega
    have m7 : w4.drew.cell? ⟨t, 7, none⟩ = some (.pointer p) := by rw [← hp.out]; exact cell_has ((HKW.out.trans (k5.mono (by simp))).has hB1.out HSM.out.1) (i := 7) rfl
    obtain ⟨W6, hW6⟩ : ∃ W6, (w4.setCell ⟨kb, 6, none⟩ (.int .i64 ((vN : Int) + 1))).drew = W6 := ⟨_, rfl⟩
    have k6 : Keeps [kb] w4.drew W6 := by
      have h9 : Keeps [kb] w4 W6 := by rw [← hW6]; exact ((Keeps.refl _ _).setCell (.inr (by simp)) _).drew
      exact ⟨h9.os, by rw [← hW6]; simp, h9.output, h9.size, h9.block⟩
    have b6 : W6.heap[kb]? = some (rskO t (s.at j (j + 1)) cN pN) := by
      rw [← hW6]
      refine (has_setCell (w := w4) b5 6 _).trans ?_
      simp [rskO, Sk.at, hvN.out]
      omega
    have B6 := Lib.hid b6
    have K6 := Lib.hid ((k5.mono (T := [kb]) (by simp)).trans k6)
    have M6 := Lib.hid (HMT.out.keeps ((k5.mono (T := [kb]) (by simp)).trans k6) HMB.out)
    have KW6 := Lib.hid (HKW.out.trans (((k5.mono (T := [kb]) (by simp)).trans k6).mono (by simp)))
    have y0 : W6.cell? ⟨kb, 0, none⟩ = some (.pointer (some ⟨t, 0, none⟩)) := cell_has b6 (i := 0) rfl
    have y7 : W6.cell? ⟨t, 7, none⟩ = some (.pointer p) := k6.cell m7 (by simpa using htb)
    have W6H := Lib.hid hW6
    clear x2 x5 y6 b5 k6 b6 k4 hW6
    go_upto_region 4 with (fail)
    rw [W6H.out]
    go_upto_if 52 with (fail)
    clear u0 v6 m7 f6 W6H
    go_cut [4] from 53 to 67 (fun z wx => z = .int .i64 v ∧ CtrAt m (c.visN (j + 1)) wx ∧ Keeps (mS m) W6 wx)
    case first =>
      cases m with
      | none =>
        have hp2 : p = none := by have h9 := hp.out; simp [mV] at h9; exact h9.symm
        subst hp2
        go_wp2_with fail
        go_meet
        exact ⟨rfl, CtrAt.nil _ _, Keeps.refl _ _⟩
      | some b =>
        have hp2 : p = some ⟨b, 0, none⟩ := by have h9 := hp.out; simp [mV] at h9; exact h9.symm
        subst hp2
        have mb := M6.out b rfl
        have d1 : W6.cell? ⟨b, 1, none⟩ = some (.int .i64 (c.visN j).b) := cell_has mb (i := 1) rfl
        have g1 := free_of_has mb 1
        have MB := Lib.hid mb
        clear mb
        go_wp2_with fail
        go_meet
        refine ⟨rfl, fun b' hb' => ?_, (Keeps.refl _ _).setCell (.inr (by simp [mS])) _⟩
        simp at hb'; subst hb'
        have h9 := has_setCell MB.out 1 (.int .i64 (wrap64 ((c.visN j).b + 1)))
        simpa [ctr, C4.visN, C4.vis, List.setIfInBounds_toArray, List.set_cons_zero, List.set_cons_succ] using h9
    case rest =>
      obtain ⟨rfl, hm7, k7⟩ := hcut
      have b7 := k7.has B6.out hmS
      have M7 := Lib.hid hm7
      have KW7 := Lib.hid (KW6.out.trans (k7.mono (by intro x hx; simp [hx])))
      have z0 : wc.cell? ⟨kb, 0, none⟩ = some (.pointer (some ⟨t, 0, none⟩)) := cell_has b7 (i := 0) rfl
      have z3 : wc.cell? ⟨kb, 3, none⟩ = some (.int .i64 cN) := cell_has b7 (i := 3) rfl
      have z4 : wc.cell? ⟨kb, 4, none⟩ = some (.int .u64 pN) := cell_has b7 (i := 4) rfl
      have t1 : wc.cell? ⟨t, 1, none⟩ = some (.int .i64 T.L) := KW7.out.cell (cell_has hB1.out (i := 1) rfl) HSM.out.1
      have g3 := free_of_has b7 3
      have g4 := free_of_has b7 4
      have hN := fun w => rnext_any cN pN T.L _ _ _ w rfl rfl rfl (by omega) hpl (by omega)
      have HN := Lib.hid hN
      have B7 := Lib.hid b7
      have ec : nxtC T.L cN pN = skC (s.at (j + 1) (j + 1)) := by rw [← hsc, hpN.out, ← hnow.1]; rfl
      have ep : pN / 32 = skP (s.at (j + 1) (j + 1)) := by rw [hpN.out]; exact (div_pow_succ _ _).symm
      have EC := Lib.hid (And.intro ec ep)
      clear y0 y7 k7 b7 hm7 hN x0 x3 y2 q3 ec ep
      go_upto_region 6 with (fail)
      go_cut [4] from 68 to 93 (fun z wx => z = .int .i64 v ∧ wx.heap[kb]? = some (rskO t (s.at (j + 1) (j + 1)) (skC (s.at (j + 1) (j + 1))) (skP (s.at (j + 1) (j + 1)))) ∧ Keeps [kb] wc wx)
      case first =>
        refine wp_regionD (fun w' => w'.cell? ⟨kb, 0, none⟩ = some (.pointer (some ⟨t, 0, none⟩)) ∧ w'.cell? ⟨kb, 3, none⟩ = some (.int .i64 cN) ∧ w'.cell? ⟨kb, 4, none⟩ = some (.int .u64 pN) ∧ w'.cell? ⟨t, 1, none⟩ = some (.int .i64 T.L)) [24] (by kernel_rfl) ⟨z0, z3, z4, t1⟩ (fun hF => ?_)
        refine wpAnyD_takeY (i := 0) (v := ?_) rfl (by kernel_rfl) (by decide +kernel) (by decide +kernel) (by decide +kernel) (fun _ _ _ h => h) (by kernel_rfl) ?_ (by assumption) ?_
        rotate_left
        · (intro wz; go_simp; with_reducible rfl)
        try simp only [Act.put, List.setIfInBounds_toArray, List.set_cons_zero, List.set_cons_succ]
        refine wpAnyD_takeY (i := 1) (v := ?_) rfl (by kernel_rfl) (by decide +kernel) (by decide +kernel) (by decide +kernel) (fun _ _ _ h => h) (by kernel_rfl) ?_ (by assumption) ?_
        rotate_left
        · (intro wz; go_simp; with_reducible rfl)
        try simp only [Act.put, List.setIfInBounds_toArray, List.set_cons_zero, List.set_cons_succ]
        refine wpAnyD_takeY (i := 2) (v := ?_) rfl (by kernel_rfl) (by decide +kernel) (by decide +kernel) (by decide +kernel) (fun _ _ _ h => h) (by kernel_rfl) ?_ (by assumption) ?_
        rotate_left
        · (intro wz; go_simp; with_reducible rfl)
        try simp only [Act.put, List.setIfInBounds_toArray, List.set_cons_zero, List.set_cons_succ]
        refine wpAnyD_takeY (i := 3) (v := ?_) rfl (by kernel_rfl) (by decide +kernel) (by decide +kernel) (by decide +kernel) (fun _ _ _ h => h) (by kernel_rfl) ?_ (by assumption) ?_
        rotate_left
        · (intro wz; go_simp; with_reducible rfl)
        try simp only [Act.put, List.setIfInBounds_toArray, List.set_cons_zero, List.set_cons_succ]
        refine wpAnyD_takeY (i := 4) (v := ?_) rfl (by kernel_rfl) (by decide +kernel) (by decide +kernel) (by decide +kernel) (fun _ _ _ h => h) (by kernel_rfl) ?_ (by assumption) ?_
        rotate_left
        · (intro wz; go_simp; with_reducible rfl)
        try simp only [Act.put, List.setIfInBounds_toArray, List.set_cons_zero, List.set_cons_succ]
        refine wpAnyD_take (i := 5) (v := ?_) rfl (by kernel_rfl) (by decide +kernel) (by decide +kernel) (by decide +kernel) (by decide +kernel) (by decide +kernel) (fun _ _ _ h => h) (by kernel_rfl) ?_ (by assumption) ?_
        rotate_left
        · (intro wz hSw; (try dsimp only at hSw); go_simp; with_reducible rfl)
        try simp only [Act.put, List.setIfInBounds_toArray, List.set_cons_zero, List.set_cons_succ]
        refine wpAnyD_takeY (i := 6) (v := ?_) rfl (by kernel_rfl) (by decide +kernel) (by decide +kernel) (by decide +kernel) (fun _ _ _ h => h) (by kernel_rfl) ?_ (by assumption) ?_
        rotate_left
        · (intro wz; go_simp; with_reducible rfl)
        try simp only [Act.put, List.setIfInBounds_toArray, List.set_cons_zero, List.set_cons_succ]
        refine wpAnyD_takeY (i := 7) (v := ?_) rfl (by kernel_rfl) (by decide +kernel) (by decide +kernel) (by decide +kernel) (fun _ _ _ h => h) (by kernel_rfl) ?_ (by assumption) ?_
        rotate_left
        · (intro wz; go_simp; with_reducible rfl)
        try simp only [Act.put, List.setIfInBounds_toArray, List.set_cons_zero, List.set_cons_succ]
        refine wpAnyD_takeY (i := 8) (v := ?_) rfl (by kernel_rfl) (by decide +kernel) (by decide +kernel) (by decide +kernel) (fun _ _ _ h => h) (by kernel_rfl) ?_ (by assumption) ?_
        rotate_left
        · (intro wz; go_simp; with_reducible rfl)
        try simp only [Act.put, List.setIfInBounds_toArray, List.set_cons_zero, List.set_cons_succ]
        refine wpAnyD_take (i := 9) (v := ?_) rfl (by kernel_rfl) (by decide +kernel) (by decide +kernel) (by decide +kernel) (by decide +kernel) (by decide +kernel) (fun _ _ _ h => h) (by kernel_rfl) ?_ (by assumption) ?_
        rotate_left
        · (intro wz hSw; (try dsimp only at hSw); go_simp; with_reducible rfl)
        try simp only [Act.put, List.setIfInBounds_toArray, List.set_cons_zero, List.set_cons_succ]
        refine wpAnyD_takeY (i := 10) (v := ?_) rfl (by kernel_rfl) (by decide +kernel) (by decide +kernel) (by decide +kernel) (fun _ _ _ h => h) (by kernel_rfl) ?_ (by assumption) ?_
        rotate_left
        · (intro wz; go_simp; with_reducible rfl)
        try simp only [Act.put, List.setIfInBounds_toArray, List.set_cons_zero, List.set_cons_succ]
        refine wpAnyD_takeY (i := 11) (v := ?_) rfl (by kernel_rfl) (by decide +kernel) (by decide +kernel) (by decide +kernel) (fun _ _ _ h => h) (by kernel_rfl) ?_ (by assumption) ?_
        rotate_left
        · (intro wz; go_simp; with_reducible rfl)
        try simp only [Act.put, List.setIfInBounds_toArray, List.set_cons_zero, List.set_cons_succ]
        refine wpAnyD_takeY (i := 12) (v := ?_) rfl (by kernel_rfl) (by decide +kernel) (by decide +kernel) (by decide +kernel) (fun _ _ _ h => h) (by kernel_rfl) ?_ (by assumption) ?_
        rotate_left
        · (intro wz; go_simp; with_reducible rfl)
        try simp only [Act.put, List.setIfInBounds_toArray, List.set_cons_zero, List.set_cons_succ]
        refine wpAnyD_take (i := 13) (v := ?_) rfl (by kernel_rfl) (by decide +kernel) (by decide +kernel) (by decide +kernel) (by decide +kernel) (by decide +kernel) (fun _ _ _ h => h) (by kernel_rfl) ?_ (by assumption) ?_
        rotate_left
        · (intro wz hSw; (try dsimp only at hSw); go_simp; with_reducible rfl)
        try simp only [Act.put, List.setIfInBounds_toArray, List.set_cons_zero, List.set_cons_succ]
        refine wpAnyD_takeY (i := 14) (v := ?_) rfl (by kernel_rfl) (by decide +kernel) (by decide +kernel) (by decide +kernel) (fun _ _ _ h => h) (by kernel_rfl) ?_ (by assumption) ?_
        rotate_left
        · (intro wz; go_simp; with_reducible rfl)
        try simp only [Act.put, List.setIfInBounds_toArray, List.set_cons_zero, List.set_cons_succ]
        refine wpAnyD_takeY (i := 15) (v := ?_) rfl (by kernel_rfl) (by decide +kernel) (by decide +kernel) (by decide +kernel) (fun _ _ _ h => h) (by kernel_rfl) ?_ (by assumption) ?_
        rotate_left
        · (intro wz; go_simp; with_reducible rfl)
        try simp only [Act.put, List.setIfInBounds_toArray, List.set_cons_zero, List.set_cons_succ]
        refine wpAnyD_takeY (i := 16) (v := ?_) rfl (by kernel_rfl) (by decide +kernel) (by decide +kernel) (by decide +kernel) (fun _ _ _ h => h) (by kernel_rfl) ?_ (by assumption) ?_
        rotate_left
        · (intro wz; go_simp; with_reducible rfl)
        try simp only [Act.put, List.setIfInBounds_toArray, List.set_cons_zero, List.set_cons_succ]
        refine wpAnyD_take (i := 17) (v := ?_) rfl (by kernel_rfl) (by decide +kernel) (by decide +kernel) (by decide +kernel) (by decide +kernel) (by decide +kernel) (fun _ _ _ h => h) (by kernel_rfl) ?_ (by assumption) ?_
        rotate_left
        · (intro wz hSw; (try dsimp only at hSw); go_simp; with_reducible rfl)
        try simp only [Act.put, List.setIfInBounds_toArray, List.set_cons_zero, List.set_cons_succ]
        refine wpAnyD_one (i := 18) rfl (by kernel_rfl) (by rfl) (fun K hK => ?_)
        have HK := Lib.hid hK
        clear hK
        go_simp
        refine (HN.out _).mono ?_
        rintro r w9 ⟨rfl, rfl⟩
        refine HK.out _ _ hF ?_
        clear HK K
        try simp only [Act.put, List.setIfInBounds_toArray, List.set_cons_zero, List.set_cons_succ]
        refine wpAnyD_takeY (i := 19) (v := ?_) rfl (by kernel_rfl) (by decide +kernel) (by decide +kernel) (by decide +kernel) (fun _ _ _ h => h) (by kernel_rfl) ?_ (by assumption) ?_
        rotate_left
        · (intro wz; go_simp; with_reducible rfl)
        try simp only [Act.put, List.setIfInBounds_toArray, List.set_cons_zero, List.set_cons_succ]
        refine wpAnyD_takeY (i := 20) (v := ?_) rfl (by kernel_rfl) (by decide +kernel) (by decide +kernel) (by decide +kernel) (fun _ _ _ h => h) (by kernel_rfl) ?_ (by assumption) ?_
        rotate_left
        · (intro wz; go_simp; with_reducible rfl)
        try simp only [Act.put, List.setIfInBounds_toArray, List.set_cons_zero, List.set_cons_succ]
        refine wpAnyD_takeY (i := 21) (v := ?_) rfl (by kernel_rfl) (by decide +kernel) (by decide +kernel) (by decide +kernel) (fun _ _ _ h => h) (by kernel_rfl) ?_ (by assumption) ?_
        rotate_left
        · (intro wz; go_simp; with_reducible rfl)
        try simp only [Act.put, List.setIfInBounds_toArray, List.set_cons_zero, List.set_cons_succ]
        refine wpAnyD_takeY (i := 22) (v := ?_) rfl (by kernel_rfl) (by decide +kernel) (by decide +kernel) (by decide +kernel) (fun _ _ _ h => h) (by kernel_rfl) ?_ (by assumption) ?_
        rotate_left
        · (intro wz; go_simp; with_reducible rfl)
        try simp only [Act.put, List.setIfInBounds_toArray, List.set_cons_zero, List.set_cons_succ]
        refine wpAnyD_takeY (i := 23) (v := ?_) rfl (by kernel_rfl) (by decide +kernel) (by decide +kernel) (by decide +kernel) (fun _ _ _ h => h) (by kernel_rfl) ?_ (by assumption) ?_
        rotate_left
        · (intro wz; go_simp; with_reducible rfl)
        try simp only [Act.put, List.setIfInBounds_toArray, List.set_cons_zero, List.set_cons_succ]
        refine wpAnyD_oneZ (i := 24) rfl (by kernel_rfl) (by decide +kernel) (by rfl) (fun K hK => ?_)
        have HK := Lib.hid hK
        clear hK
        go_simp
        refine HK.out _ _ ?_
        clear HK K
        try simp only [Act.put, List.setIfInBounds_toArray, List.set_cons_zero, List.set_cons_succ]
        refine wpAnyD_oneZ (i := 25) rfl (by kernel_rfl) (by decide +kernel) (by rfl) (fun K hK => ?_)
        have HK := Lib.hid hK
        clear hK
        go_simp
        refine HK.out _ _ ?_
        clear HK K
        try simp only [Act.put, List.setIfInBounds_toArray, List.set_cons_zero, List.set_cons_succ]
        refine wpAnyD_oneZ (i := 26) rfl (by kernel_rfl) (by decide +kernel) (by rfl) (fun K hK => ?_)
        have HK := Lib.hid hK
        clear hK
        go_simp
        refine HK.out _ _ ?_
        clear HK K
        try simp only [Act.put, List.setIfInBounds_toArray, List.set_cons_zero, List.set_cons_succ]
        refine wpAnyD_oneZ (i := 27) rfl (by kernel_rfl) (by decide +kernel) (by rfl) (fun K hK => ?_)
        have HK := Lib.hid hK
        clear hK
        go_simp
        refine HK.out _ _ ?_
        clear HK K
        refine wpAnyD_done (by kernel_rfl) ?_ _
        go_wp2_with fail
        go_meet
        refine ⟨rfl, ?_, (((Keeps.refl [kb] wc).setCell (.inr (by simp)) _).setCell (.inr (by simp)) _).drew⟩
        refine (has_setCell (w := wc.setCell ⟨kb, 3, none⟩ (.int .i64 (nxtC T.L cN pN : Nat))) (has_setCell (w := wc) B7.out 3 _) 4 _).trans ?_
        rw [← EC.out.1, ← EC.out.2]
        rfl
      case rest =>
        obtain ⟨rfl, hb9, k9⟩ := hcut
        have B9 := Lib.hid hb9
        have K9 := Lib.hid (KW7.out.trans (k9.mono (by simp)))
        have M9 := Lib.hid (M7.out.keeps k9 HMB.out)
        have again : stopP T s (s.i + j) = false → j + 1 ≤ T.far s := fun h => far_succ HI.out HOV.out HT.out HO.out hj h
        have x0 : wc.cell? ⟨kb, 0, none⟩ = some (.pointer (some ⟨t, 0, none⟩)) := cell_has hb9 (i := 0) rfl
        have x1 : wc.cell? ⟨kb, 1, none⟩ = some (.int .i64 s.h) := cell_has hb9 (i := 1) rfl
        have x5 : wc.cell? ⟨kb, 5, none⟩ = some (.bool s.over) := cell_has hb9 (i := 5) rfl
        have x7 : wc.cell? ⟨kb, 7, none⟩ = some (.int .i64 s.told) := cell_has hb9 (i := 7) rfl
        have f5 : wc.frozen? ⟨kb, 5, none⟩ = false := free_of_has hb9 5
        have f7 : wc.frozen? ⟨kb, 7, none⟩ = false := free_of_has hb9 7
        clear hb9 k9 z0 z3 z4 t1 g3 g4
        by_cases hv : v = -1
        · subst hv
          go_wp2_with fail
          have hstop : stopP T s (s.i + j) = true := by unfold stopP; rw [← hcN.out, ← hv0.out]; rfl
          have hjf : j = T.far s := far_eq hj (by omega) hstop
          have hca : T.cellAt s = -1 := by unfold Tab.cellAt; rw [← hjf, ← hcN.out, ← hv0.out]
          have kz : Keeps [kb] wc (wc.setCell ⟨kb, 5, none⟩ (.bool true)) := (Keeps.refl _ _).setCell (.inr (by simp)) _
          go_roundg 0
          case measure => omega
          case rel =>
            refine .inr ⟨rfl, skC (s.at (j + 1) (j + 1)), skP (s.at (j + 1) (j + 1)), ?_, ?_, hca, K9.out.trans (kz.mono (by simp))⟩
            · rw [← hjf]
              exact has_setCell B9.out 5 (.bool true)
            · rw [← hjf]
              exact M9.out.keeps kz HMB.out
        · have hvb : (v == -1) = false := by simpa using hv
          by_cases htl : s.told < v
          · obtain ⟨e, x, he, hx, hlv⟩ := HI.out.live_at (c := cN) (by rw [← hn2.out]; exact hc2) HO.out.low (by rw [← hv0.out]; exact htl)
            rw [← hv0.out] at he
            obtain ⟨g, rfl⟩ := HE.out.shape (by have := (List.getElem?_eq_some_iff.1 hx).1; omega)
            have hE8 := HE.out.keeps K9.out HSM.out.2.2
            have y1 : wc.cell? ⟨t, 0, none⟩ = some (.slice (some ⟨g, 0, none⟩) T.E.length cc) := cell_has (K9.out.has hB1.out HSM.out.1) (i := 0) rfl
            have q1 : wc.cell? ⟨g, e * 5 + 1, none⟩ = some (.int .i64 x.hash) := hE8.cell hx 1 (by omega)
            obtain ⟨n, hn⟩ := ex_hid T.E.length
            rw [← hn.out] at y1
            have hen : (e : Int) < (n : Int) := by have := (List.getElem?_eq_some_iff.1 hx).1; rw [hn.out]; omega
            have he0 : (0 : Int) ≤ (e : Int) := by omega
            have HE0 := Lib.hid (show T.V cN = (e : Int) by rw [← hv0.out]; exact he)
            rw [he] at htl hvb ⊢
            have hd1 : decide ((s.told : Int) < (e : Int)) = true := by simpa using htl
            have hgd : (T.E.getD e noE).hash = x.hash := by simp [List.getD, hx]
            have HGD := Lib.hid hgd
            clear hE8 hgd
            cases hxh : ((x.hash : Int) == s.h)
            · have hx1 := hxh
              go_wp2_with fail
              refine wp_regionG (fun w' => w'.cell? ⟨kb, 0, none⟩ = some (.pointer (some ⟨t, 0, none⟩)) ∧ w'.cell? ⟨kb, 7, none⟩ = some (.int .i64 s.told) ∧ w'.cell? ⟨kb, 1, none⟩ = some (.int .i64 s.h) ∧ w'.cell? ⟨t, 0, none⟩ = some (.slice (some ⟨g, 0, none⟩) n cc) ∧ w'.cell? ⟨g, e * 5 + 1, none⟩ = some (.int .i64 x.hash)) 24 (by kernel_rfl) ⟨x0, x7, x1, y1, q1⟩ (fun hF => ?_)
              refine wpAnyG_takeY (i := 0) (v := ?_) rfl (by kernel_rfl) (by decide +kernel) (by decide +kernel) (by decide +kernel) (fun _ _ _ h => h) (by kernel_rfl) ?_ (by assumption) ?_
              rotate_left
              · (intro wz; go_simp; with_reducible rfl)
              try simp only [Act.put, List.setIfInBounds_toArray, List.set_cons_zero, List.set_cons_succ]
              refine wpAnyG_takeY (i := 1) (v := ?_) rfl (by kernel_rfl) (by decide +kernel) (by decide +kernel) (by decide +kernel) (fun _ _ _ h => h) (by kernel_rfl) ?_ (by assumption) ?_
              rotate_left
              · (intro wz; go_simp; with_reducible rfl)
              try simp only [Act.put, List.setIfInBounds_toArray, List.set_cons_zero, List.set_cons_succ]
              refine wpAnyG_takeY (i := 2) (v := ?_) rfl (by kernel_rfl) (by decide +kernel) (by decide +kernel) (by decide +kernel) (fun _ _ _ h => h) (by kernel_rfl) ?_ (by assumption) ?_
              rotate_left
              · (intro wz; go_simp; with_reducible rfl)
              try simp only [Act.put, List.setIfInBounds_toArray, List.set_cons_zero, List.set_cons_succ]
              refine wpAnyG_takeY (i := 3) (v := ?_) rfl (by kernel_rfl) (by decide +kernel) (by decide +kernel) (by decide +kernel) (fun _ _ _ h => h) (by kernel_rfl) ?_ (by assumption) ?_
              rotate_left
              · (intro wz; go_simp; with_reducible rfl)
              try simp only [Act.put, List.setIfInBounds_toArray, List.set_cons_zero, List.set_cons_succ]
              refine wpAnyG_take (i := 4) (v := ?_) rfl (by kernel_rfl) (by decide +kernel) (by decide +kernel) (by decide +kernel) (by decide +kernel) (by rfl) (fun _ _ _ h => h) (by kernel_rfl) ?_ (by assumption) ?_
              rotate_left
              · (intro wz hSw; (try dsimp only at hSw); go_simp; with_reducible rfl)
              try simp only [Act.put, List.setIfInBounds_toArray, List.set_cons_zero, List.set_cons_succ]
              refine wpAnyG_takeY (i := 5) (v := ?_) rfl (by kernel_rfl) (by decide +kernel) (by decide +kernel) (by decide +kernel) (fun _ _ _ h => h) (by kernel_rfl) ?_ (by assumption) ?_
              rotate_left
              · (intro wz; go_simp; with_reducible rfl)
              try simp only [Act.put, List.setIfInBounds_toArray, List.set_cons_zero, List.set_cons_succ]
              refine wpAnyG_takeY (i := 6) (v := ?_) rfl (by kernel_rfl) (by decide +kernel) (by decide +kernel) (by decide +kernel) (fun _ _ _ h => h) (by kernel_rfl) ?_ (by assumption) ?_
              rotate_left
              · (intro wz; go_simp; with_reducible rfl)
              try simp only [Act.put, List.setIfInBounds_toArray, List.set_cons_zero, List.set_cons_succ]
              refine wpAnyG_takeY (i := 7) (v := ?_) rfl (by kernel_rfl) (by decide +kernel) (by decide +kernel) (by decide +kernel) (fun _ _ _ h => h) (by kernel_rfl) ?_ (by assumption) ?_
              rotate_left
              · (intro wz; go_simp; with_reducible rfl)
              try simp only [Act.put, List.setIfInBounds_toArray, List.set_cons_zero, List.set_cons_succ]
              refine wpAnyG_takeY (i := 8) (v := ?_) rfl (by kernel_rfl) (by decide +kernel) (by decide +kernel) (by decide +kernel) (fun _ _ _ h => h) (by kernel_rfl) ?_ (by assumption) ?_
              rotate_left
              · (intro wz; go_simp; with_reducible rfl)
              try simp only [Act.put, List.setIfInBounds_toArray, List.set_cons_zero, List.set_cons_succ]
              refine wpAnyG_takeY (i := 9) (v := ?_) rfl (by kernel_rfl) (by decide +kernel) (by decide +kernel) (by decide +kernel) (fun _ _ _ h => h) (by kernel_rfl) ?_ (by assumption) ?_
              rotate_left
              · (intro wz; go_simp; with_reducible rfl)
              try simp only [Act.put, List.setIfInBounds_toArray, List.set_cons_zero, List.set_cons_succ]
              refine wpAnyG_take (i := 10) (v := ?_) rfl (by kernel_rfl) (by decide +kernel) (by decide +kernel) (by decide +kernel) (by decide +kernel) (by rfl) (fun _ _ _ h => h) (by kernel_rfl) ?_ (by assumption) ?_
              rotate_left
              · (intro wz hSw; (try dsimp only at hSw); go_simp; with_reducible rfl)
              try simp only [Act.put, List.setIfInBounds_toArray, List.set_cons_zero, List.set_cons_succ]
              refine wpAnyG_takeY (i := 11) (v := ?_) rfl (by kernel_rfl) (by decide +kernel) (by decide +kernel) (by decide +kernel) (fun _ _ _ h => h) (by kernel_rfl) ?_ (by assumption) ?_
              rotate_left
              · (intro wz; go_simp; with_reducible rfl)
              try simp only [Act.put, List.setIfInBounds_toArray, List.set_cons_zero, List.set_cons_succ]
              refine wpAnyG_takeY (i := 12) (v := ?_) rfl (by kernel_rfl) (by decide +kernel) (by decide +kernel) (by decide +kernel) (fun _ _ _ h => h) (by kernel_rfl) ?_ (by assumption) ?_
              rotate_left
              · (intro wz; go_simp; with_reducible rfl)
              try simp only [Act.put, List.setIfInBounds_toArray, List.set_cons_zero, List.set_cons_succ]
              refine wpAnyG_take (i := 13) (v := ?_) rfl (by kernel_rfl) (by decide +kernel) (by decide +kernel) (by decide +kernel) (by decide +kernel) (by rfl) (fun _ _ _ h => h) (by kernel_rfl) ?_ (by assumption) ?_
              rotate_left
              · (intro wz hSw; (try dsimp only at hSw); go_simp; with_reducible rfl)
              try simp only [Act.put, List.setIfInBounds_toArray, List.set_cons_zero, List.set_cons_succ]
              refine wpAnyG_takeY (i := 14) (v := ?_) rfl (by kernel_rfl) (by decide +kernel) (by decide +kernel) (by decide +kernel) (fun _ _ _ h => h) (by kernel_rfl) ?_ (by assumption) ?_
              rotate_left
              · (intro wz; go_simp; with_reducible rfl)
              try simp only [Act.put, List.setIfInBounds_toArray, List.set_cons_zero, List.set_cons_succ]
              refine wpAnyG_takeY (i := 15) (v := ?_) rfl (by kernel_rfl) (by decide +kernel) (by decide +kernel) (by decide +kernel) (fun _ _ _ h => h) (by kernel_rfl) ?_ (by assumption) ?_
              rotate_left
              · (intro wz; go_simp; with_reducible rfl)
              try simp only [Act.put, List.setIfInBounds_toArray, List.set_cons_zero, List.set_cons_succ]
              refine wpAnyG_takeY (i := 16) (v := ?_) rfl (by kernel_rfl) (by decide +kernel) (by decide +kernel) (by decide +kernel) (fun _ _ _ h => h) (by kernel_rfl) ?_ (by assumption) ?_
              rotate_left
              · (intro wz; go_simp; with_reducible rfl)
              try simp only [Act.put, List.setIfInBounds_toArray, List.set_cons_zero, List.set_cons_succ]
              refine wpAnyG_take (i := 17) (v := ?_) rfl (by kernel_rfl) (by decide +kernel) (by decide +kernel) (by decide +kernel) (by decide +kernel) (by rfl) (fun _ _ _ h => h) (by kernel_rfl) ?_ (by assumption) ?_
              rotate_left
              · (intro wz hSw; (try dsimp only at hSw); go_simp; with_reducible rfl)
              try simp only [Act.put, List.setIfInBounds_toArray, List.set_cons_zero, List.set_cons_succ]
              refine wpAnyG_takeY (i := 18) (v := ?_) rfl (by kernel_rfl) (by decide +kernel) (by decide +kernel) (by decide +kernel) (fun _ _ _ h => h) (by kernel_rfl) ?_ (by assumption) ?_
              rotate_left
              · (intro wz; go_simp; with_reducible rfl)
              try simp only [Act.put, List.setIfInBounds_toArray, List.set_cons_zero, List.set_cons_succ]
              refine wpAnyG_takeY (i := 19) (v := ?_) rfl (by kernel_rfl) (by decide +kernel) (by decide +kernel) (by decide +kernel) (fun _ _ _ h => h) (by kernel_rfl) ?_ (by assumption) ?_
              rotate_left
              · (intro wz; go_simp; with_reducible rfl)
              try simp only [Act.put, List.setIfInBounds_toArray, List.set_cons_zero, List.set_cons_succ]
              refine wpAnyG_takeY (i := 20) (v := ?_) rfl (by kernel_rfl) (by decide +kernel) (by decide +kernel) (by decide +kernel) (fun _ _ _ h => h) (by kernel_rfl) ?_ (by assumption) ?_
              rotate_left
              · (intro wz; go_simp; with_reducible rfl)
              try simp only [Act.put, List.setIfInBounds_toArray, List.set_cons_zero, List.set_cons_succ]
              refine wpAnyG_take (i := 21) (v := ?_) rfl (by kernel_rfl) (by decide +kernel) (by decide +kernel) (by decide +kernel) (by decide +kernel) (by rfl) (fun _ _ _ h => h) (by kernel_rfl) ?_ (by assumption) ?_
              rotate_left
              · (intro wz hSw; (try dsimp only at hSw); go_simp; with_reducible rfl)
              try simp only [Act.put, List.setIfInBounds_toArray, List.set_cons_zero, List.set_cons_succ]
              refine wpAnyG_takeY (i := 22) (v := ?_) rfl (by kernel_rfl) (by decide +kernel) (by decide +kernel) (by decide +kernel) (fun _ _ _ h => h) (by kernel_rfl) ?_ (by assumption) ?_
              rotate_left
              · (intro wz; go_simp; with_reducible rfl)
              try simp only [Act.put, List.setIfInBounds_toArray, List.set_cons_zero, List.set_cons_succ]
              refine wpAnyG_takeY (i := 23) (v := ?_) rfl (by kernel_rfl) (by decide +kernel) (by decide +kernel) (by decide +kernel) (fun _ _ _ h => h) (by kernel_rfl) ?_ (by assumption) ?_
              rotate_left
              · (intro wz; go_simp; with_reducible rfl)
              try simp only [Act.put, List.setIfInBounds_toArray, List.set_cons_zero, List.set_cons_succ]
              refine wpAnyG_done (by kernel_rfl) ?_ _
              go_simp
              go_wp2_with fail
              have hst : stopP T s (s.i + j) = false := by
                unfold stopP fitE
                rw [← hcN.out, HE0.out]
                simp only [Int.toNat_natCast, HGD.out]
                have h9 : ¬ x.hash = s.h := by simpa using hx1
                simp [h9]
              go_roundg (T.far s + 1 - (j + 1))
              case measure => have := again hst; omega
              case rel => exact .inl ⟨j + 1, rfl, again hst, B9.out, M9.out, K9.out.drew⟩
            · have hx1 := hxh
              go_wp2_with fail
              refine wp_regionG (fun w' => w'.cell? ⟨kb, 0, none⟩ = some (.pointer (some ⟨t, 0, none⟩)) ∧ w'.cell? ⟨kb, 7, none⟩ = some (.int .i64 s.told) ∧ w'.cell? ⟨kb, 1, none⟩ = some (.int .i64 s.h) ∧ w'.cell? ⟨t, 0, none⟩ = some (.slice (some ⟨g, 0, none⟩) n cc) ∧ w'.cell? ⟨g, e * 5 + 1, none⟩ = some (.int .i64 x.hash)) 24 (by kernel_rfl) ⟨x0, x7, x1, y1, q1⟩ (fun hF => ?_)
              refine wpAnyG_takeY (i := 0) (v := ?_) rfl (by kernel_rfl) (by decide +kernel) (by decide +kernel) (by decide +kernel) (fun _ _ _ h => h) (by kernel_rfl) ?_ (by assumption) ?_
              rotate_left
              · (intro wz; go_simp; with_reducible rfl)
              try simp only [Act.put, List.setIfInBounds_toArray, List.set_cons_zero, List.set_cons_succ]
              refine wpAnyG_takeY (i := 1) (v := ?_) rfl (by kernel_rfl) (by decide +kernel) (by decide +kernel) (by decide +kernel) (fun _ _ _ h => h) (by kernel_rfl) ?_ (by assumption) ?_
              rotate_left
              · (intro wz; go_simp; with_reducible rfl)
              try simp only [Act.put, List.setIfInBounds_toArray, List.set_cons_zero, List.set_cons_succ]
              refine wpAnyG_takeY (i := 2) (v := ?_) rfl (by kernel_rfl) (by decide +kernel) (by decide +kernel) (by decide +kernel) (fun _ _ _ h => h) (by kernel_rfl) ?_ (by assumption) ?_
              rotate_left
              · (intro wz; go_simp; with_reducible rfl)
              try simp only [Act.put, List.setIfInBounds_toArray, List.set_cons_zero, List.set_cons_succ]
              refine wpAnyG_takeY (i := 3) (v := ?_) rfl (by kernel_rfl) (by decide +kernel) (by decide +kernel) (by decide +kernel) (fun _ _ _ h => h) (by kernel_rfl) ?_ (by assumption) ?_
              rotate_left
              · (intro wz; go_simp; with_reducible rfl)
              try simp only [Act.put, List.setIfInBounds_toArray, List.set_cons_zero, List.set_cons_succ]
              refine wpAnyG_take (i := 4) (v := ?_) rfl (by kernel_rfl) (by decide +kernel) (by decide +kernel) (by decide +kernel) (by decide +kernel) (by rfl) (fun _ _ _ h => h) (by kernel_rfl) ?_ (by assumption) ?_
              rotate_left
              · (intro wz hSw; (try dsimp only at hSw); go_simp; with_reducible rfl)
              try simp only [Act.put, List.setIfInBounds_toArray, List.set_cons_zero, List.set_cons_succ]
              refine wpAnyG_takeY (i := 5) (v := ?_) rfl (by kernel_rfl) (by decide +kernel) (by decide +kernel) (by decide +kernel) (fun _ _ _ h => h) (by kernel_rfl) ?_ (by assumption) ?_
              rotate_left
              · (intro wz; go_simp; with_reducible rfl)
              try simp only [Act.put, List.setIfInBounds_toArray, List.set_cons_zero, List.set_cons_succ]
              refine wpAnyG_takeY (i := 6) (v := ?_) rfl (by kernel_rfl) (by decide +kernel) (by decide +kernel) (by decide +kernel) (fun _ _ _ h => h) (by kernel_rfl) ?_ (by assumption) ?_
              rotate_left
              · (intro wz; go_simp; with_reducible rfl)
              try simp only [Act.put, List.setIfInBounds_toArray, List.set_cons_zero, List.set_cons_succ]
              refine wpAnyG_takeY (i := 7) (v := ?_) rfl (by kernel_rfl) (by decide +kernel) (by decide +kernel) (by decide +kernel) (fun _ _ _ h => h) (by kernel_rfl) ?_ (by assumption) ?_
              rotate_left
              · (intro wz; go_simp; with_reducible rfl)
              try simp only [Act.put, List.setIfInBounds_toArray, List.set_cons_zero, List.set_cons_succ]
              refine wpAnyG_takeY (i := 8) (v := ?_) rfl (by kernel_rfl) (by decide +kernel) (by decide +kernel) (by decide +kernel) (fun _ _ _ h => h) (by kernel_rfl) ?_ (by assumption) ?_
              rotate_left
              · (intro wz; go_simp; with_reducible rfl)
              try simp only [Act.put, List.setIfInBounds_toArray, List.set_cons_zero, List.set_cons_succ]
              refine wpAnyG_takeY (i := 9) (v := ?_) rfl (by kernel_rfl) (by decide +kernel) (by decide +kernel) (by decide +kernel) (fun _ _ _ h => h) (by kernel_rfl) ?_ (by assumption) ?_
              rotate_left
              · (intro wz; go_simp; with_reducible rfl)
              try simp only [Act.put, List.setIfInBounds_toArray, List.set_cons_zero, List.set_cons_succ]
              refine wpAnyG_take (i := 10) (v := ?_) rfl (by kernel_rfl) (by decide +kernel) (by decide +kernel) (by decide +kernel) (by decide +kernel) (by rfl) (fun _ _ _ h => h) (by kernel_rfl) ?_ (by assumption) ?_
              rotate_left
              · (intro wz hSw; (try dsimp only at hSw); go_simp; with_reducible rfl)
              try simp only [Act.put, List.setIfInBounds_toArray, List.set_cons_zero, List.set_cons_succ]
              refine wpAnyG_takeY (i := 11) (v := ?_) rfl (by kernel_rfl) (by decide +kernel) (by decide +kernel) (by decide +kernel) (fun _ _ _ h => h) (by kernel_rfl) ?_ (by assumption) ?_
              rotate_left
              · (intro wz; go_simp; with_reducible rfl)
              try simp only [Act.put, List.setIfInBounds_toArray, List.set_cons_zero, List.set_cons_succ]
              refine wpAnyG_takeY (i := 12) (v := ?_) rfl (by kernel_rfl) (by decide +kernel) (by decide +kernel) (by decide +kernel) (fun _ _ _ h => h) (by kernel_rfl) ?_ (by assumption) ?_
              rotate_left
              · (intro wz; go_simp; with_reducible rfl)
              try simp only [Act.put, List.setIfInBounds_toArray, List.set_cons_zero, List.set_cons_succ]
              refine wpAnyG_take (i := 13) (v := ?_) rfl (by kernel_rfl) (by decide +kernel) (by decide +kernel) (by decide +kernel) (by decide +kernel) (by rfl) (fun _ _ _ h => h) (by kernel_rfl) ?_ (by assumption) ?_
              rotate_left
              · (intro wz hSw; (try dsimp only at hSw); go_simp; with_reducible rfl)
              try simp only [Act.put, List.setIfInBounds_toArray, List.set_cons_zero, List.set_cons_succ]
              refine wpAnyG_takeY (i := 14) (v := ?_) rfl (by kernel_rfl) (by decide +kernel) (by decide +kernel) (by decide +kernel) (fun _ _ _ h => h) (by kernel_rfl) ?_ (by assumption) ?_
              rotate_left
              · (intro wz; go_simp; with_reducible rfl)
              try simp only [Act.put, List.setIfInBounds_toArray, List.set_cons_zero, List.set_cons_succ]
              refine wpAnyG_takeY (i := 15) (v := ?_) rfl (by kernel_rfl) (by decide +kernel) (by decide +kernel) (by decide +kernel) (fun _ _ _ h => h) (by kernel_rfl) ?_ (by assumption) ?_
              rotate_left
              · (intro wz; go_simp; with_reducible rfl)
              try simp only [Act.put, List.setIfInBounds_toArray, List.set_cons_zero, List.set_cons_succ]
              refine wpAnyG_takeY (i := 16) (v := ?_) rfl (by kernel_rfl) (by decide +kernel) (by decide +kernel) (by decide +kernel) (fun _ _ _ h => h) (by kernel_rfl) ?_ (by assumption) ?_
              rotate_left
              · (intro wz; go_simp; with_reducible rfl)
              try simp only [Act.put, List.setIfInBounds_toArray, List.set_cons_zero, List.set_cons_succ]
              refine wpAnyG_take (i := 17) (v := ?_) rfl (by kernel_rfl) (by decide +kernel) (by decide +kernel) (by decide +kernel) (by decide +kernel) (by rfl) (fun _ _ _ h => h) (by kernel_rfl) ?_ (by assumption) ?_
              rotate_left
              · (intro wz hSw; (try dsimp only at hSw); go_simp; with_reducible rfl)
              try simp only [Act.put, List.setIfInBounds_toArray, List.set_cons_zero, List.set_cons_succ]
              refine wpAnyG_takeY (i := 18) (v := ?_) rfl (by kernel_rfl) (by decide +kernel) (by decide +kernel) (by decide +kernel) (fun _ _ _ h => h) (by kernel_rfl) ?_ (by assumption) ?_
              rotate_left
              · (intro wz; go_simp; with_reducible rfl)
              try simp only [Act.put, List.setIfInBounds_toArray, List.set_cons_zero, List.set_cons_succ]
              refine wpAnyG_takeY (i := 19) (v := ?_) rfl (by kernel_rfl) (by decide +kernel) (by decide +kernel) (by decide +kernel) (fun _ _ _ h => h) (by kernel_rfl) ?_ (by assumption) ?_
              rotate_left
              · (intro wz; go_simp; with_reducible rfl)
              try simp only [Act.put, List.setIfInBounds_toArray, List.set_cons_zero, List.set_cons_succ]
              refine wpAnyG_takeY (i := 20) (v := ?_) rfl (by kernel_rfl) (by decide +kernel) (by decide +kernel) (by decide +kernel) (fun _ _ _ h => h) (by kernel_rfl) ?_ (by assumption) ?_
              rotate_left
              · (intro wz; go_simp; with_reducible rfl)
              try simp only [Act.put, List.setIfInBounds_toArray, List.set_cons_zero, List.set_cons_succ]
              refine wpAnyG_take (i := 21) (v := ?_) rfl (by kernel_rfl) (by decide +kernel) (by decide +kernel) (by decide +kernel) (by decide +kernel) (by rfl) (fun _ _ _ h => h) (by kernel_rfl) ?_ (by assumption) ?_
              rotate_left
              · (intro wz hSw; (try dsimp only at hSw); go_simp; with_reducible rfl)
              try simp only [Act.put, List.setIfInBounds_toArray, List.set_cons_zero, List.set_cons_succ]
              refine wpAnyG_takeY (i := 22) (v := ?_) rfl (by kernel_rfl) (by decide +kernel) (by decide +kernel) (by decide +kernel) (fun _ _ _ h => h) (by kernel_rfl) ?_ (by assumption) ?_
              rotate_left
              · (intro wz; go_simp; with_reducible rfl)
              try simp only [Act.put, List.setIfInBounds_toArray, List.set_cons_zero, List.set_cons_succ]
              refine wpAnyG_takeY (i := 23) (v := ?_) rfl (by kernel_rfl) (by decide +kernel) (by decide +kernel) (by decide +kernel) (fun _ _ _ h => h) (by kernel_rfl) ?_ (by assumption) ?_
              rotate_left
              · (intro wz; go_simp; with_reducible rfl)
              try simp only [Act.put, List.setIfInBounds_toArray, List.set_cons_zero, List.set_cons_succ]
              refine wpAnyG_done (by kernel_rfl) ?_ _
              go_simp
              go_wp2_with fail
              go_ret2
              have h9 : x.hash = s.h := by simpa using hx1
              have hst : stopP T s (s.i + j) = true := by
                unfold stopP fitE
                rw [← hcN.out, HE0.out]
                simp only [Int.toNat_natCast, HGD.out]
                simp [h9]
                exact htl
              have hjf : j = T.far s := far_eq hj (by omega) hst
              have hca : T.cellAt s = e := by unfold Tab.cellAt; rw [← hjf, ← hcN.out]; exact HE0.out
              have hns : T.spent s = false := by unfold Tab.spent; rw [HOV.out, HT.out]; simp
              have e1 : T.next s = { s with i := s.i + j + 1, vis := s.vis + j + 1, told := e } := by
                unfold Tab.next; rw [if_neg (by rw [hns]; simp), if_neg (by rw [hca]; omega), ← hjf, hca]
              have e2 : T.walks s = j + 1 := by unfold Tab.walks; rw [if_neg (by rw [hns]; simp), ← hjf]
              unfold RNextP
              rw [e1, e2]
              have kz : Keeps [kb] wc ((wc.setCell ⟨kb, 7, none⟩ (.int .i64 e)).drew) := ((Keeps.refl _ _).setCell (.inr (by simp)) _).drew
              refine ⟨by simp [Sk.says, HOV.out], ⟨skC (s.at (j + 1) (j + 1)), skP (s.at (j + 1) (j + 1)), ?_, fun _ => ⟨rfl, rfl⟩⟩, M9.out.keeps kz HMB.out, K9.out.trans (kz.mono (by simp))⟩
              exact has_setCell B9.out 7 (.int .i64 e)
          · have hd1 : decide ((s.told : Int) < v) = false := by simpa using htl
            go_wp2_with fail
            refine wp_regionG (fun w' => w'.cell? ⟨kb, 7, none⟩ = some (.int .i64 s.told)) 24 (by kernel_rfl) x7 (fun hF => ?_)
            refine wpAnyG_takeY (i := 0) (v := ?_) rfl (by kernel_rfl) (by decide +kernel) (by decide +kernel) (by decide +kernel) (fun _ _ _ h => h) (by kernel_rfl) ?_ (by assumption) ?_
            rotate_left
            · (intro wz; go_simp; with_reducible rfl)
            try simp only [Act.put, List.setIfInBounds_toArray, List.set_cons_zero, List.set_cons_succ]
            refine wpAnyG_takeY (i := 1) (v := ?_) rfl (by kernel_rfl) (by decide +kernel) (by decide +kernel) (by decide +kernel) (fun _ _ _ h => h) (by kernel_rfl) ?_ (by assumption) ?_
            rotate_left
            · (intro wz; go_simp; with_reducible rfl)
            try simp only [Act.put, List.setIfInBounds_toArray, List.set_cons_zero, List.set_cons_succ]
            refine wpAnyG_takeY (i := 2) (v := ?_) rfl (by kernel_rfl) (by decide +kernel) (by decide +kernel) (by decide +kernel) (fun _ _ _ h => h) (by kernel_rfl) ?_ (by assumption) ?_
            rotate_left
            · (intro wz; go_simp; with_reducible rfl)
            try simp only [Act.put, List.setIfInBounds_toArray, List.set_cons_zero, List.set_cons_succ]
            refine wpAnyG_takeY (i := 3) (v := ?_) rfl (by kernel_rfl) (by decide +kernel) (by decide +kernel) (by decide +kernel) (fun _ _ _ h => h) (by kernel_rfl) ?_ (by assumption) ?_
            rotate_left
            · (intro wz; go_simp; with_reducible rfl)
            try simp only [Act.put, List.setIfInBounds_toArray, List.set_cons_zero, List.set_cons_succ]
            refine wpAnyG_take (i := 4) (v := ?_) rfl (by kernel_rfl) (by decide +kernel) (by decide +kernel) (by decide +kernel) (by decide +kernel) (by rfl) (fun _ _ _ h => h) (by kernel_rfl) ?_ (by assumption) ?_
            rotate_left
            · (intro wz hSw; (try dsimp only at hSw); go_simp; with_reducible rfl)
            try simp only [Act.put, List.setIfInBounds_toArray, List.set_cons_zero, List.set_cons_succ]
            refine wpAnyG_takeY (i := 5) (v := ?_) rfl (by kernel_rfl) (by decide +kernel) (by decide +kernel) (by decide +kernel) (fun _ _ _ h => h) (by kernel_rfl) ?_ (by assumption) ?_
            rotate_left
            · (intro wz; go_simp; with_reducible rfl)
            try simp only [Act.put, List.setIfInBounds_toArray, List.set_cons_zero, List.set_cons_succ]
            refine wpAnyG_takeY (i := 6) (v := ?_) rfl (by kernel_rfl) (by decide +kernel) (by decide +kernel) (by decide +kernel) (fun _ _ _ h => h) (by kernel_rfl) ?_ (by assumption) ?_
            rotate_left
            · (intro wz; go_simp; with_reducible rfl)
            try simp only [Act.put, List.setIfInBounds_toArray, List.set_cons_zero, List.set_cons_succ]
            refine wpAnyG_takeU (i := 7) rfl (by kernel_rfl) (by decide +kernel) (by decide +kernel) (by decide +kernel) (fun _ _ _ h => h) (by kernel_rfl) (by assumption) ?_
            try simp only [Act.put, List.setIfInBounds_toArray, List.set_cons_zero, List.set_cons_succ]
            refine wpAnyG_takeU (i := 8) rfl (by kernel_rfl) (by decide +kernel) (by decide +kernel) (by decide +kernel) (fun _ _ _ h => h) (by kernel_rfl) (by assumption) ?_
            try simp only [Act.put, List.setIfInBounds_toArray, List.set_cons_zero, List.set_cons_succ]
            refine wpAnyG_takeU (i := 9) rfl (by kernel_rfl) (by decide +kernel) (by decide +kernel) (by decide +kernel) (fun _ _ _ h => h) (by kernel_rfl) (by assumption) ?_
            try simp only [Act.put, List.setIfInBounds_toArray, List.set_cons_zero, List.set_cons_succ]
            refine wpAnyG_takeU (i := 10) rfl (by kernel_rfl) (by decide +kernel) (by decide +kernel) (by decide +kernel) (fun _ _ _ h => h) (by kernel_rfl) (by assumption) ?_
            try simp only [Act.put, List.setIfInBounds_toArray, List.set_cons_zero, List.set_cons_succ]
            refine wpAnyG_takeU (i := 11) rfl (by kernel_rfl) (by decide +kernel) (by decide +kernel) (by decide +kernel) (fun _ _ _ h => h) (by kernel_rfl) (by assumption) ?_
            try simp only [Act.put, List.setIfInBounds_toArray, List.set_cons_zero, List.set_cons_succ]
            refine wpAnyG_takeU (i := 12) rfl (by kernel_rfl) (by decide +kernel) (by decide +kernel) (by decide +kernel) (fun _ _ _ h => h) (by kernel_rfl) (by assumption) ?_
            try simp only [Act.put, List.setIfInBounds_toArray, List.set_cons_zero, List.set_cons_succ]
            refine wpAnyG_takeU (i := 13) rfl (by kernel_rfl) (by decide +kernel) (by decide +kernel) (by decide +kernel) (fun _ _ _ h => h) (by kernel_rfl) (by assumption) ?_
            try simp only [Act.put, List.setIfInBounds_toArray, List.set_cons_zero, List.set_cons_succ]
            refine wpAnyG_takeU (i := 14) rfl (by kernel_rfl) (by decide +kernel) (by decide +kernel) (by decide +kernel) (fun _ _ _ h => h) (by kernel_rfl) (by assumption) ?_
            try simp only [Act.put, List.setIfInBounds_toArray, List.set_cons_zero, List.set_cons_succ]
            refine wpAnyG_takeU (i := 15) rfl (by kernel_rfl) (by decide +kernel) (by decide +kernel) (by decide +kernel) (fun _ _ _ h => h) (by kernel_rfl) (by assumption) ?_
            try simp only [Act.put, List.setIfInBounds_toArray, List.set_cons_zero, List.set_cons_succ]
            refine wpAnyG_takeU (i := 16) rfl (by kernel_rfl) (by decide +kernel) (by decide +kernel) (by decide +kernel) (fun _ _ _ h => h) (by kernel_rfl) (by assumption) ?_
            try simp only [Act.put, List.setIfInBounds_toArray, List.set_cons_zero, List.set_cons_succ]
            refine wpAnyG_takeU (i := 17) rfl (by kernel_rfl) (by decide +kernel) (by decide +kernel) (by decide +kernel) (fun _ _ _ h => h) (by kernel_rfl) (by assumption) ?_
            try simp only [Act.put, List.setIfInBounds_toArray, List.set_cons_zero, List.set_cons_succ]
            refine wpAnyG_takeU (i := 18) rfl (by kernel_rfl) (by decide +kernel) (by decide +kernel) (by decide +kernel) (fun _ _ _ h => h) (by kernel_rfl) (by assumption) ?_
            try simp only [Act.put, List.setIfInBounds_toArray, List.set_cons_zero, List.set_cons_succ]
            refine wpAnyG_takeU (i := 19) rfl (by kernel_rfl) (by decide +kernel) (by decide +kernel) (by decide +kernel) (fun _ _ _ h => h) (by kernel_rfl) (by assumption) ?_
            try simp only [Act.put, List.setIfInBounds_toArray, List.set_cons_zero, List.set_cons_succ]
            refine wpAnyG_takeU (i := 20) rfl (by kernel_rfl) (by decide +kernel) (by decide +kernel) (by decide +kernel) (fun _ _ _ h => h) (by kernel_rfl) (by assumption) ?_
            try simp only [Act.put, List.setIfInBounds_toArray, List.set_cons_zero, List.set_cons_succ]
            refine wpAnyG_takeU (i := 21) rfl (by kernel_rfl) (by decide +kernel) (by decide +kernel) (by decide +kernel) (fun _ _ _ h => h) (by kernel_rfl) (by assumption) ?_
            try simp only [Act.put, List.setIfInBounds_toArray, List.set_cons_zero, List.set_cons_succ]
            refine wpAnyG_takeU (i := 22) rfl (by kernel_rfl) (by decide +kernel) (by decide +kernel) (by decide +kernel) (fun _ _ _ h => h) (by kernel_rfl) (by assumption) ?_
            try simp only [Act.put, List.setIfInBounds_toArray, List.set_cons_zero, List.set_cons_succ]
            refine wpAnyG_takeY (i := 23) (v := ?_) rfl (by kernel_rfl) (by decide +kernel) (by decide +kernel) (by decide +kernel) (fun _ _ _ h => h) (by kernel_rfl) ?_ (by assumption) ?_
            rotate_left
            · (intro wz; go_simp; with_reducible rfl)
            try simp only [Act.put, List.setIfInBounds_toArray, List.set_cons_zero, List.set_cons_succ]
            refine wpAnyG_done (by kernel_rfl) ?_ _
            go_simp
            go_wp2_with fail
            have hst : stopP T s (s.i + j) = false := by
              unfold stopP fitE
              rw [← hcN.out, ← hv0.out]
              simp [hv, htl]
              omega
            go_roundg (T.far s + 1 - (j + 1))
            case measure => have := again hst; omega
            case rel => exact .inl ⟨j + 1, rfl, again hst, B9.out, M9.out, K9.out.drew⟩
theorem rnexts_any (k : Nat) (hk : k ≤ 1000) (kb t lo : Nat) (S : List Nat) (m : Option Nat) (c : C4) (T : Tab) (s : Sk) (w : World) (H : RTabAt t lo S m T w) (hM : CtrAt m c w) (hm : ∀ b, m = some b → b < lo) (hI : TInv k T) (hs : RSkAt kb t s w) (hkb : kb ∉ S) (hok : SkOk T s) :
    Calls Tryz.prog 72 #[.pointer (some ⟨kb, 0, none⟩)] w (RNextP kb t m c T s w) := by
  by_cases hsp : T.spent s = true
  · exact rnext_spent kb t lo S m c T s w H hM hs hkb hsp
  · unfold Tab.spent at hsp
    simp only [Bool.not_eq_true, Bool.or_eq_false_iff, bne_eq_false_iff_eq] at hsp
    exact rnext_live k hk kb t lo S m c T s w H hM hm hI hs hkb hok hsp.1 hsp.2
end Go.Proofs.YtajmfenfajbakaaGreat
