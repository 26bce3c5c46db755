/- Slots of []int: Add (chapter 11). -/
import Derived.Test.YtompihlckpjbkaaSlotOpsBL
import Derived.Deep.RegionLaw
namespace Go.Proofs.Ytompihlckpjbkaa.SL
open Go.RowKit
set_option linter.unusedVariables false

/-- Behind an Add into a free slot. -/
def AddedC (sb lo : Nat) (S : List Nat) (m n : Nat) (V : Nat → Value) (T : Nat → Bool) (F : Nat → Nat) (v : Value) (w : World) (e : Ending) (w' : World) : Prop :=
  e = .returned (.int .i64 (F 0 : Int)) ∧ ∃ S' G, SlotsAt sb lo S' m n (putV V (F 0) v) (putB T (F 0) true) G w' ∧ HeapOK n G ∧ (∀ P, Enum (n + 1) F P → Enum n G (fun y => P y ∧ y ≠ F 0)) ∧ Keeps S w w' ∧ ∀ x, x ∈ S' → x ∈ S ∨ w.heap.size ≤ x

set_option maxRecDepth 100000 in
theorem add_old (sb lo : Nat) (S : List Nat) (m n : Nat) (V : Nat → Value) (T : Nat → Bool) (F : Nat → Nat) (va : Option Addr) (vn vc : Nat) (w : World) (H : SlotsAt sb lo S m (n + 1) V T F w) (hm : m ≤ 80000) (hn : n + 1 ≤ m) (hK : HeapOK (n + 1) F) (hF : F 0 < m) :
    Calls Try.prog 50 #[.pointer (some ⟨sb, 0, none⟩), .slice va vn vc] w (AddedC sb lo S m n V T F (.slice va vn vc) w) := by
  have HH := Lib.hid H
  have HK := Lib.hid hK
  obtain ⟨g, lc, q, tc, fa, fc, h1, h2, h3, h4, h5, hS, n1, n2, n3, n4, n5, n6⟩ := H.parts (by omega)
  obtain ⟨gf, rfl⟩ := h4.shape (by omega)
  simp only [blk, List.mem_singleton] at n1 n2 n3
  obtain ⟨k, hk⟩ := ex_hid (F 0)
  have c2 := cell_has h1 (i := 2) rfl
  have c4 := h4.cell (k := 0) (by omega)
  rw [show numV F 0 = .int .i64 (k : Int) by rw [hk.out]; rfl] at c4
  have hkm : k < m := by rw [hk.out]; exact hF
  have k0 : (0 : Int) ≤ (k : Int) := by omega
  have k1 : (k : Int) < (m : Int) := by omega
  have e1 : (((n + 1 : Nat) : Int) == 0) = false := by simp; omega
  have e2 : 0 < n + 1 := by omega
  have e3 : (0 : Int) < ((n + 1 : Nat) : Int) := by omega
  have X := Lib.hid (And.intro h1 (And.intro h2 (And.intro h3 (And.intro h4 (And.intro h5 hS)))))
  clear H hK hF h1 h2 h3 h4 h5 hS
  go_enter Try.func50, Try.ntmps50
  go_wp2_with fail
  refine (heapPop_any 89 (by decide) sb lo _ _ gf n fc F _ ⟨X.out.1, X.out.2.2.2.1⟩ (by omega) HK.out).mono ?_
  rintro e w2 ⟨⟨xx, rfl⟩, G, hF, hO, hE, kk⟩
  obtain ⟨h1, h2, h3, h4, h5, hS⟩ := X.out
  have r2 := h2.keeps kk (by simp [blk]; exact ⟨fun e => n4 e.symm, n1⟩)
  have r3 := h3.keeps kk (by simp [blk]; exact ⟨fun e => n5 e.symm, n2⟩)
  have c0 := cell_has hF.hb (i := 0) rfl
  have c1 := cell_has hF.hb (i := 1) rfl
  have d2 := r2.cell hkm
  have d3 := r3.cell hkm
  obtain ⟨y, hy⟩ := ex_hid (V k)
  rw [← hy.out] at d2
  obtain ⟨z, hz⟩ := ex_hid (flagV T k)
  rw [← hz.out] at d3
  have f2 := r2.free k
  have f3 := r3.free k
  have Y := Lib.hid (And.intro hF (And.intro hO (And.intro hE (And.intro kk (And.intro r2 r3)))))
  clear h1 h2 h3 h4 h5 hS hF hO hE kk r2 r3 c2 c4
  have n4' : g ≠ sb := fun e => n4 e.symm
  have n5' : q ≠ sb := fun e => n5 e.symm
  go_wp2_with fail
  go_region_held3 (fun w' => w'.cell? ⟨sb, 0, none⟩ = some (.slice (some ⟨g, 0, none⟩) m lc) ∧ w'.cell? ⟨sb, 1, none⟩ = some (.slice (some ⟨q, 0, none⟩) m tc)) (go_keep) (fail)
  all_goals
    go_wp2_with fail
    go_ret
    obtain ⟨hF, hO, hE, kk, r2, r3⟩ := Y.out
    obtain ⟨-, -, -, -, h5, hS⟩ := X.out
    have ks : Keeps [g, q] w2 ((w2.setCell ⟨g, k, none⟩ (.slice va vn vc)).setCell ⟨q, k, none⟩ (.bool true)).drew := (((Keeps.refl _ _).setCell (.inr (by simp)) _).setCell (.inr (by simp)) _).drew
    refine ⟨by rw [← hk.out]; rfl, S, G, ⟨_, lc, _, tc, _, fc, ks.has hF.hb (by simp; exact ⟨n4, n5⟩), ?_, ?_, hF.hr.keeps ks (by simp [blk]; exact ⟨fun e => n1 e.symm, fun e => n2 e.symm⟩), by simpa [blk] using n1, h5, hS⟩, hO, hE, ?_, fun x hx => .inl hx⟩
    · rw [← hk.out]
      exact ((r2.put k (.slice va vn vc)).keeps (S := [q]) ((Keeps.refl _ _).setCell (.inr (by simp)) _) (by simpa [blk] using n6)).drew
    · rw [← hk.out, ← flagV_put]
      exact ((r3.keeps (S := [g]) ((Keeps.refl _ _).setCell (.inr (by simp)) _) (by simp [blk]; exact fun e => n6 e.symm)).put _ _).drew
    · rw [hS]
      exact (kk.mono (by intro x hx; simp at hx; rcases hx with rfl | rfl <;> simp [blk])).trans (ks.mono (by intro x hx; simp at hx; rcases hx with rfl | rfl <;> simp))

/-- An append keeps all but its row. -/
theorem grown_kp {W w1 : World} {a : Option Addr} {m c : Nat} (hg : W.grownBy w1 (Value.slice a m c).ownBlock) : Keeps (blk a) W w1 :=
  ⟨hg.os, hg.tape, hg.output, hg.size, fun k hk hs => hg.block k hk (fun e => hs (blk_own a m c k e.symm))⟩

theorem add_fin {sb lo : Nat} {S : List Nat} {m lc tc fc cap1 cap2 g g2 : Nat} {la ta fa : Option Addr} {V : Nat → Value} {T : Nat → Bool} {F : Nat → Nat} {v : Value} {w w1 w2 : World} {W : World}
    (hW : W = (w2.setCell ⟨sb, 0, none⟩ (.slice (some ⟨g, 0, none⟩) (m + 1) cap1)).setCell ⟨sb, 1, none⟩ (.slice (some ⟨g2, 0, none⟩) (m + 1) cap2) ∨ W = (w2.setCell ⟨sb, 1, none⟩ (.slice (some ⟨g2, 0, none⟩) (m + 1) cap2)).setCell ⟨sb, 0, none⟩ (.slice (some ⟨g, 0, none⟩) (m + 1) cap1))
    (X1 : w.heap[sb]? = some (.cells #[.slice la m lc, .slice ta m tc, .slice fa 0 fc] 89 (0, 0))) (R4 : ValRow 3 lo fa 0 fc (numV F) w)
    (NW : sb ∉ blk la ∧ sb ∉ blk ta ∧ sb ∉ blk fa) (X6 : (∀ x, x ∈ blk la → x ∉ blk fa) ∧ lo ≤ sb ∧ S = sb :: (blk la ++ (blk ta ++ blk fa))) (NTF : ∀ x, x ∈ blk fa → x ∉ blk ta)
    (Y1 : Keeps (blk la) w w1) (Y2 : ValRow 22 lo (some ⟨g, 0, none⟩) (m + 1) cap1 (putV V m v) w1) (Y3 : g ∈ blk la ∨ w.heap.size ≤ g) (R3 : ValRow 4 lo ta m tc (flagV T) w1)
    (Y5 : Keeps (blk ta) w1 w2) (Y6 : ValRow 4 lo (some ⟨g2, 0, none⟩) (m + 1) cap2 (putV (flagV T) m (.bool true)) w2) (Y7 : g2 ∈ blk ta ∨ w1.heap.size ≤ g2) (YC : w2.heap[sb]? = some (.cells #[.slice la m lc, .slice ta m tc, .slice fa 0 fc] 89 (0, 0))) :
    SlotP sb lo S (m + 1) 0 (putV V m v) (putB T m true) F (.int .i64 m) w (.returned (.int .i64 m)) W := by
  have Z2 : ValRow 22 lo (some ⟨g, 0, none⟩) (m + 1) cap1 (putV V m v) w2 := Y2.keeps Y5 (Y2.disj R3 (by decide))
  have Z4 : ValRow 3 lo fa 0 fc (numV F) w2 := (R4.keeps Y1 (fun x hx hy => X6.1 x hy hx)).keeps Y5 NTF
  have hsz := Y1.size
  have kW : Keeps [sb] w2 W := by
    rcases hW with rfl | rfl
    · exact ((Keeps.refl _ _).setCell (.inr (by simp)) _).setCell (.inr (by simp)) _
    · exact ((Keeps.refl _ _).setCell (.inr (by simp)) _).setCell (.inr (by simp)) _
  have hB : W.heap[sb]? = some (.cells #[.slice (some ⟨g, 0, none⟩) (m + 1) cap1, .slice (some ⟨g2, 0, none⟩) (m + 1) cap2, .slice fa 0 fc] 89 (0, 0)) := by
    rcases hW with rfl | rfl
    · exact has_setCell (has_setCell YC 0 _) 1 _
    · exact has_setCell (has_setCell YC 1 _) 0 _
  have hgl := (Z2.blk_lt g (by simp [blk])).2
  refine ⟨rfl, sb :: ([g] ++ ([g2] ++ blk fa)), ⟨_, cap1, _, cap2, fa, fc, hB, Z2.keeps kW (fun x hx hy => by simp at hy; subst hy; exact Z2.notin YC (by decide) hx), ?_, Z4.keeps kW (fun x hx hy => by simp at hy; subst hy; exact NW.2.2 hx), ?_, X6.2.1, rfl⟩, ?_, ?_⟩
  · rw [← flagV_put]
    exact Y6.keeps kW (fun x hx hy => by simp at hy; subst hy; exact Y6.notin YC (by decide) hx)
  · intro x hx hy
    simp [blk] at hx
    subst hx
    rcases Y3 with h | h
    · exact X6.1 x h hy
    · have := (R4.blk_lt x hy).2; omega
  · rw [X6.2.2]
    exact ((Y1.mono (fun x hx => by simp [hx])).trans (Y5.mono (fun x hx => by simp [hx]))).trans (kW.mono (fun x hx => by simp at hx; simp [hx]))
  · intro x hx
    rw [X6.2.2]
    simp at hx
    rcases hx with rfl | rfl | rfl | hx
    · exact .inl (by simp)
    · rcases Y3 with h | h
      · exact .inl (by simp [h])
      · exact .inr h
    · rcases Y7 with h | h
      · exact .inl (by simp [h])
      · exact .inr (by omega)
    · exact .inl (by simp [hx])

set_option maxRecDepth 100000 in
set_option maxHeartbeats 16000000 in
theorem add_new (sb lo : Nat) (S : List Nat) (m : Nat) (V : Nat → Value) (T : Nat → Bool) (F : Nat → Nat) (va : Option Addr) (vn vc : Nat) (w : World) (H : SlotsAt sb lo S m 0 V T F w) (hm : m ≤ 80000) :
    Calls Try.prog 50 #[.pointer (some ⟨sb, 0, none⟩), .slice va vn vc] w (SlotP sb lo S (m + 1) 0 (putV V m (.slice va vn vc)) (putB T m true) F (.int .i64 m) w) := by
  obtain ⟨i0, hi, hz0, hz1, hz2⟩ := info_parts infoS
  have HI := Lib.hid (And.intro hi (And.intro hz0 (And.intro hz1 hz2)))
  clear hi hz0 hz1 hz2
  obtain ⟨j0, hi, hz0, hz1, hz2⟩ := info_parts infoB
  have HJ := Lib.hid (And.intro hi (And.intro hz0 (And.intro hz1 hz2)))
  clear hi hz0 hz1 hz2
  obtain ⟨la, lc, ta, tc, fa, fc, h1, h2, h3, h4, h5, h6, hS⟩ := H
  have c0 := cell_has h1 (i := 0) rfl
  have c1 := cell_has h1 (i := 1) rfl
  have c2 := cell_has h1 (i := 2) rfl
  have f0 := free_of_has h1 0
  have f1 := free_of_has h1 1
  have zb := lt_of_block h1
  have m1 : (m : Int) ≤ 80000 := by omega
  have X1 := Lib.hid h1
  have R2 : Hid (w.ownsRow lo 22 1 (.slice la m lc) m (valR m V)) := Lib.hid h2
  have R3 := Lib.hid h3
  have R4 := Lib.hid h4
  have NW := Lib.hid (And.intro (h2.notin h1 (by decide)) (And.intro (h3.notin h1 (by decide)) (h4.notin h1 (by decide))))
  have NL := Lib.hid (show ∀ x, w.heap.size ≤ x → x ∉ blk la from fun x hx hy => by have := (h2.blk_lt x hy).2; omega)
  have NT := Lib.hid (h3.disj h2 (by decide))
  have X6 := Lib.hid (And.intro h5 (And.intro h6 hS))
  have NTF := Lib.hid (h4.disj h3 (by decide))
  have q3 : m + 1 ≤ maxLen := by unfold maxLen; omega
  have q4 : (m + 1) * 24 ≤ 140737488355328 := by omega
  have q4' : (m + 1) * 1 ≤ 140737488355328 := by omega
  have G := Lib.hid (And.intro q3 (And.intro q4 q4'))
  have hlo : lo ≤ w.heap.size := by omega
  clear h1 h2 h3 h4 h5 h6 hS q3 q4 q4'
  go_enter Try.func50, Try.ntmps50
  go_wp2_with fail
  go_region_law (first
    | ((refine step_append_lies (o := ⟨some 22, _, _, _, _, _⟩) _ (by rfl) _ _ 36 (by rfl) lo 22 i0 (.slice none 0 0) 1 24 Try.underlying36 HI.out.1 HI.out.2.1 HI.out.2.2.1 HI.out.2.2.2 rfl (by decide) (.slice la m lc) m (valR m V) (by rfl) (by repeat (first | exact R2.out | refine World.ownsRow.alloc ?_ _ | refine World.ownsRow.drew ?_)) ⟨_, 0, none⟩ 1 1 [.slice va vn vc] (by rfl) (by rfl) (World.news_of_block (cs := #[.slice va vn vc]) (t := 22) (fr := (0, 0)) (has_drew (by first | exact has_new _ _ | exact has_alloc (has_new _ _) _ | exact has_new' _ _ (by simp)))) (by intro u hu; simp at hu; subst hu; rfl) (by decide) G.out.1 G.out.2.1 (by simp <;> omega) _ rfl ?_; intro g cap1 w1 hown hgrow hat hlt1; have K0 := grown_kp hgrow; have K1 : Keeps (blk la) w w1 := Keeps.trans (by repeat (first | exact Keeps.refl _ _ | refine Keeps.alloc ?_ _ | refine Keeps.drew ?_)) K0; have B1 := K1.has X1.out NW.out.1; have c0' := cell_has B1 (i := 0) rfl; have c1' := cell_has B1 (i := 1) rfl; have f0' := free_of_has B1 0; have f1' := free_of_has B1 1; have zb1 := lt_of_block B1; (first | (have hA2 : w1.heap[w.heap.size + 1]? = some (.cells #[.bool true] 4 (0, 0)) := K0.has (has_drew (has_new' _ _ (by simp))) (NL.out _ (by omega))) | (have hA2 : w1.heap[w.heap.size]? = some (.cells #[.bool true] 4 (0, 0)) := K0.has (has_drew (has_alloc (has_new _ _) _)) (NL.out _ (by omega))) | skip); have Y1 := Lib.hid K1; have Y2 := Lib.hid (ValRow.of_append hown); have Y3 := Lib.hid (lies_in (h := w.heap.size) hat (by simp <;> omega)); have Y4 : Hid (w1.ownsRow lo 4 1 (.slice ta m tc) m (valR m (flagV T))) := Lib.hid (R3.out.keeps K1 NT.out); have YB := Lib.hid B1; clear hown hgrow hat K0 K1 B1))
    | ((refine step_append_lies (o := ⟨some 28, _, _, _, _, _⟩) _ (by rfl) _ _ 26 (by rfl) lo 4 j0 (.bool false) 1 1 Try.underlying26 HJ.out.1 HJ.out.2.1 HJ.out.2.2.1 HJ.out.2.2.2 rfl (by decide) (.slice ta m tc) m (valR m (flagV T)) (by rfl) (by repeat (first | exact Y4.out | refine World.ownsRow.alloc ?_ _ | refine World.ownsRow.drew ?_)) ⟨_, 0, none⟩ 1 1 [.bool true] (by rfl) (by rfl) (World.news_of_block (cs := #[.bool true]) (t := 4) (fr := (0, 0)) (by first | exact hA2 | exact has_new _ _)) (by intro u hu; simp at hu; subst hu; rfl) (by decide) G.out.1 G.out.2.2 (by have := Y1.out.size; simp; omega) _ rfl ?_; intro g2 cap2 w2 hown hgrow hat hlt2; have K0 := grown_kp hgrow; have K2 : Keeps (blk ta) w1 w2 := Keeps.trans (by repeat (first | exact Keeps.refl _ _ | refine Keeps.alloc ?_ _ | refine Keeps.drew ?_)) K0; have B2 := K2.has YB.out NW.out.2.1; have c0'' := cell_has B2 (i := 0) rfl; have c1'' := cell_has B2 (i := 1) rfl; have f0'' := free_of_has B2 0; have f1'' := free_of_has B2 1; have zb2 := lt_of_block B2; have Y5 := Lib.hid K2; have Y6 := Lib.hid (ValRow.of_append hown); have Y7 := Lib.hid (lies_in (h := w1.heap.size) hat (by simp)); have YC := Lib.hid B2; clear hown hgrow hat K0 K2 B2)))
  all_goals
    go_wp2_with fail
    go_ret
    exact add_fin (by first | exact .inl rfl | exact .inr rfl) X1.out R4.out NW.out X6.out NTF.out Y1.out Y2.out Y3.out Y4.out Y5.out Y6.out Y7.out YC.out
end Go.Proofs.Ytompihlckpjbkaa.SL
