/- The document's dictionary and machines in memory; what a hit does (chapter 8). -/
import Derived.Test.YtcakdmapnmneoaaGreatB10
import Derived.Test.YtcakdmapnmneoaaGreatRTabAdd
import Derived.Test.YtcakdmapnmneoaaGreatRTabNext
import Derived.Test.YtcakdmapnmneoaaGreatDictO
namespace Go.Proofs.YtcakdmapnmneoaaGreat
open Go.RowKit
set_option linter.unusedVariables false
set_option linter.unusedSimpArgs false

def rdicO (t : Nat) (most : Int) (ver : Nat) : Obj := .cells #[.int .i64 most, .int .i64 ver, .pointer (some ⟨t, 0, none⟩)] 89 (0, 0)
/-- The document's dictionary in memory. -/
structure RDicAt (db t lo : Nat) (S : List Nat) (m : Option Nat) (d : Dic) (W : World) : Prop where
  b : W.heap[db]? = some (rdicO t d.most d.ver)
  t : RTabAt t lo S m d.T W
  n : db ∉ S
  l : lo ≤ db
theorem RDicAt.keeps {db t lo : Nat} {S R : List Nat} {m : Option Nat} {d : Dic} {W W' : World} (h : RDicAt db t lo S m d W) (k : Keeps R W W') (h1 : db ∉ R) (hd : ∀ x, x ∈ S → x ∉ R) : RDicAt db t lo S m d W' :=
  ⟨k.has h.b h1, h.t.keeps k hd, h.n, h.l⟩
theorem RDicAt.foot {db t lo : Nat} {S : List Nat} {m : Option Nat} {d : Dic} {W : World} (h : RDicAt db t lo S m d W) : ∀ x, x ∈ db :: S → lo ≤ x ∧ x < W.heap.size := by
  intro x hx
  simp only [List.mem_cons] at hx
  rcases hx with rfl | hx
  · exact ⟨h.l, lt_of_block h.b⟩
  · exact h.t.foot x hx
def rmO (db g : Nat) (h k v : Int) (skp : Value) (kept : Nat) (at_ : Int) (waits same over : Bool) (x : Trn) (scans : Nat) : Obj :=
  .cells #[.pointer (some ⟨db, 0, none⟩), .int .i64 g, .int .i64 h, .int .i64 k, .int .i64 v, skp, .int .i64 kept, .int .i64 at_, .bool waits, .bool same, .bool over, .int .i64 x.kind, .int .i64 x.key, .bool x.found, .int .i64 x.val, .int .i64 x.ent, .int .i64 scans] 158 (0, 0)
/-- The document's machine in memory. -/
def RMacAt (rb kb db t : Nat) (m : Mac) (W : World) : Prop :=
  ∃ at_ same, W.heap[rb]? = some (rmO db m.g m.h m.k m.v (skV m.st kb) m.ver at_ (m.st == 2) same (m.st == 4) m.turn m.scans) ∧ (m.st = 2 ∨ m.st = 3 → at_ = m.ent) ∧ (m.st ≠ 4 → same = (m.st == 3)) ∧ (m.st ≠ 0 → RSkAt kb t m.sk W)
theorem RMacAt.keeps {rb kb db t : Nat} {m : Mac} {R : List Nat} {W W' : World} (h : RMacAt rb kb db t m W) (k : Keeps R W W') (h1 : rb ∉ R) (h2 : m.st ≠ 0 → kb ∉ R) : RMacAt rb kb db t m W' := by
  obtain ⟨a, s, b, c, d, e⟩ := h
  exact ⟨a, s, k.has b h1, c, d, fun hs => (e hs).keeps k (h2 hs)⟩
section
variable {W : World} {rb db g : Nat} {h k v : Int} {skp : Value} {kept : Nat} {at_ : Int} {waits same over : Bool} {x : Trn} {scans : Nat}
theorem rm_cells (H : W.heap[rb]? = some (rmO db g h k v skp kept at_ waits same over x scans)) :
    W.cell? ⟨rb, 0, none⟩ = some (.pointer (some ⟨db, 0, none⟩)) ∧ W.cell? ⟨rb, 1, none⟩ = some (.int .i64 g) ∧ W.cell? ⟨rb, 2, none⟩ = some (.int .i64 h) ∧ W.cell? ⟨rb, 3, none⟩ = some (.int .i64 k) ∧ W.cell? ⟨rb, 4, none⟩ = some (.int .i64 v) ∧ W.cell? ⟨rb, 5, none⟩ = some skp ∧ W.cell? ⟨rb, 6, none⟩ = some (.int .i64 kept) ∧ W.cell? ⟨rb, 7, none⟩ = some (.int .i64 at_) ∧ W.cell? ⟨rb, 8, none⟩ = some (.bool waits) ∧ W.cell? ⟨rb, 9, none⟩ = some (.bool same) ∧ W.cell? ⟨rb, 10, none⟩ = some (.bool over) ∧
    W.cell? ⟨rb, 11, none⟩ = some (.int .i64 x.kind) ∧ W.cell? ⟨rb, 12, none⟩ = some (.int .i64 x.key) ∧ W.cell? ⟨rb, 13, none⟩ = some (.bool x.found) ∧ W.cell? ⟨rb, 14, none⟩ = some (.int .i64 x.val) ∧ W.cell? ⟨rb, 15, none⟩ = some (.int .i64 x.ent) ∧ W.cell? ⟨rb, 16, none⟩ = some (.int .i64 scans) :=
  ⟨cell_has H (i := 0) rfl, cell_has H (i := 1) rfl, cell_has H (i := 2) rfl, cell_has H (i := 3) rfl, cell_has H (i := 4) rfl, cell_has H (i := 5) rfl, cell_has H (i := 6) rfl, cell_has H (i := 7) rfl, cell_has H (i := 8) rfl, cell_has H (i := 9) rfl, cell_has H (i := 10) rfl, cell_has H (i := 11) rfl, cell_has H (i := 12) rfl, cell_has H (i := 13) rfl, cell_has H (i := 14) rfl, cell_has H (i := 15) rfl, cell_has H (i := 16) rfl⟩
theorem rm_ended (y : Trn) (H : W.heap[rb]? = some (rmO db g h k v skp kept at_ waits same over x scans)) :
    ((((((W.setCell ⟨rb, 10, none⟩ (.bool true)).setCell ⟨rb, 11, none⟩ (.int .i64 y.kind)).setCell ⟨rb, 12, none⟩ (.int .i64 y.key)).setCell ⟨rb, 13, none⟩ (.bool y.found)).setCell ⟨rb, 14, none⟩ (.int .i64 y.val)).setCell ⟨rb, 15, none⟩ (.int .i64 y.ent)).heap[rb]? = some (rmO db g h k v skp kept at_ waits same true y scans) ∧
    Keeps [rb] W ((((((W.setCell ⟨rb, 10, none⟩ (.bool true)).setCell ⟨rb, 11, none⟩ (.int .i64 y.kind)).setCell ⟨rb, 12, none⟩ (.int .i64 y.key)).setCell ⟨rb, 13, none⟩ (.bool y.found)).setCell ⟨rb, 14, none⟩ (.int .i64 y.val)).setCell ⟨rb, 15, none⟩ (.int .i64 y.ent)) := by
  unfold rmO at H
  have h0 := has_setCell H 10 (.bool true)
  simp only [List.setIfInBounds_toArray, List.set_cons_zero, List.set_cons_succ] at h0
  have h1 := has_setCell h0 11 (.int .i64 y.kind)
  simp only [List.setIfInBounds_toArray, List.set_cons_zero, List.set_cons_succ] at h1
  have h2 := has_setCell h1 12 (.int .i64 y.key)
  simp only [List.setIfInBounds_toArray, List.set_cons_zero, List.set_cons_succ] at h2
  have h3 := has_setCell h2 13 (.bool y.found)
  simp only [List.setIfInBounds_toArray, List.set_cons_zero, List.set_cons_succ] at h3
  have h4 := has_setCell h3 14 (.int .i64 y.val)
  simp only [List.setIfInBounds_toArray, List.set_cons_zero, List.set_cons_succ] at h4
  have h5 := has_setCell h4 15 (.int .i64 y.ent)
  simp only [List.setIfInBounds_toArray, List.set_cons_zero, List.set_cons_succ] at h5
  exact ⟨h5, ((((((Keeps.refl [rb] W).setCell (p := ⟨rb, 10, none⟩) (.inr (by simp)) _).setCell (p := ⟨rb, 11, none⟩) (.inr (by simp)) _).setCell (p := ⟨rb, 12, none⟩) (.inr (by simp)) _).setCell (p := ⟨rb, 13, none⟩) (.inr (by simp)) _).setCell (p := ⟨rb, 14, none⟩) (.inr (by simp)) _).setCell (p := ⟨rb, 15, none⟩) (.inr (by simp)) _⟩
set_option maxRecDepth 100000 in
/-- It ends with a turn. -/
theorem rends_any (y : Trn) (w : World) (H : w.heap[rb]? = some (rmO db g h k v skp kept at_ waits same over x scans)) :
    Calls Tryz.prog 131 #[.pointer (some ⟨rb, 0, none⟩), y.agg] w fun r w' => r = .returned y.agg ∧ w'.heap[rb]? = some (rmO db g h k v skp kept at_ waits same true y scans) ∧ Keeps [rb] w w' := by
  obtain ⟨y0, y1, y2, y3, y4⟩ := y
  unfold Trn.agg
  simp only
  obtain ⟨W1, hW1⟩ : ∃ W1, ((w.alloc (.cells #[.int .i64 y0, .int .i64 y1, .bool y2, .int .i64 y3, .int .i64 y4] 75)).alloc (.cells #[.int .i64 0, .int .i64 0, .bool false, .int .i64 0, .int .i64 0] 75)) = W1 := ⟨_, rfl⟩
  have lr := lt_of_block H
  have k1 : Keeps [] w W1 := by rw [← hW1]; exact ((Keeps.refl [] w).alloc _).alloc _
  have b1 : W1.heap[w.heap.size]? = some (trnO ⟨y0, y1, y2, y3, y4⟩) := by rw [← hW1]; exact has_alloc (has_new _ _) _
  have r1 : W1.heap[w.heap.size + 1]? = some (trnO noTrn) := by rw [← hW1]; exact has_new' _ _ (by simp)
  have H1 := k1.has H (by simp)
  obtain ⟨_, _, _, _, _, _, _, _, _, _, c10, c11, c12, c13, c14, c15, _⟩ := rm_cells H1
  obtain ⟨t0, t1, t2, t3, t4⟩ := trn_cells b1
  have f10 := free_of_has H1 10
  have f11 := free_of_has H1 11
  have f12 := free_of_has H1 12
  have f13 := free_of_has H1 13
  have f14 := free_of_has H1 14
  have f15 := free_of_has H1 15
  obtain ⟨lx, hlx⟩ := ex_hid w.heap.size
  rw [← hlx.out] at b1 r1 t0 t1 t2 t3 t4
  have n1 : rb ≠ lx := by have := hlx.out; omega
  have n2 : lx ≠ rb := fun e => n1 e.symm
  have HW1 := Lib.hid hW1
  have KK := Lib.hid k1
  have BB := Lib.hid b1
  have RR := Lib.hid r1
  have HH := Lib.hid H1
  simp only at t0 t1 t2 t3 t4
  clear hW1 k1 b1 r1 H1 H
  go_enter Tryz.func131, Tryz.ntmps131
  go_upto_region 1 with (fail)
  rw [HW1.out, ← hlx.out]
  go_upto_region 3 with (fail)
  refine wp_gen (fun V => V.heap[rb]? = some (rmO db g h k v skp kept at_ waits same true ⟨y0, y1, y2, y3, y4⟩ scans) ∧ Keeps [rb] W1 V) ⟨(rm_ended ⟨y0, y1, y2, y3, y4⟩ HH.out).1, (rm_ended ⟨y0, y1, y2, y3, y4⟩ HH.out).2⟩ ?_
  rintro W2 ⟨b2, k2⟩
  have B2 := Lib.hid b2
  have bx := k2.has BB.out (by simp; exact n2)
  have rx := k2.has RR.out (by simp; have := hlx.out; omega)
  obtain ⟨t0, t1, t2, t3, t4⟩ := trn_cells bx
  obtain ⟨s0, s1, s2, s3, s4⟩ := trn_cells rx
  obtain ⟨u0, u1, u2, u3, u4⟩ := trn_free rx
  have RX := Lib.hid rx
  have K2 := Lib.hid (show Keeps [rb] w W2 from (KK.out.mono (by simp) : Keeps [rb] w W1).trans k2)
  simp only at t0 t1 t2 t3 t4
  clear b2 k2 bx rx c10 c11 c12 c13 c14 c15 f10 f11 f12 f13 f14 f15
  go_wp2_with fail
  obtain ⟨v1, v2⟩ := trn_store noTrn ⟨y0, y1, y2, y3, y4⟩ RX.out
  have rc := cell_of_has v1
  simp only at rc
  exact bodyPost_ret (v := .agg #[.int .i64 y0, .int .i64 y1, .bool y2, .int .i64 y3, .int .i64 y4]) (by simp [results, Tryz.results131, go_sem, rc]) rfl ⟨rfl, v2.has B2.out (by simp; have := hlx.out; omega), K2.out.then v2 (fun x hx => by simp at hx; have := hlx.out; left; omega)⟩
end
/-- A hit's place in the entries. -/
theorem at_cells {T : Tab} {lo c g : Nat} {W : World} (hE : EntRow lo (some ⟨g, 0, none⟩) c T.E W) {e : Nat} {y : Ent} (hy : T.E[e]? = some y) :
    W.cell? ⟨g, e * 5, none⟩ = some (.bool y.live) ∧ W.cell? ⟨g, e * 5 + 1, none⟩ = some (.int .i64 y.hash) ∧ W.cell? ⟨g, e * 5 + 2, none⟩ = some (.int .i64 y.key) ∧ W.cell? ⟨g, e * 5 + 3, none⟩ = some (.int .i64 y.val) ∧ W.cell? ⟨g, e * 5 + 4, none⟩ = some (.int .i64 y.birth) :=
  ⟨hE.cell hy 0 (by omega), hE.cell hy 1 (by omega), hE.cell hy 2 (by omega), hE.cell hy 3 (by omega), hE.cell hy 4 (by omega)⟩
theorem rd_ver {W : World} {db t : Nat} {most : Int} {ver : Nat} (H : W.heap[db]? = some (rdicO t most ver)) : (W.setCell ⟨db, 1, none⟩ (.int .i64 ((ver + 1 : Nat) : Int))).heap[db]? = some (rdicO t most (ver + 1)) ∧ Keeps [db] W (W.setCell ⟨db, 1, none⟩ (.int .i64 ((ver + 1 : Nat) : Int))) := by
  unfold rdicO at H
  have h0 := has_setCell H 1 (.int .i64 ((ver + 1 : Nat) : Int))
  simp only [List.setIfInBounds_toArray, List.set_cons_zero, List.set_cons_succ] at h0
  exact ⟨h0, (Keeps.refl [db] W).setCell (p := ⟨db, 1, none⟩) (.inr (by simp)) _⟩
end Go.Proofs.YtcakdmapnmneoaaGreat
