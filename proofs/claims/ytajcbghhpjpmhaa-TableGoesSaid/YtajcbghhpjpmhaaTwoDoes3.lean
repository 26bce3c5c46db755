/- The calls of a script on a table and on the document's: Copy, Seek (chapter 7). -/
import Derived.Test.YtajcbghhpjpmhaaTwoDoes2
namespace Go.Proofs.Ytajcbghhpjpmhaa
open Go.RowKit
set_option linter.unusedVariables false
set_option linter.unusedSimpArgs false

theorem TabAt.lower {t lo lo' : Nat} {S : List Nat} {m : Value} {T : Tab} {w : World} (h : TabAt t lo' S m T w) (hl : lo ≤ lo') : TabAt t lo S m T w := by
  obtain ⟨a, c, cb, cr, h1, h2, h3, h4, h5, h6, h7, h8⟩ := h
  exact ⟨a, c, cb, cr, h1, h2.lift (fun x hx => by have := (h2.blk_lt x hx).1; omega), h3, h4, h5, h6, h7, fun x hx => ⟨by have := (h8 x hx).1; omega, (h8 x hx).2⟩⟩
theorem RTabAt.lower {t lo lo' : Nat} {S : List Nat} {m : Option Nat} {T : Tab} {w : World} (h : RTabAt t lo' S m T w) (hl : lo ≤ lo') : RTabAt t lo S m T w := by
  obtain ⟨a, c, q, h1, h2, h3, h4, h5, h6, h7⟩ := h
  exact ⟨a, c, q, h1, h2.lift (fun x hx => by have := (h2.blk_lt x hx).1; omega), h3, h4, h5, h6, fun x hx => ⟨by have := (h7 x hx).1; omega, (h7 x hx).2⟩⟩
theorem neq_nil_tab (b : Nat) (w : World) : True := trivial
set_option maxRecDepth 100000 in
set_option maxHeartbeats 4000000 in
theorem does_copy (xb lo k : Nat) (F : List Nat) (m1 m2 : Option Nat) (c : C4) (T : Tab) (so : Option Sk) (w : World) (H : TwoAt xb lo F m1 m2 c T so w) (hk : k ≤ 900) (hI : TInv k T) (h ky v n : Int) :
    Calls Try.prog 28 #[.pointer (some ⟨xb, 0, none⟩), .agg #[.int .i64 6, .int .i64 h, .int .i64 ky, .int .i64 v, .int .i64 n]] w (DoesP xb lo F m1 m2 k w) := by
  have HH := Lib.hid H
  obtain ⟨t, tw, S, R, sp, kp, h1, h2, h3, h4, h5, h6, h7⟩ := H
  have H1 := Lib.hid h1
  have H2 := Lib.hid h2
  have H3 := Lib.hid h3
  have H4 := Lib.hid h4
  have H5 := Lib.hid h5
  have H6 := Lib.hid h6
  have H7 := Lib.hid h7
  have HI := Lib.hid hI
  have hek := hI.ek
  have hl3 := hI.l3
  have hl12 := hI.l12
  have zx := lt_of_block h1
  have x0 : w.cell? ⟨xb, 0, none⟩ = some (.pointer (some ⟨t, 0, none⟩)) := cell_has h1 (i := 0) rfl
  have x1 : w.cell? ⟨xb, 1, none⟩ = some (.pointer (some ⟨tw, 0, none⟩)) := cell_has h1 (i := 1) rfl
  have xs : xb ∉ S ++ mS m1 := fun hx => by
    rcases List.mem_append.1 hx with hx | hx
    · exact h7.sx hx
    · have := mS_lt h7.a1 hx; have := (h7.ft xb h7.fx).1; omega
  have xr : xb ∉ R ++ mS m2 := fun hx => by
    rcases List.mem_append.1 hx with hx | hx
    · exact h7.rx hx
    · have := mS_lt h7.a2 hx; have := (h7.ft xb h7.fx).1; omega
  have ws : w.heap.size ∉ S ++ mS m1 := fun hx => by
    rcases List.mem_append.1 hx with hx | hx
    · have := (h7.ft _ (h7.fs _ hx)).2; omega
    · have := mS_lt h7.a1 hx; have := (h7.ft xb h7.fx); omega
  have wr' : w.heap.size ∉ R ++ mS m2 := fun hx => by
    rcases List.mem_append.1 hx with hx | hx
    · have := (h7.ft _ (h7.fr _ hx)).2; omega
    · have := mS_lt h7.a2 hx; have := (h7.ft xb h7.fx); omega
  have XX := Lib.hid (And.intro xs (And.intro xr (And.intro ws wr')))
  obtain ⟨WB, hWB⟩ : ∃ WB, w.alloc (.cells #[.int .i64 6, .int .i64 h, .int .i64 ky, .int .i64 v, .int .i64 n] 61) = WB := ⟨_, rfl⟩
  have kb : Keeps [] w WB := by rw [← hWB]; exact (Keeps.refl [] w).alloc _
  have bb : WB.heap[w.heap.size]? = some (.cells #[.int .i64 6, .int .i64 h, .int .i64 ky, .int .i64 v, .int .i64 n] 61 (0, 0)) := by rw [← hWB]; exact has_new _ _
  have hWB2 := Lib.hid hWB
  have p0 : WB.cell? ⟨w.heap.size, 0, none⟩ = some (.int .i64 6) := cell_has bb (i := 0) rfl
  have p1 : WB.cell? ⟨w.heap.size, 1, none⟩ = some (.int .i64 h) := cell_has bb (i := 1) rfl
  have p2 : WB.cell? ⟨w.heap.size, 2, none⟩ = some (.int .i64 ky) := cell_has bb (i := 2) rfl
  have p3 : WB.cell? ⟨w.heap.size, 3, none⟩ = some (.int .i64 v) := cell_has bb (i := 3) rfl
  have p4 : WB.cell? ⟨w.heap.size, 4, none⟩ = some (.int .i64 n) := cell_has bb (i := 4) rfl
  have y0 := kb.cell x0 (by simp)
  have y1 := kb.cell x1 (by simp)
  have KB := Lib.hid kb
  have BB := Lib.hid bb
  clear h1 h2 h3 h4 h5 h6 h7 xs xr ws wr' hWB kb bb x0 x1 hI
  go_enter Try.func28, Try.ntmps28
  go_upto_region 1 with (fail)
  rw [hWB2.out]
  go_wp2_with fail
  refine (copy_z t lo S m1 c T _ (H2.out.keeps KB.out (by simp)) (H4.out.keeps KB.out (by simp)) (HI.out.mono (by omega))).mono ?_
  rintro r w1 ⟨t2, S2, rfl, t1, e1, k1⟩
  have T1 := Lib.hid (And.intro t1 e1)
  have lx := H7.out.ft xb H7.out.fx
  have zz := KB.out.size
  have nx1 : xb ∉ mS m1 := fun hx => XX.out.1 (by simp [hx])
  have nx2 : xb ∉ mS m2 := fun hx => XX.out.2.1 (by simp [hx])
  have nb1 : w.heap.size ∉ mS m1 := fun hx => XX.out.2.2.1 (by simp [hx])
  have nb2 : w.heap.size ∉ mS m2 := fun hx => XX.out.2.2.2 (by simp [hx])
  have K1 := Lib.hid ((KB.out.mono (T := mS m1) (by simp)).trans k1)
  have b1 := k1.has (KB.out.has H1.out (by simp)) nx1
  have x0 : w1.cell? ⟨xb, 0, none⟩ = some (.pointer (some ⟨t, 0, none⟩)) := cell_has b1 (i := 0) rfl
  have x1 : w1.cell? ⟨xb, 1, none⟩ = some (.pointer (some ⟨tw, 0, none⟩)) := cell_has b1 (i := 1) rfl
  have f0 := free_of_has b1 0
  have u0 := k1.cell p0 nb1
  have B1 := Lib.hid b1
  have z1 := k1.size
  obtain ⟨w2, hw2⟩ : ∃ w2, w1.setCell ⟨xb, 0, none⟩ (.pointer (some ⟨t2, 0, none⟩)) = w2 := ⟨_, rfl⟩
  have k2 : Keeps [xb] w1 w2 := by rw [← hw2]; exact (Keeps.refl _ _).setCell (.inr (by simp)) _
  have b2 := has_setCell b1 0 (.pointer (some ⟨t2, 0, none⟩))
  rw [hw2] at b2
  have y1 : w2.cell? ⟨xb, 1, none⟩ = some (.pointer (some ⟨tw, 0, none⟩)) := cell_has b2 (i := 1) (by simp)
  have B2 := Lib.hid b2
  have K2 := Lib.hid k2
  have W2 := Lib.hid hw2
  have R2 := Lib.hid ((H3.out.keeps K1.out (fun x hx hq => by have := mS_lt H7.out.a1 hq; have := (H7.out.ft x (H7.out.fr x hx)).1; omega)).keeps k2 (fun x hx hq => by simp at hq; subst hq; exact H7.out.rx hx))
  have hmm : ∀ b, m2 = some b → b ∉ mS m1 := fun b hb hx => by
    cases m1 with
    | none => simp [mS] at hx
    | some b1 => simp [mS] at hx; subst hx; exact H7.out.am b rfl hb
  have C2 := Lib.hid ((H5.out.keeps K1.out hmm).keeps k2 (fun b hb hx => by simp at hx; subst hx; exact nx2 (by rw [hb]; simp [mS])))
  clear t1 e1 k1 b1 hw2 k2 b2 hmm
  go_upto_region 19 with (fail)
  rw [W2.out]
  go_wp2_with fail
  refine (rcopy_any tw lo R m2 c T _ R2.out C2.out (HI.out.mono (by omega))).mono ?_
  rintro r w3 ⟨t3, S3, rfl, t4, e4, k4⟩
  have b3 := k4.has B2.out nx2
  have x10 : w3.cell? ⟨xb, 1, none⟩ = some (.pointer (some ⟨tw, 0, none⟩)) := cell_has b3 (i := 1) (by simp)
  have f1 := free_of_has b3 1
  have f2 := free_of_has b3 2
  have z3 := k4.size
  have z2 := K2.out.size
  have x00 : w3.cell? ⟨xb, 0, none⟩ = some (.pointer (some ⟨t2, 0, none⟩)) := cell_has b3 (i := 0) (by simp)
  have x20 : w3.cell? ⟨xb, 2, none⟩ = some sp := cell_has b3 (i := 2) (by simp)
  have B3 := Lib.hid b3
  have T4 := Lib.hid (And.intro t4 (And.intro e4 k4))
  clear t4 e4 k4 b3 x0 x1 f0 u0 y1
  go_wp2_with fail
  go_ret
  obtain ⟨t1, e1⟩ := T1.out
  obtain ⟨t4, e4, k4⟩ := T4.out
  have b5 := has_setCell (has_setCell B3.out 1 (.pointer (some ⟨t3, 0, none⟩))) 2 (.pointer none)
  simp only [List.setIfInBounds_toArray, List.set_cons_zero, List.set_cons_succ] at b5
  have k5 : Keeps [xb] w3 ((w3.setCell ⟨xb, 1, none⟩ (.pointer (some ⟨t3, 0, none⟩))).setCell ⟨xb, 2, none⟩ (.pointer none)) := ((Keeps.refl _ _).setCell (.inr (by simp)) _).setCell (.inr (by simp)) _
  have z5 := k5.size
  have s2 := t1.foot
  have s3 := t4.foot
  have xS2 : xb ∉ S2 := fun hx => by have := (s2 _ hx).1; omega
  have xS3 : xb ∉ S3 := fun hx => by have := (s3 _ hx).1; omega
  have am1 : ∀ b, m1 = some b → b ∉ mS m2 := fun b hb hx => by
    cases m2 with
    | none => simp [mS] at hx
    | some b2 => simp [mS] at hx; subst hx; exact H7.out.am b hb rfl
  refine ⟨by simp, F ++ S2 ++ S3, c.tab, T.copy, none, ⟨t2, t3, S2, S3, .pointer none, kp, ?_, ?_, ?_, ?_, ?_, ?_, ?_⟩, (HI.out.copy (by omega)).mono (by omega), ?_, ?_⟩
  · exact b5
  · exact .inl <| (((t1.lower (lo := lo) (by omega)).keeps K2.out (fun x hx hq => by simp at hq; subst hq; exact xS2 hx)).keeps k4 (fun x hx hq => by have := (s2 x hx).1; have := mS_lt H7.out.a2 hq; omega)).keeps k5 (fun x hx hq => by simp at hq; subst hq; exact xS2 hx)
  · exact (t4.lower (lo := lo) (by omega)).keeps k5 (fun x hx hq => by simp at hq; subst hq; exact xS3 hx)
  · exact ((e1.keeps K2.out (fun b hb hx => by simp at hx; subst hx; exact nx1 (by rw [hb]; simp [mS]))).keeps k4 am1).keeps k5 (fun b hb hx => by simp at hx; subst hx; exact nx1 (by rw [hb]; simp [mS]))
  · exact e4.keeps k5 (fun b hb hx => by simp at hx; subst hx; exact nx2 (by rw [hb]; simp [mS]))
  · refine ⟨rfl, ?_⟩
    have h6 := H6.out
    cases so with
    | none => exact h6.2
    | some s => obtain ⟨sb, kb, g1, g2, _⟩ := h6; exact ⟨_, g2⟩
  · refine ⟨fun x hx hr => ?_, xS2, xS3, by simp [H7.out.fx], fun x hx => by simp [hx], fun x hx => by simp [hx], fun x hx => ?_, H7.out.a1, H7.out.a2, H7.out.am⟩
    · have := (s2 x hx).2; have := (s3 x hr).1; omega
    · simp only [List.mem_append] at hx
      rcases hx with (hx | hx) | hx
      · have := H7.out.ft x hx; exact ⟨this.1, by omega⟩
      · have := s2 x hx; exact ⟨by omega, by omega⟩
      · have := s3 x hx; exact ⟨by omega, by omega⟩
  · refine (((K1.out.mono (fun x hx => by simp [hx])).trans (K2.out.mono (fun x hx => by simp at hx; subst hx; simp [H7.out.fx]))).trans (k4.mono (fun x hx => by simp [hx]))).trans (k5.mono (fun x hx => by simp at hx; subst hx; simp [H7.out.fx]))
  · intro x hx
    simp only [List.mem_append] at hx
    rcases hx with (hx | hx) | hx
    · exact .inl hx
    · exact .inr (by have := (s2 x hx).1; omega)
    · exact .inr (by have := (s3 x hx).1; omega)
end Go.Proofs.Ytajcbghhpjpmhaa
