/- The document's row with a value more; the document's namespace turned private (chapter 10). -/
import Derived.Test.YtajmfenfajbakaaGreatRsB
namespace Go.Proofs.YtajmfenfajbakaaGreat
open Go.RowKit
set_option linter.unusedVariables false
set_option linter.unusedSimpArgs false

theorem rnew10_tab (m : Option Nat) (c : C4) (w : World) (hM : CtrAt m c w) : Calls Tryz.prog 50 #[mV m] w fun r w' => ∃ t S, r = .returned (.pointer (some ⟨t, 0, none⟩)) ∧ RTabAt t w.heap.size S m newT w' ∧ CtrAt m c.tab w' ∧ Keeps (mS m) w w' := by
  have HM := Lib.hid hM
  obtain ⟨p, hp⟩ : ∃ p : Option Addr, Hid (mV m = .pointer p) := ⟨_, Lib.hid rfl⟩
  rw [hp.out]
  have hm : ∀ b, m = some b → b < w.heap.size := fun b hb => lt_of_block (hM b hb)
  have HMM := Lib.hid hm
  clear hM hm
  go_enter Tryz.func50, Tryz.ntmps50
  go_wp2_with fail
  have ka : Keeps [] w (w.alloc (.cells #[.slice none 0 0, .int .i64 0, .slice none 0 0, .int .i64 0, .int .i64 0, .int .i64 0, .int .i64 0, .pointer p] 105)) := (Keeps.refl [] w).alloc _
  have ba : (w.alloc (.cells #[.slice none 0 0, .int .i64 0, .slice none 0 0, .int .i64 0, .int .i64 0, .int .i64 0, .int .i64 0, .pointer p] 105)).heap[w.heap.size]? = some (rtabO (.slice none 0 0) 0 (.slice none 0 0) (.int .i64 0) (.int .i64 0) (.int .i64 0) (.int .i64 0) (mV m)) := by rw [hp.out]; exact has_new _ _
  refine (rindex_any w.heap.size 3 8 3 rfl _ _ _ _ 0 _ 0 m c _ ba (HM.out.keeps ka (by simp)) (by omega) (by omega) rfl (by omega) (by omega) ⟨_, _, _, rfl⟩).mono ?_
  rintro r w1 ⟨rfl, q, h1, h2, h3, h4, h5⟩
  have H1 := Lib.hid h1
  have H2 := Lib.hid h2
  have H3 := Lib.hid h3
  have K := Lib.hid (show Keeps (mS m) w w1 from (ka.mono (by simp)).then h5 (fun x hx => by
    simp only [List.mem_cons] at hx
    rcases hx with rfl | hx
    · exact .inl (Nat.le_refl _)
    · exact .inr hx))
  simp only [World.size_alloc] at h4
  clear h1 h2 h3 h5 ka ba
  go_wp2_with fail
  go_ret
  refine ⟨w.heap.size, [w.heap.size, q], rfl, ⟨none, 0, q, ?_, EntRow.nil _ _, H2.out, by simp, by simp, by simp [blk], fun x hx => ?_⟩, H3.out, K.out⟩
  · exact H1.out
  · have l1 := lt_of_block H1.out
    have l2 := lt_of_block H2.out
    simp at hx
    rcases hx with rfl | rfl
    · exact ⟨Nat.le_refl _, l1⟩
    · exact ⟨by omega, l2⟩
/-- A count of the document's goes up. -/
theorem ctr_val {b : Nat} {c : C4} {W : World} (h : W.heap[b]? = some (ctr c)) : (W.setCell ⟨b, 2, none⟩ (.int .i64 (wrap64 (c.c + 1)))).heap[b]? = some (ctr c.val) := has_setCell h 2 _
theorem ctr_shf {b : Nat} {c : C4} {W : World} (h : W.heap[b]? = some (ctr c)) : (W.setCell ⟨b, 3, none⟩ (.int .i64 (wrap64 (c.d + 1)))).heap[b]? = some (ctr c.shf) := has_setCell h 3 _
def RBehP (fb sb t lo : Nat) (a : Option Addr) (ST S : List Nat) (m : Option Nat) (f : Fam) (vs : List Int) (v : Int) (ver : Nat) (c : C4) (w : World) (r : Ending) (w' : World) : Prop :=
  r = .returned (.tuple #[]) ∧ ∃ S', RAt10 fb sb t lo a ST S' m f (.row (vs ++ [v])) ver c.val w' ∧ Keeps (sb :: (S ++ mS m)) w w' ∧ Grew S w S'
set_option maxRecDepth 100000 in
set_option maxHeartbeats 4000000 in
theorem rbehind_any (fb sb t lo : Nat) (a : Option Addr) (ST S : List Nat) (m : Option Nat) (f : Fam) (vs : List Int) (v : Int) (ver : Nat) (c : C4) (w : World) (A : RAt10 fb sb t lo a ST S m f (.row vs) ver c w) (hl : vs.length ≤ 1000000) :
    Calls Tryz.prog 55 #[.pointer (some ⟨sb, 0, none⟩), .int .i64 v] w (RBehP fb sb t lo a ST S m f vs v ver c w) := by
  obtain ⟨ar, cr, hS, b1, v1⟩ := A.s
  subst hS
  have HA := Lib.hid A
  have HB := Lib.hid b1
  have hlo : lo ≤ w.heap.size := by have := A.ls; have := lt_of_block b1; omega
  have s1 : w.cell? ⟨sb, 1, none⟩ = some (.slice ar vs.length cr) := cell_has b1 (i := 1) rfl
  have sfr := free_of_has b1 1
  obtain ⟨g, cap, w2, run2, r2, k2, q2, l2⟩ := int_app10 lo ar cr vs.length (intL vs) v (w.alloc (.cells #[.int .i64 v] 3)) w.heap.size (v1.keeps ((Keeps.refl [] w).alloc _) (by simp)) (has_new _ _) hl (by simp; omega)
  have RUN2 := Lib.hid run2
  have k02 : Keeps (blk ar) w w2 := ((Keeps.refl (blk ar) w).alloc _).trans k2
  have b2 := k02.has b1 (fun hx => A.d2 hx)
  have sfr2 := free_of_has b2 1
  have s2c : w2.cell? ⟨sb, 1, none⟩ = some (.slice ar vs.length cr) := cell_has b2 (i := 1) rfl
  have off : ∀ z, lo ≤ z → z ∉ mS m := A.offm
  have kS : Keeps [sb] w2 (w2.setCell ⟨sb, 1, none⟩ (.slice (some ⟨g, 0, none⟩) (vs.length + 1) cap)) := (Keeps.refl _ _).setCell (.inr (by simp)) _
  have b3 : (w2.setCell ⟨sb, 1, none⟩ (.slice (some ⟨g, 0, none⟩) (vs.length + 1) cap)).heap[sb]? = some (rspO fb (.slice (some ⟨g, 0, none⟩) (vs.length + 1) cap) (.pointer none) (ver : Nat)) := has_setCell b2 1 _
  have hsg : sb ≠ g := fun e => by
    rcases q2 with h | h
    · exact A.d2 (e ▸ h)
    · have := lt_of_block b1; rw [World.size_alloc] at h; omega
  have v3 : ValRow 3 lo (some ⟨g, 0, none⟩) (vs.length + 1) cap (putV (intL vs) vs.length (.int .i64 v)) (w2.setCell ⟨sb, 1, none⟩ (.slice (some ⟨g, 0, none⟩) (vs.length + 1) cap)) := r2.keeps kS (fun z hz => by simp [blk] at hz; subst hz; simp; exact fun e => hsg e.symm)
  have kk : Keeps (sb :: blk ar) w (w2.setCell ⟨sb, 1, none⟩ (.slice (some ⟨g, 0, none⟩) (vs.length + 1) cap)) := (k02.mono (fun z hz => List.mem_cons_of_mem _ hz)).trans (kS.mono (by simp))
  have A3 : RAt10 fb sb t lo a ST [g] m f (.row (vs ++ [v])) ver c (w2.setCell ⟨sb, 1, none⟩ (.slice (some ⟨g, 0, none⟩) (vs.length + 1) cap)) := by
    refine ⟨A.F.keeps kk (fun z hz => A.d1 z hz), ⟨some ⟨g, 0, none⟩, cap, rfl, by rw [List.length_append]; exact b3, ?_⟩, A.M.keeps kk (fun b hb hy => ?_), fun z hz hy => ?_, by simpa using hsg, A.ls, A.hm⟩
    · rw [List.length_append]
      exact v3.congr (fun q hq => intL_push vs v q hq)
    · have h1 := A.hm b hb
      rcases List.mem_cons.1 hy with e | e
      · have := A.ls; omega
      · have := (v1.blk_lt b e).1; omega
    · rcases List.mem_cons.1 hy with e | e
      · exact A.d1 z hz (by simp [e])
      · simp at e
        rcases q2 with h | h
        · exact A.d1 z hz (by subst e; simp [h])
        · have := (A.F.foot z hz).2; rw [World.size_alloc] at h; omega
  have GR : Grew (blk ar) w [g] := fun z hz => by
    simp at hz; subst hz
    rcases q2 with h | h
    · exact .inl h
    · right; rw [World.size_alloc] at h; omega
  obtain ⟨n, hn⟩ := ex_hid vs.length
  rw [← hn.out] at s1 s2c RUN2 A3 kk
  have A4 := Lib.hid A3
  have KK := Lib.hid kk
  have GG := Lib.hid GR
  clear A b1 v1 run2 r2 k2 q2 l2 k02 b2 kS b3 v3 A3 kk GR hl hlo off
  cases m with
  | none =>
    obtain ⟨cN, h1, _⟩ := A4.out.F.b
    have B4 := Lib.hid h1
    obtain ⟨ar2, cr2, _, h2, _⟩ := A4.out.s
    have C4 := Lib.hid h2
    clear h1 h2
    go_enter Tryz.func55, Tryz.ntmps55
    go_upto_region 1 with (at_builtin; refine wpList_append_run rfl _ _ 60 rfl _ _ rfl rfl _ _ RUN2.out ?_)
    refine wp_gen (fun V => RAt10 fb sb t lo a ST [g] none f (.row (vs ++ [v])) ver c V ∧ Keeps (sb :: blk ar) w V) ⟨A4.out, KK.out⟩ ?_
    rintro w5 ⟨A5, k5⟩
    have A6 := Lib.hid A5
    have K6 := Lib.hid k5
    obtain ⟨cM, h1, _⟩ := A5.F.b
    obtain ⟨ar3, cr3, _, h2, _⟩ := A5.s
    have y0 : w5.cell? ⟨sb, 0, none⟩ = some (.pointer (some ⟨fb, 0, none⟩)) := cell_has h2 (i := 0) rfl
    have y4 : w5.cell? ⟨fb, 4, none⟩ = some (.pointer none) := cell_has h1 (i := 4) rfl
    clear A5 k5 h1 h2 s1 sfr sfr2 s2c
    go_wp2_with fail
    go_end0
    exact ⟨rfl, [g], ⟨A6.out.F, A6.out.s, CtrAt.nil _ _, A6.out.d1, A6.out.d2, A6.out.ls, A6.out.hm⟩, K6.out.mono (fun z hz => by simp at hz ⊢; rcases hz with h | h <;> simp [h]), GG.out⟩
  | some b =>
    go_enter Tryz.func55, Tryz.ntmps55
    go_upto_region 1 with (at_builtin; refine wpList_append_run rfl _ _ 60 rfl _ _ rfl rfl _ _ RUN2.out ?_)
    refine wp_gen (fun V => RAt10 fb sb t lo a ST [g] (some b) f (.row (vs ++ [v])) ver c V ∧ Keeps (sb :: blk ar) w V) ⟨A4.out, KK.out⟩ ?_
    rintro w5 ⟨A5, k5⟩
    have A6 := Lib.hid A5
    have K6 := Lib.hid k5
    obtain ⟨cM, h1, _⟩ := A5.F.b
    obtain ⟨ar3, cr3, _, h2, _⟩ := A5.s
    have y0 : w5.cell? ⟨sb, 0, none⟩ = some (.pointer (some ⟨fb, 0, none⟩)) := cell_has h2 (i := 0) rfl
    have y4 : w5.cell? ⟨fb, 4, none⟩ = some (.pointer (some ⟨b, 0, none⟩)) := cell_has h1 (i := 4) rfl
    have hb := A5.M b rfl
    have y5 : w5.cell? ⟨b, 2, none⟩ = some (.int .i64 c.c) := cell_has hb (i := 2) rfl
    have bfr := free_of_has hb 2
    have HB5 := Lib.hid hb
    clear A5 k5 h1 h2 s1 sfr sfr2 s2c hb
    go_wp2_with fail
    go_end0
    have km : Keeps (mS (some b)) w5 (w5.setCell ⟨b, 2, none⟩ (.int .i64 (wrap64 (c.c + 1)))) := (Keeps.refl _ _).setCell (.inr (by simp [mS])) _
    exact ⟨rfl, [g], A6.out.met km (fun b' hb' => by cases hb'; exact ctr_val HB5.out), (K6.out.mono (fun z hz => by simp at hz ⊢; rcases hz with h | h <;> simp [h])).trans (km.mono (fun z hz => by simp [hz])), GG.out⟩
end Go.Proofs.YtajmfenfajbakaaGreat
