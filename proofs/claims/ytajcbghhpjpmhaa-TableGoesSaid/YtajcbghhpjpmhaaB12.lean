/- The calls of a script on a table and on the document's: Seek (chapter 7). The calls of a script on a table and on the document's: Next, N times (chapter 7). Any call of a script on a table and on the document's; the document's New (chapter 7). -/
import Derived.Test.YtajcbghhpjpmhaaTwoDoes3
section
namespace Go.Proofs.Ytajcbghhpjpmhaa
open Go.RowKit
set_option linter.unusedVariables false
set_option linter.unusedSimpArgs false

set_option maxRecDepth 100000 in
set_option maxHeartbeats 4000000 in
theorem does_seek (xb lo k : Nat) (F : List Nat) (m1 m2 : Option Nat) (c : C4) (T : Tab) (so : Option Sk) (w : World) (H : TwoAt xb lo F m1 m2 c T so w) (hk : k ≤ 900) (hI : TInv k T) (h ky v n : Int) :
    Calls Try.prog 28 #[.pointer (some ⟨xb, 0, none⟩), .agg #[.int .i64 7, .int .i64 h, .int .i64 ky, .int .i64 v, .int .i64 n]] w (DoesP xb lo F m1 m2 k w) := by
  have HH := Lib.hid H
  obtain ⟨t, tw, S, R, sp, kp, h1, h2, h3, h4, h5, h6, h7⟩ := H
  have H1 := Lib.hid h1
  have H2 := Lib.hid h2
  have H3 := Lib.hid h3
  have H4 := Lib.hid h4
  have H5 := Lib.hid h5
  have H6 := Lib.hid h6
  have H7 := Lib.hid h7
  have HI := Lib.hid hI
  have hek := hI.ek
  have hl3 := hI.l3
  have hl12 := hI.l12
  have zx := lt_of_block h1
  have x0 : w.cell? ⟨xb, 0, none⟩ = some (.pointer (some ⟨t, 0, none⟩)) := cell_has h1 (i := 0) rfl
  have x1 : w.cell? ⟨xb, 1, none⟩ = some (.pointer (some ⟨tw, 0, none⟩)) := cell_has h1 (i := 1) rfl
  have xs : xb ∉ S ++ mS m1 := fun hx => by
    rcases List.mem_append.1 hx with hx | hx
    · exact h7.sx hx
    · have := mS_lt h7.a1 hx; have := (h7.ft xb h7.fx).1; omega
  have xr : xb ∉ R ++ mS m2 := fun hx => by
    rcases List.mem_append.1 hx with hx | hx
    · exact h7.rx hx
    · have := mS_lt h7.a2 hx; have := (h7.ft xb h7.fx).1; omega
  have ws : w.heap.size ∉ S ++ mS m1 := fun hx => by
    rcases List.mem_append.1 hx with hx | hx
    · have := (h7.ft _ (h7.fs _ hx)).2; omega
    · have := mS_lt h7.a1 hx; have := (h7.ft xb h7.fx); omega
  have wr' : w.heap.size ∉ R ++ mS m2 := fun hx => by
    rcases List.mem_append.1 hx with hx | hx
    · have := (h7.ft _ (h7.fr _ hx)).2; omega
    · have := mS_lt h7.a2 hx; have := (h7.ft xb h7.fx); omega
  have XX := Lib.hid (And.intro xs (And.intro xr (And.intro ws wr')))
  obtain ⟨WB, hWB⟩ : ∃ WB, w.alloc (.cells #[.int .i64 7, .int .i64 h, .int .i64 ky, .int .i64 v, .int .i64 n] 61) = WB := ⟨_, rfl⟩
  have kb : Keeps [] w WB := by rw [← hWB]; exact (Keeps.refl [] w).alloc _
  have bb : WB.heap[w.heap.size]? = some (.cells #[.int .i64 7, .int .i64 h, .int .i64 ky, .int .i64 v, .int .i64 n] 61 (0, 0)) := by rw [← hWB]; exact has_new _ _
  have hWB2 := Lib.hid hWB
  have p0 : WB.cell? ⟨w.heap.size, 0, none⟩ = some (.int .i64 7) := cell_has bb (i := 0) rfl
  have p1 : WB.cell? ⟨w.heap.size, 1, none⟩ = some (.int .i64 h) := cell_has bb (i := 1) rfl
  have p2 : WB.cell? ⟨w.heap.size, 2, none⟩ = some (.int .i64 ky) := cell_has bb (i := 2) rfl
  have p3 : WB.cell? ⟨w.heap.size, 3, none⟩ = some (.int .i64 v) := cell_has bb (i := 3) rfl
  have p4 : WB.cell? ⟨w.heap.size, 4, none⟩ = some (.int .i64 n) := cell_has bb (i := 4) rfl
  have y0 := kb.cell x0 (by simp)
  have y1 := kb.cell x1 (by simp)
  have KB := Lib.hid kb
  have BB := Lib.hid bb
  clear h1 h2 h3 h4 h5 h6 h7 xs xr ws wr' hWB kb bb x0 x1 hI
  go_enter Try.func28, Try.ntmps28
  go_upto_region 1 with (fail)
  rw [hWB2.out]
  go_wp2_with fail
  have y2 : WB.cell? ⟨xb, 2, none⟩ = some sp := cell_has (KB.out.has H1.out (by simp)) (i := 2) rfl
  have f2 := free_of_has (KB.out.has H1.out (by simp)) 2
  have nxS : xb ∉ S := fun hx => XX.out.1 (by simp [hx])
  have nbS : w.heap.size ∉ S := fun hx => XX.out.2.2.1 (by simp [hx])
  go_region_held3 (fun w' => w'.cell? ⟨xb, 0, none⟩ = some (.pointer (some ⟨t, 0, none⟩)) ∧ w'.cell? ⟨w.heap.size, 1, none⟩ = some (.int .i64 h)) (go_keep)
    (first
      | (go_at_call 21; refine (seek_z t lo S m1 T _ (H2.out.keeps KB.out.drew (by simp)) (by omega) h).mono ?_; rintro r w1 ⟨sb, S1, rfl, sk, zs, k1, t1, gr1, sx1⟩; have K1 := Lib.hid ((KB.out.drew.mono (T := S) (by simp)).trans k1); have SK := Lib.hid sk; have T1 := Lib.hid (And.intro t1 (And.intro gr1 sx1)); have r0 := k1.cell (w := WB.drew) y0 nxS; have r1 := k1.cell (w := WB.drew) p1 nbS; have r2 := k1.cell (w := WB.drew) y2 nxS; have g2 := free_of_has (K1.out.has H1.out nxS) 2; have B1 := Lib.hid (K1.out.has H1.out nxS); have ZS := Lib.hid zs; have n0 : (w1.setCell ⟨xb, 2, none⟩ (.pointer (some ⟨sb, 0, none⟩))).cell? ⟨xb, 0, none⟩ = some (.pointer (some ⟨t, 0, none⟩)) := cell_has (has_setCell B1.out 2 _) (i := 0) (by simp); have n1 : (w1.setCell ⟨xb, 2, none⟩ (.pointer (some ⟨sb, 0, none⟩))).cell? ⟨w.heap.size, 1, none⟩ = some (.int .i64 h) := ((Keeps.refl [xb] w1).setCell (.inr (by simp)) _).cell r1 (by simp; omega); clear k1 sk zs t1 gr1 sx1))
  go_upto_region 24 with (fail)
  refine wp_gen (fun W => W.heap[xb]? = some (twoO t tw (.pointer (some ⟨sb, 0, none⟩)) kp) ∧ Keeps [xb] w1 W) ?_ ?_
  · first
      | exact ⟨has_drew (has_setCell B1.out 2 _), ((Keeps.refl _ _).setCell (.inr (by simp)) _).drew⟩
      | exact ⟨has_setCell B1.out 2 _, (Keeps.refl _ _).setCell (.inr (by simp)) _⟩
  rintro W ⟨bW, kW⟩
  have lx := H7.out.ft xb H7.out.fx
  have KW := Lib.hid (show Keeps (xb :: S) w W from (K1.out.mono (fun x hx => by simp [hx])).trans (kW.mono (by simp)))
  have GS : Hid (Grew S w S1 ∧ ∀ x, x ∈ S1 → x < sb) := Lib.hid ⟨fun x hx => by
    rcases T1.out.2.1 x hx with q | q
    · exact .inl q
    · have := KB.out.size; exact .inr (by simp at q; omega), T1.out.2.2⟩
  have nxS1 : xb ∉ S1 := fun hx => by
    rcases GS.out.1 _ hx with q | q
    · exact nxS q
    · omega
  have TW := Lib.hid (T1.out.1.keeps kW (fun x hx hq => by simp at hq; subst hq; exact nxS1 hx))
  have BW := Lib.hid bW
  have zs1 : w.heap.size ≤ sb := by have := ZS.out; have := KB.out.size; simp at *; omega
  have zsl : sb < w1.heap.size := by obtain ⟨c9, p9, h9, _⟩ := SK.out; exact lt_of_block h9
  have SKW := Lib.hid (SK.out.keeps kW (by simp; omega))
  have x1 : W.cell? ⟨xb, 1, none⟩ = some (.pointer (some ⟨tw, 0, none⟩)) := cell_has bW (i := 1) rfl
  have x2 : W.cell? ⟨xb, 2, none⟩ = some (.pointer (some ⟨sb, 0, none⟩)) := cell_has bW (i := 2) rfl
  have x3 : W.cell? ⟨xb, 3, none⟩ = some kp := cell_has bW (i := 3) rfl
  have h3 := free_of_has bW 3
  have q1 : W.cell? ⟨w.heap.size, 1, none⟩ = some (.int .i64 h) := kW.cell r1 (by simp; omega)
  have RW := Lib.hid (H3.out.keeps KW.out (fun x hx hq => by
    simp only [List.mem_cons] at hq
    rcases hq with rfl | hq
    · exact H7.out.rx hx
    · exact H7.out.sr x hq hx))
  have zW := kW.size
  clear r0 r1 r2 g2 y0 y1 y2 f2 p0 p1 p2 p3 p4 bW kW
  go_region_held3 (fun w' => w'.cell? ⟨xb, 1, none⟩ = some (.pointer (some ⟨tw, 0, none⟩)) ∧ w'.cell? ⟨w.heap.size, 1, none⟩ = some (.int .i64 h)) (go_keep)
    (first
      | (go_at_call 63; refine (rseek_any tw lo R m2 T _ (RW.out.keeps (Keeps.refl [] W).drew (by simp)) (by omega) h).mono ?_; rintro r w2 ⟨kb, rfl, rk, zk, k2⟩; have K2 := Lib.hid (((Keeps.refl [] W).drew).trans k2); have RK := Lib.hid rk; have s1 := k2.cell (w := W.drew) x1 (by simp); have s2 := k2.cell (w := W.drew) q1 (by simp); have s3 := k2.cell (w := W.drew) x3 (by simp); have s4 := k2.cell (w := W.drew) x2 (by simp); have j3 := free_of_has (K2.out.has BW.out (by simp)) 3; have B2 := Lib.hid (K2.out.has BW.out (by simp)); have ZK := Lib.hid zk; have n0 : (w2.setCell ⟨xb, 3, none⟩ (.pointer (some ⟨kb, 0, none⟩))).cell? ⟨xb, 1, none⟩ = some (.pointer (some ⟨tw, 0, none⟩)) := cell_has (has_setCell B2.out 3 _) (i := 1) (by simp); have n1 : (w2.setCell ⟨xb, 3, none⟩ (.pointer (some ⟨kb, 0, none⟩))).cell? ⟨w.heap.size, 1, none⟩ = some (.int .i64 h) := ((Keeps.refl [xb] w2).setCell (.inr (by simp)) _).cell s2 (by simp; omega); clear k2 rk zk))
  go_upto_region 25 with (fail)
  refine wp_gen (fun V => V.heap[xb]? = some (twoO t tw (.pointer (some ⟨sb, 0, none⟩)) (.pointer (some ⟨kb, 0, none⟩))) ∧ Keeps [xb] w2 V) ?_ ?_
  · first
      | exact ⟨has_drew (has_setCell B2.out 3 _), ((Keeps.refl _ _).setCell (.inr (by simp)) _).drew⟩
      | exact ⟨has_setCell B2.out 3 _, (Keeps.refl _ _).setCell (.inr (by simp)) _⟩
  rintro V ⟨bV, kV⟩
  have KV := Lib.hid (show Keeps (xb :: S) w V from (KW.out.trans (K2.out.mono (by simp))).trans (kV.mono (by simp)))
  have TV := Lib.hid ((TW.out.keeps K2.out (by simp)).keeps kV (fun x hx hq => by simp at hq; subst hq; exact nxS1 hx))
  have BV := Lib.hid bV
  have v2 : V.cell? ⟨xb, 2, none⟩ = some (.pointer (some ⟨sb, 0, none⟩)) := cell_has bV (i := 2) rfl
  have zk1 : W.heap.size ≤ kb := by have := ZK.out; simp at this; exact this
  have zkl : kb < w2.heap.size := by obtain ⟨c9, p9, h9, _⟩ := RK.out; exact lt_of_block h9
  have RKV := Lib.hid (RK.out.keeps kV (by simp; omega))
  have SKV := Lib.hid ((SKW.out.keeps K2.out (by simp)).keeps kV (by simp; omega))
  have zV := kV.size
  clear s1 s2 s3 s4 j3 x1 x2 x3 h3 q1 bV kV
  go_wp2_with fail
  go_ret
  have fS : ∀ x, x ∈ S → x < w.heap.size := fun x hx => (H7.out.ft x (H7.out.fs x hx)).2
  have fR : ∀ x, x ∈ R → x < w.heap.size := fun x hx => (H7.out.ft x (H7.out.fr x hx)).2
  have z2 := K2.out.size
  have z1 := K1.out.size
  have mx : ∀ b, b < lo → b ∉ xb :: S := fun b hb hx => by
    simp only [List.mem_cons] at hx
    rcases hx with rfl | hx
    · omega
    · have := (H7.out.ft b (H7.out.fs b hx)).1; omega
  have fS1 : ∀ x, x ∈ S1 → lo ≤ x ∧ x < sb := fun x hx => ⟨(TV.out.foot x hx).1, GS.out.2 x hx⟩
  refine ⟨by simp, sb :: kb :: (F ++ S1), c, T, some (T.seek h), ⟨t, tw, S1, R, _, _, BV.out, .inl TV.out, H3.out.keeps KV.out (fun x hx hq => by
    simp only [List.mem_cons] at hq
    rcases hq with rfl | hq
    · exact H7.out.rx hx
    · exact H7.out.sr x hq hx), H4.out.keeps KV.out (fun b hb => mx b (H7.out.a1 b hb)), H5.out.keeps KV.out (fun b hb => mx b (H7.out.a2 b hb)), ⟨sb, kb, rfl, rfl, SKV.out, RKV.out, SkOk.seek HI.out h, fun q => ?_, fun q => ?_, fun q => ?_, fun q => ?_, by omega, by omega, by omega, by simp, by simp⟩, ?_⟩, HI.out.mono (by omega), KV.out.mono (fun x hx => ?_), fun x hx => ?_⟩
  · have := (fS1 sb q).2; omega
  · have := fR sb q; omega
  · have := (fS1 kb q).2; omega
  · have := fR kb q; omega
  · refine ⟨fun x hx hr => ?_, nxS1, H7.out.rx, by simp [H7.out.fx], fun x hx => by simp [hx], fun x hx => by simp [H7.out.fr x hx], fun x hx => ?_, H7.out.a1, H7.out.a2, H7.out.am⟩
    · rcases GS.out.1 x hx with q | q
      · exact H7.out.sr x q hr
      · have := fR x hr; omega
    · simp only [List.mem_cons, List.mem_append] at hx
      rcases hx with rfl | rfl | hx | hx
      · exact ⟨by omega, by omega⟩
      · exact ⟨by omega, by omega⟩
      · have := H7.out.ft x hx; exact ⟨this.1, by omega⟩
      · have := fS1 x hx; exact ⟨this.1, by omega⟩
  · simp only [List.mem_cons] at hx
    rcases hx with rfl | hx
    · simp [H7.out.fx]
    · simp [H7.out.fs x hx]
  · simp only [List.mem_cons, List.mem_append] at hx
    rcases hx with rfl | rfl | hx | hx
    · exact .inr (by omega)
    · exact .inr (by omega)
    · exact .inl hx
    · exact (GS.out.1 x hx).imp (H7.out.fs x) id
end Go.Proofs.Ytajcbghhpjpmhaa
end

section
namespace Go.Proofs.Ytajcbghhpjpmhaa
open Go.RowKit
set_option linter.unusedVariables false
set_option linter.unusedSimpArgs false

/-- In the midst of the Nexts. -/
def NxtI (t tw sb kb : Nat) (m1 m2 : Option Nat) (T : Tab) (s : Sk) (c : C4) (w wr : World) : Prop := SkAt sb t s wr ∧ RSkAt kb tw s wr ∧ SkOk T s ∧ MtrAt m1 c wr ∧ CtrAt m2 c wr ∧ Keeps (sb :: kb :: (mS m1 ++ mS m2)) w wr
set_option maxRecDepth 100000 in
set_option maxHeartbeats 4000000 in
theorem does_next (xb lo k : Nat) (F : List Nat) (m1 m2 : Option Nat) (c : C4) (T : Tab) (so : Option Sk) (w : World) (H : TwoAt xb lo F m1 m2 c T so w) (hk : k ≤ 900) (hI : TInv k T) (h ky v n : Int) :
    Calls Try.prog 28 #[.pointer (some ⟨xb, 0, none⟩), .agg #[.int .i64 8, .int .i64 h, .int .i64 ky, .int .i64 v, .int .i64 n]] w (DoesP xb lo F m1 m2 k w) := by
  have HH := Lib.hid H
  obtain ⟨t, tw, S, R, sp, kp, h1, h2, h3, h4, h5, h6, h7⟩ := H
  have H1 := Lib.hid h1
  have H2 := Lib.hid h2
  have H3 := Lib.hid h3
  have H4 := Lib.hid h4
  have H5 := Lib.hid h5
  have H6 := Lib.hid h6
  have H7 := Lib.hid h7
  have HI := Lib.hid hI
  have hek := hI.ek
  have hl3 := hI.l3
  have hl12 := hI.l12
  have zx := lt_of_block h1
  have x0 : w.cell? ⟨xb, 0, none⟩ = some (.pointer (some ⟨t, 0, none⟩)) := cell_has h1 (i := 0) rfl
  have x1 : w.cell? ⟨xb, 1, none⟩ = some (.pointer (some ⟨tw, 0, none⟩)) := cell_has h1 (i := 1) rfl
  have xs : xb ∉ S ++ mS m1 := fun hx => by
    rcases List.mem_append.1 hx with hx | hx
    · exact h7.sx hx
    · have := mS_lt h7.a1 hx; have := (h7.ft xb h7.fx).1; omega
  have xr : xb ∉ R ++ mS m2 := fun hx => by
    rcases List.mem_append.1 hx with hx | hx
    · exact h7.rx hx
    · have := mS_lt h7.a2 hx; have := (h7.ft xb h7.fx).1; omega
  have ws : w.heap.size ∉ S ++ mS m1 := fun hx => by
    rcases List.mem_append.1 hx with hx | hx
    · have := (h7.ft _ (h7.fs _ hx)).2; omega
    · have := mS_lt h7.a1 hx; have := (h7.ft xb h7.fx); omega
  have wr' : w.heap.size ∉ R ++ mS m2 := fun hx => by
    rcases List.mem_append.1 hx with hx | hx
    · have := (h7.ft _ (h7.fr _ hx)).2; omega
    · have := mS_lt h7.a2 hx; have := (h7.ft xb h7.fx); omega
  have XX := Lib.hid (And.intro xs (And.intro xr (And.intro ws wr')))
  obtain ⟨WB, hWB⟩ : ∃ WB, w.alloc (.cells #[.int .i64 8, .int .i64 h, .int .i64 ky, .int .i64 v, .int .i64 n] 61) = WB := ⟨_, rfl⟩
  have kb : Keeps [] w WB := by rw [← hWB]; exact (Keeps.refl [] w).alloc _
  have bb : WB.heap[w.heap.size]? = some (.cells #[.int .i64 8, .int .i64 h, .int .i64 ky, .int .i64 v, .int .i64 n] 61 (0, 0)) := by rw [← hWB]; exact has_new _ _
  have hWB2 := Lib.hid hWB
  have p0 : WB.cell? ⟨w.heap.size, 0, none⟩ = some (.int .i64 8) := cell_has bb (i := 0) rfl
  have p1 : WB.cell? ⟨w.heap.size, 1, none⟩ = some (.int .i64 h) := cell_has bb (i := 1) rfl
  have p2 : WB.cell? ⟨w.heap.size, 2, none⟩ = some (.int .i64 ky) := cell_has bb (i := 2) rfl
  have p3 : WB.cell? ⟨w.heap.size, 3, none⟩ = some (.int .i64 v) := cell_has bb (i := 3) rfl
  have p4 : WB.cell? ⟨w.heap.size, 4, none⟩ = some (.int .i64 n) := cell_has bb (i := 4) rfl
  have y0 := kb.cell x0 (by simp)
  have y1 := kb.cell x1 (by simp)
  have KB := Lib.hid kb
  have BB := Lib.hid bb
  clear h1 h2 h3 h4 h5 h6 h7 xs xr ws wr' hWB kb bb x0 x1 hI
  have y2 : WB.cell? ⟨xb, 2, none⟩ = some sp := cell_has (KB.out.has H1.out (by simp)) (i := 2) rfl
  have y3 : WB.cell? ⟨xb, 3, none⟩ = some kp := cell_has (KB.out.has H1.out (by simp)) (i := 3) rfl
  cases so with
  | none =>
    obtain ⟨hsp, _⟩ := H6.out
    rw [hsp] at y2
    by_cases hn0 : 0 < n
    · have hd : decide (0 < n) = true := by simpa using hn0
      go_enter Try.func28, Try.ntmps28
      go_upto_region 1 with (fail)
      rw [hWB2.out]
      go_wp2_with fail
      go_loopw [13] (fun x wr => x = .int .i64 0 ∧ WB = wr) (fun _ _ => 0)
      case atStart => exact ⟨rfl, rfl⟩
      case round =>
        obtain ⟨rfl, rfl⟩ := hrel
        go_wp2_with fail
        go_ret
        exact ⟨rfl, F, c, T, none, HH.out.keeps KB.out (by simp), HI.out.mono (by omega), KB.out.mono (by simp), Grew.refl _ _⟩
    · have hd : decide (0 < n) = false := by simpa using hn0
      go_enter Try.func28, Try.ntmps28
      go_upto_region 1 with (fail)
      rw [hWB2.out]
      go_wp2_with fail
      go_loopw [13] (fun x wr => x = .int .i64 0 ∧ WB = wr) (fun _ _ => 0)
      case atStart => exact ⟨rfl, rfl⟩
      case round =>
        obtain ⟨rfl, rfl⟩ := hrel
        go_wp2_with fail
        go_ret
        exact ⟨rfl, F, c, T, none, HH.out.keeps KB.out (by simp), HI.out.mono (by omega), KB.out.mono (by simp), Grew.refl _ _⟩
  | some s =>
    obtain ⟨sb, kb, hsp, hkp, g3, g4, g5, g6, g7, g8, g9, g10, g11, g12, g13, g14⟩ := H6.out
    subst hsp
    subst hkp
    have zsb := H7.out.ft sb g13
    have zkb := H7.out.ft kb g14
    have off : ∀ x, x ∈ S ∨ x ∈ R ∨ x = xb ∨ x = w.heap.size → x ∉ sb :: kb :: (mS m1 ++ mS m2) := fun x hx hq => by
      have lx : lo ≤ x := by
        have l9 := H7.out.ft xb H7.out.fx
        rcases hx with h9 | h9 | rfl | rfl
        · exact (H7.out.ft x (H7.out.fs x h9)).1
        · exact (H7.out.ft x (H7.out.fr x h9)).1
        · exact l9.1
        · omega
      simp only [List.mem_cons, List.mem_append] at hq
      rcases hq with rfl | rfl | hq | hq
      · rcases hx with h9 | h9 | rfl | rfl
        · exact g6 h9
        · exact g7 h9
        · exact g11 rfl
        · omega
      · rcases hx with h9 | h9 | rfl | rfl
        · exact g8 h9
        · exact g9 h9
        · exact g12 rfl
        · omega
      · have := mS_lt H7.out.a1 hq; omega
      · have := mS_lt H7.out.a2 hq; omega
    have OFF := Lib.hid off
    have GG := Lib.hid (And.intro g6 (And.intro g7 (And.intro g8 (And.intro g9 (And.intro g10 (And.intro g11 (And.intro g12 (And.intro g13 g14))))))))
    have ST := Lib.hid (show NxtI t tw sb kb m1 m2 T s c WB WB from ⟨g3.keeps KB.out (by simp), g4.keeps KB.out (by simp), g5, H4.out.keeps KB.out (by simp), H5.out.keeps KB.out (by simp), Keeps.refl _ _⟩)
    clear g3 g4 g5 g6 g7 g8 g9 g10 g11 g12 g13 g14 off
    go_enter Try.func28, Try.ntmps28
    go_upto_region 1 with (fail)
    rw [hWB2.out]
    go_wp2_with fail
    go_loopw [13] (fun x wr => ∃ (i : Nat) (s : Sk) (c : C4), i ≤ 16 ∧ x = .int .i64 i ∧ NxtI t tw sb kb m1 m2 T s c WB wr) (fun x _ => 16 - (intOf x).toNat)
    case atStart => exact ⟨0, s, c, by omega, rfl, ST.out⟩
    case round =>
      obtain ⟨i, s, c, hi, rfl, a1, a2, a3, a4, a5, a6⟩ := hrel
      have hi0 : (0 : Int) ≤ (i : Int) := by omega
      have x2 := a6.cell y2 (OFF.out _ (.inr (.inr (.inl rfl))))
      have x3 := a6.cell y3 (OFF.out _ (.inr (.inr (.inl rfl))))
      have q4 := a6.cell p4 (OFF.out _ (.inr (.inr (.inr rfl))))
      have A1 := Lib.hid a1
      have A2 := Lib.hid a2
      have A3 := Lib.hid a3
      have A4 := Lib.hid a4
      have A5 := Lib.hid a5
      have A6 := Lib.hid a6
      clear a1 a2 a3 a4 a5 a6
      by_cases hgo : (i : Int) < n ∧ i < 16
      · have d1 : decide ((i : Int) < n) = true := by simpa using hgo.1
        have hlt1 : (i : Int) < n := hgo.1
        have hlt2 : (i : Int) < 16 := by omega
        have hlt3 : i < 16 := hgo.2
        clear hgo
        go_wp2_with fail
        refine (next_any k (by omega) sb t lo S m1 c T s _ ((H2.out.begun (by simp)).keeps (KB.out.trans (Keeps.refl [] _)) (by simp) |>.keeps A6.out (fun x hx => OFF.out x (.inl hx))) A4.out H7.out.a1 HI.out A1.out GG.out.1 A3.out).mono ?_
        rintro r w1 ⟨rfl, b1, b2, b3⟩
        obtain ⟨a0, ha0⟩ : ∃ a0, Hid (a0 = (T.next s).says) := ⟨_, Lib.hid rfl⟩
        obtain ⟨b0, hb0⟩ : ∃ b0, Hid (b0 = !(T.next s).over) := ⟨_, Lib.hid rfl⟩
        rw [← ha0.out, ← hb0.out]
        have B1 := Lib.hid b1
        have B2 := Lib.hid b2
        have B3 := Lib.hid b3
        have hkb1 : kb ∉ sb :: mS m1 := fun hx => by
          simp only [List.mem_cons] at hx
          rcases hx with rfl | hx
          · exact GG.out.2.2.2.2.1 rfl
          · have := mS_lt H7.out.a1 hx; omega
        have C6 := Lib.hid (A6.out.trans (b3.mono (fun x hx => by simp only [List.mem_cons] at hx; rcases hx with rfl | hx <;> simp [*])))
        have x3' := C6.out.cell y3 (OFF.out _ (.inr (.inr (.inl rfl))))
        have A2' := Lib.hid (A2.out.keeps b3 hkb1)
        have A5' := Lib.hid (A5.out.keeps b3 (fun b hb hx => by
          simp only [List.mem_cons] at hx
          rcases hx with rfl | hx
          · have := H7.out.a2 _ hb; omega
          · cases m1 with
            | none => simp [mS] at hx
            | some b9 => simp [mS] at hx; subst hx; exact H7.out.am b rfl hb))
        clear b1 b2 b3 x3
        go_wp2_with fail
        refine (rnexts_any k (by omega) kb tw lo R m2 c T s _ (H3.out.keeps KB.out (by simp) |>.keeps C6.out (fun x hx => OFF.out x (.inr (.inl hx)))) A5'.out H7.out.a2 HI.out A2'.out GG.out.2.2.2.1 A3.out).mono ?_
        rintro r w2 ⟨rfl, e1, e2, e3⟩
        rw [← ha0.out, ← hb0.out]
        have E2 := Lib.hid e2
        have hsb2 : sb ∉ kb :: mS m2 := fun hx => by
          simp only [List.mem_cons] at hx
          rcases hx with rfl | hx
          · exact GG.out.2.2.2.2.1 rfl
          · have := mS_lt H7.out.a2 hx; omega
        have D6 := Lib.hid (C6.out.trans (e3.mono (fun x hx => by simp only [List.mem_cons] at hx; rcases hx with rfl | hx <;> simp [*])))
        have SK2 := Lib.hid (B1.out.keeps e3 hsb2)
        have RK2 := Lib.hid e1
        have M2 := Lib.hid (B2.out.keeps e3 (fun b hb hx => by
          simp only [List.mem_cons] at hx
          rcases hx with rfl | hx
          · have := H7.out.a1 _ hb; omega
          · cases m2 with
            | none => simp [mS] at hx
            | some b9 => simp [mS] at hx; subst hx; exact H7.out.am b hb rfl))
        have z2 := D6.out.cell y2 (OFF.out _ (.inr (.inr (.inl rfl))))
        have z3 := D6.out.cell y3 (OFF.out _ (.inr (.inr (.inl rfl))))
        obtain ⟨v0, hv0⟩ : ∃ v0, Hid (v0 = (T.next s).vis) := ⟨_, Lib.hid rfl⟩
        have z6 : w2.cell? ⟨kb, 6, none⟩ = some (.int .i64 v0) := by
          obtain ⟨c9, p9, h9, _⟩ := e1
          rw [hv0.out]
          exact cell_has h9 (i := 6) rfl
        have na : (a0 != a0) = false := by simp
        have nb : (b0 != b0) = false := by simp
        have nv : ((v0 : Int) != (v0 : Int)) = false := by simp
        clear e1 e2 e3 x2 x3' q4
        go_wp2_with fail
        go_region_held3 (fun w' => w'.cell? ⟨xb, 2, none⟩ = some (.pointer (some ⟨sb, 0, none⟩)) ∧ w'.cell? ⟨xb, 3, none⟩ = some (.pointer (some ⟨kb, 0, none⟩)) ∧ w'.cell? ⟨kb, 6, none⟩ = some (.int .i64 v0)) (go_keep)
          (first
            | (go_at_call 24; refine (visited_any sb t (T.next s) _ (SK2.out.keeps (Keeps.refl [] w2).drew (by simp))).mono ?_; rintro r w9 ⟨rfl, rfl⟩; rw [← hv0.out]))
        go_wp2_with fail
        go_roundw
        case rel => exact ⟨i + 1, T.next s, c.visN (T.walks s), by omega, by go_num, SK2.out.keeps (Keeps.refl [] w2).drew (by simp), RK2.out.keeps (Keeps.refl [] w2).drew (by simp), SkOk.next HI.out A3.out, M2.out.keeps (Keeps.refl [] w2).drew (by simp), E2.out.keeps (Keeps.refl [] w2).drew (by simp), D6.out.drew⟩
        case measure => simp [intOf]; omega
      · have fin : DoesP xb lo F m1 m2 k w (.returned (.bool true)) wr := by
          refine ⟨rfl, F, c, T, some s, ⟨t, tw, S, R, _, _, A6.out.has (KB.out.has H1.out (by simp)) (OFF.out _ (.inr (.inr (.inl rfl)))), ((H2.out.keeps KB.out (by simp)).keeps A6.out (fun x hx => OFF.out x (.inl hx))).mono (by simp), (H3.out.keeps KB.out (by simp)).keeps A6.out (fun x hx => OFF.out x (.inr (.inl hx))), A4.out, A5.out, ⟨sb, kb, rfl, rfl, A1.out, A2.out, A3.out, GG.out⟩, H7.out.mono (by have := KB.out.size; have := A6.out.size; omega)⟩, HI.out.mono (by omega), ?_, Grew.refl _ _⟩
          refine (KB.out.mono (by simp)).trans (A6.out.mono (fun x hx => ?_))
          simp only [List.mem_cons, List.mem_append] at hx ⊢
          rcases hx with rfl | rfl | hx | hx
          · exact .inl (.inl GG.out.2.2.2.2.2.2.2.1)
          · exact .inl (.inl GG.out.2.2.2.2.2.2.2.2)
          · exact .inl (.inr hx)
          · exact .inr hx
        have FIN := Lib.hid fin
        clear fin
        by_cases h1 : (i : Int) < n
        · have d1 : decide ((i : Int) < n) = true := by simpa using h1
          have d2 : ¬ (i : Int) < 16 := by omega
          have d3 : ¬ i < 16 := by omega
          clear hgo
          go_wp2_with fail
          go_ret
          exact FIN.out
        · have d1 : decide ((i : Int) < n) = false := by simpa using h1
          clear hgo
          go_wp2_with fail
          go_ret
          exact FIN.out
end Go.Proofs.Ytajcbghhpjpmhaa
end

section
namespace Go
section
variable {P : Program} {ops : Array Oper} {Q : Exit → Act → World → Prop} {md : Region.Mode} {F : World → Prop} {s : Nat}
theorem getD_stays {l : Array Bool} {i s : Nat} (h : l.getD s false = true) : (l.setIfInBounds i true).getD s false = true := by
  by_cases e : i = s
  · subst e
    have hs : i < l.size := by
      rcases Nat.lt_or_ge i l.size with h' | h'
      · exact h'
      · simp [Array.getD, Nat.not_lt.2 h'] at h
    simp [Array.getD, hs]
  · rw [getD_set_ne false e]; exact h
/-- Behind the operation that F was held for, nothing more is held. -/
theorem wpAnyG_of_any : ∀ (fuel : Nat) (listed : Array Bool) (a : Act) (w : World), listed.getD s false = true → wpAny P md ops Q fuel listed a w → wpAnyG P md ops Q F s fuel listed a w
  | 0, _, _, _, _, h => h
  | fuel + 1, listed, a, w, hu, h => ⟨h.1, fun i hi => wpOp_mono (fun a' w' h' => ⟨(fun h9 => by rw [getD_stays hu] at h9; cases h9), wpAnyG_of_any fuel _ a' w' (getD_stays hu) h'⟩) (h.2 i hi)⟩
end
end Go
namespace Go.Proofs.Ytajcbghhpjpmhaa
open Go.RowKit
set_option linter.unusedVariables false
set_option linter.unusedSimpArgs false

theorem does_any (xb lo k : Nat) (F : List Nat) (m1 m2 : Option Nat) (c : C4) (T : Tab) (so : Option Sk) (w : World) (H : TwoAt xb lo F m1 m2 c T so w) (hk : k ≤ 900) (hI : TInv k T) (x h ky v n : Int) :
    Calls Try.prog 28 #[.pointer (some ⟨xb, 0, none⟩), .agg #[.int .i64 x, .int .i64 h, .int .i64 ky, .int .i64 v, .int .i64 n]] w (DoesP xb lo F m1 m2 k w) := by
  by_cases h1 : x = 1
  · subst h1; exact does_add xb lo k F m1 m2 c T so w H hk hI h ky v n
  by_cases h2 : x = 2
  · subst h2; exact does_put xb lo k F m1 m2 c T so w H hk hI h ky v n
  by_cases h3 : x = 3
  · subst h3; exact does_kill xb lo k F m1 m2 c T so w H hk hI h ky v n
  by_cases h4 : x = 4
  · subst h4; exact does_at xb lo k F m1 m2 c T so w H hk hI h ky v n
  by_cases h5 : x = 5
  · subst h5; exact does_clear xb lo k F m1 m2 c T so w H hk hI h ky v n
  by_cases h6 : x = 6
  · subst h6; exact does_copy xb lo k F m1 m2 c T so w H hk hI h ky v n
  by_cases h7 : x = 7
  · subst h7; exact does_seek xb lo k F m1 m2 c T so w H hk hI h ky v n
  by_cases h8 : x = 8
  · subst h8; exact does_next xb lo k F m1 m2 c T so w H hk hI h ky v n
  exact does_none xb lo k F m1 m2 c T so w H hk hI x h ky v n ⟨h1, h2, h3, h4, h5, h6, h7, h8⟩
theorem rnew_tab (m : Option Nat) (c : C4) (w : World) (hM : CtrAt m c w) : Calls Try.prog 38 #[mV m] w fun r w' => ∃ t S, r = .returned (.pointer (some ⟨t, 0, none⟩)) ∧ RTabAt t w.heap.size S m newT w' ∧ CtrAt m c.tab w' ∧ Keeps (mS m) w w' := by
  have HM := Lib.hid hM
  obtain ⟨p, hp⟩ : ∃ p : Option Addr, Hid (mV m = .pointer p) := ⟨_, Lib.hid rfl⟩
  rw [hp.out]
  have hm : ∀ b, m = some b → b < w.heap.size := fun b hb => lt_of_block (hM b hb)
  have HMM := Lib.hid hm
  clear hM hm
  go_enter Try.func38, Try.ntmps38
  go_wp2_with fail
  have ka : Keeps [] w (w.alloc (.cells #[.slice none 0 0, .int .i64 0, .slice none 0 0, .int .i64 0, .int .i64 0, .int .i64 0, .int .i64 0, .pointer p] 85)) := (Keeps.refl [] w).alloc _
  have ba : (w.alloc (.cells #[.slice none 0 0, .int .i64 0, .slice none 0 0, .int .i64 0, .int .i64 0, .int .i64 0, .int .i64 0, .pointer p] 85)).heap[w.heap.size]? = some (rtabO (.slice none 0 0) 0 (.slice none 0 0) (.int .i64 0) (.int .i64 0) (.int .i64 0) (.int .i64 0) (mV m)) := by rw [hp.out]; exact has_new _ _
  refine (rindex_any w.heap.size 3 8 3 rfl _ _ _ _ 0 _ 0 m c _ ba (HM.out.keeps ka (by simp)) (by omega) (by omega) rfl (by omega) (by omega) ⟨_, _, _, rfl⟩).mono ?_
  rintro r w1 ⟨rfl, q, h1, h2, h3, h4, h5⟩
  have H1 := Lib.hid h1
  have H2 := Lib.hid h2
  have H3 := Lib.hid h3
  have K := Lib.hid (show Keeps (mS m) w w1 from (ka.mono (by simp)).then h5 (fun x hx => by
    simp only [List.mem_cons] at hx
    rcases hx with rfl | hx
    · exact .inl (Nat.le_refl _)
    · exact .inr hx))
  simp only [World.size_alloc] at h4
  clear h1 h2 h3 h5 ka ba
  go_wp2_with fail
  go_ret
  refine ⟨w.heap.size, [w.heap.size, q], rfl, ⟨none, 0, q, ?_, EntRow.nil _ _, H2.out, by simp, by simp, by simp [blk], fun x hx => ?_⟩, H3.out, K.out⟩
  · exact H1.out
  · have l1 := lt_of_block H1.out
    have l2 := lt_of_block H2.out
    simp at hx
    rcases hx with rfl | rfl
    · exact ⟨Nat.le_refl _, l1⟩
    · exact ⟨by omega, l2⟩
end Go.Proofs.Ytajcbghhpjpmhaa
end
