/- A namespace, either way: Del (chapter 10). -/
import Derived.Test.YtajmfenfajbakaaGreatShOc
namespace Go.Proofs.YtajmfenfajbakaaGreat
open Go.RowKit
set_option linter.unusedVariables false
set_option linter.unusedSimpArgs false
attribute [local go_sem] meth_rlen meth_rfind meth_rvalue meth_rturn meth_radd meth_rpairs meth_olen meth_ofind meth_ovalue meth_oturn meth_oadd meth_opairs ta_rr ta_ro ta_or ta_oo

set_option maxRecDepth 100000 in
set_option maxHeartbeats 4000000 in
theorem sdel_rno (k : Nat) (hk : k ≤ 1000) (fb t mb lo : Nat) (a : Option Addr) (ST : List Nat) (m : Option Nat) (f : Fam) (sb rb : Nat) (ar : Option Addr) (vs : List Int) (ver : Nat) (c : C4) (s : ByteArray) (w : World) (H : SRow fb t mb lo a ST m f sb rb ar vs ver c w) (hI : TInv k f.K) (hs : s.size ≤ 1000000)
    (hold : ¬ 0 ≤ rowFindI vs (seekR f.K (numI f.N s) (txtH s) c).1) :
    Calls Tryz.prog 31 #[.pointer (some ⟨sb, 0, none⟩), .string s] w (SetP fb t mb lo a ST m sb (rb :: blk ar) 7 f (.row vs) ver (seekR f.K (numI f.N s) (txtH s) c).2 w) := by
  have HH := Lib.hid H
  have c0 : w.cell? ⟨sb, 0, none⟩ = some (.pointer (some ⟨fb, 0, none⟩)) := cell_has H.s (i := 0) rfl
  have c1 : w.cell? ⟨sb, 1, none⟩ = some (.iface 107 (.pointer (some ⟨rb, 0, none⟩))) := cell_has H.s (i := 1) rfl
  have FI := fun (W : World) (h : SRow fb t mb lo a ST m f sb rb ar vs ver c W) => rfind_any k hk fb t mb lo a ST m f rb lo ar vs c s W h.F h.R h.M h.hm h.mr hI hs
  obtain ⟨R, hR⟩ := ex_hid (seekR f.K (numI f.N s) (txtH s) c)
  rw [← hR.out] at hold FI ⊢
  obtain ⟨i, hii⟩ := ex_hid (rowFindI vs R.1)
  rw [← hii.out] at hold FI
  have hb : decide (i < (0 : Int)) = true := by simp; omega
  have hlt : i < 0 := by omega
  have FI := Lib.hid FI
  clear H hI hold
  go_enter Tryz.func31, Tryz.ntmps31
  go_wp2_with fail
  refine (snone_any sb fb _ ver w HH.out.s).mono ?_
  rintro r w1 ⟨rfl, rfl⟩
  go_upto_region 3 with (fail)
  go_region_held3 (fun w' => w'.cell? ⟨sb, 0, none⟩ = some (.pointer (some ⟨fb, 0, none⟩)) ∧ w'.cell? ⟨sb, 1, none⟩ = some (.iface 107 (.pointer (some ⟨rb, 0, none⟩)))) (go_keep)
    (first | (go_at_call 135; refine (FI.out w.drew (HH.out.met (Keeps.refl _ _).drew (HH.out.M.keeps (Keeps.refl [] w).drew (by simp)))).mono ?_; rintro r w1 ⟨rfl, m1, k1⟩; have K1 := Lib.hid ((Keeps.refl (mS m) w).drew.trans k1); have M1 := Lib.hid m1; have q0 := k1.cell (w := w.drew) c0 (HH.out.offm sb HH.out.ls); have q1 := k1.cell (w := w.drew) c1 (HH.out.offm sb HH.out.ls); clear m1 k1))
  clear FI
  have S1 := Lib.hid (HH.out.met K1.out M1.out)
  clear M1 c0 c1
  go_wp2_with fail
  go_ret
  exact ⟨a, ST, rb :: blk ar, rfl, ⟨rb, ar, rfl, S1.out⟩, K1.out.mono (fun z hz => by simp [hz]), Grew.refl _ _, Grew.refl _ _⟩
set_option maxRecDepth 100000 in
set_option maxHeartbeats 4000000 in
theorem sdel_ono (k : Nat) (hk : k ≤ 1000) (fb t mb lo : Nat) (a : Option Addr) (ST : List Nat) (m : Option Nat) (f : Fam) (sb ob t2 lo2 : Nat) (S2 : List Nat) (T : Tab) (ver : Nat) (c : C4) (s : ByteArray) (w : World) (H : SOwn fb t mb lo a ST m f sb ob t2 lo2 S2 T ver c w) (hI : TInv k T) (hs : s.size ≤ 1000000)
    (hold : ¬ 0 ≤ (seekR T (numI f.N s) (txtH s) c).1) :
    Calls Tryz.prog 31 #[.pointer (some ⟨sb, 0, none⟩), .string s] w (SetP fb t mb lo a ST m sb (ob :: S2) 7 f (.own T) ver (seekR T (numI f.N s) (txtH s) c).2 w) := by
  have HH := Lib.hid H
  have c0 : w.cell? ⟨sb, 0, none⟩ = some (.pointer (some ⟨fb, 0, none⟩)) := cell_has H.s (i := 0) rfl
  have c1 : w.cell? ⟨sb, 1, none⟩ = some (.iface 128 (.pointer (some ⟨ob, 0, none⟩))) := cell_has H.s (i := 1) rfl
  have FI := fun (W : World) (h : SOwn fb t mb lo a ST m f sb ob t2 lo2 S2 T ver c W) => ofind_any k hk fb t mb lo a ST m f ob t2 lo2 S2 T c s W h.F h.O h.M (fun b hb => (h.hm2 b hb).2) hI hs
  obtain ⟨R, hR⟩ := ex_hid (seekR T (numI f.N s) (txtH s) c)
  unfold FindP at FI
  rw [← hR.out] at hold FI ⊢
  obtain ⟨i, hii⟩ := ex_hid R.1
  rw [← hii.out] at hold FI
  have hb : decide (i < (0 : Int)) = true := by simp; omega
  have hlt : i < 0 := by omega
  have FI := Lib.hid FI
  clear H hI hold
  go_enter Tryz.func31, Tryz.ntmps31
  go_wp2_with fail
  refine (snone_any sb fb _ ver w HH.out.s).mono ?_
  rintro r w1 ⟨rfl, rfl⟩
  go_upto_region 3 with (fail)
  go_region_held3 (fun w' => w'.cell? ⟨sb, 0, none⟩ = some (.pointer (some ⟨fb, 0, none⟩)) ∧ w'.cell? ⟨sb, 1, none⟩ = some (.iface 128 (.pointer (some ⟨ob, 0, none⟩)))) (go_keep)
    (first | (go_at_call 142; refine (FI.out w.drew (HH.out.quiet (Keeps.refl [] w).drew)).mono ?_; rintro r w1 ⟨rfl, m1, k1⟩; have K1 := Lib.hid ((Keeps.refl (mS m) w).drew.trans k1); have M1 := Lib.hid m1; have q0 := k1.cell (w := w.drew) c0 (HH.out.offm sb HH.out.ls); have q1 := k1.cell (w := w.drew) c1 (HH.out.offm sb HH.out.ls); clear m1 k1))
  clear FI
  have S1 := Lib.hid (HH.out.met K1.out M1.out)
  clear M1 c0 c1
  go_wp2_with fail
  go_ret
  exact ⟨a, ST, ob :: S2, rfl, ⟨ob, t2, lo2, S2, rfl, S1.out⟩, K1.out.mono (fun z hz => by simp [hz]), Grew.refl _ _, Grew.refl _ _⟩
set_option maxRecDepth 100000 in
set_option maxHeartbeats 4000000 in
theorem sdel_own (k : Nat) (hk : k ≤ 1000) (fb t mb lo : Nat) (a : Option Addr) (ST : List Nat) (m : Option Nat) (f : Fam) (sb ob t2 lo2 : Nat) (S2 : List Nat) (T : Tab) (ver : Nat) (c : C4) (s : ByteArray) (w : World) (H : SOwn fb t mb lo a ST m f sb ob t2 lo2 S2 T ver c w) (hI : TInv k T) (hs : s.size ≤ 1000000) (hver : ver ≤ 100000)
    (hold : 0 ≤ (seekR T (numI f.N s) (txtH s) c).1) :
    Calls Tryz.prog 31 #[.pointer (some ⟨sb, 0, none⟩), .string s] w (SetP fb t mb lo a ST m sb (ob :: S2) 0 f (.own (T.kill (seekR T (numI f.N s) (txtH s) c).1)) (ver + 1) (seekR T (numI f.N s) (txtH s) c).2 w) := by
  have HH := Lib.hid H
  have TI := Lib.hid (hI.mono hk)
  have c0 : w.cell? ⟨sb, 0, none⟩ = some (.pointer (some ⟨fb, 0, none⟩)) := cell_has H.s (i := 0) rfl
  have c1 : w.cell? ⟨sb, 1, none⟩ = some (.iface 128 (.pointer (some ⟨ob, 0, none⟩))) := cell_has H.s (i := 1) rfl
  have FI := fun (W : World) (h : SOwn fb t mb lo a ST m f sb ob t2 lo2 S2 T ver c W) => ofind_any k hk fb t mb lo a ST m f ob t2 lo2 S2 T c s W h.F h.O h.M (fun b hb => (h.hm2 b hb).2) hI hs
  obtain ⟨R, hR⟩ := ex_hid (seekR T (numI f.N s) (txtH s) c)
  unfold FindP at FI
  rw [← hR.out] at hold FI ⊢
  obtain ⟨i, hii⟩ := ex_hid R.1
  rw [← hii.out] at hold FI ⊢
  have hb : decide (i < (0 : Int)) = false := by simp; omega
  have hlt : ¬ i < 0 := by omega
  have FI := Lib.hid FI
  obtain ⟨T2, hT2⟩ := ex_hid (T.kill i)
  rw [← hT2.out]
  clear H hI hold
  go_enter Tryz.func31, Tryz.ntmps31
  go_wp2_with fail
  refine (snone_any sb fb _ ver w HH.out.s).mono ?_
  rintro r w1 ⟨rfl, rfl⟩
  go_upto_region 3 with (fail)
  go_region_held3 (fun w' => w'.cell? ⟨sb, 0, none⟩ = some (.pointer (some ⟨fb, 0, none⟩)) ∧ w'.cell? ⟨sb, 1, none⟩ = some (.iface 128 (.pointer (some ⟨ob, 0, none⟩)))) (go_keep)
    (first | (go_at_call 142; refine (FI.out w.drew (HH.out.quiet (Keeps.refl [] w).drew)).mono ?_; rintro r w1 ⟨rfl, m1, k1⟩; have K1 := Lib.hid ((Keeps.refl (mS m) w).drew.trans k1); have M1 := Lib.hid m1; have q0 := k1.cell (w := w.drew) c0 (HH.out.offm sb HH.out.ls); have q1 := k1.cell (w := w.drew) c1 (HH.out.offm sb HH.out.ls); clear m1 k1))
  clear FI
  have S1 := Lib.hid (HH.out.met K1.out M1.out)
  clear M1 c0 c1 q0
  go_wp2_with fail
  refine (sshared_own sb fb ob (ver : Nat) w1 S1.out.s).mono ?_
  rintro r w9 ⟨rfl, rfl⟩
  have o0 := S1.out.O.cell
  have KI := kill_any t2 lo2 S2 (mV m) T w1 S1.out.O.k TI.out i
  unfold KillP at KI
  obtain ⟨okk, hokk⟩ := ex_hid (okE (T.ent i))
  rw [← hT2.out, ← hokk.out] at KI
  go_wp2_with fail
  refine KI.mono ?_
  rintro r w2 ⟨rfl, r2, k2⟩
  have d2 := HH.out.d2
  have b2 := k2.has S1.out.s (fun hx => d2.2 (List.mem_cons_of_mem _ hx))
  have y2 : w2.cell? ⟨sb, 2, none⟩ = some (.int .u64 (ver : Nat)) := cell_has b2 (i := 2) rfl
  have y2f := free_of_has b2 2
  have R2 := Lib.hid r2
  have K2 := Lib.hid k2
  have B2 := Lib.hid b2
  have hw := ver_up ver hver
  clear r2 k2 b2 d2 KI q1 o0
  go_wp2_with fail
  go_ret
  have kS : Keeps [sb] w2 (w2.setCell ⟨sb, 2, none⟩ (.int .u64 ((ver + 1 : Nat) : Int))) := (Keeps.refl _ _).setCell (.inr (by simp)) _
  have d2 := HH.out.d2
  have off := HH.out.of
  have od := S1.out.O.d
  refine ⟨a, ST, ob :: S2, rfl, ⟨ob, t2, lo2, S2, rfl, ?_, ⟨?_, ?_, od, S1.out.O.l⟩, ?_, ?_, HH.out.d1, HH.out.d2, HH.out.ls, HH.out.hm, HH.out.ll⟩, ?_, Grew.refl _ _, Grew.refl _ _⟩
  · refine (S1.out.F.keeps K2.out (fun z hz hy => HH.out.d1 z hz (List.mem_cons_of_mem _ hy))).keeps kS (fun z hz hy => ?_)
    simp at hy; subst hy; exact d2.1 hz
  · exact kS.has (K2.out.has S1.out.O.b od) (fun hy => by simp at hy; subst hy; exact d2.2 (by simp))
  · exact R2.out.keeps kS (fun z hz hy => by simp at hy; subst hy; exact d2.2 (List.mem_cons_of_mem _ hz))
  · refine (S1.out.M.keeps K2.out (fun b hb hx => off b (List.mem_cons_of_mem _ hx) (by rw [hb]; simp [mS]))).keeps kS (fun b hb hx => by simp at hx; subst hx; have := HH.out.hm _ hb; have := HH.out.ls; omega)
  · have h0 := has_setCell B2.out 2 (.int .u64 ((ver + 1 : Nat) : Int))
    unfold spO at h0 ⊢; simpa using h0
  · refine ((K1.out.mono (fun z hz => by simp [hz])).trans (K2.out.mono (fun z hz => by simp [hz]))).trans (kS.mono (fun z hz => by simp at hz; simp [hz]))
set_option maxRecDepth 100000 in
set_option maxHeartbeats 4000000 in
theorem sdel_row (k : Nat) (hk : k ≤ 1000) (fb t mb lo : Nat) (a : Option Addr) (ST : List Nat) (m : Option Nat) (f : Fam) (sb rb : Nat) (ar : Option Addr) (vs : List Int) (ver : Nat) (c : C4) (s : ByteArray) (w : World) (H : SRow fb t mb lo a ST m f sb rb ar vs ver c w) (hG : RowGood k f vs) (hs : s.size ≤ 1000000) (hver : ver ≤ 100000)
    (hold : 0 ≤ rowFindI vs (seekR f.K (numI f.N s) (txtH s) c).1) :
    Calls Tryz.prog 31 #[.pointer (some ⟨sb, 0, none⟩), .string s] w (SetP fb t mb lo a ST m sb (rb :: blk ar) 0 f (.own ((privT f vs vs.length).kill (rowFindI vs (seekR f.K (numI f.N s) (txtH s) c).1))) (ver + 1) (privC f vs (seekR f.K (numI f.N s) (txtH s) c).2 vs.length).shf w) := by
  have HH := Lib.hid H
  have TI := Lib.hid ((hG.t _ (Nat.le_refl _)).mono (show vs.length ≤ 1000 from by have := hG.v; omega))
  have c0 : w.cell? ⟨sb, 0, none⟩ = some (.pointer (some ⟨fb, 0, none⟩)) := cell_has H.s (i := 0) rfl
  have c1 : w.cell? ⟨sb, 1, none⟩ = some (.iface 107 (.pointer (some ⟨rb, 0, none⟩))) := cell_has H.s (i := 1) rfl
  have FI := fun (W : World) (h : SRow fb t mb lo a ST m f sb rb ar vs ver c W) => rfind_any k hk fb t mb lo a ST m f rb lo ar vs c s W h.F h.R h.M h.hm h.mr hG.i hs
  have PV := Lib.hid (fun (c : C4) (W : World) (h : SRow fb t mb lo a ST m f sb rb ar vs ver c W) => spriv_sown k hk fb t mb lo a ST m f sb rb ar vs ver c W h hG)
  obtain ⟨R, hR⟩ := ex_hid (seekR f.K (numI f.N s) (txtH s) c)
  rw [← hR.out] at hold FI ⊢
  obtain ⟨i, hii⟩ := ex_hid (rowFindI vs R.1)
  rw [← hii.out] at hold FI ⊢
  have hb : decide (i < (0 : Int)) = false := by simp; omega
  have hlt : ¬ i < 0 := by omega
  have FI := Lib.hid FI
  obtain ⟨PT, hPT⟩ := ex_hid (privT f vs vs.length)
  rw [← hPT.out] at PV TI ⊢
  obtain ⟨T2, hT2⟩ := ex_hid (PT.kill i)
  rw [← hT2.out]
  clear H hG hold
  go_enter Tryz.func31, Tryz.ntmps31
  go_wp2_with fail
  refine (snone_any sb fb _ ver w HH.out.s).mono ?_
  rintro r w1 ⟨rfl, rfl⟩
  go_upto_region 3 with (fail)
  go_region_held3 (fun w' => w'.cell? ⟨sb, 0, none⟩ = some (.pointer (some ⟨fb, 0, none⟩)) ∧ w'.cell? ⟨sb, 1, none⟩ = some (.iface 107 (.pointer (some ⟨rb, 0, none⟩)))) (go_keep)
    (first | (go_at_call 135; refine (FI.out w.drew (HH.out.met (Keeps.refl _ _).drew (HH.out.M.keeps (Keeps.refl [] w).drew (by simp)))).mono ?_; rintro r w1 ⟨rfl, m1, k1⟩; have K1 := Lib.hid ((Keeps.refl (mS m) w).drew.trans k1); have M1 := Lib.hid m1; have q0 := k1.cell (w := w.drew) c0 (HH.out.offm sb HH.out.ls); have q1 := k1.cell (w := w.drew) c1 (HH.out.offm sb HH.out.ls); clear m1 k1))
  clear FI
  have S1 := Lib.hid (HH.out.met K1.out M1.out)
  clear M1 c0 c1 q0 q1
  go_wp2_with fail
  refine (sshared_row sb fb rb (ver : Nat) w1 S1.out.s).mono ?_
  rintro r w9 ⟨rfl, rfl⟩
  go_wp2_with fail
  refine (PV.out R.2 w1 S1.out).mono ?_
  rintro r w4 ⟨rfl, a4, ob, t2, S4, s4, k4, g4, n4⟩
  have y1 : w4.cell? ⟨sb, 1, none⟩ = some (.iface 128 (.pointer (some ⟨ob, 0, none⟩))) := cell_has s4.s (i := 1) rfl
  have o0 := s4.O.cell
  have KI := kill_any t2 w1.heap.size S4 (mV m) PT w4 s4.O.k TI.out i
  unfold KillP at KI
  obtain ⟨okk, hokk⟩ := ex_hid (okE (PT.ent i))
  rw [← hT2.out, ← hokk.out] at KI
  have S4' := Lib.hid s4
  have K4 := Lib.hid k4
  have G4 := Lib.hid (And.intro g4 n4)
  clear s4 k4 g4 n4
  go_wp2_with fail
  refine KI.mono ?_
  rintro r w5 ⟨rfl, r2, k2⟩
  have d2 := S4'.out.d2
  have b2 := k2.has S4'.out.s (fun hx => d2.2 (List.mem_cons_of_mem _ hx))
  have y2 : w5.cell? ⟨sb, 2, none⟩ = some (.int .u64 (ver : Nat)) := cell_has b2 (i := 2) rfl
  have y2f := free_of_has b2 2
  have R2 := Lib.hid r2
  have K5 := Lib.hid k2
  have B2 := Lib.hid b2
  have hw := ver_up ver hver
  clear r2 k2 b2 d2 KI y1 o0
  go_wp2_with fail
  go_ret
  have kS : Keeps [sb] w5 (w5.setCell ⟨sb, 2, none⟩ (.int .u64 ((ver + 1 : Nat) : Int))) := (Keeps.refl _ _).setCell (.inr (by simp)) _
  have d2 := S4'.out.d2
  have off := S4'.out.of
  have od := S4'.out.O.d
  have z1 := K1.out.size
  have z4 := K4.out.size
  refine ⟨a4, ST, ob :: S4, rfl, ⟨ob, t2, w1.heap.size, S4, rfl, ?_, ⟨?_, ?_, od, S4'.out.O.l⟩, ?_, ?_, S4'.out.d1, S4'.out.d2, HH.out.ls, HH.out.hm, S4'.out.ll⟩, ?_, fun z hz => ?_, fun z hz => ?_⟩
  · refine (S4'.out.F.keeps K5.out (fun z hz hy => S4'.out.d1 z hz (List.mem_cons_of_mem _ hy))).keeps kS (fun z hz hy => ?_)
    simp at hy; subst hy; exact d2.1 hz
  · exact kS.has (K5.out.has S4'.out.O.b od) (fun hy => by simp at hy; subst hy; exact d2.2 (by simp))
  · exact R2.out.keeps kS (fun z hz hy => by simp at hy; subst hy; exact d2.2 (List.mem_cons_of_mem _ hz))
  · refine (S4'.out.M.keeps K5.out (fun b hb hx => off b (List.mem_cons_of_mem _ hx) (by rw [hb]; simp [mS]))).keeps kS (fun b hb hx => by simp at hx; subst hx; have := HH.out.hm _ hb; have := HH.out.ls; omega)
  · have h0 := has_setCell B2.out 2 (.int .u64 ((ver + 1 : Nat) : Int))
    unfold spO at h0 ⊢; simpa using h0
  · have k04 : Keeps (sb :: (famS fb mb a ST ++ (rb :: blk ar) ++ mS m)) w w4 := (K1.out.mono (fun z hz => by simp [hz])).trans (K4.out.mono (fun z hz => by simp only [List.mem_cons, List.mem_append] at hz ⊢; rcases hz with h | h | h <;> simp [h]))
    refine (k04.then K5.out (fun z hz => ?_)).trans (kS.mono (fun z hz => by simp at hz; simp [hz]))
    left; have := G4.out.2 z (by simp [hz]); omega
  · rcases G4.out.1 z hz with h | h
    · exact .inl h
    · right; omega
  · right; have := G4.out.2 z hz; omega
end Go.Proofs.YtajmfenfajbakaaGreat
