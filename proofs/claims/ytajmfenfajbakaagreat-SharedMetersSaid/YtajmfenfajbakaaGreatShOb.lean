/- A private namespace: Set (chapter 10). -/
import Derived.Test.YtajmfenfajbakaaGreatShOa
namespace Go.Proofs.YtajmfenfajbakaaGreat
open Go.RowKit
set_option linter.unusedVariables false
set_option linter.unusedSimpArgs false
attribute [local go_sem] meth_rlen meth_rfind meth_rvalue meth_rturn meth_radd meth_rpairs meth_olen meth_ofind meth_ovalue meth_oturn meth_oadd meth_opairs ta_rr ta_ro ta_or ta_oo

def SetOwnP (fb t mb lo : Nat) (a : Option Addr) (ST : List Nat) (m : Option Nat) (sb ob t2 lo2 : Nat) (S2 : List Nat) (e : Int) (f' : Fam) (T' : Tab) (ver' : Nat) (c' : C4) (w : World) (r : Ending) (w' : World) : Prop :=
  ∃ a' S2', r = .returned (.int .i64 e) ∧ SOwn fb t mb lo a' ST m f' sb ob t2 lo2 S2' T' ver' c' w' ∧ Keeps (sb :: (famS fb mb a ST ++ (ob :: S2) ++ mS m)) w w' ∧ Grew (famS fb mb a ST) w (famS fb mb a' ST) ∧ Grew (ob :: S2) w (ob :: S2')
set_option maxRecDepth 100000 in
set_option maxHeartbeats 4000000 in
theorem sset_oold (k : Nat) (hk : k ≤ 1000) (fb t mb lo : Nat) (a : Option Addr) (ST : List Nat) (m : Option Nat) (f : Fam) (sb ob t2 lo2 : Nat) (S2 : List Nat) (T : Tab) (ver : Nat) (c : C4) (s : ByteArray) (v : Int) (w : World) (H : SOwn fb t mb lo a ST m f sb ob t2 lo2 S2 T ver c w) (hI : TInv k T) (hs : s.size ≤ 1000000) (hver : ver ≤ 100000)
    (hold : 0 ≤ (seekR T (numI f.N s) (txtH s) c).1) :
    Calls Tryz.prog 21 #[.pointer (some ⟨sb, 0, none⟩), .string s, .int .i64 v] w (SetOwnP fb t mb lo a ST m sb ob t2 lo2 S2 0 f (T.put (seekR T (numI f.N s) (txtH s) c).1 v) (ver + 1) (seekR T (numI f.N s) (txtH s) c).2 w) := by
  have HH := Lib.hid H
  have EK := Lib.hid (show T.E.length ≤ 1000000 from by have := hI.ek; omega)
  have c0 : w.cell? ⟨sb, 0, none⟩ = some (.pointer (some ⟨fb, 0, none⟩)) := cell_has H.s (i := 0) rfl
  have c1 : w.cell? ⟨sb, 1, none⟩ = some (.iface 128 (.pointer (some ⟨ob, 0, none⟩))) := cell_has H.s (i := 1) rfl
  have FI := fun (W : World) (h : SOwn fb t mb lo a ST m f sb ob t2 lo2 S2 T ver c W) => ofind_any k hk fb t mb lo a ST m f ob t2 lo2 S2 T c s W h.F h.O h.M (fun b hb => (h.hm2 b hb).2) hI hs
  obtain ⟨R, hR⟩ := ex_hid (seekR T (numI f.N s) (txtH s) c)
  unfold FindP at FI
  rw [← hR.out] at hold FI ⊢
  obtain ⟨i, hii⟩ := ex_hid R.1
  rw [← hii.out] at hold FI ⊢
  have hb : decide ((0 : Int) ≤ i) = true := by simpa using hold
  have FI := Lib.hid FI
  obtain ⟨T2, hT2⟩ := ex_hid (T.put i v)
  rw [← hT2.out]
  clear H hI
  go_enter Tryz.func21, Tryz.ntmps21
  go_wp2_with fail
  refine (snone_any sb fb _ ver w HH.out.s).mono ?_
  rintro r w1 ⟨rfl, rfl⟩
  go_upto_region 3 with (fail)
  go_region_held3 (fun w' => w'.cell? ⟨sb, 0, none⟩ = some (.pointer (some ⟨fb, 0, none⟩)) ∧ w'.cell? ⟨sb, 1, none⟩ = some (.iface 128 (.pointer (some ⟨ob, 0, none⟩)))) (go_keep)
    (first | (go_at_call 142; refine (FI.out w.drew (HH.out.quiet (Keeps.refl [] w).drew)).mono ?_; rintro r w1 ⟨rfl, m1, k1⟩; have K1 := Lib.hid ((Keeps.refl (mS m) w).drew.trans k1); have M1 := Lib.hid m1; have q0 := k1.cell (w := w.drew) c0 (HH.out.offm sb HH.out.ls); have q1 := k1.cell (w := w.drew) c1 (HH.out.offm sb HH.out.ls); clear m1 k1))
  clear FI
  have S1 := Lib.hid (HH.out.met K1.out M1.out)
  clear M1 c0 c1
  have TU := oturn_any ob t2 lo2 S2 m T w1 S1.out.O EK.out i v
  rw [← hT2.out] at TU
  go_wp2_with fail
  refine TU.mono ?_
  rintro r w2 ⟨rfl, r2, k2⟩
  have d2 := HH.out.d2
  have b2 := k2.has S1.out.s (fun hx => d2.2 (List.mem_cons_of_mem _ hx))
  have y2 : w2.cell? ⟨sb, 2, none⟩ = some (.int .u64 (ver : Nat)) := cell_has b2 (i := 2) rfl
  have y2f := free_of_has b2 2
  have R2 := Lib.hid r2
  have K2 := Lib.hid k2
  have B2 := Lib.hid b2
  have hw := ver_up ver hver
  clear r2 k2 b2 d2 TU q0 q1
  go_wp2_with fail
  go_ret
  have kS : Keeps [sb] w2 (w2.setCell ⟨sb, 2, none⟩ (.int .u64 ((ver + 1 : Nat) : Int))) := (Keeps.refl _ _).setCell (.inr (by simp)) _
  have d2 := HH.out.d2
  have off := HH.out.of
  refine ⟨a, S2, rfl, ⟨?_, ?_, ?_, ?_, HH.out.d1, HH.out.d2, HH.out.ls, HH.out.hm, HH.out.ll⟩, ?_, Grew.refl _ _, Grew.refl _ _⟩
  · refine (S1.out.F.keeps K2.out (fun z hz hy => HH.out.d1 z hz (List.mem_cons_of_mem _ hy))).keeps kS (fun z hz hy => ?_)
    simp at hy; subst hy; exact d2.1 hz
  · exact R2.out.keeps kS (fun z hz hy => by simp at hy; subst hy; exact d2.2 hz)
  · refine (S1.out.M.keeps K2.out (fun b hb hx => off b (List.mem_cons_of_mem _ hx) (by rw [hb]; simp [mS]))).keeps kS (fun b hb hx => by simp at hx; subst hx; have := HH.out.hm _ hb; have := HH.out.ls; omega)
  · have h0 := has_setCell B2.out 2 (.int .u64 ((ver + 1 : Nat) : Int))
    unfold spO at h0 ⊢; simpa using h0
  · refine ((K1.out.mono (fun z hz => by simp [hz])).trans (K2.out.mono (fun z hz => by simp [hz]))).trans (kS.mono (fun z hz => by simp at hz; simp [hz]))
set_option maxRecDepth 100000 in
set_option maxHeartbeats 4000000 in
theorem sset_ofull (k : Nat) (hk : k ≤ 1000) (fb t mb lo : Nat) (a : Option Addr) (ST : List Nat) (m : Option Nat) (f : Fam) (sb ob t2 lo2 : Nat) (S2 : List Nat) (T : Tab) (ver : Nat) (c : C4) (s : ByteArray) (v : Int) (w : World) (H : SOwn fb t mb lo a ST m f sb ob t2 lo2 S2 T ver c w) (hI : TInv k T) (hs : s.size ≤ 1000000)
    (hold : ¬ 0 ≤ (seekR T (numI f.N s) (txtH s) c).1) (hfull : f.pairs ≤ (liveN T.E : Int)) :
    Calls Tryz.prog 21 #[.pointer (some ⟨sb, 0, none⟩), .string s, .int .i64 v] w (SetOwnP fb t mb lo a ST m sb ob t2 lo2 S2 6 f T ver (seekR T (numI f.N s) (txtH s) c).2 w) := by
  have HH := Lib.hid H
  have c0 : w.cell? ⟨sb, 0, none⟩ = some (.pointer (some ⟨fb, 0, none⟩)) := cell_has H.s (i := 0) rfl
  have c1 : w.cell? ⟨sb, 1, none⟩ = some (.iface 128 (.pointer (some ⟨ob, 0, none⟩))) := cell_has H.s (i := 1) rfl
  have FI := fun (W : World) (h : SOwn fb t mb lo a ST m f sb ob t2 lo2 S2 T ver c W) => ofind_any k hk fb t mb lo a ST m f ob t2 lo2 S2 T c s W h.F h.O h.M (fun b hb => (h.hm2 b hb).2) hI hs
  obtain ⟨R, hR⟩ := ex_hid (seekR T (numI f.N s) (txtH s) c)
  unfold FindP at FI
  rw [← hR.out] at hold FI ⊢
  obtain ⟨ii, hii⟩ := ex_hid R.1
  rw [← hii.out] at hold FI
  obtain ⟨n, hn⟩ := ex_hid (liveN T.E)
  obtain ⟨ps, hps⟩ := ex_hid f.pairs
  rw [← hn.out, ← hps.out] at hfull
  have hb : decide ((0 : Int) ≤ ii) = false := by simpa using hold
  have hb2 : decide (ps ≤ (n : Int)) = true := by simpa using hfull
  have FI := Lib.hid FI
  clear H hI hold
  go_enter Tryz.func21, Tryz.ntmps21
  go_wp2_with fail
  refine (snone_any sb fb _ ver w HH.out.s).mono ?_
  rintro r w1 ⟨rfl, rfl⟩
  go_upto_region 3 with (fail)
  go_region_held3 (fun w' => w'.cell? ⟨sb, 0, none⟩ = some (.pointer (some ⟨fb, 0, none⟩)) ∧ w'.cell? ⟨sb, 1, none⟩ = some (.iface 128 (.pointer (some ⟨ob, 0, none⟩)))) (go_keep)
    (first | (go_at_call 142; refine (FI.out w.drew (HH.out.quiet (Keeps.refl [] w).drew)).mono ?_; rintro r w1 ⟨rfl, m1, k1⟩; have K1 := Lib.hid ((Keeps.refl (mS m) w).drew.trans k1); have M1 := Lib.hid m1; have q0 := k1.cell (w := w.drew) c0 (HH.out.offm sb HH.out.ls); have q1 := k1.cell (w := w.drew) c1 (HH.out.offm sb HH.out.ls); clear m1 k1))
  clear FI
  have S1 := Lib.hid (HH.out.met K1.out M1.out)
  clear M1 c0 c1
  obtain ⟨c9, h9, _⟩ := S1.out.F.b
  have x1 : w1.cell? ⟨fb, 1, none⟩ = some (.int .i64 ps) := by
    have h0 := cell_has h9 (i := 1) rfl
    rw [← hps.out] at h0; exact h0
  have LE := olen_any ob t2 lo2 S2 m T
  rw [← hn.out] at LE
  have LE := Lib.hid LE
  clear h9
  go_upto_region 6 with (fail)
  go_region_held3 (fun w' => w'.cell? ⟨sb, 0, none⟩ = some (.pointer (some ⟨fb, 0, none⟩)) ∧ w'.cell? ⟨sb, 1, none⟩ = some (.iface 128 (.pointer (some ⟨ob, 0, none⟩))) ∧ w'.cell? ⟨fb, 1, none⟩ = some (.int .i64 ps)) (go_keep)
    (first | (go_at_call 143; refine (LE.out _ (S1.out.quiet (Keeps.refl [] w1).drew).O).mono ?_; rintro r w2 ⟨rfl, rfl⟩))
  all_goals go_wp2_with fail
  all_goals go_ret
  exact ⟨a, S2, rfl, S1.out.quiet (Keeps.refl [] w1).drew, (K1.out.mono (fun z hz => by simp [hz])).drew, Grew.refl _ _, Grew.refl _ _⟩
set_option maxRecDepth 100000 in
set_option maxHeartbeats 4000000 in
theorem sset_oadd (k : Nat) (hk : k ≤ 1000) (fb t mb lo : Nat) (a : Option Addr) (ST : List Nat) (m : Option Nat) (f : Fam) (sb ob t2 lo2 : Nat) (S2 : List Nat) (T : Tab) (ver : Nat) (c : C4) (s : ByteArray) (v : Int) (w : World) (H : SOwn fb t mb lo a ST m f sb ob t2 lo2 S2 T ver c w) (hI : TInv k T) (hs : s.size ≤ 1000000) (hver : ver ≤ 100000)
    (hold : ¬ 0 ≤ (seekR T (numI f.N s) (txtH s) c).1) (hfull : ¬ f.pairs ≤ (liveN T.E : Int)) (hN : f.N.length ≤ 100000) :
    Calls Tryz.prog 21 #[.pointer (some ⟨sb, 0, none⟩), .string s, .int .i64 v] w (SetOwnP fb t mb lo a ST m sb ob t2 lo2 S2 0 (giveF f s) (ownAddT f s v T) (ver + 1) (ownAddC (seekR T (numI f.N s) (txtH s) c).2 T) w) := by
  have HH := Lib.hid H
  have c0 : w.cell? ⟨sb, 0, none⟩ = some (.pointer (some ⟨fb, 0, none⟩)) := cell_has H.s (i := 0) rfl
  have c1 : w.cell? ⟨sb, 1, none⟩ = some (.iface 128 (.pointer (some ⟨ob, 0, none⟩))) := cell_has H.s (i := 1) rfl
  have AD := Lib.hid (fun (c : C4) (W : World) (h : SOwn fb t mb lo a ST m f sb ob t2 lo2 S2 T ver c W) => oadd_any k hk fb t mb lo a ST m f ob t2 lo2 S2 T c s v W h.F h.O h.M h.hm2 h.d1 hI hs hN)
  have FI := fun (W : World) (h : SOwn fb t mb lo a ST m f sb ob t2 lo2 S2 T ver c W) => ofind_any k hk fb t mb lo a ST m f ob t2 lo2 S2 T c s W h.F h.O h.M (fun b hb => (h.hm2 b hb).2) hI hs
  obtain ⟨R, hR⟩ := ex_hid (seekR T (numI f.N s) (txtH s) c)
  unfold FindP at FI
  rw [← hR.out] at hold FI ⊢
  obtain ⟨ii, hii⟩ := ex_hid R.1
  rw [← hii.out] at hold FI
  obtain ⟨n, hn⟩ := ex_hid (liveN T.E)
  obtain ⟨ps, hps⟩ := ex_hid f.pairs
  rw [← hn.out, ← hps.out] at hfull
  have hb : decide ((0 : Int) ≤ ii) = false := by simpa using hold
  have hb2 : decide (ps ≤ (n : Int)) = false := by simpa using hfull
  have FI := Lib.hid FI
  clear H hI hold
  go_enter Tryz.func21, Tryz.ntmps21
  go_wp2_with fail
  refine (snone_any sb fb _ ver w HH.out.s).mono ?_
  rintro r w1 ⟨rfl, rfl⟩
  go_upto_region 3 with (fail)
  go_region_held3 (fun w' => w'.cell? ⟨sb, 0, none⟩ = some (.pointer (some ⟨fb, 0, none⟩)) ∧ w'.cell? ⟨sb, 1, none⟩ = some (.iface 128 (.pointer (some ⟨ob, 0, none⟩)))) (go_keep)
    (first | (go_at_call 142; refine (FI.out w.drew (HH.out.quiet (Keeps.refl [] w).drew)).mono ?_; rintro r w1 ⟨rfl, m1, k1⟩; have K1 := Lib.hid ((Keeps.refl (mS m) w).drew.trans k1); have M1 := Lib.hid m1; have q0 := k1.cell (w := w.drew) c0 (HH.out.offm sb HH.out.ls); have q1 := k1.cell (w := w.drew) c1 (HH.out.offm sb HH.out.ls); clear m1 k1))
  clear FI
  have S1 := Lib.hid (HH.out.met K1.out M1.out)
  clear M1 c0 c1
  obtain ⟨c9, h9, _⟩ := S1.out.F.b
  have x1 : w1.cell? ⟨fb, 1, none⟩ = some (.int .i64 ps) := by
    have h0 := cell_has h9 (i := 1) rfl
    rw [← hps.out] at h0; exact h0
  have LE := olen_any ob t2 lo2 S2 m T
  rw [← hn.out] at LE
  have LE := Lib.hid LE
  clear h9
  go_upto_region 6 with (fail)
  go_region_held3 (fun w' => w'.cell? ⟨sb, 0, none⟩ = some (.pointer (some ⟨fb, 0, none⟩)) ∧ w'.cell? ⟨sb, 1, none⟩ = some (.iface 128 (.pointer (some ⟨ob, 0, none⟩))) ∧ w'.cell? ⟨fb, 1, none⟩ = some (.int .i64 ps)) (go_keep)
    (first | (go_at_call 143; refine (LE.out _ (S1.out.quiet (Keeps.refl [] w1).drew).O).mono ?_; rintro r w2 ⟨rfl, rfl⟩))
  clear x1 q0 q1
  have S2' := Lib.hid (S1.out.quiet (Keeps.refl [] w1).drew)
  obtain ⟨W2, hW2⟩ := ex_hid w1.drew
  rw [← hW2.out] at S2' ⊢
  have K2 := Lib.hid (show Keeps (mS m) w W2 from by rw [hW2.out]; exact K1.out.drew)
  have q0 : W2.cell? ⟨sb, 0, none⟩ = some (.pointer (some ⟨fb, 0, none⟩)) := cell_has S2'.out.s (i := 0) rfl
  have q1 : W2.cell? ⟨sb, 1, none⟩ = some (.iface 128 (.pointer (some ⟨ob, 0, none⟩))) := cell_has S2'.out.s (i := 1) rfl
  have NSB := Lib.hid (show sb ∉ famS fb mb a ST ++ S2 ++ mS m from by
    have d2 := HH.out.d2
    simp only [List.mem_cons, not_or] at d2
    simp only [List.mem_append, not_or]
    exact ⟨⟨d2.1, d2.2.2⟩, HH.out.offm sb HH.out.ls⟩)
  go_upto_region 8 with (fail)
  go_region_held3 (fun w' => w'.cell? ⟨sb, 0, none⟩ = some (.pointer (some ⟨fb, 0, none⟩)) ∧ w'.cell? ⟨sb, 1, none⟩ = some (.iface 128 (.pointer (some ⟨ob, 0, none⟩)))) (go_keep)
    (first | (go_at_call 68; refine (AD.out R.2 W2.drew (S2'.out.quiet (Keeps.refl [] W2).drew)).mono ?_; rintro r w3 ⟨a6, S6, rfl, f3, o3, m3, k3, g3, g4, g5⟩; have F3 := Lib.hid f3; have O3 := Lib.hid o3; have M3 := Lib.hid m3; have K3 := Lib.hid ((Keeps.refl _ W2).drew.trans k3); have GG := Lib.hid (And.intro g3 (And.intro g4 g5)); have b3 := K3.out.has S2'.out.s NSB.out; have p0 : w3.cell? ⟨sb, 0, none⟩ = some (.pointer (some ⟨fb, 0, none⟩)) := cell_has b3 (i := 0) rfl; have p1 : w3.cell? ⟨sb, 1, none⟩ = some (.iface 128 (.pointer (some ⟨ob, 0, none⟩))) := cell_has b3 (i := 1) rfl; have B3 := Lib.hid b3; clear f3 o3 m3 k3 g3 g4 g5 b3))
  all_goals
    have y2 : w3.cell? ⟨sb, 2, none⟩ = some (.int .u64 (ver : Nat)) := cell_has B3.out (i := 2) rfl
    have y2f := free_of_has B3.out 2
    have hw := ver_up ver hver
    clear q0 q1 p0 p1
    go_wp2_with fail
    go_ret
  have kS : Keeps [sb] w3 (w3.setCell ⟨sb, 2, none⟩ (.int .u64 ((ver + 1 : Nat) : Int))) := (Keeps.refl _ _).setCell (.inr (by simp)) _
  have hsb := lt_of_block HH.out.s
  have z2 := K2.out.size
  have gf : Grew (famS fb mb a ST) W2 (famS fb mb a6 ST) := GG.out.1
  have gr : Grew S2 W2 S6 := GG.out.2.1
  have d2 : sb ∉ famS fb mb a6 ST ∧ sb ∉ ob :: S6 := ⟨fun h => by
    rcases gf _ h with h | h
    · exact HH.out.d2.1 h
    · omega, fun h => by
    rcases List.mem_cons.1 h with h | h
    · exact HH.out.d2.2 (by rw [h]; simp)
    · rcases gr _ h with h | h
      · exact HH.out.d2.2 (by simp [h])
      · omega⟩
  refine ⟨a6, S6, rfl, ⟨?_, ?_, ?_, ?_, GG.out.2.2, d2, HH.out.ls, HH.out.hm, HH.out.ll⟩, ?_, fun z hz => ?_, fun z hz => ?_⟩
  · exact F3.out.keeps kS (fun z hz hy => by simp at hy; subst hy; exact d2.1 hz)
  · exact O3.out.keeps kS (fun z hz hy => by simp at hy; subst hy; exact d2.2 hz)
  · exact M3.out.keeps kS (fun b hb hx => by simp at hx; subst hx; have := HH.out.hm _ hb; have := HH.out.ls; omega)
  · have h0 := has_setCell B3.out 2 (.int .u64 ((ver + 1 : Nat) : Int))
    unfold spO at h0 ⊢; simpa using h0
  · exact ((K2.out.mono (fun z hz => by simp [hz])).trans (K3.out.mono (fun z hz => by simp only [List.mem_append, List.mem_cons] at hz ⊢; rcases hz with (h | h) | h <;> simp [h]))).trans (kS.mono (fun z hz => by simp at hz; simp [hz]))
  · rcases gf z hz with h | h
    · exact .inl h
    · right; omega
  · rcases List.mem_cons.1 hz with h | h
    · left; rw [h]; simp
    · rcases gr z h with h | h
      · left; simp [h]
      · right; omega
end Go.Proofs.YtajmfenfajbakaaGreat
