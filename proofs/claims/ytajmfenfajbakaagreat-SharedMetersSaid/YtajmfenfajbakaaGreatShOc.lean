/- A namespace, either way; Set of one that has to be turned private (chapter 10). -/
import Derived.Test.YtajmfenfajbakaaGreatShOb
import Derived.Test.YtajmfenfajbakaaGreatShL
namespace Go.Proofs.YtajmfenfajbakaaGreat
open Go.RowKit
set_option linter.unusedVariables false
set_option linter.unusedSimpArgs false
attribute [local go_sem] meth_rlen meth_rfind meth_rvalue meth_rturn meth_radd meth_rpairs meth_olen meth_ofind meth_ovalue meth_oturn meth_oadd meth_opairs ta_rr ta_ro ta_or ta_oo

/-- What the turning of a row asks for. -/
structure RowGood (k : Nat) (f : Fam) (vs : List Int) : Prop where
  i : TInv k f.K
  k : KeyOk f vs
  t : ∀ i, i ≤ vs.length → TInv i (privT f vs i)
  z : ∀ i, i < vs.length → (rowP f vs i).1.size ≤ 1000000
  g : ∀ i, i < vs.length → giveN f.N (rowP f vs i).1 = f.N
  n : f.N.length ≤ 100000
  v : vs.length ≤ 900
/-- A namespace in memory, whichever way it is kept; its own blocks. -/
def SpAt (fb t mb lo : Nat) (a : Option Addr) (ST : List Nat) (m : Option Nat) (f : Fam) (sb : Nat) (S : List Nat) (wy : Way10) (ver : Nat) (c : C4) (W : World) : Prop :=
  match wy with
  | .row vs => ∃ rb ar, S = rb :: blk ar ∧ SRow fb t mb lo a ST m f sb rb ar vs ver c W
  | .own T => ∃ ob t2 lo2 S2, S = ob :: S2 ∧ SOwn fb t mb lo a ST m f sb ob t2 lo2 S2 T ver c W
def SetP (fb t mb lo : Nat) (a : Option Addr) (ST : List Nat) (m : Option Nat) (sb : Nat) (S : List Nat) (e : Int) (f' : Fam) (wy' : Way10) (ver' : Nat) (c' : C4) (w : World) (r : Ending) (w' : World) : Prop :=
  ∃ a' ST' S', r = .returned (.int .i64 e) ∧ SpAt fb t mb lo a' ST' m f' sb S' wy' ver' c' w' ∧ Keeps (sb :: (famS fb mb a ST ++ S ++ mS m)) w w' ∧ Grew (famS fb mb a ST) w (famS fb mb a' ST') ∧ Grew S w S'
theorem spriv_sown (k : Nat) (hk : k ≤ 1000) (fb t mb lo : Nat) (a : Option Addr) (ST : List Nat) (m : Option Nat) (f : Fam) (sb rb : Nat) (ar : Option Addr) (vs : List Int) (ver : Nat) (c : C4) (w : World) (H : SRow fb t mb lo a ST m f sb rb ar vs ver c w) (hG : RowGood k f vs) :
    Calls Tryz.prog 48 #[.pointer (some ⟨sb, 0, none⟩)] w fun r w' => r = .returned (.tuple #[]) ∧ ∃ a' ob t2 S2, SOwn fb t mb lo a' ST m f sb ob t2 w.heap.size S2 (privT f vs vs.length) ver (privC f vs c vs.length).shf w' ∧ Keeps (sb :: (famS fb mb a ST ++ mS m)) w w' ∧ Grew (famS fb mb a ST) w (famS fb mb a' ST) ∧ ∀ z, z ∈ ob :: S2 → w.heap.size ≤ z := by
  refine (spriv_any k hk fb t mb lo a ST m f sb rb ar vs ver c w H hG.i hG.k hG.t hG.z hG.g hG.n hG.v).mono ?_
  rintro r w' ⟨a', ob, t2, S2, rfl, h1, h2, h3, h4, h5, h6, h7⟩
  have hsb := lt_of_block H.s
  have new : ∀ z, z ∈ ob :: S2 → w.heap.size ≤ z := fun z hz => (h2.foot z hz).1
  refine ⟨rfl, a', ob, t2, S2, ⟨h1, h2, h4, h3, h7, ⟨fun h => ?_, fun h => ?_⟩, H.ls, H.hm, ?_⟩, h5, h6, new⟩
  · rcases h6 _ h with h | h
    · exact H.d2.1 h
    · omega
  · have := new _ h; omega
  · have := (H.F.foot fb (by unfold famS; simp)); omega
set_option maxRecDepth 100000 in
set_option maxHeartbeats 4000000 in
theorem sset_turn (k : Nat) (hk : k ≤ 1000) (fb t mb lo : Nat) (a : Option Addr) (ST : List Nat) (m : Option Nat) (f : Fam) (sb rb : Nat) (ar : Option Addr) (vs : List Int) (ver : Nat) (c : C4) (s : ByteArray) (v : Int) (w : World) (H : SRow fb t mb lo a ST m f sb rb ar vs ver c w) (hG : RowGood k f vs) (hs : s.size ≤ 1000000) (hver : ver ≤ 100000)
    (hold : ¬ 0 ≤ rowFindI vs (seekR f.K (numI f.N s) (txtH s) c).1) (hfull : ¬ f.pairs ≤ (vs.length : Int)) (hadd : rowAdd f vs.length s (seekR f.K (numI f.N s) (txtH s) c).2 = none) :
    Calls Tryz.prog 21 #[.pointer (some ⟨sb, 0, none⟩), .string s, .int .i64 v] w (SetP fb t mb lo a ST m sb (rb :: blk ar) 0 (giveF f s) (.own (ownAddT f s v (privT f vs vs.length))) (ver + 1) (ownAddC (privC f vs (seekR f.K (numI f.N s) (txtH s) c).2 vs.length).shf (privT f vs vs.length)) w) := by
  have HH := Lib.hid H
  have GD := Lib.hid hG
  have c0 : w.cell? ⟨sb, 0, none⟩ = some (.pointer (some ⟨fb, 0, none⟩)) := cell_has H.s (i := 0) rfl
  have c1 : w.cell? ⟨sb, 1, none⟩ = some (.iface 107 (.pointer (some ⟨rb, 0, none⟩))) := cell_has H.s (i := 1) rfl
  have HA := Lib.hid hadd
  have AD := Lib.hid (fun (c : C4) (W : World) (h : SRow fb t mb lo a ST m f sb rb ar vs ver c W) => rwadd_any k hk fb t mb lo a ST m f rb lo ar vs c s v W h.F h.R h.M h.hm h.mr h.d1 hG.i hs hG.n (by have := hG.v; omega))
  have PV := Lib.hid (fun (c : C4) (W : World) (h : SRow fb t mb lo a ST m f sb rb ar vs ver c W) => spriv_sown k hk fb t mb lo a ST m f sb rb ar vs ver c W h hG)
  have OA := Lib.hid (fun (c : C4) (a : Option Addr) (ob t2 lo2 : Nat) (S2 : List Nat) (W : World) (h : SOwn fb t mb lo a ST m f sb ob t2 lo2 S2 (privT f vs vs.length) ver c W) => oadd_any vs.length (by have := hG.v; omega) fb t mb lo a ST m f ob t2 lo2 S2 (privT f vs vs.length) c s v W h.F h.O h.M h.hm2 h.d1 (hG.t _ (Nat.le_refl _)) hs hG.n)
  have FI := fun (W : World) (h : SRow fb t mb lo a ST m f sb rb ar vs ver c W) => rfind_any k hk fb t mb lo a ST m f rb lo ar vs c s W h.F h.R h.M h.hm h.mr hG.i hs
  clear hadd
  obtain ⟨R, hR⟩ := ex_hid (seekR f.K (numI f.N s) (txtH s) c)
  rw [← hR.out] at hold FI HA ⊢
  obtain ⟨ii, hii⟩ := ex_hid (rowFindI vs R.1)
  rw [← hii.out] at hold FI
  obtain ⟨n, hn⟩ := ex_hid vs.length
  obtain ⟨ps, hps⟩ := ex_hid f.pairs
  rw [← hn.out, ← hps.out] at hfull
  have hb : decide ((0 : Int) ≤ ii) = false := by simpa using hold
  have hb2 : decide (ps ≤ (n : Int)) = false := by simpa using hfull
  have FI := Lib.hid FI
  obtain ⟨PT, hPT⟩ := ex_hid (privT f vs vs.length)
  rw [← hPT.out] at OA PV ⊢
  clear H hG hold
  go_enter Tryz.func21, Tryz.ntmps21
  go_wp2_with fail
  refine (snone_any sb fb _ ver w HH.out.s).mono ?_
  rintro r w1 ⟨rfl, rfl⟩
  go_upto_region 3 with (fail)
  go_region_held3 (fun w' => w'.cell? ⟨sb, 0, none⟩ = some (.pointer (some ⟨fb, 0, none⟩)) ∧ w'.cell? ⟨sb, 1, none⟩ = some (.iface 107 (.pointer (some ⟨rb, 0, none⟩)))) (go_keep)
    (first | (go_at_call 135; refine (FI.out w.drew (HH.out.met (Keeps.refl _ _).drew (HH.out.M.keeps (Keeps.refl [] w).drew (by simp)))).mono ?_; rintro r w1 ⟨rfl, m1, k1⟩; have K1 := Lib.hid ((Keeps.refl (mS m) w).drew.trans k1); have M1 := Lib.hid m1; have q0 := k1.cell (w := w.drew) c0 (HH.out.offm sb HH.out.ls); have q1 := k1.cell (w := w.drew) c1 (HH.out.offm sb HH.out.ls); clear m1 k1))
  clear FI
  have S1 := Lib.hid (HH.out.met K1.out M1.out)
  clear M1 c0 c1
  obtain ⟨c9, h9, _⟩ := S1.out.F.b
  have x1 : w1.cell? ⟨fb, 1, none⟩ = some (.int .i64 ps) := by
    have h0 := cell_has h9 (i := 1) rfl
    rw [← hps.out] at h0; exact h0
  have LE := rlen_any rb lo ar vs
  rw [← hn.out] at LE
  have LE := Lib.hid LE
  clear h9
  go_upto_region 6 with (fail)
  go_region_held3 (fun w' => w'.cell? ⟨sb, 0, none⟩ = some (.pointer (some ⟨fb, 0, none⟩)) ∧ w'.cell? ⟨sb, 1, none⟩ = some (.iface 107 (.pointer (some ⟨rb, 0, none⟩))) ∧ w'.cell? ⟨fb, 1, none⟩ = some (.int .i64 ps)) (go_keep)
    (first | (go_at_call 136; refine (LE.out _ (S1.out.R.keeps (Keeps.refl [] w1).drew (by simp))).mono ?_; rintro r w2 ⟨rfl, rfl⟩))
  clear x1 q0 q1
  have S2 := Lib.hid (S1.out.met (Keeps.refl _ _).drew (S1.out.M.keeps (Keeps.refl [] w1).drew (by simp)))
  obtain ⟨W2, hW2⟩ := ex_hid w1.drew
  rw [← hW2.out] at S2 ⊢
  have K2 := Lib.hid (show Keeps (mS m) w W2 from by rw [hW2.out]; exact K1.out.drew)
  have q0 : W2.cell? ⟨sb, 0, none⟩ = some (.pointer (some ⟨fb, 0, none⟩)) := cell_has S2.out.s (i := 0) rfl
  have q1 : W2.cell? ⟨sb, 1, none⟩ = some (.iface 107 (.pointer (some ⟨rb, 0, none⟩))) := cell_has S2.out.s (i := 1) rfl
  go_upto_region 8 with (fail)
  go_region_held3 (fun w' => w'.cell? ⟨sb, 0, none⟩ = some (.pointer (some ⟨fb, 0, none⟩)) ∧ w'.cell? ⟨sb, 1, none⟩ = some (.iface 107 (.pointer (some ⟨rb, 0, none⟩)))) (go_keep)
    (first | (go_at_call 134; refine (AD.out R.2 W2.drew (S2.out.met (Keeps.refl _ _).drew (S2.out.M.keeps (Keeps.refl [] W2).drew (by simp)))).mono ?_; rintro r w3 hq; unfold RowAddP at hq; rw [HA.out] at hq; obtain ⟨_, rfl, k3⟩ | ⟨_, _, _, _, _, hq, _⟩ := hq; rotate_left; (exact absurd hq (by simp)); have K3 := Lib.hid ((Keeps.refl [] W2).drew.trans k3); have p0 := k3.cell (w := W2.drew) q0 (by simp); have p1 := k3.cell (w := W2.drew) q1 (by simp); clear k3))
  have S3 := Lib.hid (S2.out.met (K3.out.mono (by simp)) (S2.out.M.keeps K3.out (by simp)))
  have K03 := Lib.hid (K2.out.trans (K3.out.mono (by simp)))
  clear p0 p1 q0 q1 K3
  go_wp2_with fail
  refine (PV.out R.2 w3 S3.out).mono ?_
  rintro r w4 ⟨rfl, a4, ob, t2, S4, s4, k4, g4, n4⟩
  have y0 : w4.cell? ⟨sb, 0, none⟩ = some (.pointer (some ⟨fb, 0, none⟩)) := cell_has s4.s (i := 0) rfl
  have y1 : w4.cell? ⟨sb, 1, none⟩ = some (.iface 128 (.pointer (some ⟨ob, 0, none⟩))) := cell_has s4.s (i := 1) rfl
  have S4' := Lib.hid s4
  have K4 := Lib.hid k4
  have G4 := Lib.hid (And.intro g4 n4)
  clear s4 k4 g4 n4
  have NSB := Lib.hid (show sb ∉ famS fb mb a4 ST ++ S4 ++ mS m from by
    have d2 := S4'.out.d2
    simp only [List.mem_cons, not_or] at d2
    simp only [List.mem_append, not_or]
    exact ⟨⟨d2.1, d2.2.2⟩, S4'.out.offm sb S4'.out.ls⟩)
  go_upto_region 10 with (fail)
  go_region_held3 (fun w' => w'.cell? ⟨sb, 0, none⟩ = some (.pointer (some ⟨fb, 0, none⟩)) ∧ w'.cell? ⟨sb, 1, none⟩ = some (.iface 128 (.pointer (some ⟨ob, 0, none⟩)))) (go_keep)
    (first | (go_at_call 68; refine (OA.out _ a4 ob t2 _ S4 w4.drew (S4'.out.quiet (Keeps.refl [] w4).drew)).mono ?_; rintro r w5 ⟨a6, S6, rfl, f3, o3, m3, k3, g3, h3, g5⟩; have F3 := Lib.hid f3; have O3 := Lib.hid o3; have M3 := Lib.hid m3; have K5 := Lib.hid ((Keeps.refl _ w4).drew.trans k3); have GG := Lib.hid (And.intro g3 (And.intro h3 g5)); have b3 := K5.out.has S4'.out.s NSB.out; have z0 : w5.cell? ⟨sb, 0, none⟩ = some (.pointer (some ⟨fb, 0, none⟩)) := cell_has b3 (i := 0) rfl; have z1 : w5.cell? ⟨sb, 1, none⟩ = some (.iface 128 (.pointer (some ⟨ob, 0, none⟩))) := cell_has b3 (i := 1) rfl; have B3 := Lib.hid b3; clear f3 o3 m3 k3 g3 h3 g5 b3))
  have y2 : w5.cell? ⟨sb, 2, none⟩ = some (.int .u64 (ver : Nat)) := cell_has B3.out (i := 2) rfl
  have y2f := free_of_has B3.out 2
  have hw := ver_up ver hver
  clear y0 y1 z0 z1
  go_wp2_with fail
  go_ret
  have kS : Keeps [sb] w5 (w5.setCell ⟨sb, 2, none⟩ (.int .u64 ((ver + 1 : Nat) : Int))) := (Keeps.refl _ _).setCell (.inr (by simp)) _
  have hsb := lt_of_block HH.out.s
  have z2 := K03.out.size
  have z4 := K4.out.size
  have gf : Grew (famS fb mb a4 ST) w4 (famS fb mb a6 ST) := GG.out.1
  have gr : Grew S4 w4 S6 := GG.out.2.1
  have d4 := S4'.out.d2
  have d2 : sb ∉ famS fb mb a6 ST ∧ sb ∉ ob :: S6 := ⟨fun h => by
    rcases gf _ h with h | h
    · exact d4.1 h
    · omega, fun h => by
    rcases List.mem_cons.1 h with h | h
    · exact d4.2 (by rw [h]; simp)
    · rcases gr _ h with h | h
      · exact d4.2 (by simp [h])
      · omega⟩
  refine ⟨a6, ST, ob :: S6, rfl, ⟨ob, t2, _, S6, rfl, ?_, ?_, ?_, ?_, GG.out.2.2, d2, HH.out.ls, HH.out.hm, S4'.out.ll⟩, ?_, fun z hz => ?_, fun z hz => ?_⟩
  · exact F3.out.keeps kS (fun z hz hy => by simp at hy; subst hy; exact d2.1 hz)
  · rw [← hn.out] at *
    exact O3.out.keeps kS (fun z hz hy => by simp at hy; subst hy; exact d2.2 hz)
  · rw [← hn.out] at *
    exact M3.out.keeps kS (fun b hb hx => by simp at hx; subst hx; have := HH.out.hm _ hb; have := HH.out.ls; omega)
  · have h0 := has_setCell B3.out 2 (.int .u64 ((ver + 1 : Nat) : Int))
    unfold spO at h0 ⊢; simpa using h0
  · have k34 : Keeps (sb :: (famS fb mb a ST ++ (rb :: blk ar) ++ mS m)) w w4 := (K03.out.mono (fun z hz => by simp [hz])).trans (K4.out.mono (fun z hz => by simp only [List.mem_cons, List.mem_append] at hz ⊢; rcases hz with h | h | h <;> simp [h]))
    refine (k34.then K5.out (fun z hz => ?_)).trans (kS.mono (fun z hz => by simp at hz; simp [hz]))
    simp only [List.mem_append] at hz
    rcases hz with (h | h) | h
    · rcases G4.out.1 _ h with h | h
      · right; simp [h]
      · left; omega
    · left; have := G4.out.2 z (by simp [h]); omega
    · right; simp [h]
  · rcases gf z hz with h | h
    · rcases G4.out.1 z h with h | h
      · exact .inl h
      · right; omega
    · right; omega
  · right
    rcases List.mem_cons.1 hz with h | h
    · have := G4.out.2 z (by simp [h]); omega
    · rcases gr z h with h | h
      · have := G4.out.2 z (by simp [h]); omega
      · omega
end Go.Proofs.YtajmfenfajbakaaGreat
