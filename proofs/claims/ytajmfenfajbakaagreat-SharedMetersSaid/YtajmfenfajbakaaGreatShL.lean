/- A shared namespace: a name more, or none more (chapter 10). -/
import Derived.Test.YtajmfenfajbakaaGreatShK
namespace Go.Proofs.YtajmfenfajbakaaGreat
open Go.RowKit
set_option linter.unusedVariables false
set_option linter.unusedSimpArgs false
attribute [local go_sem] meth_rlen meth_rfind meth_rvalue meth_rturn meth_radd meth_rpairs meth_olen meth_ofind meth_ovalue meth_oturn meth_oadd meth_opairs ta_rr ta_ro ta_or ta_oo

theorem rwadd_any (k : Nat) (hk : k ≤ 1000) (fb t mb lo : Nat) (a : Option Addr) (ST : List Nat) (m : Option Nat) (f : Fam) (rb lor : Nat) (ar : Option Addr) (vs : List Int) (c : C4) (s : ByteArray) (v : Int) (w : World) (H : FamAt fb t mb lo a ST m f w) (HR : RowAt rb lor ar vs w) (hM : MtrAt m c w) (hm : ∀ b, m = some b → b < lo) (hmr : ∀ b, m = some b → b ∉ rb :: blk ar) (hd : ∀ z, z ∈ famS fb mb a ST → z ∉ rb :: blk ar) (hI : TInv k f.K) (hs : s.size ≤ 1000000) (hN : f.N.length ≤ 100000) (hv : vs.length ≤ 100000) :
    Calls Tryz.prog 134 #[.pointer (some ⟨rb, 0, none⟩), .pointer (some ⟨fb, 0, none⟩), .string s, .int .i64 v] w (RowAddP fb t mb lo a ST m f rb lor ar vs s v c w) := by
  by_cases h1 : vs.length < liveN f.K.E
  · by_cases h2 : (atE (entE f.K.E (vs.length : Int))).key = numI f.N s
    · exact radd_same k hk fb t mb lo a ST m f rb lor ar vs c s v w H HR hM hm hmr hd hI hs hN hv h1 h2
    · exact radd_other k hk fb t mb lo a ST m f rb lor ar vs c s v w H HR hM hm hmr hd hI hs hN hv h1 h2
  · by_cases h2 : f.most ≤ (vs.length : Int)
    · exact radd_full k hk fb t mb lo a ST m f rb lor ar vs c s v w H HR hM hm hmr hd hI hs hN hv (by omega) h2
    · exact radd_new k hk fb t mb lo a ST m f rb lor ar vs c s v w H HR hM hm hmr hd hI hs hN hv (by omega) h2
set_option maxRecDepth 100000 in
set_option maxHeartbeats 4000000 in
theorem sset_full (k : Nat) (hk : k ≤ 1000) (fb t mb lo : Nat) (a : Option Addr) (ST : List Nat) (m : Option Nat) (f : Fam) (sb rb : Nat) (ar : Option Addr) (vs : List Int) (ver : Nat) (c : C4) (s : ByteArray) (v : Int) (w : World) (H : SRow fb t mb lo a ST m f sb rb ar vs ver c w) (hI : TInv k f.K) (hs : s.size ≤ 1000000) (hver : ver ≤ 100000)
    (hold : ¬ 0 ≤ rowFindI vs (seekR f.K (numI f.N s) (txtH s) c).1) (hfull : f.pairs ≤ (vs.length : Int)) :
    Calls Tryz.prog 21 #[.pointer (some ⟨sb, 0, none⟩), .string s, .int .i64 v] w (SetRowP fb t mb lo a ST m f sb rb ar vs ver c s v w) := by
  have HH := Lib.hid H
  have HI := Lib.hid hI
  have c0 : w.cell? ⟨sb, 0, none⟩ = some (.pointer (some ⟨fb, 0, none⟩)) := cell_has H.s (i := 0) rfl
  have c1 : w.cell? ⟨sb, 1, none⟩ = some (.iface 107 (.pointer (some ⟨rb, 0, none⟩))) := cell_has H.s (i := 1) rfl
  have HS := Lib.hid (show rowSet f vs c s v = some (6, f, vs, (seekR f.K (numI f.N s) (txtH s) c).2) from by unfold rowSet; rw [if_neg hold, if_pos hfull])
  have FI := fun (W : World) (h : SRow fb t mb lo a ST m f sb rb ar vs ver c W) => rfind_any k hk fb t mb lo a ST m f rb lo ar vs c s W h.F h.R h.M h.hm h.mr hI hs
  obtain ⟨R, hR⟩ := ex_hid (seekR f.K (numI f.N s) (txtH s) c)
  obtain ⟨ii, hii⟩ := ex_hid (rowFindI vs R.1)
  rw [← hR.out, ← hii.out] at hold FI
  rw [← hR.out] at HS
  obtain ⟨n, hn⟩ := ex_hid vs.length
  obtain ⟨ps, hps⟩ := ex_hid f.pairs
  rw [← hn.out, ← hps.out] at hfull
  have hb : decide ((0 : Int) ≤ ii) = false := by simpa using hold
  have hb2 : decide (ps ≤ (n : Int)) = true := by simpa using hfull
  have FI := Lib.hid FI
  clear H hI hold
  go_enter Tryz.func21, Tryz.ntmps21
  go_wp2_with fail
  refine (snone_any sb fb _ ver w HH.out.s).mono ?_
  rintro r w1 ⟨rfl, rfl⟩
  go_upto_region 3 with (fail)
  go_region_held3 (fun w' => w'.cell? ⟨sb, 0, none⟩ = some (.pointer (some ⟨fb, 0, none⟩)) ∧ w'.cell? ⟨sb, 1, none⟩ = some (.iface 107 (.pointer (some ⟨rb, 0, none⟩)))) (go_keep)
    (first | (go_at_call 135; refine (FI.out w.drew (HH.out.met (Keeps.refl _ _).drew (HH.out.M.keeps (Keeps.refl [] w).drew (by simp)))).mono ?_; rintro r w1 ⟨rfl, m1, k1⟩; have K1 := Lib.hid ((Keeps.refl (mS m) w).drew.trans k1); have M1 := Lib.hid m1; have q0 := k1.cell (w := w.drew) c0 (HH.out.offm sb HH.out.ls); have q1 := k1.cell (w := w.drew) c1 (HH.out.offm sb HH.out.ls); clear m1 k1))
  clear FI
  have S1 := Lib.hid (HH.out.met K1.out M1.out)
  clear M1 c0 c1
  obtain ⟨c9, h9, _⟩ := S1.out.F.b
  have x1 : w1.cell? ⟨fb, 1, none⟩ = some (.int .i64 ps) := by
    have h0 := cell_has h9 (i := 1) rfl
    rw [← hps.out] at h0; exact h0
  have LE := rlen_any rb lo ar vs
  rw [← hn.out] at LE
  have LE := Lib.hid LE
  clear h9
  go_upto_region 6 with (fail)
  go_region_held3 (fun w' => w'.cell? ⟨sb, 0, none⟩ = some (.pointer (some ⟨fb, 0, none⟩)) ∧ w'.cell? ⟨sb, 1, none⟩ = some (.iface 107 (.pointer (some ⟨rb, 0, none⟩))) ∧ w'.cell? ⟨fb, 1, none⟩ = some (.int .i64 ps)) (go_keep)
    (first | (go_at_call 136; refine (LE.out _ (S1.out.R.keeps (Keeps.refl [] w1).drew (by simp))).mono ?_; rintro r w2 ⟨rfl, rfl⟩))
  all_goals go_wp2_with fail
  all_goals go_ret
  exact ⟨6, f, vs, _, a, ST, ar, HS.out, rfl, S1.out.met (Keeps.refl _ _).drew (S1.out.M.keeps (Keeps.refl [] w1).drew (by simp)), (K1.out.mono (fun z hz => by unfold spFeet; simp [hz])).drew, Grew.refl _ _, Grew.refl _ _⟩
set_option maxRecDepth 100000 in
set_option maxHeartbeats 4000000 in
theorem sset_add (k : Nat) (hk : k ≤ 1000) (fb t mb lo : Nat) (a : Option Addr) (ST : List Nat) (m : Option Nat) (f : Fam) (sb rb : Nat) (ar : Option Addr) (vs : List Int) (ver : Nat) (c : C4) (s : ByteArray) (v : Int) (w : World) (H : SRow fb t mb lo a ST m f sb rb ar vs ver c w) (hI : TInv k f.K) (hs : s.size ≤ 1000000) (hver : ver ≤ 100000)
    (hold : ¬ 0 ≤ rowFindI vs (seekR f.K (numI f.N s) (txtH s) c).1) (hfull : ¬ f.pairs ≤ (vs.length : Int)) (f5 : Fam) (c5 : C4) (hadd : rowAdd f vs.length s (seekR f.K (numI f.N s) (txtH s) c).2 = some (f5, c5)) (hN : f.N.length ≤ 100000) (hv : vs.length ≤ 100000) :
    Calls Tryz.prog 21 #[.pointer (some ⟨sb, 0, none⟩), .string s, .int .i64 v] w (SetRowP fb t mb lo a ST m f sb rb ar vs ver c s v w) := by
  have HH := Lib.hid H
  have HI := Lib.hid hI
  have c0 : w.cell? ⟨sb, 0, none⟩ = some (.pointer (some ⟨fb, 0, none⟩)) := cell_has H.s (i := 0) rfl
  have c1 : w.cell? ⟨sb, 1, none⟩ = some (.iface 107 (.pointer (some ⟨rb, 0, none⟩))) := cell_has H.s (i := 1) rfl
  have HS := Lib.hid (show rowSet f vs c s v = some (0, f5, vs ++ [v], c5.val) from by unfold rowSet; rw [if_neg hold, if_neg hfull, hadd])
  have HA := Lib.hid hadd
  have AD := fun (c : C4) (W : World) (h : SRow fb t mb lo a ST m f sb rb ar vs ver c W) => rwadd_any k hk fb t mb lo a ST m f rb lo ar vs c s v W h.F h.R h.M h.hm h.mr h.d1 hI hs hN hv
  have AD := Lib.hid AD
  clear hadd
  have FI := fun (W : World) (h : SRow fb t mb lo a ST m f sb rb ar vs ver c W) => rfind_any k hk fb t mb lo a ST m f rb lo ar vs c s W h.F h.R h.M h.hm h.mr hI hs
  obtain ⟨R, hR⟩ := ex_hid (seekR f.K (numI f.N s) (txtH s) c)
  obtain ⟨ii, hii⟩ := ex_hid (rowFindI vs R.1)
  rw [← hR.out, ← hii.out] at hold FI
  rw [← hR.out] at HA
  obtain ⟨n, hn⟩ := ex_hid vs.length
  obtain ⟨ps, hps⟩ := ex_hid f.pairs
  rw [← hn.out, ← hps.out] at hfull
  have hb : decide ((0 : Int) ≤ ii) = false := by simpa using hold
  have hb2 : decide (ps ≤ (n : Int)) = false := by simpa using hfull
  have FI := Lib.hid FI
  clear H hI hold
  go_enter Tryz.func21, Tryz.ntmps21
  go_wp2_with fail
  refine (snone_any sb fb _ ver w HH.out.s).mono ?_
  rintro r w1 ⟨rfl, rfl⟩
  go_upto_region 3 with (fail)
  go_region_held3 (fun w' => w'.cell? ⟨sb, 0, none⟩ = some (.pointer (some ⟨fb, 0, none⟩)) ∧ w'.cell? ⟨sb, 1, none⟩ = some (.iface 107 (.pointer (some ⟨rb, 0, none⟩)))) (go_keep)
    (first | (go_at_call 135; refine (FI.out w.drew (HH.out.met (Keeps.refl _ _).drew (HH.out.M.keeps (Keeps.refl [] w).drew (by simp)))).mono ?_; rintro r w1 ⟨rfl, m1, k1⟩; have K1 := Lib.hid ((Keeps.refl (mS m) w).drew.trans k1); have M1 := Lib.hid m1; have q0 := k1.cell (w := w.drew) c0 (HH.out.offm sb HH.out.ls); have q1 := k1.cell (w := w.drew) c1 (HH.out.offm sb HH.out.ls); clear m1 k1))
  clear FI
  have S1 := Lib.hid (HH.out.met K1.out M1.out)
  clear M1 c0 c1
  obtain ⟨c9, h9, _⟩ := S1.out.F.b
  have x1 : w1.cell? ⟨fb, 1, none⟩ = some (.int .i64 ps) := by
    have h0 := cell_has h9 (i := 1) rfl
    rw [← hps.out] at h0; exact h0
  have LE := rlen_any rb lo ar vs
  rw [← hn.out] at LE
  have LE := Lib.hid LE
  clear h9
  go_upto_region 6 with (fail)
  go_region_held3 (fun w' => w'.cell? ⟨sb, 0, none⟩ = some (.pointer (some ⟨fb, 0, none⟩)) ∧ w'.cell? ⟨sb, 1, none⟩ = some (.iface 107 (.pointer (some ⟨rb, 0, none⟩))) ∧ w'.cell? ⟨fb, 1, none⟩ = some (.int .i64 ps)) (go_keep)
    (first | (go_at_call 136; refine (LE.out _ (S1.out.R.keeps (Keeps.refl [] w1).drew (by simp))).mono ?_; rintro r w2 ⟨rfl, rfl⟩))
  clear x1 q0 q1
  have S2 := Lib.hid (S1.out.met (Keeps.refl _ _).drew (S1.out.M.keeps (Keeps.refl [] w1).drew (by simp)))
  obtain ⟨W2, hW2⟩ := ex_hid w1.drew
  rw [← hW2.out] at S2 ⊢
  have K2 := Lib.hid (show Keeps (mS m) w W2 from by rw [hW2.out]; exact K1.out.drew)
  have q0 : W2.cell? ⟨sb, 0, none⟩ = some (.pointer (some ⟨fb, 0, none⟩)) := cell_has S2.out.s (i := 0) rfl
  have q1 : W2.cell? ⟨sb, 1, none⟩ = some (.iface 107 (.pointer (some ⟨rb, 0, none⟩))) := cell_has S2.out.s (i := 1) rfl
  go_upto_region 8 with (fail)
  go_region_held3 (fun w' => w'.cell? ⟨sb, 0, none⟩ = some (.pointer (some ⟨fb, 0, none⟩)) ∧ w'.cell? ⟨sb, 1, none⟩ = some (.iface 107 (.pointer (some ⟨rb, 0, none⟩)))) (go_keep)
    (first | (go_at_call 134; refine (AD.out R.2 W2.drew (S2.out.met (Keeps.refl _ _).drew (S2.out.M.keeps (Keeps.refl [] W2).drew (by simp)))).mono ?_; rintro r w3 hq; unfold RowAddP at hq; rw [HA.out] at hq; obtain ⟨hq, _⟩ | ⟨f6, c6, a6, ST6, ar6, he6, rfl, f3, r3, m3, k3, g3, g4, g5⟩ := hq; (exact absurd hq (by simp)); obtain ⟨rfl, rfl⟩ : f5 = f6 ∧ c5 = c6 := (by simpa using he6); have F3 := Lib.hid f3; have R3 := Lib.hid r3; have M3 := Lib.hid m3; have K3 := Lib.hid ((Keeps.refl _ W2).drew.trans k3); have GG := Lib.hid (And.intro g3 (And.intro g4 g5)); have b3 := K3.out.has S2.out.s (by simp only [List.mem_append, not_or]; exact ⟨⟨S2.out.d2.1, S2.out.d2.2⟩, S2.out.offm sb S2.out.ls⟩); have p0 : w3.cell? ⟨sb, 0, none⟩ = some (.pointer (some ⟨fb, 0, none⟩)) := cell_has b3 (i := 0) rfl; have p1 : w3.cell? ⟨sb, 1, none⟩ = some (.iface 107 (.pointer (some ⟨rb, 0, none⟩))) := cell_has b3 (i := 1) rfl; have B3 := Lib.hid b3; clear f3 r3 m3 k3 g3 g4 g5 b3 he6))
  all_goals
    have y2 : w3.cell? ⟨sb, 2, none⟩ = some (.int .u64 (ver : Nat)) := cell_has B3.out (i := 2) rfl
    have y2f := free_of_has B3.out 2
    have hw := ver_up ver hver
    clear q0 q1 p0 p1
    go_wp2_with fail
    go_ret
  have kS : Keeps [sb] w3 (w3.setCell ⟨sb, 2, none⟩ (.int .u64 ((ver + 1 : Nat) : Int))) := (Keeps.refl _ _).setCell (.inr (by simp)) _
  have hsb := lt_of_block HH.out.s
  have z2 := K2.out.size
  have gf : Grew (famS fb mb a ST) W2 (famS fb mb a6 ST6) := GG.out.1
  have gr : Grew (rb :: blk ar) W2 (rb :: blk ar6) := GG.out.2.1
  have d2 : sb ∉ famS fb mb a6 ST6 ∧ sb ∉ rb :: blk ar6 := ⟨fun h => by
    rcases gf _ h with h | h
    · exact HH.out.d2.1 h
    · omega, fun h => by
    rcases gr _ h with h | h
    · exact HH.out.d2.2 h
    · omega⟩
  refine ⟨0, f5, _, _, a6, ST6, ar6, HS.out, rfl, ⟨?_, ?_, ?_, ?_, GG.out.2.2, d2, HH.out.ls, HH.out.hm⟩, ?_, fun z hz => ?_, fun z hz => ?_⟩
  · exact F3.out.keeps kS (fun z hz hy => by simp at hy; subst hy; exact d2.1 hz)
  · exact R3.out.keeps kS (fun z hz hy => by simp at hy; subst hy; exact d2.2 hz)
  · exact M3.out.keeps kS (fun b hb hx => by simp at hx; subst hx; have := HH.out.hm _ hb; have := HH.out.ls; omega)
  · have h0 := has_setCell B3.out 2 (.int .u64 ((ver + 1 : Nat) : Int))
    unfold spO at h0 ⊢; simpa using h0
  · unfold spFeet
    exact ((K2.out.mono (fun z hz => by simp [hz])).trans (K3.out.mono (fun z hz => List.mem_cons_of_mem _ hz))).trans (kS.mono (fun z hz => by simp at hz; simp [hz]))
  · rcases gf z hz with h | h
    · exact .inl h
    · right; omega
  · rcases gr z hz with h | h
    · exact .inl h
    · right; omega
end Go.Proofs.YtajmfenfajbakaaGreat
