/- A shared namespace: Get and Set, as long as it stays shared (chapter 10). -/
import Derived.Test.YtajmfenfajbakaaGreatShH
import Derived.Test.YtajmfenfajbakaaGreatShJ
namespace Go.Proofs.YtajmfenfajbakaaGreat
open Go.RowKit
set_option linter.unusedVariables false
set_option linter.unusedSimpArgs false
attribute [local go_sem] meth_rlen meth_rfind meth_rvalue meth_rturn meth_radd meth_rpairs meth_olen meth_ofind meth_ovalue meth_oturn meth_oadd meth_opairs ta_rr ta_ro ta_or ta_oo

structure SRow (fb t mb lo : Nat) (a : Option Addr) (ST : List Nat) (m : Option Nat) (f : Fam) (sb rb : Nat) (ar : Option Addr) (vs : List Int) (ver : Nat) (c : C4) (W : World) : Prop where
  F : FamAt fb t mb lo a ST m f W
  R : RowAt rb lo ar vs W
  M : MtrAt m c W
  s : W.heap[sb]? = some (spO fb (wayR rb) (ver : Nat))
  d1 : ∀ z, z ∈ famS fb mb a ST → z ∉ rb :: blk ar
  d2 : sb ∉ famS fb mb a ST ∧ sb ∉ rb :: blk ar
  ls : lo ≤ sb
  hm : ∀ b, m = some b → b < lo
section
variable {fb t mb lo : Nat} {a : Option Addr} {ST : List Nat} {m : Option Nat} {f : Fam} {sb rb : Nat} {ar : Option Addr} {vs : List Int} {ver : Nat} {c : C4} {W W' : World}
theorem SRow.offm (h : SRow fb t mb lo a ST m f sb rb ar vs ver c W) : ∀ z, lo ≤ z → z ∉ mS m := fun z hz hy => by
  cases hmm : m with
  | none => rw [hmm] at hy; simp [mS] at hy
  | some b => rw [hmm] at hy; simp [mS] at hy; have := h.hm b hmm; omega
theorem SRow.mr (h : SRow fb t mb lo a ST m f sb rb ar vs ver c W) : ∀ b, m = some b → b ∉ rb :: blk ar := fun b hb hx => by
  have h1 := (h.R.foot b hx).1
  have h2 := h.hm b hb
  omega
/-- Only the meter has changed. -/
theorem SRow.met (h : SRow fb t mb lo a ST m f sb rb ar vs ver c W) {c' : C4} (k : Keeps (mS m) W W') (hM : MtrAt m c' W') : SRow fb t mb lo a ST m f sb rb ar vs ver c' W' :=
  ⟨h.F.keeps k (fun z hz => h.offm z (h.F.foot z hz).1), h.R.keeps k (fun z hz => h.offm z (h.R.foot z hz).1), hM, k.has h.s (h.offm sb h.ls), h.d1, h.d2, h.ls, h.hm⟩
end
theorem ver_up (ver : Nat) (h : ver ≤ 100000) : IntKind.u64.wrap ((ver : Int) + 1) = ((ver + 1 : Nat) : Int) := by
  rw [IntWalk.u64_in _ (by omega)]; omega
def spFeet (fb mb : Nat) (a : Option Addr) (ST : List Nat) (m : Option Nat) (sb rb : Nat) (ar : Option Addr) : List Nat := sb :: (famS fb mb a ST ++ (rb :: blk ar) ++ mS m)
def rowSet (f : Fam) (vs : List Int) (c : C4) (s : ByteArray) (v : Int) : Option (Int × Fam × List Int × C4) :=
  if 0 ≤ rowFindI vs (seekR f.K (numI f.N s) (txtH s) c).1 then some (0, f, vs.set (rowFindI vs (seekR f.K (numI f.N s) (txtH s) c).1).toNat v, (seekR f.K (numI f.N s) (txtH s) c).2)
  else if f.pairs ≤ (vs.length : Int) then some (6, f, vs, (seekR f.K (numI f.N s) (txtH s) c).2)
  else match rowAdd f vs.length s (seekR f.K (numI f.N s) (txtH s) c).2 with
    | some (f', c') => some (0, f', vs ++ [v], c'.val)
    | none => none
def SetRowP (fb t mb lo : Nat) (a : Option Addr) (ST : List Nat) (m : Option Nat) (f : Fam) (sb rb : Nat) (ar : Option Addr) (vs : List Int) (ver : Nat) (c : C4) (s : ByteArray) (v : Int) (w : World) (r : Ending) (w' : World) : Prop :=
  ∃ e f' vs' c' a' ST' ar', rowSet f vs c s v = some (e, f', vs', c') ∧ r = .returned (.int .i64 e) ∧ SRow fb t mb lo a' ST' m f' sb rb ar' vs' (if e = 0 then ver + 1 else ver) c' w' ∧ Keeps (spFeet fb mb a ST m sb rb ar) w w' ∧ Grew (famS fb mb a ST) w (famS fb mb a' ST') ∧ Grew (rb :: blk ar) w (rb :: blk ar')
set_option maxRecDepth 100000 in
set_option maxHeartbeats 4000000 in
theorem sset_old (k : Nat) (hk : k ≤ 1000) (fb t mb lo : Nat) (a : Option Addr) (ST : List Nat) (m : Option Nat) (f : Fam) (sb rb : Nat) (ar : Option Addr) (vs : List Int) (ver : Nat) (c : C4) (s : ByteArray) (v : Int) (w : World) (H : SRow fb t mb lo a ST m f sb rb ar vs ver c w) (hI : TInv k f.K) (hs : s.size ≤ 1000000) (hver : ver ≤ 100000)
    (hold : 0 ≤ rowFindI vs (seekR f.K (numI f.N s) (txtH s) c).1) :
    Calls Tryz.prog 21 #[.pointer (some ⟨sb, 0, none⟩), .string s, .int .i64 v] w (SetRowP fb t mb lo a ST m f sb rb ar vs ver c s v w) := by
  have HH := Lib.hid H
  have HI := Lib.hid hI
  have c0 : w.cell? ⟨sb, 0, none⟩ = some (.pointer (some ⟨fb, 0, none⟩)) := cell_has H.s (i := 0) rfl
  have c1 : w.cell? ⟨sb, 1, none⟩ = some (.iface 107 (.pointer (some ⟨rb, 0, none⟩))) := cell_has H.s (i := 1) rfl
  have HS := Lib.hid (show rowSet f vs c s v = some (0, f, vs.set (rowFindI vs (seekR f.K (numI f.N s) (txtH s) c).1).toNat v, (seekR f.K (numI f.N s) (txtH s) c).2) from by unfold rowSet; rw [if_pos hold])
  have FI := fun (W : World) (h : SRow fb t mb lo a ST m f sb rb ar vs ver c W) => rfind_any k hk fb t mb lo a ST m f rb lo ar vs c s W h.F h.R h.M h.hm h.mr hI hs
  have RL := Lib.hid (show rowFindI vs (seekR f.K (numI f.N s) (txtH s) c).1 < vs.length from by unfold rowFindI; split <;> omega)
  obtain ⟨R, hR⟩ := ex_hid (seekR f.K (numI f.N s) (txtH s) c)
  obtain ⟨ii, hii⟩ := ex_hid (rowFindI vs R.1)
  rw [← hR.out, ← hii.out] at hold HS FI RL
  obtain ⟨i, rfl⟩ : ∃ i : Nat, ii = (i : Int) := ⟨ii.toNat, by omega⟩
  have hb : decide ((0 : Int) ≤ (i : Int)) = true := by simp
  have FI := Lib.hid FI
  clear H hI hold
  go_enter Tryz.func21, Tryz.ntmps21
  go_wp2_with fail
  refine (snone_any sb fb _ ver w HH.out.s).mono ?_
  rintro r w1 ⟨rfl, rfl⟩
  go_upto_region 3 with (fail)
  go_region_held3 (fun w' => w'.cell? ⟨sb, 0, none⟩ = some (.pointer (some ⟨fb, 0, none⟩)) ∧ w'.cell? ⟨sb, 1, none⟩ = some (.iface 107 (.pointer (some ⟨rb, 0, none⟩)))) (go_keep)
    (first | (go_at_call 135; refine (FI.out w.drew (HH.out.met (Keeps.refl _ _).drew (HH.out.M.keeps (Keeps.refl [] w).drew (by simp)))).mono ?_; rintro r w1 ⟨rfl, m1, k1⟩; have K1 := Lib.hid ((Keeps.refl (mS m) w).drew.trans k1); have M1 := Lib.hid m1; have q0 := k1.cell (w := w.drew) c0 (HH.out.offm sb HH.out.ls); have q1 := k1.cell (w := w.drew) c1 (HH.out.offm sb HH.out.ls); clear m1 k1))
  clear FI
  have S1 := Lib.hid (HH.out.met K1.out M1.out)
  obtain ⟨n, hn⟩ := ex_hid vs.length
  clear M1 c0 c1
  have TU := rturn_any rb lo ar vs i v (by have := RL.out; omega) w1 S1.out.R
  go_wp2_with fail
  refine TU.mono ?_
  rintro r w2 ⟨rfl, r2, k2⟩
  have d2 := HH.out.d2
  have b2 := k2.has S1.out.s (fun hx => d2.2 (List.mem_cons_of_mem _ hx))
  have y2 : w2.cell? ⟨sb, 2, none⟩ = some (.int .u64 (ver : Nat)) := cell_has b2 (i := 2) rfl
  have y2f := free_of_has b2 2
  have R2 := Lib.hid r2
  have K2 := Lib.hid k2
  have B2 := Lib.hid b2
  have hw := ver_up ver hver
  clear r2 k2 b2 d2 TU q0 q1
  go_wp2_with fail
  go_ret
  have kS : Keeps [sb] w2 (w2.setCell ⟨sb, 2, none⟩ (.int .u64 ((ver + 1 : Nat) : Int))) := (Keeps.refl _ _).setCell (.inr (by simp)) _
  have d2 := HH.out.d2
  refine ⟨0, f, _, _, a, ST, ar, HS.out, rfl, ⟨?_, ?_, ?_, ?_, HH.out.d1, HH.out.d2, HH.out.ls, HH.out.hm⟩, ?_, Grew.refl _ _, Grew.refl _ _⟩
  · refine (S1.out.F.keeps K2.out (fun z hz hy => HH.out.d1 z hz (List.mem_cons_of_mem _ hy))).keeps kS (fun z hz hy => ?_)
    simp at hy; subst hy; exact d2.1 hz
  · exact R2.out.keeps kS (fun z hz hy => by simp at hy; subst hy; exact d2.2 hz)
  · exact (S1.out.M.keeps K2.out (fun b hb hx => HH.out.mr b hb (List.mem_cons_of_mem _ hx))).keeps kS (fun b hb hx => by simp at hx; subst hx; have := HH.out.hm _ hb; have := HH.out.ls; omega)
  · have h0 := has_setCell B2.out 2 (.int .u64 ((ver + 1 : Nat) : Int))
    unfold spO at h0 ⊢; simpa using h0
  · unfold spFeet
    refine ((K1.out.mono (fun z hz => by simp [hz])).trans (K2.out.mono (fun z hz => by simp [hz]))).trans (kS.mono (fun z hz => by simp at hz; simp [hz]))
end Go.Proofs.YtajmfenfajbakaaGreat
