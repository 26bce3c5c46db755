/- A family is made, a namespace is made, a name is asked for (chapter 10). -/
import Derived.Test.YtajmfenfajbakaaGreatShL
import Derived.Test.YtajmfenfajbakaaGreatShM
namespace Go.Proofs.YtajmfenfajbakaaGreat
open Go.RowKit
set_option linter.unusedVariables false
set_option linter.unusedSimpArgs false
attribute [local go_sem] meth_rlen meth_rfind meth_rvalue meth_rturn meth_radd meth_rpairs meth_olen meth_ofind meth_ovalue meth_oturn meth_oadd meth_opairs ta_rr ta_ro ta_or ta_oo

def NewFP (most pairs : Int) (m : Option Nat) (c : C4) (w : World) (r : Ending) (w' : World) : Prop :=
  ∃ fb t mb ST, r = .returned (.tuple #[.pointer (some ⟨fb, 0, none⟩), .int .i64 0]) ∧ FamAt fb t mb w.heap.size none ST m ⟨most, pairs, newT, []⟩ w' ∧ MtrAt m c.tab w' ∧ Keeps (mS m) w w'
set_option maxRecDepth 100000 in
theorem fnew_any (most pairs : Int) (m : Option Nat) (c : C4) (w : World) (hM : MtrAt m c w) (h0 : 0 ≤ most) (h1 : most ≤ 256) (h2 : 0 ≤ pairs) (h3 : pairs ≤ 65536) :
    Calls Tryz.prog 19 #[.int .i64 most, .int .i64 pairs, mV m] w (NewFP most pairs m c w) := by
  have b0 : decide (most < 0) = false := by simp; omega
  have b1 : decide ((256 : Int) < most) = false := by simp; omega
  have b2 : decide (pairs < 0) = false := by simp; omega
  have b3 : decide ((65536 : Int) < pairs) = false := by simp; omega
  have hmm := @run_makeMap Tryz.prog
  have NT := newt_any m c w hM
  have HS := Lib.hid (show ∀ b, m = some b → b < w.heap.size from fun b hb => lt_of_block (hM b hb))
  obtain ⟨p, hp⟩ : ∃ p : Option Addr, Hid (mV m = .pointer p) := ⟨_, Lib.hid rfl⟩
  have NT := Lib.hid NT
  rw [hp.out] at NT ⊢
  clear hM
  go_enter Tryz.func19, Tryz.ntmps19
  go_wp2_with fail
  refine NT.out.mono ?_
  rintro r w1 ⟨t, ST, rfl, t1, m1, k1⟩
  have T1 := Lib.hid t1
  have M1 := Lib.hid m1
  have K1 := Lib.hid k1
  clear t1 m1 k1
  go_wp2_with fail
  go_ret2
  have lo1 := K1.out.size
  obtain ⟨F, hF⟩ : ∃ F, F = (w1.alloc (.map #[] 0)).alloc (famO most pairs (mV m) t (.slice none 0 0) w1.heap.size) := ⟨_, rfl⟩
  have kF : Keeps [] w1 F := by rw [hF]; exact ((Keeps.refl [] w1).alloc _).alloc _
  have hb : F.heap[w1.heap.size + 1]? = some (famO most pairs (mV m) t (.slice none 0 0) w1.heap.size) := by
    rw [hF]; have := has_new (w1.alloc (.map #[] 0)) (famO most pairs (mV m) t (.slice none 0 0) w1.heap.size); simpa using this
  have hn : F.heap[w1.heap.size]? = some (numO []) := by
    rw [hF]; exact has_alloc (has_new w1 _) _
  have ft := T1.out.foot
  refine ⟨w1.heap.size + 1, t, w1.heap.size, ST, by simp, ?_, ?_, ?_⟩
  · have h9 : FamAt (w1.heap.size + 1) t w1.heap.size w.heap.size none ST m ⟨most, pairs, newT, []⟩ F := ⟨⟨0, hb, ValRow.nil _ _ _ _⟩, T1.out.keeps kF (by simp), hn, by
      simp only [blk, List.nil_append, List.mem_cons, not_or]
      exact ⟨by omega, fun h => by have := (ft _ h).2; omega⟩, by
      simp only [blk, List.nil_append]
      exact fun h => by have := (ft _ h).2; omega, by simp [blk], ⟨by omega, by omega⟩⟩
    rw [hF, hp.out] at h9; exact h9
  · have h9 := M1.out.keeps kF (by simp)
    rw [hF, hp.out] at h9; exact h9
  · have h9 := K1.out.trans (kF.mono (by simp))
    rw [hF, hp.out] at h9; exact h9
theorem fbegin_any (fb t mb lo : Nat) (a : Option Addr) (ST : List Nat) (m : Option Nat) (f : Fam) (w : World) (H : FamAt fb t mb lo a ST m f w) :
    Calls Tryz.prog 43 #[.pointer (some ⟨fb, 0, none⟩)] w fun r w' => r = .returned (.pointer (some ⟨fb, 0, none⟩)) ∧ w = w' := by
  obtain ⟨c9, h1, _⟩ := H.b
  have c3 : w.cell? ⟨fb, 3, none⟩ = some (.pointer (some ⟨t, 0, none⟩)) := cell_has h1 (i := 3) rfl
  clear H h1
  go_enter Tryz.func43, Tryz.ntmps43
  go_wp2_with fail
  go_ret
  exact ⟨rfl, rfl⟩
def MakeP (fb t mb lo : Nat) (a : Option Addr) (ST : List Nat) (m : Option Nat) (f : Fam) (c : C4) (w : World) (r : Ending) (w' : World) : Prop :=
  ∃ sb rb, r = .returned (.pointer (some ⟨sb, 0, none⟩)) ∧ SRow fb t mb lo a ST m f sb rb none [] 0 c w' ∧ Keeps [] w w' ∧ w.heap.size ≤ sb ∧ w.heap.size ≤ rb
set_option maxRecDepth 100000 in
theorem fmake_any (fb t mb lo : Nat) (a : Option Addr) (ST : List Nat) (m : Option Nat) (f : Fam) (c : C4) (w : World) (H : FamAt fb t mb lo a ST m f w) (hM : MtrAt m c w) (hm : ∀ b, m = some b → b < lo) :
    Calls Tryz.prog 20 #[.pointer (some ⟨fb, 0, none⟩)] w (MakeP fb t mb lo a ST m f c w) := by
  have HF := Lib.hid H
  have HM := Lib.hid hM
  have HMM := Lib.hid hm
  clear H hM hm
  go_enter Tryz.func20, Tryz.ntmps20
  go_wp2_with fail
  refine (fbegin_any fb t mb lo a ST m f w HF.out).mono ?_
  rintro r w1 ⟨rfl, rfl⟩
  go_wp2_with fail
  go_ret
  have lo1 := (HF.out.foot fb (by unfold famS; simp)).1
  have lo2 := (HF.out.foot fb (by unfold famS; simp)).2
  have ft := HF.out.foot
  obtain ⟨F, hF⟩ : ∃ F, F = (w.alloc (rowWO (.slice none 0 0))).alloc (spO fb (wayR w.heap.size) (0 : Nat)) := ⟨_, rfl⟩
  have kF : Keeps [] w F := by rw [hF]; exact ((Keeps.refl [] w).alloc _).alloc _
  have hb : F.heap[w.heap.size + 1]? = some (spO fb (wayR w.heap.size) (0 : Nat)) := by
    rw [hF]; have := has_new (w.alloc (rowWO (.slice none 0 0))) (spO fb (wayR w.heap.size) (0 : Nat)); simpa using this
  have hn : F.heap[w.heap.size]? = some (rowWO (.slice none 0 0)) := by
    rw [hF]; exact has_alloc (has_new w _) _
  refine ⟨w.heap.size + 1, w.heap.size, by simp, ?_, ?_, by omega, Nat.le_refl _⟩
  · have h9 : SRow fb t mb lo a ST m f (w.heap.size + 1) w.heap.size none [] 0 c F := ⟨HF.out.keeps kF (by simp), ⟨⟨0, hn, ValRow.nil _ _ _ _⟩, by simp [blk], by omega⟩, HM.out.keeps kF (by simp), hb, fun z hz hy => by simp [blk] at hy; subst hy; have := (ft _ hz).2; omega, ⟨fun h => by have := (ft _ h).2; omega, by simp [blk]⟩, by omega, HMM.out⟩
    rw [hF] at h9; exact h9
  · rw [hF] at kF; exact kF
def GetRowP (fb t mb lo : Nat) (a : Option Addr) (ST : List Nat) (m : Option Nat) (f : Fam) (sb rb : Nat) (ar : Option Addr) (vs : List Int) (ver : Nat) (c : C4) (s : ByteArray) (w : World) (r : Ending) (w' : World) : Prop :=
  r = .returned (.tuple #[.int .i64 (if 0 ≤ rowFindI vs (seekR f.K (numI f.N s) (txtH s) c).1 then vs.getD (rowFindI vs (seekR f.K (numI f.N s) (txtH s) c).1).toNat 0 else 0), .bool (decide (0 ≤ rowFindI vs (seekR f.K (numI f.N s) (txtH s) c).1))]) ∧ SRow fb t mb lo a ST m f sb rb ar vs ver (seekR f.K (numI f.N s) (txtH s) c).2 w' ∧ Keeps (mS m) w w'
set_option maxRecDepth 100000 in
set_option maxHeartbeats 4000000 in
theorem sget_row (k : Nat) (hk : k ≤ 1000) (fb t mb lo : Nat) (a : Option Addr) (ST : List Nat) (m : Option Nat) (f : Fam) (sb rb : Nat) (ar : Option Addr) (vs : List Int) (ver : Nat) (c : C4) (s : ByteArray) (w : World) (H : SRow fb t mb lo a ST m f sb rb ar vs ver c w) (hI : TInv k f.K) (hs : s.size ≤ 1000000) :
    Calls Tryz.prog 22 #[.pointer (some ⟨sb, 0, none⟩), .string s] w (GetRowP fb t mb lo a ST m f sb rb ar vs ver c s w) := by
  have HH := Lib.hid H
  have c0 : w.cell? ⟨sb, 0, none⟩ = some (.pointer (some ⟨fb, 0, none⟩)) := cell_has H.s (i := 0) rfl
  have c1 : w.cell? ⟨sb, 1, none⟩ = some (.iface 107 (.pointer (some ⟨rb, 0, none⟩))) := cell_has H.s (i := 1) rfl
  have FI := fun (W : World) (h : SRow fb t mb lo a ST m f sb rb ar vs ver c W) => rfind_any k hk fb t mb lo a ST m f rb lo ar vs c s W h.F h.R h.M h.hm h.mr hI hs
  have RL := Lib.hid (show rowFindI vs (seekR f.K (numI f.N s) (txtH s) c).1 < vs.length from by unfold rowFindI; split <;> omega)
  obtain ⟨R, hR⟩ := ex_hid (seekR f.K (numI f.N s) (txtH s) c)
  have HP : Hid (∀ r w', GetRowP fb t mb lo a ST m f sb rb ar vs ver c s w r w' = (r = .returned (.tuple #[.int .i64 (if 0 ≤ rowFindI vs R.1 then vs.getD (rowFindI vs R.1).toNat 0 else 0), .bool (decide (0 ≤ rowFindI vs R.1))]) ∧ SRow fb t mb lo a ST m f sb rb ar vs ver R.2 w' ∧ Keeps (mS m) w w')) := Lib.hid (fun r w' => by unfold GetRowP; rw [← hR.out])
  rw [← hR.out] at FI RL
  obtain ⟨i, hii⟩ := ex_hid (rowFindI vs R.1)
  rw [← hii.out] at FI RL
  have FI := Lib.hid FI
  clear H hI
  by_cases hold : 0 ≤ i
  · obtain ⟨i, rfl⟩ : ∃ j : Nat, i = (j : Int) := ⟨i.toNat, by omega⟩
    have hb : decide ((i : Int) < (0 : Int)) = false := by simp
    go_enter Tryz.func22, Tryz.ntmps22
    go_wp2_with fail
    refine (snone_any sb fb _ ver w HH.out.s).mono ?_
    rintro r w1 ⟨rfl, rfl⟩
    go_upto_region 3 with (fail)
    go_region_held3 (fun w' => w'.cell? ⟨sb, 0, none⟩ = some (.pointer (some ⟨fb, 0, none⟩)) ∧ w'.cell? ⟨sb, 1, none⟩ = some (.iface 107 (.pointer (some ⟨rb, 0, none⟩)))) (go_keep)
      (first | (go_at_call 135; refine (FI.out w.drew (HH.out.met (Keeps.refl _ _).drew (HH.out.M.keeps (Keeps.refl [] w).drew (by simp)))).mono ?_; rintro r w1 ⟨rfl, m1, k1⟩; have K1 := Lib.hid ((Keeps.refl (mS m) w).drew.trans k1); have M1 := Lib.hid m1; have q0 := k1.cell (w := w.drew) c0 (HH.out.offm sb HH.out.ls); have q1 := k1.cell (w := w.drew) c1 (HH.out.offm sb HH.out.ls); clear m1 k1))
    clear FI
    have S1 := Lib.hid (HH.out.met K1.out M1.out)
    clear M1 c0 c1
    have VA := rvalue_any rb lo ar vs i (by have := RL.out; omega) w1 S1.out.R
    go_wp2_with fail
    refine VA.mono ?_
    rintro r w2 ⟨rfl, rfl⟩
    go_wp2_with fail
    go_ret2
    rw [HP.out, ← hii.out]
    exact ⟨by simp, S1.out, K1.out⟩
  · have hb : decide (i < (0 : Int)) = true := by simp; omega
    have hlt : i < 0 := by omega
    go_enter Tryz.func22, Tryz.ntmps22
    go_wp2_with fail
    refine (snone_any sb fb _ ver w HH.out.s).mono ?_
    rintro r w1 ⟨rfl, rfl⟩
    go_upto_region 3 with (fail)
    go_region_held3 (fun w' => w'.cell? ⟨sb, 0, none⟩ = some (.pointer (some ⟨fb, 0, none⟩)) ∧ w'.cell? ⟨sb, 1, none⟩ = some (.iface 107 (.pointer (some ⟨rb, 0, none⟩)))) (go_keep)
      (first | (go_at_call 135; refine (FI.out w.drew (HH.out.met (Keeps.refl _ _).drew (HH.out.M.keeps (Keeps.refl [] w).drew (by simp)))).mono ?_; rintro r w1 ⟨rfl, m1, k1⟩; have K1 := Lib.hid ((Keeps.refl (mS m) w).drew.trans k1); have M1 := Lib.hid m1; have q0 := k1.cell (w := w.drew) c0 (HH.out.offm sb HH.out.ls); have q1 := k1.cell (w := w.drew) c1 (HH.out.offm sb HH.out.ls); clear m1 k1))
    clear FI
    have S1 := Lib.hid (HH.out.met K1.out M1.out)
    clear M1 c0 c1
    go_wp2_with fail
    go_ret2
    rw [HP.out, ← hii.out]
    have h1 : ¬ (0 : Int) ≤ i := by omega
    exact ⟨by rw [if_neg h1, decide_eq_false h1]; rfl, S1.out, K1.out⟩
end Go.Proofs.YtajmfenfajbakaaGreat
