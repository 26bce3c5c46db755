/- A private namespace: Len, Pairs, Get (chapter 10). -/
import Derived.Test.YtajmfenfajbakaaGreatShZ
namespace Go.Proofs.YtajmfenfajbakaaGreat
open Go.RowKit
set_option linter.unusedVariables false
set_option linter.unusedSimpArgs false
attribute [local go_sem] meth_rlen meth_rfind meth_rvalue meth_rturn meth_radd meth_rpairs meth_olen meth_ofind meth_ovalue meth_oturn meth_oadd meth_opairs ta_rr ta_ro ta_or ta_oo

structure SOwn (fb t mb lo : Nat) (a : Option Addr) (ST : List Nat) (m : Option Nat) (f : Fam) (sb ob t2 lo2 : Nat) (S2 : List Nat) (T : Tab) (ver : Nat) (c : C4) (W : World) : Prop where
  F : FamAt fb t mb lo a ST m f W
  O : OwnAt ob t2 lo2 S2 m T W
  M : MtrAt m c W
  s : W.heap[sb]? = some (spO fb (wayO ob) (ver : Nat))
  d1 : ∀ z, z ∈ famS fb mb a ST → z ∉ ob :: S2
  d2 : sb ∉ famS fb mb a ST ∧ sb ∉ ob :: S2
  ls : lo ≤ sb
  hm : ∀ b, m = some b → b < lo
  ll : lo ≤ lo2
section
variable {fb t mb lo : Nat} {a : Option Addr} {ST : List Nat} {m : Option Nat} {f : Fam} {sb ob t2 lo2 : Nat} {S2 : List Nat} {T : Tab} {ver : Nat} {c : C4} {W W' : World}
theorem SOwn.offm (h : SOwn fb t mb lo a ST m f sb ob t2 lo2 S2 T ver c W) : ∀ z, lo ≤ z → z ∉ mS m := fun z hz hy => by
  cases hmm : m with
  | none => rw [hmm] at hy; simp [mS] at hy
  | some b => rw [hmm] at hy; simp [mS] at hy; have := h.hm b hmm; omega
theorem SOwn.of (h : SOwn fb t mb lo a ST m f sb ob t2 lo2 S2 T ver c W) : ∀ z, z ∈ ob :: S2 → z ∉ mS m := fun z hz => h.offm z (by have := (h.O.foot z hz).1; have := h.ll; omega)
/-- Only the meter has changed. -/
theorem SOwn.met (h : SOwn fb t mb lo a ST m f sb ob t2 lo2 S2 T ver c W) {c' : C4} (k : Keeps (mS m) W W') (hM : MtrAt m c' W') : SOwn fb t mb lo a ST m f sb ob t2 lo2 S2 T ver c' W' :=
  ⟨h.F.keeps k (fun z hz => h.offm z (h.F.foot z hz).1), h.O.keeps k h.of, hM, k.has h.s (h.offm sb h.ls), h.d1, h.d2, h.ls, h.hm, h.ll⟩
theorem SOwn.quiet (h : SOwn fb t mb lo a ST m f sb ob t2 lo2 S2 T ver c W) (k : Keeps [] W W') : SOwn fb t mb lo a ST m f sb ob t2 lo2 S2 T ver c W' := h.met (k.mono (by simp)) (h.M.keeps k (by simp))
theorem SOwn.hm2 (h : SOwn fb t mb lo a ST m f sb ob t2 lo2 S2 T ver c W) : ∀ b, m = some b → b < lo ∧ b < lo2 := fun b hb => ⟨h.hm b hb, by have := h.hm b hb; have := h.ll; omega⟩
end
theorem slen_own (sb fb ob t lo : Nat) (S : List Nat) (m : Option Nat) (T : Tab) (ver : Int) (w : World) (h : w.heap[sb]? = some (spO fb (wayO ob) ver)) (HO : OwnAt ob t lo S m T w) :
    Calls Tryz.prog 33 #[.pointer (some ⟨sb, 0, none⟩)] w fun r w' => r = .returned (.int .i64 (liveN T.E : Nat)) ∧ w = w' := by
  have c0 : w.cell? ⟨sb, 1, none⟩ = some (.iface 128 (.pointer (some ⟨ob, 0, none⟩))) := cell_has h (i := 1) rfl
  have LE := olen_any ob t lo S m T w HO
  obtain ⟨n, hn⟩ := ex_hid (liveN T.E)
  rw [← hn.out] at LE ⊢
  clear HO
  go_enter Tryz.func33, Tryz.ntmps33
  go_wp2_with fail
  refine (snone_any sb fb _ ver w h).mono ?_
  rintro r w1 ⟨rfl, rfl⟩
  clear h
  go_wp2_with fail
  refine LE.mono ?_
  rintro r w1 ⟨rfl, rfl⟩
  clear LE
  go_wp2_with fail
  go_ret
  exact ⟨rfl, rfl⟩
theorem spairs_own (sb fb ob : Nat) (P : List Pr10) (ver : Int) (w : World) (h : w.heap[sb]? = some (spO fb (wayO ob) ver)) (HP : ∀ W, Keeps [] w W → Calls Tryz.prog 144 #[.pointer (some ⟨ob, 0, none⟩), .pointer (some ⟨fb, 0, none⟩)] W (Pairs10 P W)) :
    Calls Tryz.prog 37 #[.pointer (some ⟨sb, 0, none⟩)] w (Pairs10 P w) := by
  have c0 : w.cell? ⟨sb, 0, none⟩ = some (.pointer (some ⟨fb, 0, none⟩)) := cell_has h (i := 0) rfl
  have c1 : w.cell? ⟨sb, 1, none⟩ = some (.iface 128 (.pointer (some ⟨ob, 0, none⟩))) := cell_has h (i := 1) rfl
  have HH := Lib.hid HP
  clear HP
  go_enter Tryz.func37, Tryz.ntmps37
  go_wp2_with fail
  refine (snone_any sb fb _ ver w h).mono ?_
  rintro r w1 ⟨rfl, rfl⟩
  clear h
  go_upto_region 3 with (fail)
  go_region_held3 (fun w' => w'.cell? ⟨sb, 0, none⟩ = some (.pointer (some ⟨fb, 0, none⟩)) ∧ w'.cell? ⟨sb, 1, none⟩ = some (.iface 128 (.pointer (some ⟨ob, 0, none⟩)))) (go_keep)
    (first | (go_at_call 144; refine (HH.out w.drew (Keeps.refl [] w).drew).mono ?_; rintro r w1 ⟨a, c, rfl, p1, k1⟩; have P1 := Lib.hid p1; have K1 := Lib.hid ((Keeps.refl [] w).drew.trans k1); have q0 := k1.cell (w := w.drew) c0 (by simp); have q1 := k1.cell (w := w.drew) c1 (by simp); clear p1 k1))
  go_wp2_with fail
  go_ret
  exact ⟨a, c, rfl, P1.out, K1.out⟩
def GetOwnP (fb t mb lo : Nat) (a : Option Addr) (ST : List Nat) (m : Option Nat) (f : Fam) (sb ob t2 lo2 : Nat) (S2 : List Nat) (T : Tab) (ver : Nat) (c : C4) (s : ByteArray) (w : World) (r : Ending) (w' : World) : Prop :=
  r = .returned (.tuple #[.int .i64 (if 0 ≤ (seekR T (numI f.N s) (txtH s) c).1 then (atE (entE T.E (seekR T (numI f.N s) (txtH s) c).1)).val else 0), .bool (decide (0 ≤ (seekR T (numI f.N s) (txtH s) c).1))]) ∧ SOwn fb t mb lo a ST m f sb ob t2 lo2 S2 T ver (seekR T (numI f.N s) (txtH s) c).2 w' ∧ Keeps (mS m) w w'
set_option maxRecDepth 100000 in
set_option maxHeartbeats 4000000 in
theorem sget_own (k : Nat) (hk : k ≤ 1000) (fb t mb lo : Nat) (a : Option Addr) (ST : List Nat) (m : Option Nat) (f : Fam) (sb ob t2 lo2 : Nat) (S2 : List Nat) (T : Tab) (ver : Nat) (c : C4) (s : ByteArray) (w : World) (H : SOwn fb t mb lo a ST m f sb ob t2 lo2 S2 T ver c w) (hI : TInv k T) (hs : s.size ≤ 1000000) :
    Calls Tryz.prog 22 #[.pointer (some ⟨sb, 0, none⟩), .string s] w (GetOwnP fb t mb lo a ST m f sb ob t2 lo2 S2 T ver c s w) := by
  have HH := Lib.hid H
  have c0 : w.cell? ⟨sb, 0, none⟩ = some (.pointer (some ⟨fb, 0, none⟩)) := cell_has H.s (i := 0) rfl
  have c1 : w.cell? ⟨sb, 1, none⟩ = some (.iface 128 (.pointer (some ⟨ob, 0, none⟩))) := cell_has H.s (i := 1) rfl
  have FI := fun (W : World) (h : SOwn fb t mb lo a ST m f sb ob t2 lo2 S2 T ver c W) => ofind_any k hk fb t mb lo a ST m f ob t2 lo2 S2 T c s W h.F h.O h.M (fun b hb => (h.hm2 b hb).2) hI hs
  have EK := Lib.hid (show T.E.length ≤ 1000000 from by have := hI.ek; omega)
  obtain ⟨R, hR⟩ := ex_hid (seekR T (numI f.N s) (txtH s) c)
  have HP : Hid (∀ r w', GetOwnP fb t mb lo a ST m f sb ob t2 lo2 S2 T ver c s w r w' = (r = .returned (.tuple #[.int .i64 (if 0 ≤ R.1 then (atE (entE T.E R.1)).val else 0), .bool (decide (0 ≤ R.1))]) ∧ SOwn fb t mb lo a ST m f sb ob t2 lo2 S2 T ver R.2 w' ∧ Keeps (mS m) w w')) := Lib.hid (fun r w' => by unfold GetOwnP; rw [← hR.out])
  unfold FindP at FI
  rw [← hR.out] at FI
  obtain ⟨i, hii⟩ := ex_hid R.1
  rw [← hii.out] at FI
  have FI := Lib.hid FI
  clear H hI
  by_cases hold : 0 ≤ i
  · have hb : decide (i < (0 : Int)) = false := by simp; omega
    have hlt : ¬ i < 0 := by omega
    go_enter Tryz.func22, Tryz.ntmps22
    go_wp2_with fail
    refine (snone_any sb fb _ ver w HH.out.s).mono ?_
    rintro r w1 ⟨rfl, rfl⟩
    go_upto_region 3 with (fail)
    go_region_held3 (fun w' => w'.cell? ⟨sb, 0, none⟩ = some (.pointer (some ⟨fb, 0, none⟩)) ∧ w'.cell? ⟨sb, 1, none⟩ = some (.iface 128 (.pointer (some ⟨ob, 0, none⟩)))) (go_keep)
      (first | (go_at_call 142; refine (FI.out w.drew (HH.out.quiet (Keeps.refl [] w).drew)).mono ?_; rintro r w1 ⟨rfl, m1, k1⟩; have K1 := Lib.hid ((Keeps.refl (mS m) w).drew.trans k1); have M1 := Lib.hid m1; have q0 := k1.cell (w := w.drew) c0 (HH.out.offm sb HH.out.ls); have q1 := k1.cell (w := w.drew) c1 (HH.out.offm sb HH.out.ls); clear m1 k1))
    clear FI
    have S1 := Lib.hid (HH.out.met K1.out M1.out)
    clear M1 c0 c1
    have VA := ovalue_any ob t2 lo2 S2 m T w1 S1.out.O EK.out i
    obtain ⟨vv, hvv⟩ := ex_hid (atE (entE T.E i)).val
    rw [← hvv.out] at VA
    go_wp2_with fail
    refine VA.mono ?_
    rintro r w2 ⟨rfl, k2⟩
    have K2 := Lib.hid k2
    clear k2 VA q0 q1
    go_wp2_with fail
    go_ret2
    rw [HP.out, ← hii.out]
    exact ⟨by rw [if_pos hold, ← hvv.out, decide_eq_true hold]; rfl, S1.out.quiet K2.out, K1.out.trans (K2.out.mono (by simp))⟩
  · have hb : decide (i < (0 : Int)) = true := by simp; omega
    have hlt : i < 0 := by omega
    go_enter Tryz.func22, Tryz.ntmps22
    go_wp2_with fail
    refine (snone_any sb fb _ ver w HH.out.s).mono ?_
    rintro r w1 ⟨rfl, rfl⟩
    go_upto_region 3 with (fail)
    go_region_held3 (fun w' => w'.cell? ⟨sb, 0, none⟩ = some (.pointer (some ⟨fb, 0, none⟩)) ∧ w'.cell? ⟨sb, 1, none⟩ = some (.iface 128 (.pointer (some ⟨ob, 0, none⟩)))) (go_keep)
      (first | (go_at_call 142; refine (FI.out w.drew (HH.out.quiet (Keeps.refl [] w).drew)).mono ?_; rintro r w1 ⟨rfl, m1, k1⟩; have K1 := Lib.hid ((Keeps.refl (mS m) w).drew.trans k1); have M1 := Lib.hid m1; have q0 := k1.cell (w := w.drew) c0 (HH.out.offm sb HH.out.ls); have q1 := k1.cell (w := w.drew) c1 (HH.out.offm sb HH.out.ls); clear m1 k1))
    clear FI
    have S1 := Lib.hid (HH.out.met K1.out M1.out)
    clear M1 c0 c1
    go_wp2_with fail
    go_ret2
    rw [HP.out, ← hii.out]
    have h1 : ¬ (0 : Int) ≤ i := by omega
    exact ⟨by rw [if_neg h1, decide_eq_false h1]; rfl, S1.out, K1.out⟩
end Go.Proofs.YtajmfenfajbakaaGreat
