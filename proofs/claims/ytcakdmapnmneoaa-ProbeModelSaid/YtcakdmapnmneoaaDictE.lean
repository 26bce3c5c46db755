/- A dictionary is cleared, copied (chapter 8). -/
import Derived.Test.YtcakdmapnmneoaaDictO
import Derived.Test.YtcakdmapnmneoaaTabCopy
namespace Go.Proofs.Ytcakdmapnmneoaa
open Go.RowKit
set_option linter.unusedVariables false
set_option linter.unusedSimpArgs false

def Dic.clr (d : Dic) : Dic := { d with T := d.T.clear, ver := d.ver + 1 }
def Dic.cpy (d : Dic) : Dic := { T := d.T.copy, most := d.most, ver := 0 }
def Clr8P (db t lo : Nat) (S : List Nat) (m : Option Nat) (c : C4) (d : Dic) (w : World) (r : Ending) (w' : World) : Prop :=
  ∃ S', r = .returned (.tuple #[]) ∧ DicAt db t lo S' (mV m) d.clr w' ∧ MtrAt m c.tab w' ∧ Keeps (db :: (S ++ mS m)) w w' ∧ Grew S w S'
theorem dclear_any (k : Nat) (hk : k ≤ 1000) (db t lo : Nat) (S : List Nat) (m : Option Nat) (c : C4) (d : Dic) (w : World) (HD : DicAt db t lo S (mV m) d w) (hC : MtrAt m c w) (hm : ∀ b, m = some b → b < lo) (hI : DicOk k d) :
    Calls Try.prog 31 #[.pointer (some ⟨db, 0, none⟩)] w (Clr8P db t lo S m c d w) := by
  have HDD := Lib.hid HD
  have R := clear_any t lo S m c d.T w HD.t hC hm (by have := hI.t.mdk; omega) (by have := hI.t.tk; omega)
  have TA := dtable_any db t d.most d.ver w HD.b
  have NM := Lib.hid (show db ∉ S ++ mS m from by
    simp only [List.mem_append, not_or]
    refine ⟨HD.n, fun h => ?_⟩
    cases m with
    | none => simp [mS] at h
    | some b => simp [mS] at h; have := hm b rfl; have := HD.l; omega)
  have NM2 := Lib.hid (show ∀ b, m = some b → b ≠ db from fun b hb => by have := hm b hb; have := HD.l; omega)
  have HV := Lib.hid (show d.ver ≤ 1000000 by have := hI.v; omega)
  clear HD hC hm hI
  go_enter Try.func31, Try.ntmps31
  go_wp2_with fail
  refine TA.mono ?_
  rintro r w0 ⟨rfl, rfl⟩
  go_wp2_with fail
  refine R.mono ?_
  rintro r w1 ⟨S1, rfl, t1, c1, k1, g1⟩
  have B1 := Lib.hid (k1.has HDD.out.b NM.out)
  have T1 := Lib.hid t1
  have C1 := Lib.hid c1
  have K1 := Lib.hid k1
  have G1 := Lib.hid g1
  clear t1 c1 k1 g1 R TA
  go_wp2_with fail
  refine (changed_any db t d.most d.ver w1 B1.out HV.out).mono ?_
  rintro r w2 ⟨rfl, b2, k2⟩
  have B2 := Lib.hid b2
  have K2 := Lib.hid k2
  clear b2 k2
  go_wp2_with fail
  go_end0
  have hdb : db ∉ S1 := fun h => by
    rcases G1.out _ h with h1 | h1
    · exact HDD.out.n h1
    · have := lt_of_block HDD.out.b; omega
  exact ⟨S1, rfl, ⟨B2.out, T1.out.keeps K2.out (fun z hz h => by simp at h; subst h; exact hdb hz), hdb, HDD.out.l⟩, C1.out.keeps K2.out (fun b hb h => by simp at h; exact NM2.out b hb h), (K1.out.mono (fun z hz => by simp at hz ⊢; exact .inr hz)).trans (K2.out.mono (by simp)), G1.out⟩
def Cpy8P (m : Option Nat) (c : C4) (d : Dic) (w : World) (r : Ending) (w' : World) : Prop :=
  ∃ db2 t2 S2, r = .returned (.pointer (some ⟨db2, 0, none⟩)) ∧ DicAt db2 t2 w.heap.size S2 (mV m) d.cpy w' ∧ MtrAt m c.tab w' ∧ Keeps (mS m) w w'
set_option maxRecDepth 100000 in
theorem dcopy_any (k : Nat) (hk : k ≤ 1000) (db t lo : Nat) (S : List Nat) (m : Option Nat) (c : C4) (d : Dic) (w : World) (HD : DicAt db t lo S (mV m) d w) (hC : MtrAt m c w) (hm : ∀ b, m = some b → b < lo) (hI : DicOk k d) :
    Calls Try.prog 34 #[.pointer (some ⟨db, 0, none⟩)] w (Cpy8P m c d w) := by
  have HDD := Lib.hid HD
  have HCC := Lib.hid hC
  have HI := Lib.hid (hI.t.mono hk)
  have y1 : w.cell? ⟨db, 1, none⟩ = some (.int .i64 d.most) := cell_has HD.b (i := 1) rfl
  have NM := Lib.hid (show db ∉ mS m from fun h => by
    cases m with
    | none => simp [mS] at h
    | some b => simp [mS] at h; have := hm b rfl; have := HD.l; omega)
  obtain ⟨mo, hmo⟩ := ex_hid d.most
  rw [← hmo.out] at y1
  clear HD hC hm hI
  go_enter Try.func34, Try.ntmps34
  go_upto_region 3 with (fail)
  go_region_held3 (fun w' => w'.cell? ⟨db, 1, none⟩ = some (.int .i64 mo)) (go_keep)
    (first
      | (go_at_call 38; refine (dtable_any db t d.most d.ver w.drew HDD.out.b).mono ?_; rintro r w0 ⟨rfl, rfl⟩)
      | (go_at_call 63; refine (copy_any t lo S m c d.T w.drew (HDD.out.t.keeps (Keeps.refl [] w).drew (by simp)) (HCC.out.keeps (Keeps.refl [] w).drew (by simp)) HI.out).mono ?_; rintro r w1 ⟨t2, S2, rfl, t1, c1, k1⟩; have j1 := k1.cell (w := w.drew) y1 NM.out))
  go_wp2_with fail
  go_ret
  have ka : Keeps [] w1 (w1.alloc (.cells #[.pointer (some ⟨t2, 0, none⟩), .int .i64 mo, .int .u64 0] 80)) := (Keeps.refl [] w1).alloc _
  refine ⟨w1.heap.size, t2, S2, rfl, ⟨?_, t1.keeps ka (by simp), fun h => by have := (t1.foot _ h).2; omega, k1.size⟩, c1.keeps ka (by simp), ((Keeps.refl (mS m) w).drew.trans k1).trans (ka.mono (by simp))⟩
  have h := has_new w1 (.cells #[.pointer (some ⟨t2, 0, none⟩), .int .i64 mo, .int .u64 0] 80)
  rw [h]
  show some (dictO t2 mo 0) = some (dictO t2 d.most 0)
  rw [hmo.out]
end Go.Proofs.Ytcakdmapnmneoaa
