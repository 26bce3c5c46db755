/- A shared namespace: none, Len, Version, Shared, Get (chapter 10). -/
import Derived.Test.YtajmfenfajbakaaGreatShI
namespace Go.Proofs.YtajmfenfajbakaaGreat
open Go.RowKit
set_option linter.unusedVariables false
set_option linter.unusedSimpArgs false

theorem meth_rlen (v : Value) (w : World) : (method 312 107 v "lexicon/shared.len").run Tryz.prog w = .ok (136, v) w := by kernel_rfl
theorem meth_rfind (v : Value) (w : World) : (method 312 107 v "lexicon/shared.find").run Tryz.prog w = .ok (135, v) w := by kernel_rfl
theorem meth_rvalue (v : Value) (w : World) : (method 312 107 v "lexicon/shared.value").run Tryz.prog w = .ok (139, v) w := by kernel_rfl
theorem meth_rturn (v : Value) (w : World) : (method 312 107 v "lexicon/shared.turn").run Tryz.prog w = .ok (138, v) w := by kernel_rfl
theorem meth_radd (v : Value) (w : World) : (method 312 107 v "lexicon/shared.add").run Tryz.prog w = .ok (134, v) w := by kernel_rfl
theorem meth_rpairs (v : Value) (w : World) : (method 312 107 v "lexicon/shared.pairs").run Tryz.prog w = .ok (137, v) w := by kernel_rfl
theorem meth_olen (v : Value) (w : World) : (method 312 128 v "lexicon/shared.len").run Tryz.prog w = .ok (143, v) w := by kernel_rfl
theorem meth_ofind (v : Value) (w : World) : (method 312 128 v "lexicon/shared.find").run Tryz.prog w = .ok (142, v) w := by kernel_rfl
theorem meth_ovalue (v : Value) (w : World) : (method 312 128 v "lexicon/shared.value").run Tryz.prog w = .ok (146, v) w := by kernel_rfl
theorem meth_oturn (v : Value) (w : World) : (method 312 128 v "lexicon/shared.turn").run Tryz.prog w = .ok (145, v) w := by kernel_rfl
theorem meth_oadd (v : Value) (w : World) : (method 312 128 v "lexicon/shared.add").run Tryz.prog w = .ok (68, v) w := by kernel_rfl
theorem meth_opairs (v : Value) (w : World) : (method 312 128 v "lexicon/shared.pairs").run Tryz.prog w = .ok (144, v) w := by kernel_rfl
theorem ta_rr (p : Option Addr) (w : World) : (Instr.typeAssert (.iface 107 (.pointer p)) 111 107 true).run Tryz.prog w = .ok (.tuple #[.pointer p, .bool true]) w := by kernel_rfl
theorem ta_ro (p : Option Addr) (w : World) : (Instr.typeAssert (.iface 107 (.pointer p)) 111 128 true).run Tryz.prog w = .ok (.tuple #[.pointer none, .bool false]) w := by kernel_rfl
theorem ta_or (p : Option Addr) (w : World) : (Instr.typeAssert (.iface 128 (.pointer p)) 111 107 true).run Tryz.prog w = .ok (.tuple #[.pointer none, .bool false]) w := by kernel_rfl
theorem ta_oo (p : Option Addr) (w : World) : (Instr.typeAssert (.iface 128 (.pointer p)) 111 128 true).run Tryz.prog w = .ok (.tuple #[.pointer p, .bool true]) w := by kernel_rfl
attribute [local go_sem] meth_rlen meth_rfind meth_rvalue meth_rturn meth_radd meth_rpairs meth_olen meth_ofind meth_ovalue meth_oturn meth_oadd meth_opairs ta_rr ta_ro ta_or ta_oo

/-- A namespace in memory, whichever way it is kept. -/
def spO (fb : Nat) (wy : Value) (ver : Int) : Obj := .cells #[.pointer (some ⟨fb, 0, none⟩), wy, .int .u64 ver] 114 (0, 0)
def wayR (rb : Nat) : Value := .iface 107 (.pointer (some ⟨rb, 0, none⟩))
def wayO (ob : Nat) : Value := .iface 128 (.pointer (some ⟨ob, 0, none⟩))
theorem snone_any (sb fb : Nat) (wy : Value) (ver : Int) (w : World) (h : w.heap[sb]? = some (spO fb wy ver)) :
    Calls Tryz.prog 47 #[.pointer (some ⟨sb, 0, none⟩)] w fun r w' => r = .returned (.bool false) ∧ w = w' := by
  have c0 : w.cell? ⟨sb, 0, none⟩ = some (.pointer (some ⟨fb, 0, none⟩)) := cell_has h (i := 0) rfl
  clear h
  go_enter Tryz.func47, Tryz.ntmps47
  go_wp2_with fail
  go_ret
  exact ⟨rfl, rfl⟩
theorem snone_nil (w : World) : Calls Tryz.prog 47 #[.pointer none] w fun r w' => r = .returned (.bool true) ∧ w = w' := by
  go_enter Tryz.func47, Tryz.ntmps47
  go_wp2_with fail
  go_ret
  exact ⟨rfl, rfl⟩
theorem snone_zero (sb : Nat) (w : World) (c0 : w.cell? ⟨sb, 0, none⟩ = some (.pointer none)) :
    Calls Tryz.prog 47 #[.pointer (some ⟨sb, 0, none⟩)] w fun r w' => r = .returned (.bool true) ∧ w = w' := by
  go_enter Tryz.func47, Tryz.ntmps47
  go_wp2_with fail
  go_ret
  exact ⟨rfl, rfl⟩
theorem sver_any (sb fb : Nat) (wy : Value) (ver : Int) (w : World) (h : w.heap[sb]? = some (spO fb wy ver)) :
    Calls Tryz.prog 35 #[.pointer (some ⟨sb, 0, none⟩)] w fun r w' => r = .returned (.int .i64 (wrap64 ver)) ∧ w = w' := by
  have c0 : w.cell? ⟨sb, 2, none⟩ = some (.int .u64 ver) := cell_has h (i := 2) rfl
  clear h
  go_enter Tryz.func35, Tryz.ntmps35
  go_wp2_with fail
  go_ret
  exact ⟨rfl, rfl⟩
set_option maxRecDepth 100000 in
theorem sshared_row (sb fb rb : Nat) (ver : Int) (w : World) (h : w.heap[sb]? = some (spO fb (wayR rb) ver)) :
    Calls Tryz.prog 23 #[.pointer (some ⟨sb, 0, none⟩)] w fun r w' => r = .returned (.bool true) ∧ w = w' := by
  have c0 : w.cell? ⟨sb, 1, none⟩ = some (.iface 107 (.pointer (some ⟨rb, 0, none⟩))) := cell_has h (i := 1) rfl
  go_enter Tryz.func23, Tryz.ntmps23
  go_wp2_with fail
  refine (snone_any sb fb _ ver w h).mono ?_
  rintro r w1 ⟨rfl, rfl⟩
  clear h
  go_wp2_with fail
  go_ret
  exact ⟨rfl, rfl⟩
set_option maxRecDepth 100000 in
theorem sshared_own (sb fb ob : Nat) (ver : Int) (w : World) (h : w.heap[sb]? = some (spO fb (wayO ob) ver)) :
    Calls Tryz.prog 23 #[.pointer (some ⟨sb, 0, none⟩)] w fun r w' => r = .returned (.bool false) ∧ w = w' := by
  have c0 : w.cell? ⟨sb, 1, none⟩ = some (.iface 128 (.pointer (some ⟨ob, 0, none⟩))) := cell_has h (i := 1) rfl
  go_enter Tryz.func23, Tryz.ntmps23
  go_wp2_with fail
  refine (snone_any sb fb _ ver w h).mono ?_
  rintro r w1 ⟨rfl, rfl⟩
  clear h
  go_wp2_with fail
  go_ret
  exact ⟨rfl, rfl⟩
theorem slen_row (sb fb rb lo : Nat) (a : Option Addr) (vs : List Int) (ver : Int) (w : World) (h : w.heap[sb]? = some (spO fb (wayR rb) ver)) (HR : RowAt rb lo a vs w) :
    Calls Tryz.prog 33 #[.pointer (some ⟨sb, 0, none⟩)] w fun r w' => r = .returned (.int .i64 (vs.length : Nat)) ∧ w = w' := by
  have c0 : w.cell? ⟨sb, 1, none⟩ = some (.iface 107 (.pointer (some ⟨rb, 0, none⟩))) := cell_has h (i := 1) rfl
  have HRR := Lib.hid HR
  clear HR
  go_enter Tryz.func33, Tryz.ntmps33
  go_wp2_with fail
  refine (snone_any sb fb _ ver w h).mono ?_
  rintro r w1 ⟨rfl, rfl⟩
  clear h
  go_wp2_with fail
  refine (rlen_any rb lo a vs w HRR.out).mono ?_
  rintro r w1 ⟨rfl, rfl⟩
  go_wp2_with fail
  go_ret
  exact ⟨rfl, rfl⟩
theorem spairs_row (sb fb rb : Nat) (P : List Pr10) (ver : Int) (w : World) (h : w.heap[sb]? = some (spO fb (wayR rb) ver)) (HP : ∀ W, Keeps [] w W → Calls Tryz.prog 137 #[.pointer (some ⟨rb, 0, none⟩), .pointer (some ⟨fb, 0, none⟩)] W (Pairs10 P W)) :
    Calls Tryz.prog 37 #[.pointer (some ⟨sb, 0, none⟩)] w (Pairs10 P w) := by
  have c0 : w.cell? ⟨sb, 0, none⟩ = some (.pointer (some ⟨fb, 0, none⟩)) := cell_has h (i := 0) rfl
  have c1 : w.cell? ⟨sb, 1, none⟩ = some (.iface 107 (.pointer (some ⟨rb, 0, none⟩))) := cell_has h (i := 1) rfl
  have HH := Lib.hid HP
  clear HP
  go_enter Tryz.func37, Tryz.ntmps37
  go_wp2_with fail
  refine (snone_any sb fb _ ver w h).mono ?_
  rintro r w1 ⟨rfl, rfl⟩
  clear h
  go_upto_region 3 with (fail)
  go_region_held3 (fun w' => w'.cell? ⟨sb, 0, none⟩ = some (.pointer (some ⟨fb, 0, none⟩)) ∧ w'.cell? ⟨sb, 1, none⟩ = some (.iface 107 (.pointer (some ⟨rb, 0, none⟩)))) (go_keep)
    (first | (go_at_call 137; refine (HH.out w.drew (Keeps.refl [] w).drew).mono ?_; rintro r w1 ⟨a, c, rfl, p1, k1⟩; have P1 := Lib.hid p1; have K1 := Lib.hid ((Keeps.refl [] w).drew.trans k1); have q0 := k1.cell (w := w.drew) c0 (by simp); have q1 := k1.cell (w := w.drew) c1 (by simp); clear p1 k1))
  go_wp2_with fail
  go_ret
  exact ⟨a, c, rfl, P1.out, K1.out⟩
end Go.Proofs.YtajmfenfajbakaaGreat
