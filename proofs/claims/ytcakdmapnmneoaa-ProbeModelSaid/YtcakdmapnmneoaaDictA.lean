/- A dictionary in memory; what a hit and a miss do (chapter 8). -/
import Derived.Test.YtcakdmapnmneoaaDictM
import Derived.Test.YtcakdmapnmneoaaTabAddS
import Derived.Test.YtcakdmapnmneoaaTabAddG
import Derived.Test.YtcakdmapnmneoaaTabKill
import Derived.Laws.EntriesVeiled
namespace Go.Proofs.Ytcakdmapnmneoaa
open Go.RowKit
set_option linter.unusedVariables false
set_option linter.unusedSimpArgs false

def dictO (t : Nat) (most : Int) (ver : Nat) : Obj := .cells #[.pointer (some ⟨t, 0, none⟩), .int .i64 most, .int .u64 ver] 80 (0, 0)
/-- A dictionary in memory. -/
structure DicAt (db t lo : Nat) (S : List Nat) (mv : Value) (d : Dic) (W : World) : Prop where
  b : W.heap[db]? = some (dictO t d.most d.ver)
  t : TabAt t lo S mv d.T W
  n : db ∉ S
  l : lo ≤ db
theorem DicAt.keeps {db t lo : Nat} {S R : List Nat} {mv : Value} {d : Dic} {W W' : World} (h : DicAt db t lo S mv d W) (k : Keeps R W W') (h1 : db ∉ R) (hd : ∀ x, x ∈ S → x ∉ R) : DicAt db t lo S mv d W' :=
  ⟨k.has h.b h1, h.t.keeps k hd, h.n, h.l⟩
def Trn.cells (x : Trn) : Array Value := #[.int .i64 x.kind, .int .i64 x.key, .bool x.found, .int .i64 x.val, .int .i64 x.ent]
def Trn.agg (x : Trn) : Value := .agg #[.int .i64 x.kind, .int .i64 x.key, .bool x.found, .int .i64 x.val, .int .i64 x.ent]
def trnO (x : Trn) : Obj := .cells #[.int .i64 x.kind, .int .i64 x.key, .bool x.found, .int .i64 x.val, .int .i64 x.ent] 29 (0, 0)
/-- What a machine does at a hit, at a miss. -/
def hitF (g : Nat) : FuncId := if g = 2 then 67 else if g = 3 then 69 else 65
def missF (g : Nat) : FuncId := if g = 1 ∨ g = 3 then 71 else 72
def macO (skp : Value) (db g : Nat) (h k v : Int) (st : Nat) (ev : Int) (scans ver : Nat) (x : Trn) : Obj :=
  .cells #[skp, .pointer (some ⟨db, 0, none⟩), .func (.func (hitF g)) #[] #[], .func (.func (missF g)) #[] #[], .int .i64 h, .int .i64 k, .int .i64 v, .int .i64 st, .int .i64 ev, .int .i64 scans, .int .u64 ver, .int .i64 x.kind, .int .i64 x.key, .bool x.found, .int .i64 x.val, .int .i64 x.ent] 97 (0, 0)
def skV (st sb : Nat) : Value := if st = 0 then .pointer none else .pointer (some ⟨sb, 0, none⟩)
/-- A machine in memory. -/
def MacAt (mb sb db t : Nat) (m : Mac) (W : World) : Prop :=
  ∃ ev, W.heap[mb]? = some (macO (skV m.st sb) db m.g m.h m.k m.v m.st ev m.scans m.ver m.turn) ∧ (m.st = 2 ∨ m.st = 3 → ev = m.ent) ∧ (m.st ≠ 0 → SkAt sb t m.sk W)
theorem MacAt.keeps {mb sb db t : Nat} {m : Mac} {R : List Nat} {W W' : World} (h : MacAt mb sb db t m W) (k : Keeps R W W') (h1 : mb ∉ R) (h2 : sb ∉ R) : MacAt mb sb db t m W' := by
  obtain ⟨ev, a, b, c⟩ := h
  exact ⟨ev, k.has a h1, b, fun hs => (c hs).keeps k h2⟩

theorem changed_any (db t : Nat) (most : Int) (ver : Nat) (w : World) (h : w.heap[db]? = some (dictO t most ver)) (hv : ver ≤ 1000000) :
    Calls Try.prog 60 #[.pointer (some ⟨db, 0, none⟩)] w fun r w' => r = .returned (.tuple #[]) ∧ w'.heap[db]? = some (dictO t most (ver + 1)) ∧ Keeps [db] w w' := by
  have H := Lib.hid h
  have c2 : w.cell? ⟨db, 2, none⟩ = some (.int .u64 ver) := cell_has h (i := 2) rfl
  have f2 := free_of_has h 2
  have e : IntKind.u64.wrap ((ver : Int) + 1) = ((ver + 1 : Nat) : Int) := by rw [IntKind.wrap_u64]; omega
  have v0 : (0 : Int) ≤ (ver : Int) := by omega
  have v1 : (ver : Int) ≤ 1000000 := by omega
  clear h
  go_enter Try.func60, Try.ntmps60
  go_wp2_with fail
  go_end0
  have h9 := has_setCell H.out 2 (.int .u64 ((ver + 1 : Nat) : Int))
  refine ⟨rfl, ?_, (Keeps.refl _ _).setCell (.inr (by simp)) _⟩
  simpa [dictO] using h9
theorem dtable_any (db t : Nat) (most : Int) (ver : Nat) (w : World) (h : w.heap[db]? = some (dictO t most ver)) :
    Calls Try.prog 38 #[.pointer (some ⟨db, 0, none⟩)] w fun r w' => r = .returned (.pointer (some ⟨t, 0, none⟩)) ∧ w = w' := by
  have c0 : w.cell? ⟨db, 0, none⟩ = some (.pointer (some ⟨t, 0, none⟩)) := cell_has h (i := 0) rfl
  clear h
  go_enter Try.func38, Try.ntmps38
  go_wp2_with fail
  go_ret
  exact ⟨rfl, rfl⟩
theorem dlen_any (db t lo : Nat) (S : List Nat) (mv : Value) (d : Dic) (w : World) (H : DicAt db t lo S mv d w) :
    Calls Try.prog 19 #[.pointer (some ⟨db, 0, none⟩)] w fun r w' => r = .returned (.int .i64 (liveN d.T.E : Nat)) ∧ w = w' := by
  have c0 : w.cell? ⟨db, 0, none⟩ = some (.pointer (some ⟨t, 0, none⟩)) := cell_has H.b (i := 0) rfl
  have HT := Lib.hid H.t
  clear H
  go_enter Try.func19, Try.ntmps19
  go_wp2_with fail
  refine (len_any t lo S mv d.T _ HT.out).mono ?_
  rintro r w1 ⟨rfl, rfl⟩
  go_wp2_with fail
  go_ret
  exact ⟨rfl, rfl⟩
theorem found_any (e : Int) (x : Ent) (w : World) :
    Calls Try.prog 66 #[.int .i64 e, x.agg] w fun r w' => r = .returned (hitT x e).agg ∧ Keeps [] w w' := by
  obtain ⟨x0, x1, x2, x3, x4⟩ := x
  unfold Ent.agg
  simp only
  go_enter Try.func66, Try.ntmps66
  go_wp2_with fail
  have b := has_new' (w.alloc (.cells #[.bool x0, .int .i64 x1, .int .i64 x2, .int .i64 x3, .int .i64 x4] 36)) (.cells #[.int .i64 2, .int .i64 0, .bool true, .int .i64 x3, .int .i64 e] 29) (b := w.heap.size + 1) (by simp)
  have rc := cell_of_has b
  exact bodyPost_ret (v := (hitT ⟨x0, x1, x2, x3, x4⟩ e).agg) (by simp [results, Try.results66, go_sem, Trn.agg, hitT, rc]) rfl ⟨rfl, ((Keeps.refl [] w).alloc _).alloc _⟩
end Go.Proofs.Ytcakdmapnmneoaa
