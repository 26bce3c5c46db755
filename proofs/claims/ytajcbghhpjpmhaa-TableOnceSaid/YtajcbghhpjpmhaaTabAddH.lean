/- An entry is added (chapter 7). -/
import Derived.Test.YtajcbghhpjpmhaaTabDrop
import Derived.Test.YtajcbghhpjpmhaaTabGrow
import Derived.Deep.AppendLies
import Derived.Deep.RegionHeld3
import Derived.Deep.RegionLaw
import Derived.Deep.Cut
import Derived.Deep.CutRange
namespace Go.Proofs.Ytajcbghhpjpmhaa
open Go.RowKit
set_option linter.unusedVariables false

theorem step_append_run {P : Program} {ops : Array Oper} {o : Oper} {a : Act} {w : World} {K : Act → World → Prop} {Q : Exit → Act → World → Prop} {E : Prop} (hgd : o.guard = none) (s x : Operand) (t : TypeId)
    (ho : o.op = .call { callee := .builtin .append, args := #[s, x], argTypes := #[t, t] }) (v1 v2 : Value) (hs : a.eval s = v1) (hx : a.eval x = v2) (r : Value) (w' : World) (hrun : (Builtin.append_ #[t, t] o.type #[v1, v2]).run P w = .ok r w')
    (h : K (a.put o.dst r) w') : if Region.wanted o (yielded ops a.tmps) = true then Oper.wp P o a w K Q else E := by
  have hw : Region.wanted o (yielded ops a.tmps) = true := by simp [Region.wanted, hgd]
  rw [if_pos hw]
  unfold Oper.wp execOp
  simp only [ho, resolve, invoke, builtin, Sem.run_bind, Sem.run_pure, Result.andThen_ok, List.map_toArray, List.map_cons, List.map_nil, hs, hx, hrun]
  exact h
theorem infoEnt5 : (Try.prog.info? 32).map (fun i => (i.zero, i.size, i.bytes)) = some (some noE.agg, 5, 40) := by kernel_rfl
theorem ent_append (lo : Nat) (a : Option Addr) (c : Nat) (E : List Ent) (x : Ent) (W : World) (B : Nat) (h : EntRow lo a c E W) (hB : W.heap[B]? = some (.cells #[.bool x.live, .int .i64 x.hash, .int .i64 x.key, .int .i64 x.val, .int .i64 x.birth] 32 (0, 0))) (hl : E.length ≤ 1000000) (hlo : lo ≤ W.heap.size) :
    ∃ g cap w', (Builtin.append_ #[25, 25] 25 #[.slice a E.length c, .slice (some ⟨B, 0, none⟩) 1 1]).run Try.prog W = .ok (.slice (some ⟨g, 0, none⟩) (E.length + 1) cap) w' ∧ EntRow lo (some ⟨g, 0, none⟩) cap (E ++ [x]) w' ∧ Keeps (blk a) W w' ∧ (g ∈ blk a ∨ g = W.heap.size) ∧ g < w'.heap.size := by
  obtain ⟨j0, hi, hz0, hz1, hz2⟩ := info_parts infoEnt5
  obtain ⟨g, cap, w', r1, r2, r3, r4, r5⟩ := run_append_lies (P := Try.prog) W 25 25 lo 32 j0 noE.agg 5 40 Try.underlying25 hi hz0 hz1 hz2 rfl (by decide) _ E.length (flatE E) h ⟨B, 0, none⟩ 1 1 x.cells rfl
    (fun j u hj => by
      have hlt : j < 5 := by have := (List.getElem?_eq_some_iff.1 hj).1; simpa [Ent.cells] using this
      rw [show (⟨B, 0, none⟩ : Addr).add j = ⟨B, j, none⟩ by unfold Addr.add; split <;> simp_all, cell_of_has hB]
      match j, hlt with
      | 0, _ | 1, _ | 2, _ | 3, _ | 4, _ => simpa [Ent.cells] using hj) x.one (by decide) (by unfold maxLen; omega) (by omega) hlo _ rfl
  refine ⟨g, cap, w', r1, ?_, ?_, ?_, r5⟩
  · unfold EntRow
    rw [flatE_snoc, List.length_append]
    exact r2
  · exact ⟨r3.os, r3.tape, r3.output, r3.size, fun k hk hn => r3.block k hk (fun e => hn (blk_own a _ _ k e.symm))⟩
  · rcases r4 with r4 | r4
    · exact .inl (blk_own a _ _ g r4)
    · exact .inr r4

/-- Behind an Add. -/
def AddP (t lo : Nat) (S : List Nat) (m : Option Nat) (c : C4) (R : Tab) (h ky v : Int) (w : World) (e : Ending) (w' : World) : Prop :=
  ∃ S', e = .returned (.tuple #[.int .i64 R.E.length, .int .i64 0]) ∧ TabAt t lo S' (mV m) (R.add1 h ky v) w' ∧ MtrAt m c w' ∧ Keeps (S ++ mS m) w w' ∧ Grew S w S'
/-- What the tail of Add wants. -/
def RdyF (k : Nat) (R : Tab) : Prop := 3 ≤ R.L ∧ R.L ≤ 12 ∧ R.E.length + 1 ≤ 2 * 2 ^ R.L / 3 ∧ CInv R.L R.V R.E ∧ Fits (2 ^ R.L) R.V ∧ R.E.length ≤ 1000 ∧ R.births ≤ 1000 ∧ R.turns ≤ 1000

end Go.Proofs.Ytajcbghhpjpmhaa
