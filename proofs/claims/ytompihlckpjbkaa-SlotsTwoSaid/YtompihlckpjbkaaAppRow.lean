/- A whole row appended to nothing, at a step of a region that draws its order. No program in sight. -/
import Derived.Test.YtompihlckpjbkaaValRow
import Derived.Deep.AppendLies
import Derived.Laws.OwnMore
namespace Go.Proofs.Ytompihlckpjbkaa
set_option linter.unusedVariables false

theorem step_append_row {P : Program} {ops : Array Oper} {o : Oper} {a : Act} {w : World} {K : Act → World → Prop} {Q : Exit → Act → World → Prop} {EE : Prop} (hgd : o.guard = none) (s x : Operand) (t : TypeId)
    (ho : o.op = .call { callee := .builtin .append, args := #[s, x], argTypes := #[t, t] })
    (base : Nat) (e : TypeId) (i : TypeInfo) (z : Value) (bytes : Nat) (ht : P.underlying t = some (.slice e)) (hi : P.info? e = some i) (hz : i.zero = some z)
    (hsize : i.size = 1) (hby : i.bytes = bytes) (hzs : z.cells.size = 1)
    (hs : a.eval s = .slice none 0 0) (lo : Nat) (La : Option Addr) (m Lc : Nat) (V : Nat → Value) (hx : a.eval x = .slice La m Lc) (hrow : ValRow e lo La m Lc V w) (h1 : ∀ k, k < m → (V k).oneCell' = true)
    (h63 : m ≤ maxLen) (hbytes : m * bytes ≤ 140737488355328) (hbase : base ≤ w.heap.size)
    (h : ∀ a' c' w', ValRow e base a' m c' V w' → Keeps [] w w' → K (a.put o.dst (.slice a' m c')) w') :
    if Region.wanted o (yielded ops a.tmps) = true then Oper.wp P o a w K Q else EE := by
  have hw : Region.wanted o (yielded ops a.tmps) = true := by simp [Region.wanted, hgd]
  rw [if_pos hw]
  have hn : w.ownsRow base e 1 (.slice none 0 0) 0 [] := World.ownsRow_nil _ _ _ _
  rcases hrow.2 with ⟨q1, q2⟩ | ⟨g, cap, cur, q1, q2, q3, _⟩
  · simp at q1
    obtain ⟨rfl, rfl, rfl⟩ := q1
    have hr := run_append_owned_none (P := P) (w := w) base t o.type e i 1 ht hi _ _ _ hn
    unfold Oper.wp execOp
    simp only [ho, resolve, invoke, builtin, Sem.run_bind, Sem.run_pure, Result.andThen_ok, List.map_toArray, List.map_cons, List.map_nil, hs, hx, hr]
    exact h _ _ _ (ValRow.nil _ _ _ _) (Keeps.refl _ _)
  · simp at q1
    obtain ⟨rfl, rfl⟩ := q1
    obtain ⟨v', w', hr, hown, hgrow, _⟩ := run_append_own (P := P) w base t o.type e i z 1 bytes ht hi hz hsize hby hzs (by decide) _ _ _ hn ⟨g, 0, none⟩ m Lc (valR m V) (by simp [valR]) (fun j u hu => World.ownsRow.cells hrow (by simp [Value.ownBlock]) j u hu) (by intro u hu; simp [valR] at hu; obtain ⟨k, hk, rfl⟩ := hu; exact h1 k hk) (by omega) (by simpa using hbytes) hbase
    obtain ⟨a', c', rfl⟩ := own_shape hown
    unfold Oper.wp execOp
    simp only [ho, resolve, invoke, builtin, Sem.run_bind, Sem.run_pure, Result.andThen_ok, List.map_toArray, List.map_cons, List.map_nil, hs, hx, hr]
    simp only [Nat.zero_add, List.nil_append] at hown ⊢
    exact h a' c' w' hown ⟨hgrow.os, hgrow.tape, hgrow.output, hgrow.size, fun k hk _ => hgrow.block k hk (by simp [Value.ownBlock])⟩
end Go.Proofs.Ytompihlckpjbkaa
