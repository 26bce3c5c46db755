/- A slice that came in, appended to nothing. No program in sight. -/
import Derived.Test.YtompihlckpjbkaaValRow
import Derived.Deep.AppendLies
import Derived.Laws.OwnMore
import Derived.Laws.AppendOwnNone
namespace Go.Proofs.Ytompihlckpjbkaa
set_option linter.unusedVariables false

theorem wpList_append_src {P : Program} {ops : Array Oper} {rest : List Oper} {o : Oper} {a : Act} {w : World} {Q : Exit → Act → World → Prop} (hgd : o.guard = none) (s x : Operand) (t : TypeId)
    (ho : o.op = .call { callee := .builtin .append, args := #[s, x], argTypes := #[t, t] })
    (base : Nat) (e : TypeId) (i : TypeInfo) (z : Value) (bytes : Nat) (ht : P.underlying t = some (.slice e)) (hi : P.info? e = some i) (hz : i.zero = some z)
    (hsize : i.size = 1) (hby : i.bytes = bytes) (hzs : z.cells.size = 1)
    (hs : a.eval s = .slice none 0 0) (ad : Option Addr) (m c : Nat) (V : Nat → Value) (hx : a.eval x = .slice ad m c) (hnil : ad = none → m = 0 ∧ c = 0)
    (hc : ∀ k, k < m → ∃ b off, ad = some ⟨b, off, none⟩ ∧ w.cell? ⟨b, off + k, none⟩ = some (V k)) (h1 : ∀ k, k < m → (V k).oneCell' = true)
    (h63 : m ≤ maxLen) (hbytes : m * bytes ≤ 140737488355328) (hbase : base ≤ w.heap.size)
    (h : ∀ a' c' w', ValRow e base a' m c' V w' → Keeps [] w w' → wpList P ops Q rest (a.put o.dst (.slice a' m c')) w') : wpList P ops Q (o :: rest) a w := by
  refine wpList_plain hgd fun K hK => ?_
  have hn : w.ownsRow base e 1 (.slice none 0 0) 0 [] := World.ownsRow_nil _ _ _ _
  cases ad with
  | none =>
    obtain ⟨rfl, rfl⟩ := hnil rfl
    have hr := run_append_owned_none (P := P) (w := w) base t o.type e i 1 ht hi _ _ _ hn
    unfold Oper.wp execOp
    simp only [ho, resolve, invoke, builtin, Sem.run_bind, Sem.run_pure, Result.andThen_ok, List.map_toArray, List.map_cons, List.map_nil, hs, hx, hr]
    exact hK _ _ (h _ _ _ (ValRow.nil _ _ _ _) (Keeps.refl _ _))
  | some ad =>
    obtain ⟨v', w', hr, hown, hgrow, _⟩ := run_append_own (P := P) w base t o.type e i z 1 bytes ht hi hz hsize hby hzs (by decide) _ _ _ hn ad m c (valR m V) (by simp [valR]) (fun j u hu => by
      simp [valR] at hu
      obtain ⟨k, hk, rfl⟩ := hu
      have hk' := List.getElem?_eq_some_iff.1 hk
      obtain ⟨hjm, hjk⟩ := hk'
      simp at hjm hjk
      subst hjk
      obtain ⟨b, off, h2, h3⟩ := hc j hjm
      simp at h2
      subst h2
      have e1 : (⟨b, off, none⟩ : Addr).add j = ⟨b, off + j, none⟩ := by unfold Addr.add; split <;> simp_all
      rw [e1]; exact h3) (by intro u hu; simp [valR] at hu; obtain ⟨k, hk, rfl⟩ := hu; exact h1 k hk) (by omega) (by simpa using hbytes) hbase
    obtain ⟨a', c', rfl⟩ := own_shape hown
    unfold Oper.wp execOp
    simp only [ho, resolve, invoke, builtin, Sem.run_bind, Sem.run_pure, Result.andThen_ok, List.map_toArray, List.map_cons, List.map_nil, hs, hx, hr]
    simp only [Nat.zero_add, List.nil_append] at hown ⊢
    exact hK _ _ (h a' c' w' hown ⟨hgrow.os, hgrow.tape, hgrow.output, hgrow.size, fun k hk _ => hgrow.block k hk (by simp [Value.ownBlock])⟩)
end Go.Proofs.Ytompihlckpjbkaa
