/- One namespace by itself; rows that are written over (chapter 10's SharedOwn). -/
import Derived.Test.YtajmfenfajbakaaShJb
import Derived.Test.YtajmfenfajbakaaShKa
import Derived.Test.YtajmfenfajbakaaShOg
import Derived.Test.YtajmfenfajbakaaShU
import Derived.Deep.MidRow
namespace Go.Proofs.Ytajmfenfajbakaa
open Go.RowKit
set_option linter.unusedVariables false
set_option linter.unusedSimpArgs false

theorem flatP_set (P : List Pr10) : ∀ (n : Nat) (x : Pr10), n < P.length → setL (flatP P) (n * 2) (Pr10.cs x) = flatP (P.set n x) := by
  induction P with
  | nil => intro n x h; simp at h
  | cons y P ih =>
    intro n x h
    cases n with
    | zero => simp [flatP_cons, Pr10.cs, setL]
    | succ n =>
      rw [flatP_cons, List.set_cons_succ, flatP_cons, ← ih n x (by simpa using h), ← setL_app]
      congr 1
      simp [Pr10.cs]; omega
section
variable {lo : Nat} {c g : Nat} {P : List Pr10} {w w' : World}
theorem PairRow.lay (h : PairRow lo (some ⟨g, 0, none⟩) c P w) {n : Nat} (hn : n < P.length) (x : Pr10) : PairRow lo (some ⟨g, 0, none⟩) c (P.set n x) (w.setCells g (n * 2) (Pr10.cs x)) ∧ Keeps [g] w (w.setCells g (n * 2) (Pr10.cs x)) := by
  obtain ⟨h1, h2⟩ := own_setCells (Pr10.cs x) _ (n * 2) w h
  rw [flatP_set P n x hn] at h1
  exact ⟨by unfold PairRow; rw [List.length_set]; exact h1, h2⟩
theorem PairRow.some_cells (h : PairRow lo (some ⟨g, 0, none⟩) c P w) {n : Nat} (hn : n < P.length) : ∀ j, j < 2 → (w.cell? ⟨g, n * 2 + j, none⟩).isSome = true := by
  intro j hj
  rw [h.cell (List.getElem?_eq_getElem hn) j hj]; rfl
end
theorem two_pairs10 (W : World) (B : Nat) (hB : W.heap[B]? = some (.cells #[.string .empty, .int .i64 0, .string .empty, .int .i64 0] 56 (0, 0))) :
    ∀ (j : Nat) u, (flatP [(.empty, 0), (.empty, 0)])[j]? = some u → W.cell? ((⟨B, 0, none⟩ : Addr).add j) = some u := by
  intro j u hj
  rw [show (⟨B, 0, none⟩ : Addr).add j = ⟨B, j, none⟩ by unfold Addr.add; split <;> simp_all, cell_of_has hB]
  simpa [flatP, Pr10.cs] using hj
theorem str_app2 (lo : Nat) (a : Option Addr) (c m : Nat) (V : Nat → Value) (s t : ByteArray) (W : World) (B : Nat) (h : ValRow 9 lo a m c V W) (hB : W.heap[B]? = some (.cells #[.string s, .string t] 9 (0, 0))) (hm : m ≤ 1000000) (hlo : lo ≤ W.heap.size) :
    ∃ g cap w', (Builtin.append_ #[22, 22] 22 #[.slice a m c, .slice (some ⟨B, 0, none⟩) 2 2]).run Try.prog W = .ok (.slice (some ⟨g, 0, none⟩) (m + 2) cap) w' ∧ Keeps (blk a) W w' := by
  obtain ⟨j0, hi, hz0, hz1, hz2⟩ := info_parts infoStr
  obtain ⟨g, cap, w', r1, r2, r3, r4, r5⟩ := run_append_lies (P := Try.prog) W 22 22 lo 9 j0 (.string .empty) 1 16 Try.underlying22 hi hz0 hz1 hz2 rfl (by decide) _ m (valR m V) h ⟨B, 0, none⟩ 2 2 [.string s, .string t] rfl
    (fun j u hj => by
      rw [show (⟨B, 0, none⟩ : Addr).add j = ⟨B, j, none⟩ by unfold Addr.add; split <;> simp_all, cell_of_has hB]
      simpa using hj) (by intro u hu; simp at hu; rcases hu with rfl | rfl <;> rfl) (by decide) (by unfold maxLen; omega) (by omega) hlo _ rfl
  exact ⟨g, cap, w', r1, ⟨r3.os, r3.tape, r3.output, r3.size, fun k hk hn => r3.block k hk (fun e => hn (blk_own a _ _ k e.symm))⟩⟩
/-- One namespace and its family. -/
def One10 (fb sb lo n : Nat) (W : World) : Prop := ∃ SF SS f ks wy ver c, At10 fb sb lo SF SS none f wy ver c W ∧ Good10 n n f ks wy ∧ f.N.length ≤ n ∧ (∀ s, s ∈ ks → s.size ≤ 200) ∧ ver ≤ n
theorem At10.keeps {fb sb lo : Nat} {SF SS : List Nat} {m : Option Nat} {f : Fam} {wy : Way10} {ver : Nat} {c : C4} {W W' : World} {R : List Nat} (h : At10 fb sb lo SF SS m f wy ver c W) (k : Keeps R W W') (h1 : ∀ z, z ∈ SF → z ∉ R) (h2 : ∀ z, z ∈ SS → z ∉ R) (h3 : ∀ b, m = some b → b ∉ R) : At10 fb sb lo SF SS m f wy ver c W' :=
  ⟨h.F.keeps k h1, h.s.keeps k h2, h.M.keeps k h3, h.d, h.hm⟩
theorem one10_set {fb sb lo n : Nat} {W : World} (h : One10 fb sb lo n W) (hn : n ≤ 800) (s : ByteArray) (v : Int) (hs : s.size ≤ 200) :
    Calls Try.prog 11 #[.pointer (some ⟨sb, 0, none⟩), .string s, .int .i64 v] W fun r w' => ∃ e : Int, (e = 0 ∨ e = 6) ∧ r = .returned (.int .i64 e) ∧ One10 fb sb lo (n + 1) w' ∧ Below lo W w' := by
  obtain ⟨SF, SS, f, ks, wy, ver, c, h1, h2, h3, h4, h5⟩ := h
  refine (set10_any h2 h1 s v (by omega) (by omega)).mono ?_
  rintro r w' ⟨SF', SS', rfl, g1, g2, g3, g4⟩
  have bl : Below lo W w' := g2.below (by have := (h1.F.foot); have hs := h1.s.1; have := (h1.s.foot sb); obtain ⟨t, mb, a, ST, rfl, hF⟩ := h1.F; have := hF.foot fb (by unfold famS; simp); omega) (fun z hz => by
    simp only [List.mem_append, mS, List.not_mem_nil, or_false] at hz
    rcases hz with hz | hz
    · exact (h1.F.foot z hz).1
    · exact (h1.s.foot z hz).1)
  rcases setW_ok (by omega) (by omega) h2.fk h2.w c s v with ⟨e1, e2, e3, e4⟩ | ⟨e1, e2, ks', q1, q2, q3, q4, q5⟩
  · rw [e1, e3, e4] at g1
    refine ⟨_, .inr e1, rfl, ⟨SF', SS', f, ks, wy, ver, _, by simpa using g1, ⟨h2.fk.mono (by omega), h2.w.mono (by omega), by omega, by omega, h2.n, h2.z⟩, by omega, h4, by omega⟩, bl⟩
  · rw [e1] at g1
    refine ⟨_, .inl e1, rfl, ⟨SF', SS', _, ks', _, ver + 1, _, by simpa using g1, ⟨q1, q3, by omega, by omega, by omega, fun t ht => ?_⟩, by omega, fun t ht => ?_, by omega⟩, bl⟩
    · rcases q5 t ht with h | rfl
      · have := h4 t h; omega
      · omega
    · rcases q5 t ht with h | rfl
      · exact h4 t h
      · exact hs
theorem make10_any {fb lo : Nat} {S : List Nat} {m : Option Nat} {f : Fam} {c : C4} {W : World} (h1 : FA10 fb lo S m f W) (hM : MtrAt m c W) (hm : ∀ b, m = some b → b < lo) :
    Calls Try.prog 10 #[.pointer (some ⟨fb, 0, none⟩)] W fun r W' => ∃ sb SS, r = .returned (.pointer (some ⟨sb, 0, none⟩)) ∧ At10 fb sb lo S SS m f (.row []) 0 c W' ∧ Keeps [] W W' := by
  obtain ⟨t, mb, a, ST, rfl, h1⟩ := h1
  refine (fmake_any fb t mb lo a ST m f c W h1 hM hm).mono ?_
  rintro r W' ⟨sb, rb, rfl, g1, g2, g3, g4⟩
  exact ⟨sb, _, rfl, SpAt.at10 (wy := .row []) ⟨rb, none, rfl, g1⟩, g2⟩
theorem names10_at {k j : Nat} {fb sb lo : Nat} {SF SS : List Nat} {m : Option Nat} {f : Fam} {ks : List ByteArray} {wy : Way10} {ver : Nat} {c : C4} {W : World} (G : Good10 k j f ks wy) (H : At10 fb sb lo SF SS m f wy ver c W) :
    Calls Try.prog 15 #[.pointer (some ⟨fb, 0, none⟩)] W (Names10 ks W) := by
  obtain ⟨t, mb, a, ST, rfl, h1⟩ := H.F
  exact names_any k (by have := G.k9; omega) fb t mb lo a ST m f ks W h1 G.fk
theorem fsight10_at {k j : Nat} {fb sb lo : Nat} {SF SS : List Nat} {m : Option Nat} {f : Fam} {ks : List ByteArray} {wy : Way10} {ver : Nat} {c : C4} {W : World} (G : Good10 k j f ks wy) (H : At10 fb sb lo SF SS m f wy ver c W) :
    Calls Try.prog 18 #[.pointer (some ⟨fb, 0, none⟩)] W (SightP f.K W) := by
  obtain ⟨t, mb, a, ST, rfl, h1⟩ := H.F
  have hI := G.fk.t
  have hk := G.k9
  exact fsight_any fb t mb lo a ST m f W h1 (by have := hI.l12; omega) hI.ft (by have := hI.ek; omega)
theorem One10.new {fb sb lo : Nat} {S SS : List Nat} {most pairs : Int} {c : C4} {W : World} (h : At10 fb sb lo S SS none ⟨most, pairs, newT, []⟩ (.row []) 0 c W) : One10 fb sb lo 0 W :=
  ⟨S, SS, _, [], _, 0, c, h, ⟨FamOk.new most pairs, ⟨by simp, by simp⟩, by omega, by omega, by simp, by simp⟩, by simp, by simp, Nat.le_refl _⟩
end Go.Proofs.Ytajmfenfajbakaa
