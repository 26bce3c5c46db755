/- A family of namespaces in memory; a name's number, and a name that is given one (chapter 10). -/
import Derived.Test.YtajmfenfajbakaaGreatShB
import Derived.Test.YtajmfenfajbakaaGreatB6
import Derived.Test.YtajmfenfajbakaaGreatTabNxtL
namespace Go.Proofs.YtajmfenfajbakaaGreat
open Go.RowKit
set_option linter.unusedVariables false
set_option linter.unusedSimpArgs false

structure Fam where
  most : Int
  pairs : Int
  K : Tab
  N : List ByteArray
def strV (N : List ByteArray) (i : Nat) : Value := .string (N.getD i .empty)
def famO (most pairs : Int) (mv : Value) (t : Nat) (names : Value) (mb : Nat) : Obj := .cells #[.int .i64 most, .int .i64 pairs, mv, .pointer (some ⟨t, 0, none⟩), names, .map (some mb)] 96 (0, 0)
structure FamAt (fb t mb lo : Nat) (a : Option Addr) (ST : List Nat) (m : Option Nat) (f : Fam) (W : World) : Prop where
  b : ∃ c, W.heap[fb]? = some (famO f.most f.pairs (mV m) t (.slice a f.N.length c) mb) ∧ ValRow 9 lo a f.N.length c (strV f.N) W
  k : TabAt t lo ST (mV m) f.K W
  n : W.heap[mb]? = some (numO f.N)
  d1 : fb ∉ mb :: (blk a ++ ST)
  d2 : mb ∉ blk a ++ ST
  d3 : ∀ z, z ∈ blk a → z ∉ ST
  l : lo ≤ fb ∧ lo ≤ mb
def famS (fb mb : Nat) (a : Option Addr) (ST : List Nat) : List Nat := fb :: mb :: (blk a ++ ST)
section
variable {fb t mb lo : Nat} {a : Option Addr} {ST R : List Nat} {m : Option Nat} {f : Fam} {W W' : World}
theorem FamAt.keeps (h : FamAt fb t mb lo a ST m f W) (k : Keeps R W W') (hd : ∀ z, z ∈ famS fb mb a ST → z ∉ R) : FamAt fb t mb lo a ST m f W' := by
  unfold famS at hd
  obtain ⟨c, h1, h2⟩ := h.b
  exact ⟨⟨c, k.has h1 (hd _ (by simp)), h2.keeps k (fun z hz => hd z (by simp [hz]))⟩, h.k.keeps k (fun z hz => hd z (by simp [hz])), k.has h.n (hd _ (by simp)), h.d1, h.d2, h.d3, h.l⟩
theorem FamAt.foot (h : FamAt fb t mb lo a ST m f W) : ∀ z, z ∈ famS fb mb a ST → lo ≤ z ∧ z < W.heap.size := by
  intro z hz
  unfold famS at hz
  obtain ⟨c, h1, h2⟩ := h.b
  simp only [List.mem_cons, List.mem_append] at hz
  rcases hz with rfl | rfl | hz | hz
  · exact ⟨h.l.1, lt_of_block h1⟩
  · exact ⟨h.l.2, lt_of_block h.n⟩
  · exact h2.blk_lt z hz
  · exact h.k.foot z hz
end
theorem fnum_any (fb t mb lo : Nat) (a : Option Addr) (ST : List Nat) (m : Option Nat) (f : Fam) (s : ByteArray) (w : World) (H : FamAt fb t mb lo a ST m f w) :
    Calls Tryz.prog 106 #[.pointer (some ⟨fb, 0, none⟩), .string s] w fun r w' => r = .returned (.int .i64 (numI f.N s)) ∧ w = w' := by
  obtain ⟨c, h1, _⟩ := H.b
  have c5 : w.cell? ⟨fb, 5, none⟩ = some (.map (some mb)) := cell_has h1 (i := 5) rfl
  have hl := run_lookup_num f.N s mb w H.n
  unfold numI
  clear H h1
  cases hq : numOf f.N s with
  | none =>
    rw [hq] at hl
    simp only at hl
    go_enter Tryz.func106, Tryz.ntmps106
    go_wp2_with fail
    go_ret
    exact ⟨rfl, rfl⟩
  | some k =>
    rw [hq] at hl
    simp only at hl
    clear hq
    go_enter Tryz.func106, Tryz.ntmps106
    go_wp2_with fail
    go_ret
    exact ⟨rfl, rfl⟩
end Go.Proofs.YtajmfenfajbakaaGreat
