/- In the midst of StrollWhole (chapter 9's laws). -/
import Derived.Test.YtcakdmapnmneoaaStrFil
namespace Go.Proofs.Ytcakdmapnmneoaa
open Go.RowKit
set_option linter.unusedVariables false
set_option linter.unusedSimpArgs false

def intV (V : Nat → Int) (k : Nat) : Value := .int .i64 (V k)
/-- A dictionary, a stroll through it that has told m pairs, the row of the values. -/
structure WhoI (F V : Nat → Int) (n k m : Nat) (back : Bool) (db t lo b : Nat) (a : Option Addr) (c : Nat) (S Fs : List Nat) (d : Dic) (s : Str) (W : World) : Prop where
  fil : FilAt F V n k db t lo S d W
  str : StrAt lo b Fs s W
  si : StrI db n m back d s
  row : ValRow 3 lo a n c (intV V) W
  j1 : db ∉ Fs
  j2 : ∀ x, x ∈ S → x ∉ Fs
  j3 : ∀ x, x ∈ blk a → x ∉ Fs
  j4 : ∀ x, x ∈ blk a → x ∉ db :: S
section
variable {F V : Nat → Int} {n k m : Nat} {back : Bool} {db t lo b : Nat} {a : Option Addr} {c : Nat} {S Fs : List Nat} {d : Dic} {s : Str} {W W' : World}
theorem WhoI.keeps (h : WhoI F V n k m back db t lo b a c S Fs d s W) (kk : Keeps [] W W') : WhoI F V n k m back db t lo b a c S Fs d s W' :=
  ⟨h.fil.keeps kk, h.str.keeps kk (by simp), h.si, h.row.keeps kk (by simp), h.j1, h.j2, h.j3, h.j4⟩
theorem WhoI.next (h : WhoI F V n k m back db t lo b a c S Fs d s W) {Fs' : List Nat} (hm : m < n) (hk : k ≤ 1000) (hs : StrAt lo b Fs' (strN d s) W') (hg : Grew Fs W Fs') (kk : Keeps [b, b + 2, b + 3] W W') : WhoI F V n k (m + 1) back db t lo b a c S Fs' d (strN d s) W' := by
  have h5 := h.str.five
  have hin : ∀ x, x ∈ [b, b + 2, b + 3] → x ∈ Fs := fun x hx => by
    simp at hx
    rcases hx with rfl | rfl | rfl
    · exact h5 0 (by omega)
    · exact h5 2 (by omega)
    · exact h5 3 (by omega)
  have hnew : ∀ x, x < W.heap.size → x ∉ Fs → x ∉ Fs' := fun x h1 h2 h3 => by
    rcases hg x h3 with h4 | h4
    · exact h2 h4
    · omega
  have hS := h.fil.dic.foot9
  exact ⟨⟨h.fil.dic.keeps kk (fun e => h.j1 (hin _ e)) (fun x hx e => h.j2 x hx (hin _ e)), h.fil.ok, h.fil.run⟩, hs, (h.si.next h.fil.run hm h.fil.ok hk).2.2, h.row.keeps kk (fun x hx e => h.j3 x hx (hin _ e)),
    hnew db (hS db (by simp)).2 h.j1, fun x hx => hnew x (hS x (by simp [hx])).2 (h.j2 x hx), fun x hx => hnew x (h.row.blk_lt x hx).2 (h.j3 x hx), h.j4⟩
/-- A value of a key is turned, on both. -/
theorem WhoI.put (h : WhoI F V n k m back db t lo b a c S Fs d s W) {S' : List Nat} {x : Nat} (hx : x < n) (v : Int) (hk : k ≤ 1000) {g : Nat} (ha : a = some ⟨g, 0, none⟩) {e : Nat} (hr : Run9 F (putI V x v) n (finD d (newM 2 (F x) x v) (some e))) (hv : (finD d (newM 2 (F x) x v) (some e)).ver = d.ver + 1)
    (kk : Keeps (db :: S) (W.setCell ⟨g, x, none⟩ (.int .i64 v)) W') (hd : DicAt db t lo S' (mV none) (finD d (newM 2 (F x) x v) (some e)) W') (hg : Grew S (W.setCell ⟨g, x, none⟩ (.int .i64 v)) S') :
    WhoI F (putI V x v) n (k + 1) m back db t lo b a c S' Fs (finD d (newM 2 (F x) x v) (some e)) s W' := by
  subst ha
  have kg : Keeps [g] W (W.setCell ⟨g, x, none⟩ (.int .i64 v)) := (Keeps.refl [g] W).setCell (p := ⟨g, x, none⟩) (.inr (by simp)) _
  have hgb : g ∈ blk (some ⟨g, 0, none⟩) := by simp [blk]
  have z : (W.setCell ⟨g, x, none⟩ (.int .i64 v)).heap.size = W.heap.size := by simp [World.setCell]
  have hnew : ∀ y, y < W.heap.size → y ∉ S → y ∉ S' := fun y h1 h2 h3 => by
    rcases hg y h3 with h4 | h4
    · exact h2 h4
    · omega
  have hr2 : ValRow 3 lo (some ⟨g, 0, none⟩) n c (intV (putI V x v)) (W.setCell ⟨g, x, none⟩ (.int .i64 v)) := (h.row.put x (.int .i64 v)).congr (fun j hj => by
    unfold putV intV putI; split <;> rfl)
  refine ⟨⟨hd, h.fil.ok.fin hk _ _, hr⟩, (h.str.keeps kg (fun y hy e => ?_)).keeps kk (fun y hy e => ?_), h.si.later (by omega), hr2.keeps kk (fun y hy => h.j4 y hy), h.j1, fun y hy hq => ?_, h.j3, fun y hy hq => ?_⟩
  · simp at e; subst e; exact h.j3 _ hgb hy
  · simp only [List.mem_cons] at e
    rcases e with rfl | e
    · exact h.j1 hy
    · exact h.j2 y e hy
  · have hl := (h.str.lo y hq).2
    by_cases hs : y ∈ S
    · exact h.j2 y hs hq
    · exact hnew y hl hs hy
  · have h1 := h.j4 y hy
    simp only [List.mem_cons, not_or] at h1 hq
    rcases hq with hq | hq
    · exact h1.1 hq
    · exact hnew y (h.row.blk_lt y hy).2 h1.2 hq
end
theorem int_app9 (lo : Nat) (a : Option Addr) (c m : Nat) (V : Nat → Value) (x : Int) (W : World) (B : Nat) (h : ValRow 3 lo a m c V W) (hB : W.heap[B]? = some (.cells #[.int .i64 x] 3 (0, 0))) (hm : m ≤ 1000000) (hlo : lo ≤ W.heap.size) :
    ∃ g cap w', (Builtin.append_ #[22, 22] 22 #[.slice a m c, .slice (some ⟨B, 0, none⟩) 1 1]).run Try.prog W = .ok (.slice (some ⟨g, 0, none⟩) (m + 1) cap) w' ∧ ValRow 3 lo (some ⟨g, 0, none⟩) (m + 1) cap (putV V m (.int .i64 x)) w' ∧ Keeps (blk a) W w' ∧ (g ∈ blk a ∨ g = W.heap.size) ∧ g < w'.heap.size := by
  obtain ⟨j0, hi, hz0, hz1, hz2⟩ := info_parts info64
  obtain ⟨g, cap, w', r1, r2, r3, r4, r5⟩ := run_append_lies (P := Try.prog) W 22 22 lo 3 j0 (.int .i64 0) 1 8 Try.underlying22 hi hz0 hz1 hz2 rfl (by decide) _ m (valR m V) h ⟨B, 0, none⟩ 1 1 [.int .i64 x] rfl
    (fun j u hj => by
      have hlt : j < 1 := by have := (List.getElem?_eq_some_iff.1 hj).1; simpa using this
      obtain rfl : j = 0 := by omega
      rw [show (⟨B, 0, none⟩ : Addr).add 0 = ⟨B, 0, none⟩ by unfold Addr.add; split <;> simp_all, cell_of_has hB]
      simpa using hj) (by intro u hu; simp at hu; subst hu; rfl) (by decide) (by unfold maxLen; omega) (by omega) hlo _ rfl
  refine ⟨g, cap, w', r1, ValRow.of_append r2, ?_, ?_, r5⟩
  · exact ⟨r3.os, r3.tape, r3.output, r3.size, fun k hk hn => r3.block k hk (fun e => hn (blk_own a _ _ k e.symm))⟩
  · rcases r4 with r4 | r4
    · exact .inl (blk_own a _ _ g r4)
    · exact .inr r4
end Go.Proofs.Ytcakdmapnmneoaa
