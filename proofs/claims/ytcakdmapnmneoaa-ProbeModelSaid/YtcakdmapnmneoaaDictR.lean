/- A search and the local that keeps its turn (chapter 8's laws). -/
import Derived.Test.YtcakdmapnmneoaaDictQ
namespace Go.Proofs.Ytcakdmapnmneoaa
open Go.RowKit
set_option linter.unusedVariables false
set_option linter.unusedSimpArgs false

theorem MSt.sb_lt {mb sb db t lo : Nat} {S : List Nat} {d : Dic} {q : Mac} {W : World} (h : MSt mb sb db t lo S d q W) (hs : q.st ≠ 0) : sb < W.heap.size := by
  obtain ⟨ev, a, b, c⟩ := h.a
  obtain ⟨c9, p9, h9, _⟩ := c hs
  exact lt_of_block h9
theorem MSt.mb_lt {mb sb db t lo : Nat} {S : List Nat} {d : Dic} {q : Mac} {W : World} (h : MSt mb sb db t lo S d q W) : mb < W.heap.size := by
  obtain ⟨ev, a, b, c⟩ := h.a
  exact lt_of_block a
/-- The search of q0 on d, as the machine q has it; the local tb keeps its turn. -/
structure Srch (mb sb db t tb lo : Nat) (S : List Nat) (d d1 : Dic) (q0 q : Mac) (W : World) : Prop where
  dic : DicAt db t lo S (mV none) d1 W
  mac : MSt mb sb db t lo S d1 q W
  tu : W.heap[tb]? = some (trnO q.turn)
  ap : tb ∉ S ∧ tb ≠ mb ∧ tb ≠ db ∧ (q.st ≠ 0 → tb ≠ sb)
  lo : lo ≤ tb
def Pc8 (d d1 : Dic) (q0 q : Mac) (tg : Option Nat) (n : Nat) : Prop := (∃ f, Waits d q0 q tg n f ∧ d1 = d) ∨ Ends d q0 q tg d1
theorem tell_sc (q : Mac) (b : Bool) : (tellM q b).scans = q.scans := by unfold tellM; split <;> rfl
theorem tell_st {q : Mac} (b : Bool) (h : q.st ≠ 0) : (tellM q b).st ≠ 0 := by
  unfold tellM; split
  · show (if b then 3 else 1) ≠ 0; split <;> omega
  · exact h
theorem tell_st2 {q : Mac} (b : Bool) (h : (tellM q b).st ≠ 0) : q.st ≠ 0 := by
  unfold tellM at h; split at h
  · omega
  · exact h
/-- Its first turn is laid into a new local. -/
theorem Srch.begun {mb sb db t lo : Nat} {S : List Nat} {d d1 : Dic} {q0 q : Mac} {w W : World} (D : DicAt db t lo S (mV none) d1 w) (M : MSt mb sb db t lo S d1 q w) (hb : W.heap[w.heap.size]? = some (trnO q.turn)) (k : Keeps [] w W) : Srch mb sb db t w.heap.size lo S d d1 q0 q W :=
  ⟨D.keeps k (by simp) (by simp), M.keeps k (by simp) (by simp), hb, ⟨fun hx => by have := (D.t.foot _ hx).2; omega, by have := M.mb_lt; omega, by have := lt_of_block D.b; omega, fun hs => by have := M.sb_lt hs; omega⟩, by have := D.l; have := lt_of_block D.b; omega⟩
/-- It is told something. -/
theorem Srch.told {mb sb db t tb lo : Nat} {S : List Nat} {d d1 : Dic} {q0 q : Mac} {W W5 : World} (h : Srch mb sb db t tb lo S d d1 q0 q W) (b : Bool) (m : MSt mb sb db t lo S d1 (tellM q b) W5) (k : Keeps [mb] W W5) : DicAt db t lo S (mV none) d1 W5 ∧ W5.heap[tb]? = some (trnO q.turn) :=
  ⟨h.dic.keeps k (by simp; exact h.mac.n.symm) (fun x hx hq => by simp at hq; subst hq; exact h.mac.s hx), k.has h.tu (by simp; exact h.ap.2.1)⟩
theorem Srch.feet {mb sb db t tb lo : Nat} {S : List Nat} {d d1 : Dic} {q0 q : Mac} {W : World} (h : Srch mb sb db t tb lo S d d1 q0 q W) (b : Bool) : tb ∉ feet mb sb db S (tellM q b) := by
  intro hx
  unfold Go.Proofs.Ytcakdmapnmneoaa.feet skS at hx
  obtain ⟨h1, h2, h3, h4⟩ := h.ap
  simp only [List.mem_cons, List.mem_append] at hx
  rcases hx with hx | hx | hx | hx
  · exact h2 hx
  · exact h3 hx
  · split at hx
    · simp at hx
    · rename_i hs
      simp at hx
      exact h4 (tell_st2 b hs) hx
  · exact h1 hx
/-- It goes on, its turn is laid into the same local. -/
theorem Srch.on {mb sb db t tb lo : Nat} {S S7 : List Nat} {d d1 d7 : Dic} {q0 q q7 : Mac} {W W5 W7 W8 : World} (h : Srch mb sb db t tb lo S d d1 q0 q W) (hst : q.st ≠ 0) (hz : W.heap.size ≤ W5.heap.size) {sb7 : Nat} (D : DicAt db t lo S7 (mV none) d7 W7) (M : MSt mb sb7 db t lo S7 d7 q7 W7) (g : Grew S W5 S7) (b : (sb7 = sb) ∨ W5.heap.size ≤ sb7) (hb : W8.heap[tb]? = some (trnO q7.turn)) (k : Keeps [tb] W7 W8) : Srch mb sb7 db t tb lo S7 d d7 q0 q7 W8 := by
  have hl := lt_of_block h.tu
  obtain ⟨h1, h2, h3, h4⟩ := h.ap
  have hS : tb ∉ S7 := fun hx => by rcases g _ hx with h9 | h9; exact h1 h9; omega
  have hs7 : tb ≠ sb7 := by rcases b with h9 | h9; rw [h9]; exact h4 hst; omega
  exact ⟨D.keeps k (by simp; exact h3.symm) (fun x hx hq => by simp at hq; subst hq; exact hS hx), M.keeps k (by simp; exact h2.symm) (fun _ => by simp; exact hs7.symm), hb, ⟨hS, h2, h3, fun _ => hs7⟩, h.lo⟩
theorem Pc8.first {kk : Nat} {d : Dic} (hI : DicOk kk d) (g : Nat) (h k v : Int) {tg : Option Nat} (ht : Tgt d (newM g h k v) tg) : Pc8 d (stepD d (newM g h k v)) (newM g h k v) (stepM d (newM g h k v)) tg 0 := by
  rcases step_first hI g h k v ht with ⟨f, h1, h2, _⟩ | ⟨h1, _⟩
  · exact .inl ⟨f, h1, h2⟩
  · exact .inr h1
theorem Pc8.no {kk : Nat} {d : Dic} (hI : DicOk kk d) {q0 q : Mac} {tg : Option Nat} (ht : Tgt d q0 tg) {n f : Nat} (w : Waits d q0 q tg n f) (ok : SkOk d.T q.sk) : Pc8 d (stepD d (tellM q false)) q0 (stepM d (tellM q false)) tg (n + 1) := by
  rcases step_no hI ht w ok with ⟨f, h1, h2, _⟩ | ⟨h1, _⟩
  · exact .inl ⟨f, h1, h2⟩
  · exact .inr h1
theorem Pc8.st {d d1 : Dic} {q0 q : Mac} {tg : Option Nat} {n : Nat} (h : Pc8 d d1 q0 q tg n) : q.st ≠ 0 := by
  rcases h with ⟨f, h1, _⟩ | h1
  · have := h1.st; omega
  · have := h1.st; omega
theorem Waits.vis {d : Dic} {q0 q : Mac} {tg : Option Nat} {n f kk : Nat} (hI : DicOk kk d) (w : Waits d q0 q tg n f) (ok : SkOk d.T q.sk) : q.sk.vis ≤ 2 ^ d.T.L + 13 := by
  have h1 := (ok.now w.mid.ov w.mid.tu).2
  have h2 := hI.t.fe_lt q.sk.h
  have h3 := ok.v1 w.mid.ov
  omega
/-- A Get of a key that is not there, as far as i: it waits at the first one of the hash from i on, or there is none. -/
def GetI (F : Nat → Int) (hash : Int) (n : Nat) (d : Dic) (q : Mac) (i : Nat) : Prop :=
  (∃ m f, Waits d (newM 1 hash (-1) 0) q none m f ∧ i ≤ f ∧ f < n ∧ F f = hash ∧ ∀ j, i ≤ j → j < f → F j ≠ hash) ∨ (Ends d (newM 1 hash (-1) 0) q none d ∧ ∀ j, i ≤ j → j < n → F j ≠ hash)
theorem GetI.first {F : Nat → Int} {vv : Bool} {n kk : Nat} {d : Dic} (hI : DicOk kk d) (r : Run8 F vv n d) (hash : Int) : stepD d (newM 1 hash (-1) 0) = d ∧ GetI F hash n d (stepM d (newM 1 hash (-1) 0)) 0 := by
  rcases step_first hI 1 hash (-1) 0 (r.absent 1 hash (-1) 0 (.inl (by omega))) with ⟨f, h1, h2, h3, h4⟩ | ⟨h1, h2⟩
  · obtain ⟨_, h5, h6⟩ := (r.later hash (-1) f).1 h3
    exact ⟨h2, .inl ⟨0, f, h1, Nat.zero_le _, h5, h6, fun j _ hj hF => by have := h4 j ((r.later hash (-1) j).2 ⟨by omega, by omega, hF⟩); omega⟩⟩
  · have hd : stepD d (newM 1 hash (-1) 0) = d := h1.d1
    rw [hd] at h1
    exact ⟨hd, .inr ⟨h1, fun j _ hj hF => h2 rfl j ((r.later hash (-1) j).2 ⟨by omega, hj, hF⟩)⟩⟩
theorem GetI.no {F : Nat → Int} {vv : Bool} {n kk : Nat} {d : Dic} (hI : DicOk kk d) (r : Run8 F vv n d) {hash : Int} {q : Mac} {m i : Nat} (w : Waits d (newM 1 hash (-1) 0) q none m i) (ok : SkOk d.T q.sk) : stepD d (tellM q false) = d ∧ GetI F hash n d (stepM d (tellM q false)) (i + 1) := by
  rcases step_no hI (r.absent 1 hash (-1) 0 (.inl (by omega))) w ok with ⟨f, h1, h2, h3, h4⟩ | ⟨h1, h2⟩
  · obtain ⟨h7, h5, h6⟩ := (r.later hash i f).1 h3
    exact ⟨h2, .inl ⟨m + 1, f, h1, by omega, h5, h6, fun j hj2 hj hF => by have := h4 j ((r.later hash i j).2 ⟨by omega, by omega, hF⟩); omega⟩⟩
  · have hd : stepD d (tellM q false) = d := h1.d1
    rw [hd] at h1
    exact ⟨hd, .inr ⟨h1, fun j hj2 hj hF => h2 rfl j ((r.later hash i j).2 ⟨by omega, hj, hF⟩)⟩⟩
theorem GetI.pass {F : Nat → Int} {hash : Int} {n i : Nat} {d : Dic} {q : Mac} (h : GetI F hash n d q i) (hF : F i ≠ hash) : GetI F hash n d q (i + 1) := by
  rcases h with ⟨m, f, h1, h2, h3, h4, h5⟩ | ⟨h1, h2⟩
  · have : f ≠ i := by rintro rfl; exact hF h4
    exact .inl ⟨m, f, h1, by omega, h3, h4, fun j hj => h5 j (by omega)⟩
  · exact .inr ⟨h1, fun j hj => h2 j (by omega)⟩
theorem GetI.hit {F : Nat → Int} {hash : Int} {n i : Nat} {d : Dic} {q : Mac} (h : GetI F hash n d q i) (hi : i < n) (hF : F i = hash) : ∃ m, Waits d (newM 1 hash (-1) 0) q none m i := by
  rcases h with ⟨m, f, h1, h2, h3, h4, h5⟩ | ⟨h1, h2⟩
  · rcases Nat.lt_or_ge i f with h6 | h6
    · exact absurd hF (h5 i (Nat.le_refl _) h6)
    · obtain rfl : f = i := by omega
      exact ⟨m, h1⟩
  · exact absurd hF (h2 i (Nat.le_refl _) hi)
theorem GetI.end_ {F : Nat → Int} {hash : Int} {n : Nat} {d : Dic} {q : Mac} (h : GetI F hash n d q n) : Ends d (newM 1 hash (-1) 0) q none d := by
  rcases h with ⟨m, f, h1, h2, h3, h4, h5⟩ | ⟨h1, h2⟩
  · omega
  · exact h1
theorem GetI.st {F : Nat → Int} {hash : Int} {n i : Nat} {d : Dic} {q : Mac} (h : GetI F hash n d q i) : q.st ≠ 0 := by
  rcases h with ⟨m, f, h1, _⟩ | ⟨h1, _⟩
  · have := h1.st; omega
  · have := h1.st; omega
end Go.Proofs.Ytcakdmapnmneoaa
