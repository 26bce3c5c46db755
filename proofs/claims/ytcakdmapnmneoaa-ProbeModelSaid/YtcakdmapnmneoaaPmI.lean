/- ProbeModel: the real one in memory: a dictionary, its asks; its one (chapter 8's laws). -/
import Derived.Test.YtcakdmapnmneoaaPmH
import Derived.Test.YtcakdmapnmneoaaPmB
import Derived.Test.YtcakdmapnmneoaaDictV
namespace Go.Proofs.Ytcakdmapnmneoaa
open Go.RowKit
set_option linter.unusedVariables false
set_option linter.unusedSimpArgs false

def realO (db : Nat) (av acv : Value) (same : Int) (inner : Bool) : Obj := .cells #[.pointer (some ⟨db, 0, none⟩), av, acv, .int .i64 same, .bool inner, .bool false] 65 (0, 0)
structure RlS (lo rb db t : Nat) (S : List Nat) (aa : Option Addr) (same : Int) (acv : Value) (inner : Bool) (d : Dic) (A : List Int) (W : World) : Prop where
  b : ∃ ac, W.heap[rb]? = some (realO db (.slice aa A.length ac) acv same inner) ∧ A8Row lo aa ac A W
  d : DicAt db t lo S (mV none) d W
  n1 : rb ∉ S
  n2 : ∀ x, x ∈ blk aa → x ∉ S
  l : lo ≤ rb
def rlR (rb db : Nat) (S : List Nat) (aa : Option Addr) : List Nat := rb :: db :: (S ++ blk aa)
section
variable {lo rb db t mb sb : Nat} {S S' R : List Nat} {aa aa' : Option Addr} {same : Int} {acv : Value} {inner : Bool} {d d' : Dic} {A : List Int} {q : Mac} {W W' : World}
theorem RlS.foot (h : RlS lo rb db t S aa same acv inner d A W) : ∀ x, x ∈ rlR rb db S aa → lo ≤ x ∧ x < W.heap.size := by
  obtain ⟨ac, h1, h2⟩ := h.b
  intro x hx
  unfold rlR at hx
  simp only [List.mem_cons, List.mem_append] at hx
  rcases hx with rfl | rfl | hx | hx
  · exact ⟨h.l, lt_of_block h1⟩
  · exact ⟨h.d.l, lt_of_block h.d.b⟩
  · exact h.d.t.foot x hx
  · exact own_lt8 h2 x hx
theorem RlS.keeps (h : RlS lo rb db t S aa same acv inner d A W) (k : Keeps R W W') (hd : ∀ x, x ∈ rlR rb db S aa → x ∉ R) : RlS lo rb db t S aa same acv inner d A W' := by
  obtain ⟨ac, h1, h2⟩ := h.b
  exact ⟨⟨ac, k.has h1 (hd _ (by simp [rlR])), own_keeps8 h2 k (fun x hx => hd x (by simp [rlR, hx]))⟩, h.d.keeps k (hd _ (by simp [rlR])) (fun x hx => hd x (by simp [rlR, hx])), h.n1, h.n2, h.l⟩
theorem RlS.keeps0 (h : RlS lo rb db t S aa same acv inner d A W) (k : Keeps [] W W') : RlS lo rb db t S aa same acv inner d A W' := h.keeps k (by simp)
theorem other_type {b c : Nat} {cs cs' : Array Value} {T T' : TypeId} {f f' : Nat × Nat} (h : W.heap[b]? = some (.cells cs T f)) (h' : W.heap[c]? = some (.cells cs' T' f')) (hT : T ≠ T') : b ≠ c := fun e => by
  subst e; rw [h] at h'; simp at h'; exact hT h'.2.1
/-- The real one's own blocks are none of a machine's. -/
theorem RlS.apartM (h : RlS lo rb db t S aa same acv inner d A W) (HQ : MSt mb sb db t lo S d q W) : ∀ x, x ∈ feet mb sb db S q → x ≠ rb ∧ x ∉ blk aa := by
  obtain ⟨ac, h1, h2⟩ := h.b
  obtain ⟨ev, m1, m2, m3⟩ := HQ.a
  intro x hx
  unfold Go.Proofs.Ytcakdmapnmneoaa.feet skS at hx
  simp only [List.mem_cons, List.mem_append] at hx
  rcases hx with rfl | rfl | hx | hx
  · exact ⟨other_type m1 h1 (by decide), own_notin8 h2 m1 (by decide)⟩
  · exact ⟨other_type h.d.b h1 (by decide), own_notin8 h2 h.d.b (by decide)⟩
  · split at hx
    · simp at hx
    · rename_i hs
      simp at hx; subst hx
      obtain ⟨c9, p9, h9, _⟩ := m3 hs
      exact ⟨other_type h9 h1 (by decide), own_notin8 h2 h9 (by decide)⟩
  · exact ⟨fun e => h.n1 (e ▸ hx), fun h9 => h.n2 x h9 hx⟩
/-- A machine's Step. -/
theorem RlS.step (h : RlS lo rb db t S aa same acv inner d A W) (HQ : MSt mb sb db t lo S d q W) (hd : DicAt db t lo S' (mV none) d' W') (k : Keeps (feet mb sb db S q) W W') (g : Grew S W S') : RlS lo rb db t S' aa same acv inner d' A W' := by
  obtain ⟨ac, h1, h2⟩ := h.b
  have hf := h.apartM HQ
  refine ⟨⟨ac, k.has h1 (fun hx => (hf _ hx).1 rfl), own_keeps8 h2 k (fun x hx hq => (hf x hq).2 hx)⟩, hd, fun hx => ?_, fun x hx hq => ?_, h.l⟩
  · rcases g _ hx with h9 | h9
    · exact h.n1 h9
    · have := lt_of_block h1; omega
  · rcases g _ hq with h9 | h9
    · exact h.n2 x hx h9
    · have := (own_lt8 h2 x hx).2; omega
/-- A machine waits while others change the dictionary. -/
theorem MSt.acted (HQ : MSt mb sb db t lo S d q W) (h : RlS lo rb db t S aa same acv inner d A W) (k : Keeps (rlR rb db S aa) W W') (g : Grew (rlR rb db S aa) W (rlR rb db S' aa')) (G : Goes8 d d') : MSt mb sb db t lo S' d' q W' := by
  have hf := h.apartM HQ
  have n1 : mb ∉ rlR rb db S aa := fun hx => by
    unfold rlR at hx
    simp only [List.mem_cons, List.mem_append] at hx
    obtain ⟨f1, f2⟩ := hf mb (by simp [Go.Proofs.Ytcakdmapnmneoaa.feet])
    rcases hx with hx | hx | hx | hx
    · exact f1 hx
    · exact HQ.n hx
    · exact HQ.s hx
    · exact f2 hx
  have n2 : q.st ≠ 0 → sb ∉ rlR rb db S aa := fun hs hx => by
    unfold rlR at hx
    simp only [List.mem_cons, List.mem_append] at hx
    obtain ⟨f1, f2⟩ := hf sb (by simp [Go.Proofs.Ytcakdmapnmneoaa.feet, skS, hs])
    obtain ⟨k1, k2, k3, k4⟩ := HQ.k hs
    rcases hx with hx | hx | hx | hx
    · exact f1 hx
    · exact k3 hx
    · exact k1 hx
    · exact f2 hx
  have gs : ∀ x, x ∈ S' → x ∈ rlR rb db S aa ∨ W.heap.size ≤ x := fun x hx => g x (by simp [rlR, hx])
  have HQ2 := HQ.keeps k n1 n2
  refine ⟨HQ2.a, fun hx => ?_, HQ.n, fun hs => ⟨fun hx => ?_, (HQ.k hs).2⟩, G.m q HQ.o, HQ.l⟩
  · rcases gs _ hx with h9 | h9
    · exact n1 h9
    · have := HQ.mb_lt; omega
  · rcases gs _ hx with h9 | h9
    · exact n2 hs h9
    · have := HQ.sb_lt hs; omega
/-- One ask more. -/
theorem RlS.asked {ga cap ac : Nat} {x : Int} (h : RlS lo rb db t S aa same acv inner d A W) (hb : W.heap[rb]? = some (realO db (.slice aa A.length ac) acv same inner)) (k5 : Keeps (blk aa) W W') (v5 : A8Row lo (some ⟨ga, 0, none⟩) cap (A ++ [x]) W') (g5 : ga ∈ blk aa ∨ W.heap.size ≤ ga) :
    RlS lo rb db t S (some ⟨ga, 0, none⟩) same acv inner d (A ++ [x]) (W'.setCell ⟨rb, 1, none⟩ (.slice (some ⟨ga, 0, none⟩) (A.length + 1) cap)) ∧ Keeps (rlR rb db S aa) W (W'.setCell ⟨rb, 1, none⟩ (.slice (some ⟨ga, 0, none⟩) (A.length + 1) cap)) ∧ Grew (rlR rb db S aa) W (rlR rb db S (some ⟨ga, 0, none⟩)) := by
  obtain ⟨ac', h1, h2⟩ := h.b
  have hft := h.foot
  have nra : rb ∉ blk aa := own_notin8 h2 h1 (by decide)
  have nda : db ∉ blk aa := own_notin8 h2 h.d.b (by decide)
  have nrd : db ≠ rb := other_type h.d.b h1 (by decide)
  have hrb := lt_of_block h1
  have hdb := lt_of_block h.d.b
  have k6 : Keeps [rb] W' (W'.setCell ⟨rb, 1, none⟩ (.slice (some ⟨ga, 0, none⟩) (A.length + 1) cap)) := (Keeps.refl _ _).setCell (.inr (by simp)) _
  have hgr : ga ≠ rb := fun e => by
    rcases g5 with h9 | h9
    · rw [e] at h9; exact nra h9
    · omega
  have hgS : ga ∉ S := fun hx => by
    rcases g5 with h9 | h9
    · exact h.n2 _ h9 hx
    · have := (h.d.t.foot _ hx).2; omega
  refine ⟨⟨⟨cap, ?_, own_keeps8 v5 k6 (fun y hy hq => by simp [blk] at hy hq; subst hy; exact hgr hq)⟩, (h.d.keeps k5 nda (fun y hy hq => h.n2 y hq hy)).keeps k6 (by simp; exact nrd) (fun y hy hq => by simp at hq; subst hq; exact h.n1 hy), h.n1, fun y hy => by simp [blk] at hy; subst hy; exact hgS, h.l⟩, (k5.mono (fun y hy => by simp [rlR, hy])).trans (k6.mono (by simp [rlR])), fun y hy => ?_⟩
  · have h9 := has_setCell (k5.has hb nra) 1 (.slice (some ⟨ga, 0, none⟩) (A.length + 1) cap)
    rw [List.length_append]
    simpa [realO] using h9
  · unfold rlR at hy ⊢
    simp only [List.mem_cons, List.mem_append, blk, List.not_mem_nil, or_false] at hy ⊢
    rcases hy with rfl | rfl | hy | rfl
    · exact .inl (.inl rfl)
    · exact .inl (.inr (.inl rfl))
    · exact .inl (.inr (.inr (.inl hy)))
    · rcases g5 with h9 | h9
      · exact .inl (.inr (.inr (.inr h9)))
      · exact .inr h9
theorem RlS.inner_ (h : RlS lo rb db t S aa same acv inner d A W) (b : Bool) : RlS lo rb db t S aa same acv b d A (W.setCell ⟨rb, 4, none⟩ (.bool b)) ∧ Keeps [rb] W (W.setCell ⟨rb, 4, none⟩ (.bool b)) := by
  obtain ⟨ac, h1, h2⟩ := h.b
  have k : Keeps [rb] W (W.setCell ⟨rb, 4, none⟩ (.bool b)) := (Keeps.refl _ _).setCell (.inr (by simp)) _
  refine ⟨⟨⟨ac, ?_, own_keeps8 h2 k (fun y hy hq => by simp at hq; subst hq; exact own_notin8 h2 h1 (by decide) hy)⟩, h.d.keeps k (by simp; exact other_type h.d.b h1 (by decide)) (fun y hy hq => by simp at hq; subst hq; exact h.n1 hy), h.n1, h.n2, h.l⟩, k⟩
  have h9 := has_setCell h1 4 (.bool b)
  simpa [realO] using h9
end
/-- What comes of a call on the real one. -/
def Rl8 (lo rb db t : Nat) (S : List Nat) (aa : Option Addr) (same : Int) (acv : Value) (inner : Bool) (d' : Dic) (A' : List Int) (w w' : World) : Prop :=
  ∃ S' aa', RlS lo rb db t S' aa' same acv inner d' A' w' ∧ Keeps (rlR rb db S aa) w w' ∧ Grew (rlR rb db S aa) w (rlR rb db S' aa')
/-- What an act does, on the real one. -/
def ActR (w0 : World) (rb db t : Nat) (most same : Int) (acv : Value) (acts : List Ac8) : Prop :=
  ∀ (S : List Nat) (aa : Option Addr) (d : Dic) (s : Ms8) (w : World), RlS w0.heap.size rb db t S aa same acv false d s.A w → Keeps [] w0 w → Rel8 most d s → s.L.length ≤ s.V → s.V + acts.length ≤ 100 → 0 < s.A.length → s.A.length ≤ 1000000 →
    Calls Try.prog 57 #[.pointer (some ⟨rb, 0, none⟩)] w fun r w' => r = .returned (.tuple #[]) ∧ ∃ d', Rl8 w0.heap.size rb db t S aa same acv false d' s.A w w' ∧ Rel8 most d' (acts8 (one8 same) most acts s) ∧ Goes8 d d'
set_option maxRecDepth 100000 in
theorem rone_any8 (rb : Nat) (same a b : Int) (w : World) (h : w.cell? ⟨rb, 3, none⟩ = some (.int .i64 same)) :
    Calls Try.prog 58 #[.pointer (some ⟨rb, 0, none⟩), .int .i64 a, .int .i64 b] w fun r w' => r = .returned (.bool (one8 same a b)) ∧ Keeps [] w w' := by
  go_enter Try.func58, Try.ntmps58
  go_upto_region 2 with (fail)
  refine wp_gen (fun V => V.heap[w.heap.size]? = some (modO (.slice none 0 0) 0 0 (.slice none 0 0) (.slice none 0 0) same false) ∧ Keeps [] w V) ⟨has_new _ _, (Keeps.refl [] w).alloc _⟩ ?_
  rintro w1 ⟨b1, k1⟩
  obtain ⟨mo, hmo⟩ := ex_hid w.heap.size
  rw [← hmo.out] at b1 ⊢
  have y5 : w1.cell? ⟨mo, 5, none⟩ = some (.int .i64 same) := cell_has b1 (i := 5) rfl
  have K1 := Lib.hid k1
  clear b1 k1
  go_wp2_with (refine (one_any8 mo same a b w1 y5).mono ?_; rintro r w9 ⟨rfl, rfl⟩)
  go_ret
  exact ⟨rfl, K1.out⟩
end Go.Proofs.Ytcakdmapnmneoaa
