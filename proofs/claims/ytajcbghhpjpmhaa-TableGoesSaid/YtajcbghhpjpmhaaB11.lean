/- A table and the document's, in turns (chapter 7). The calls of a script on a table and on the document's: Add, Put, Kill, At, Clear; none (chapter 7). -/
import Derived.Test.YtajcbghhpjpmhaaTabZ
import Derived.Test.YtajcbghhpjpmhaaB8
import Derived.Test.YtajcbghhpjpmhaaB10
import Derived.Test.YtajcbghhpjpmhaaRTabAdd
import Derived.Test.YtajcbghhpjpmhaaRTabCopy
import Derived.Test.YtajcbghhpjpmhaaRTabNext
import Derived.Test.YtajcbghhpjpmhaaRTabSight
import Derived.Test.YtajcbghhpjpmhaaB5
import Derived.Test.YtajcbghhpjpmhaaTabCopy
import Derived.Test.YtajcbghhpjpmhaaTabNxtL
section
namespace Go.Proofs.Ytajcbghhpjpmhaa
open Go.RowKit
set_option linter.unusedVariables false
set_option linter.unusedSimpArgs false

def twoO (t tw : Nat) (sp kp : Value) : Obj := .cells #[.pointer (some ⟨t, 0, none⟩), .pointer (some ⟨tw, 0, none⟩), sp, kp] 57 (0, 0)
/-- The Seekers of both. -/
def SeekAt (t tw xb : Nat) (S R F : List Nat) (sp kp : Value) (T : Tab) (so : Option Sk) (w : World) : Prop := match so with
  | none => sp = .pointer none ∧ ∃ p, kp = .pointer p
  | some s => ∃ sb kb, sp = .pointer (some ⟨sb, 0, none⟩) ∧ kp = .pointer (some ⟨kb, 0, none⟩) ∧ SkAt sb t s w ∧ RSkAt kb tw s w ∧ SkOk T s ∧ sb ∉ S ∧ sb ∉ R ∧ kb ∉ S ∧ kb ∉ R ∧ sb ≠ kb ∧ sb ≠ xb ∧ kb ≠ xb ∧ sb ∈ F ∧ kb ∈ F
theorem SeekAt.step {t tw xb lo : Nat} {S R F S' R' F' Q : List Nat} {sp kp : Value} {T T' : Tab} {so : Option Sk} {w w' : World} (h : SeekAt t tw xb S R F sp kp T so w) (hF : ∀ x, x ∈ F → lo ≤ x ∧ x < w.heap.size) (k : Keeps Q w w') (hQ : ∀ x, x ∈ Q → x ∈ S ∨ x ∈ R ∨ x < lo)
    (gS : Grew S w S') (gR : Grew R w R') (hT : ∀ s, SkOk T s → SkOk T' s) (hFF : ∀ x, x ∈ F → x ∈ F') : SeekAt t tw xb S' R' F' sp kp T' so w' := by
  cases so with
  | none => exact h
  | some s =>
    obtain ⟨sb, kb, h1, h2, h3, h4, h5, h6, h7, h8, h9, h10, h11, h12, h13, h14⟩ := h
    have z1 := hF sb h13
    have z2 := hF kb h14
    have n1 : sb ∉ Q := fun hx => (hQ sb hx).elim h6 (fun q => q.elim h7 (fun q => by omega))
    have n2 : kb ∉ Q := fun hx => (hQ kb hx).elim h8 (fun q => q.elim h9 (fun q => by omega))
    exact ⟨sb, kb, h1, h2, h3.keeps k n1, h4.keeps k n2, hT s h5, fun q => (gS _ q).elim h6 (fun q => by omega), fun q => (gR _ q).elim h7 (fun q => by omega),
      fun q => (gS _ q).elim h8 (fun q => by omega), fun q => (gR _ q).elim h9 (fun q => by omega), h10, h11, h12, hFF _ h13, hFF _ h14⟩
/-- The parts that are apart. -/
structure Apart7 (xb lo : Nat) (F S R : List Nat) (m1 m2 : Option Nat) (w : World) : Prop where
  sr : ∀ x, x ∈ S → x ∉ R
  sx : xb ∉ S
  rx : xb ∉ R
  fx : xb ∈ F
  fs : ∀ x, x ∈ S → x ∈ F
  fr : ∀ x, x ∈ R → x ∈ F
  ft : ∀ x, x ∈ F → lo ≤ x ∧ x < w.heap.size
  a1 : ∀ b, m1 = some b → b < lo
  a2 : ∀ b, m2 = some b → b < lo
  am : ∀ b, m1 = some b → m2 ≠ some b
def TwoAt (xb lo : Nat) (F : List Nat) (m1 m2 : Option Nat) (c : C4) (T : Tab) (so : Option Sk) (w : World) : Prop :=
  ∃ t tw S R sp kp, w.heap[xb]? = some (twoO t tw sp kp) ∧ TabZ (so = none) t lo S m1 T w ∧ RTabAt tw lo R m2 T w ∧ MtrAt m1 c w ∧ CtrAt m2 c w ∧ SeekAt t tw xb S R F sp kp T so w ∧ Apart7 xb lo F S R m1 m2 w
theorem mS_lt {m : Option Nat} {lo x : Nat} (h : ∀ b, m = some b → b < lo) (hx : x ∈ mS m) : x < lo := by
  cases m with
  | none => simp [mS] at hx
  | some b => simp [mS] at hx; subst hx; exact h _ rfl
theorem Apart7.mono {xb lo : Nat} {F S R : List Nat} {m1 m2 : Option Nat} {w w' : World} (h : Apart7 xb lo F S R m1 m2 w) (hs : w.heap.size ≤ w'.heap.size) : Apart7 xb lo F S R m1 m2 w' :=
  ⟨h.sr, h.sx, h.rx, h.fx, h.fs, h.fr, fun x hx => ⟨(h.ft x hx).1, by have := (h.ft x hx).2; omega⟩, h.a1, h.a2, h.am⟩
/-- Nothing of it is touched. -/
theorem TwoAt.keeps {xb lo : Nat} {F Q : List Nat} {m1 m2 : Option Nat} {c : C4} {T : Tab} {so : Option Sk} {w w' : World} (h : TwoAt xb lo F m1 m2 c T so w) (k : Keeps Q w w') (hQ : ∀ x, x ∈ Q → x ∉ F ∧ x ∉ mS m1 ∧ x ∉ mS m2) : TwoAt xb lo F m1 m2 c T so w' := by
  obtain ⟨t, tw, S, R, sp, kp, h1, h2, h3, h4, h5, h6, h7⟩ := h
  have hm : ∀ {m : Option Nat} {b : Nat}, m = some b → b ∈ mS m := fun e => by rw [e]; simp [mS]
  refine ⟨t, tw, S, R, sp, kp, k.has h1 (fun hx => (hQ _ hx).1 h7.fx), h2.keeps k (fun x hx hq => (hQ _ hq).1 (h7.fs x hx)), h3.keeps k (fun x hx hq => (hQ _ hq).1 (h7.fr x hx)), h4.keeps k (fun b hb hx => (hQ _ hx).2.1 (hm hb)), h5.keeps k (fun b hb hx => (hQ _ hx).2.2 (hm hb)), ?_, h7.mono k.size⟩
  cases so with
  | none => exact h6
  | some s =>
    obtain ⟨sb, kb, g1, g2, g3, g4, g5, g6, g7, g8, g9, g10, g11, g12, g13, g14⟩ := h6
    exact ⟨sb, kb, g1, g2, g3.keeps k (fun hx => (hQ _ hx).1 g13), g4.keeps k (fun hx => (hQ _ hx).1 g14), g5, g6, g7, g8, g9, g10, g11, g12, g13, g14⟩
theorem TwoAt.foot {xb lo : Nat} {F : List Nat} {m1 m2 : Option Nat} {c : C4} {T : Tab} {so : Option Sk} {w : World} (h : TwoAt xb lo F m1 m2 c T so w) : ∀ x, x ∈ F → lo ≤ x ∧ x < w.heap.size := by
  obtain ⟨t, tw, S, R, sp, kp, h1, h2, h3, h4, h5, h6, h7⟩ := h
  exact h7.ft
/-- What a call on both leaves. -/
def DoneP (xb lo : Nat) (F : List Nat) (m1 m2 : Option Nat) (k : Nat) (w : World) (w' : World) : Prop :=
  ∃ F' c' T' so', TwoAt xb lo F' m1 m2 c' T' so' w' ∧ TInv k T' ∧ Keeps (F ++ mS m1 ++ mS m2) w w' ∧ Grew F w F'
/-- A call on the one, then the same on the other. -/
theorem two_pair0 {xb lo t tw : Nat} {F S R S' R' : List Nat} {m1 m2 : Option Nat} {sp kp : Value} {c c' : C4} {T T' : Tab} {so : Option Sk} {w w1 w2 : World} (h1 : w.heap[xb]? = some (twoO t tw sp kp)) (h5 : CtrAt m2 c w) (h6 : SeekAt t tw xb S R F sp kp T so w) (h7 : Apart7 xb lo F S R m1 m2 w)
    (k1 : Keeps (S ++ mS m1) w w1) (t1 : TabZ (so = none) t lo S' m1 T' w1) (e1 : MtrAt m1 c' w1) (gS : Grew S w S') (k2 : Keeps (R ++ mS m2) w1 w2) (t2 : RTabAt tw lo R' m2 T' w2) (e2 : CtrAt m2 c' w2) (gR : Grew R w1 R')
    (hT : ∀ s, SkOk T s → SkOk T' s) : TwoAt xb lo (F ++ S' ++ R') m1 m2 c' T' so w2 ∧ Keeps (F ++ mS m1 ++ mS m2) w w2 ∧ Grew F w (F ++ S' ++ R') := by
  have hm : ∀ {m : Option Nat} {b : Nat}, m = some b → b ∈ mS m := fun e => by rw [e]; simp [mS]
  have z1 := k1.size
  have z2 := k2.size
  have lx := h7.ft xb h7.fx
  have x1 : w1.heap[xb]? = _ := k1.has h1 (fun hx => by
    rcases List.mem_append.1 hx with hx | hx
    · exact h7.sx hx
    · have := mS_lt h7.a1 hx; omega)
  have x2 : w2.heap[xb]? = _ := k2.has x1 (fun hx => by
    rcases List.mem_append.1 hx with hx | hx
    · exact h7.rx hx
    · have := mS_lt h7.a2 hx; omega)
  have hS'R : ∀ x, x ∈ S' → x ∉ R := fun x hx hr => by
    rcases gS x hx with q | q
    · exact h7.sr x q hr
    · have := (h7.ft x (h7.fr x hr)).2; omega
  have q1 := h6.step (T' := T) (S' := S') (R' := R) (F' := F) h7.ft k1 (fun x hx => by
    rcases List.mem_append.1 hx with hx | hx
    · exact .inl hx
    · exact .inr (.inr (mS_lt h7.a1 hx))) gS (Grew.refl _ _) (fun s h => h) (fun x h => h)
  have q2 := q1.step (T' := T') (S' := S') (R' := R') (F' := F ++ S' ++ R') (lo := lo) (fun x hx => ⟨(h7.ft x hx).1, by have := (h7.ft x hx).2; omega⟩) k2 (fun x hx => by
    rcases List.mem_append.1 hx with hx | hx
    · exact .inr (.inl hx)
    · exact .inr (.inr (mS_lt h7.a2 hx))) (Grew.refl _ _) gR hT (fun x h => by simp [h])
  refine ⟨⟨t, tw, S', R', sp, kp, x2, t1.keeps k2 (fun x hx hq => ?_), t2, e1.keeps k2 (fun b hb hx => ?_), e2, q2, ?_⟩, ?_, ?_⟩
  · rcases List.mem_append.1 hq with hq | hq
    · exact hS'R x hx hq
    · have := mS_lt h7.a2 hq; have := (t1.foot x hx).1; omega
  · have := h7.a1 b hb
    rcases List.mem_append.1 hx with hx | hx
    · have := (h7.ft b (h7.fr b hx)).1; omega
    · cases m2 with
      | none => simp [mS] at hx
      | some b2 => simp [mS] at hx; subst hx; exact h7.am b hb rfl
  · refine ⟨fun x hx hr => ?_, fun hx => ?_, fun hx => ?_, by simp [h7.fx], fun x hx => by simp [hx], fun x hx => by simp [hx], fun x hx => ?_, h7.a1, h7.a2, h7.am⟩
    · rcases gR x hr with q | q
      · exact hS'R x hx q
      · have := (t1.foot x hx).2; omega
    · rcases gS _ hx with q | q
      · exact h7.sx q
      · omega
    · rcases gR _ hx with q | q
      · exact h7.rx q
      · omega
    · simp only [List.mem_append] at hx
      rcases hx with (hx | hx) | hx
      · have := h7.ft x hx; exact ⟨this.1, by omega⟩
      · have := t1.foot x hx; exact ⟨this.1, by omega⟩
      · exact t2.foot x hx
  · refine (k1.mono (fun x hx => ?_)).trans (k2.mono (fun x hx => ?_))
    · rcases List.mem_append.1 hx with hx | hx
      · simp [h7.fs x hx]
      · simp [hx]
    · rcases List.mem_append.1 hx with hx | hx
      · simp [h7.fr x hx]
      · simp [hx]
  · intro x hx
    simp only [List.mem_append] at hx
    rcases hx with (hx | hx) | hx
    · exact .inl hx
    · rcases gS x hx with q | q
      · exact .inl (h7.fs x q)
      · exact .inr q
    · rcases gR x hx with q | q
      · exact .inl (h7.fr x q)
      · exact .inr (by omega)
theorem two_pair {xb lo k t tw : Nat} {F S R S' R' : List Nat} {m1 m2 : Option Nat} {sp kp : Value} {c c' : C4} {T T' : Tab} {so : Option Sk} {w w1 w2 : World} (h1 : w.heap[xb]? = some (twoO t tw sp kp)) (h5 : CtrAt m2 c w) (h6 : SeekAt t tw xb S R F sp kp T so w) (h7 : Apart7 xb lo F S R m1 m2 w)
    (k1 : Keeps (S ++ mS m1) w w1) (t1 : TabZ (so = none) t lo S' m1 T' w1) (e1 : MtrAt m1 c' w1) (gS : Grew S w S') (k2 : Keeps (R ++ mS m2) w1 w2) (t2 : RTabAt tw lo R' m2 T' w2) (e2 : CtrAt m2 c' w2) (gR : Grew R w1 R')
    (hT : ∀ s, SkOk T s → SkOk T' s) (hI : TInv k T') : DoneP xb lo F m1 m2 k w w2 := by
  obtain ⟨a1, a2, a3⟩ := two_pair0 h1 h5 h6 h7 k1 t1 e1 gS k2 t2 e2 gR hT
  exact ⟨_, _, _, _, a1, hI, a2, a3⟩
theorem add_tab (k : Nat) (hk : k ≤ 1000) (t lo : Nat) (S : List Nat) (m : Option Nat) (c : C4) (T : Tab) (w : World) (H : TabAt t lo S (mV m) T w) (hM : MtrAt m c w) (hm : ∀ b, m = some b → b < lo) (hI : TInv k T) (h ky v : Int) :
    Calls Try.prog 34 #[.pointer (some ⟨t, 0, none⟩), .int .i64 h, .int .i64 ky, .int .i64 v] w (AddP t lo S m (if T.E.length = T.room then c.tab else c) T.ready h ky v w) := by
  by_cases he : T.E.length = T.room
  · rw [if_pos he]
    exact add_grow k hk t lo S m c T w H hM hm hI he h ky v
  · rw [if_neg he]
    have hr : T.ready = T := by unfold Tab.ready; rw [if_neg he]
    rw [hr]
    exact add_stay k hk t lo S m c T w H hM hm hI he h ky v
/-- The other one behind a call on the one. -/
theorem two_mid {xb lo tw : Nat} {F S R : List Nat} {m1 m2 : Option Nat} {c : C4} {T : Tab} {w w1 : World} (h3 : RTabAt tw lo R m2 T w) (h5 : CtrAt m2 c w) (h7 : Apart7 xb lo F S R m1 m2 w) (k1 : Keeps (S ++ mS m1) w w1) : RTabAt tw lo R m2 T w1 ∧ CtrAt m2 c w1 := by
  refine ⟨h3.keeps k1 (fun x hx hq => ?_), h5.keeps k1 (fun b hb hx => ?_)⟩
  · rcases List.mem_append.1 hq with hq | hq
    · exact h7.sr x hq hx
    · have := mS_lt h7.a1 hq; have := (h7.ft x (h7.fr x hx)).1; omega
  · have := h7.a2 b hb
    rcases List.mem_append.1 hx with hx | hx
    · have := (h7.ft b (h7.fs b hx)).1; omega
    · cases m1 with
      | none => simp [mS] at hx
      | some b1 => simp [mS] at hx; subst hx; exact h7.am b rfl hb
end Go.Proofs.Ytajcbghhpjpmhaa
end

section
namespace Go.Proofs.Ytajcbghhpjpmhaa
open Go.RowKit
set_option linter.unusedVariables false
set_option linter.unusedSimpArgs false

def DoesP (xb lo : Nat) (F : List Nat) (m1 m2 : Option Nat) (k : Nat) (w : World) (r : Ending) (w' : World) : Prop := r = .returned (.bool true) ∧ DoneP xb lo F m1 m2 (k + 1) w w'
theorem SkOk.turned {T U : Tab} {s : Sk} (h : SkOk T s) (hu : T.turns ≤ U.turns) (h2 : U.turns = T.turns → U.L = T.L ∧ U.V = T.V) : SkOk U s := by
  rcases Nat.lt_or_ge T.turns U.turns with h1 | h1
  · exact h.later h1
  · obtain ⟨h3, h4⟩ := h2 (by omega)
    exact h.same (by omega) h3 h4
theorem SkOk.add {T : Tab} {s : Sk} (h : SkOk T s) (a b c : Int) : SkOk (T.add a b c) s := h.later (by show T.turns < T.ready.turns + 1; have : T.ready.turns = T.turns := (by unfold Tab.ready; split <;> rfl); omega)
theorem SkOk.put {T : Tab} {s : Sk} (h : SkOk T s) (e v : Int) : SkOk (T.put e v) s := by
  unfold Tab.put; split
  · exact h.same rfl rfl rfl
  · exact h
theorem SkOk.kill {T : Tab} {s : Sk} (h : SkOk T s) (e : Int) : SkOk (T.kill e) s := by
  unfold Tab.kill; split
  · exact h.later (by show T.turns < T.turns + 1; omega)
  · exact h
theorem SkOk.clear {T : Tab} {s : Sk} (h : SkOk T s) : SkOk T.clear s := h.later (by show T.turns < T.turns + 1; omega)
theorem Apart7.off1 {xb lo : Nat} {F S R : List Nat} {m1 m2 : Option Nat} {w : World} (h : Apart7 xb lo F S R m1 m2 w) {b : Nat} (hb : m1 = some b) : b ∉ S := fun hx => by have := h.a1 b hb; have := (h.ft b (h.fs b hx)).1; omega
theorem Apart7.off2 {xb lo : Nat} {F S R : List Nat} {m1 m2 : Option Nat} {w : World} (h : Apart7 xb lo F S R m1 m2 w) {b : Nat} (hb : m2 = some b) : b ∉ R := fun hx => by have := h.a2 b hb; have := (h.ft b (h.fr b hx)).1; omega
theorem eql_err (x : Int) (w : World) : (binOp .eql 3 (.int .i64 x) (.int .i64 x)).run Try.prog w = .ok (.bool true) w := by simp [binOp, run_underlying Try.underlying3, go_sem]
set_option maxRecDepth 100000 in
set_option maxHeartbeats 4000000 in
theorem does_add (xb lo k : Nat) (F : List Nat) (m1 m2 : Option Nat) (c : C4) (T : Tab) (so : Option Sk) (w : World) (H : TwoAt xb lo F m1 m2 c T so w) (hk : k ≤ 900) (hI : TInv k T) (h ky v n : Int) :
    Calls Try.prog 28 #[.pointer (some ⟨xb, 0, none⟩), .agg #[.int .i64 1, .int .i64 h, .int .i64 ky, .int .i64 v, .int .i64 n]] w (DoesP xb lo F m1 m2 k w) := by
  have HH := Lib.hid H
  obtain ⟨t, tw, S, R, sp, kp, h1, h2, h3, h4, h5, h6, h7⟩ := H
  have H1 := Lib.hid h1
  have H2 := Lib.hid h2
  have H3 := Lib.hid h3
  have H4 := Lib.hid h4
  have H5 := Lib.hid h5
  have H6 := Lib.hid h6
  have H7 := Lib.hid h7
  have HI := Lib.hid hI
  have hek := hI.ek
  have hl3 := hI.l3
  have hl12 := hI.l12
  have zx := lt_of_block h1
  have x0 : w.cell? ⟨xb, 0, none⟩ = some (.pointer (some ⟨t, 0, none⟩)) := cell_has h1 (i := 0) rfl
  have x1 : w.cell? ⟨xb, 1, none⟩ = some (.pointer (some ⟨tw, 0, none⟩)) := cell_has h1 (i := 1) rfl
  have xs : xb ∉ S ++ mS m1 := fun hx => by
    rcases List.mem_append.1 hx with hx | hx
    · exact h7.sx hx
    · have := mS_lt h7.a1 hx; have := (h7.ft xb h7.fx).1; omega
  have xr : xb ∉ R ++ mS m2 := fun hx => by
    rcases List.mem_append.1 hx with hx | hx
    · exact h7.rx hx
    · have := mS_lt h7.a2 hx; have := (h7.ft xb h7.fx).1; omega
  have ws : w.heap.size ∉ S ++ mS m1 := fun hx => by
    rcases List.mem_append.1 hx with hx | hx
    · have := (h7.ft _ (h7.fs _ hx)).2; omega
    · have := mS_lt h7.a1 hx; have := (h7.ft xb h7.fx); omega
  have wr' : w.heap.size ∉ R ++ mS m2 := fun hx => by
    rcases List.mem_append.1 hx with hx | hx
    · have := (h7.ft _ (h7.fr _ hx)).2; omega
    · have := mS_lt h7.a2 hx; have := (h7.ft xb h7.fx); omega
  have XX := Lib.hid (And.intro xs (And.intro xr (And.intro ws wr')))
  obtain ⟨WB, hWB⟩ : ∃ WB, w.alloc (.cells #[.int .i64 1, .int .i64 h, .int .i64 ky, .int .i64 v, .int .i64 n] 61) = WB := ⟨_, rfl⟩
  have kb : Keeps [] w WB := by rw [← hWB]; exact (Keeps.refl [] w).alloc _
  have bb : WB.heap[w.heap.size]? = some (.cells #[.int .i64 1, .int .i64 h, .int .i64 ky, .int .i64 v, .int .i64 n] 61 (0, 0)) := by rw [← hWB]; exact has_new _ _
  have hWB2 := Lib.hid hWB
  have p0 : WB.cell? ⟨w.heap.size, 0, none⟩ = some (.int .i64 1) := cell_has bb (i := 0) rfl
  have p1 : WB.cell? ⟨w.heap.size, 1, none⟩ = some (.int .i64 h) := cell_has bb (i := 1) rfl
  have p2 : WB.cell? ⟨w.heap.size, 2, none⟩ = some (.int .i64 ky) := cell_has bb (i := 2) rfl
  have p3 : WB.cell? ⟨w.heap.size, 3, none⟩ = some (.int .i64 v) := cell_has bb (i := 3) rfl
  have p4 : WB.cell? ⟨w.heap.size, 4, none⟩ = some (.int .i64 n) := cell_has bb (i := 4) rfl
  have y0 := kb.cell x0 (by simp)
  have y1 := kb.cell x1 (by simp)
  have KB := Lib.hid kb
  have BB := Lib.hid bb
  clear h1 h2 h3 h4 h5 h6 h7 xs xr ws wr' hWB kb bb x0 x1 hI
  go_enter Try.func28, Try.ntmps28
  go_upto_region 1 with (fail)
  rw [hWB2.out]
  go_wp2_with fail
  go_region_held3 (fun w' => w'.cell? ⟨xb, 0, none⟩ = some (.pointer (some ⟨t, 0, none⟩)) ∧ w'.cell? ⟨w.heap.size, 1, none⟩ = some (.int .i64 h) ∧ w'.cell? ⟨w.heap.size, 2, none⟩ = some (.int .i64 ky) ∧ w'.cell? ⟨w.heap.size, 3, none⟩ = some (.int .i64 v)) (go_keep)
    (first
      | (go_at_call 34; refine (add_z k (by omega) t lo S m1 c T _ (H2.out.keeps KB.out.drew (by simp)) (H4.out.keeps KB.out.drew (by simp)) H7.out.a1 HI.out h ky v).mono ?_; rintro r w1 ⟨S1, rfl, t1, e1, k1, g1⟩; have T1 := Lib.hid (And.intro t1 (And.intro e1 g1)); have K1 := Lib.hid (KB.out.drew.mono (T := S ++ mS m1) (by simp) |>.trans k1); have q0 := k1.cell (w := WB.drew) y0 XX.out.1; have q1 := k1.cell (w := WB.drew) y1 XX.out.1; have u1 := k1.cell (w := WB.drew) p1 XX.out.2.2.1; have u2 := k1.cell (w := WB.drew) p2 XX.out.2.2.1; have u3 := k1.cell (w := WB.drew) p3 XX.out.2.2.1; clear t1 e1 k1 g1))
  have MID := Lib.hid (two_mid H3.out H5.out H7.out K1.out)
  go_wp2_with fail
  go_region_held3 (fun w' => w'.cell? ⟨xb, 1, none⟩ = some (.pointer (some ⟨tw, 0, none⟩)) ∧ w'.cell? ⟨w.heap.size, 1, none⟩ = some (.int .i64 h) ∧ w'.cell? ⟨w.heap.size, 2, none⟩ = some (.int .i64 ky) ∧ w'.cell? ⟨w.heap.size, 3, none⟩ = some (.int .i64 v)) (go_keep)
    (first
      | (go_at_call 58; refine (radd_any k (by omega) tw lo R m2 c T _ (MID.out.1.keeps (Keeps.refl [] w1).drew (by simp)) (MID.out.2.keeps (Keeps.refl [] w1).drew (by simp)) H7.out.a2 HI.out h ky v).mono ?_; rintro r w2 ⟨R2, rfl, t2, e2, k2, g2⟩; have T2 := Lib.hid (And.intro t2 (And.intro e2 g2)); have K2 := Lib.hid (((Keeps.refl [] w1).drew.mono (T := R ++ mS m2) (by simp)).trans k2); have s1 := k2.cell (w := w1.drew) q1 XX.out.2.1; have v1 := k2.cell (w := w1.drew) u1 XX.out.2.2.2; have v2 := k2.cell (w := w1.drew) u2 XX.out.2.2.2; have v3 := k2.cell (w := w1.drew) u3 XX.out.2.2.2; clear t2 e2 k2 g2))
  go_wp2_with fail
  go_ret
  refine ⟨rfl, two_pair H1.out H5.out H6.out H7.out K1.out (.inl T1.out.1) T1.out.2.1 (fun x hx => ?_) K2.out T2.out.1 T2.out.2.1 T2.out.2.2 (fun s hs => hs.add h ky v) (HI.out.add (by omega) h ky v)⟩
  rcases T1.out.2.2 x hx with q | q
  · exact .inl q
  · exact .inr (by have := KB.out.size; simp at q; omega)
set_option maxRecDepth 100000 in
set_option maxHeartbeats 4000000 in
theorem does_put (xb lo k : Nat) (F : List Nat) (m1 m2 : Option Nat) (c : C4) (T : Tab) (so : Option Sk) (w : World) (H : TwoAt xb lo F m1 m2 c T so w) (hk : k ≤ 900) (hI : TInv k T) (h ky v n : Int) :
    Calls Try.prog 28 #[.pointer (some ⟨xb, 0, none⟩), .agg #[.int .i64 2, .int .i64 h, .int .i64 ky, .int .i64 v, .int .i64 n]] w (DoesP xb lo F m1 m2 k w) := by
  have HH := Lib.hid H
  obtain ⟨t, tw, S, R, sp, kp, h1, h2, h3, h4, h5, h6, h7⟩ := H
  have H1 := Lib.hid h1
  have H2 := Lib.hid h2
  have H3 := Lib.hid h3
  have H4 := Lib.hid h4
  have H5 := Lib.hid h5
  have H6 := Lib.hid h6
  have H7 := Lib.hid h7
  have HI := Lib.hid hI
  have hek := hI.ek
  have hl3 := hI.l3
  have hl12 := hI.l12
  have zx := lt_of_block h1
  have x0 : w.cell? ⟨xb, 0, none⟩ = some (.pointer (some ⟨t, 0, none⟩)) := cell_has h1 (i := 0) rfl
  have x1 : w.cell? ⟨xb, 1, none⟩ = some (.pointer (some ⟨tw, 0, none⟩)) := cell_has h1 (i := 1) rfl
  have xs : xb ∉ S ++ mS m1 := fun hx => by
    rcases List.mem_append.1 hx with hx | hx
    · exact h7.sx hx
    · have := mS_lt h7.a1 hx; have := (h7.ft xb h7.fx).1; omega
  have xr : xb ∉ R ++ mS m2 := fun hx => by
    rcases List.mem_append.1 hx with hx | hx
    · exact h7.rx hx
    · have := mS_lt h7.a2 hx; have := (h7.ft xb h7.fx).1; omega
  have ws : w.heap.size ∉ S ++ mS m1 := fun hx => by
    rcases List.mem_append.1 hx with hx | hx
    · have := (h7.ft _ (h7.fs _ hx)).2; omega
    · have := mS_lt h7.a1 hx; have := (h7.ft xb h7.fx); omega
  have wr' : w.heap.size ∉ R ++ mS m2 := fun hx => by
    rcases List.mem_append.1 hx with hx | hx
    · have := (h7.ft _ (h7.fr _ hx)).2; omega
    · have := mS_lt h7.a2 hx; have := (h7.ft xb h7.fx); omega
  have XX := Lib.hid (And.intro xs (And.intro xr (And.intro ws wr')))
  obtain ⟨WB, hWB⟩ : ∃ WB, w.alloc (.cells #[.int .i64 2, .int .i64 h, .int .i64 ky, .int .i64 v, .int .i64 n] 61) = WB := ⟨_, rfl⟩
  have kb : Keeps [] w WB := by rw [← hWB]; exact (Keeps.refl [] w).alloc _
  have bb : WB.heap[w.heap.size]? = some (.cells #[.int .i64 2, .int .i64 h, .int .i64 ky, .int .i64 v, .int .i64 n] 61 (0, 0)) := by rw [← hWB]; exact has_new _ _
  have hWB2 := Lib.hid hWB
  have p0 : WB.cell? ⟨w.heap.size, 0, none⟩ = some (.int .i64 2) := cell_has bb (i := 0) rfl
  have p1 : WB.cell? ⟨w.heap.size, 1, none⟩ = some (.int .i64 h) := cell_has bb (i := 1) rfl
  have p2 : WB.cell? ⟨w.heap.size, 2, none⟩ = some (.int .i64 ky) := cell_has bb (i := 2) rfl
  have p3 : WB.cell? ⟨w.heap.size, 3, none⟩ = some (.int .i64 v) := cell_has bb (i := 3) rfl
  have p4 : WB.cell? ⟨w.heap.size, 4, none⟩ = some (.int .i64 n) := cell_has bb (i := 4) rfl
  have y0 := kb.cell x0 (by simp)
  have y1 := kb.cell x1 (by simp)
  have KB := Lib.hid kb
  have BB := Lib.hid bb
  clear h1 h2 h3 h4 h5 h6 h7 xs xr ws wr' hWB kb bb x0 x1 hI
  go_enter Try.func28, Try.ntmps28
  go_upto_region 1 with (fail)
  rw [hWB2.out]
  go_wp2_with fail
  go_region_held3 (fun w' => w'.cell? ⟨xb, 0, none⟩ = some (.pointer (some ⟨t, 0, none⟩)) ∧ w'.cell? ⟨xb, 1, none⟩ = some (.pointer (some ⟨tw, 0, none⟩)) ∧ w'.cell? ⟨w.heap.size, 3, none⟩ = some (.int .i64 v) ∧ w'.cell? ⟨w.heap.size, 4, none⟩ = some (.int .i64 n)) (go_keep)
    (first
      | (go_at_call 36; refine (put_z t lo S m1 T _ (H2.out.keeps KB.out.drew (by simp)) (by omega) n v).mono ?_; rintro r w1 ⟨rfl, t1, k1s⟩; have E1 := Lib.hid ((H4.out.keeps KB.out.drew (by simp)).keeps k1s (fun b hb hx => H7.out.off1 hb hx)); have k1 := k1s.mono (T := S ++ mS m1) (by intro x hx; simp [hx]); have T1 := Lib.hid t1; have K1 := Lib.hid (KB.out.drew.mono (T := S ++ mS m1) (by simp) |>.trans k1); have q0 := k1.cell (w := WB.drew) y0 XX.out.1; have q1 := k1.cell (w := WB.drew) y1 XX.out.1; have u3 := k1.cell (w := WB.drew) p3 XX.out.2.2.1; have u4 := k1.cell (w := WB.drew) p4 XX.out.2.2.1; have MID := Lib.hid (two_mid H3.out H5.out H7.out K1.out); clear t1 k1 k1s)
      | (go_at_call 59; refine (rput_any tw lo R m2 T _ MID.out.1 (by omega) n v).mono ?_; rintro r w2 ⟨rfl, t2, k2s⟩; have E2 := Lib.hid (MID.out.2.keeps k2s (fun b hb hx => H7.out.off2 hb hx)); have k2 := k2s.mono (T := R ++ mS m2) (by intro x hx; simp [hx]); have T2 := Lib.hid t2; have K2 := Lib.hid k2; have s0 := k2.cell (w := w1) q0 XX.out.2.1; have s1 := k2.cell (w := w1) q1 XX.out.2.1; have v3 := k2.cell (w := w1) u3 XX.out.2.2.2; have v4 := k2.cell (w := w1) u4 XX.out.2.2.2; clear t2 k2 k2s))
  go_wp2_with fail
  go_ret
  exact ⟨by simp, two_pair H1.out H5.out H6.out H7.out K1.out T1.out E1.out (Grew.refl _ _) K2.out T2.out E2.out (Grew.refl _ _) (fun s hs => hs.put n v) ((HI.out.put n v).mono (by omega))⟩
set_option maxRecDepth 100000 in
set_option maxHeartbeats 4000000 in
theorem does_kill (xb lo k : Nat) (F : List Nat) (m1 m2 : Option Nat) (c : C4) (T : Tab) (so : Option Sk) (w : World) (H : TwoAt xb lo F m1 m2 c T so w) (hk : k ≤ 900) (hI : TInv k T) (h ky v n : Int) :
    Calls Try.prog 28 #[.pointer (some ⟨xb, 0, none⟩), .agg #[.int .i64 3, .int .i64 h, .int .i64 ky, .int .i64 v, .int .i64 n]] w (DoesP xb lo F m1 m2 k w) := by
  have HH := Lib.hid H
  obtain ⟨t, tw, S, R, sp, kp, h1, h2, h3, h4, h5, h6, h7⟩ := H
  have H1 := Lib.hid h1
  have H2 := Lib.hid h2
  have H3 := Lib.hid h3
  have H4 := Lib.hid h4
  have H5 := Lib.hid h5
  have H6 := Lib.hid h6
  have H7 := Lib.hid h7
  have HI := Lib.hid hI
  have hek := hI.ek
  have hl3 := hI.l3
  have hl12 := hI.l12
  have zx := lt_of_block h1
  have x0 : w.cell? ⟨xb, 0, none⟩ = some (.pointer (some ⟨t, 0, none⟩)) := cell_has h1 (i := 0) rfl
  have x1 : w.cell? ⟨xb, 1, none⟩ = some (.pointer (some ⟨tw, 0, none⟩)) := cell_has h1 (i := 1) rfl
  have xs : xb ∉ S ++ mS m1 := fun hx => by
    rcases List.mem_append.1 hx with hx | hx
    · exact h7.sx hx
    · have := mS_lt h7.a1 hx; have := (h7.ft xb h7.fx).1; omega
  have xr : xb ∉ R ++ mS m2 := fun hx => by
    rcases List.mem_append.1 hx with hx | hx
    · exact h7.rx hx
    · have := mS_lt h7.a2 hx; have := (h7.ft xb h7.fx).1; omega
  have ws : w.heap.size ∉ S ++ mS m1 := fun hx => by
    rcases List.mem_append.1 hx with hx | hx
    · have := (h7.ft _ (h7.fs _ hx)).2; omega
    · have := mS_lt h7.a1 hx; have := (h7.ft xb h7.fx); omega
  have wr' : w.heap.size ∉ R ++ mS m2 := fun hx => by
    rcases List.mem_append.1 hx with hx | hx
    · have := (h7.ft _ (h7.fr _ hx)).2; omega
    · have := mS_lt h7.a2 hx; have := (h7.ft xb h7.fx); omega
  have XX := Lib.hid (And.intro xs (And.intro xr (And.intro ws wr')))
  obtain ⟨WB, hWB⟩ : ∃ WB, w.alloc (.cells #[.int .i64 3, .int .i64 h, .int .i64 ky, .int .i64 v, .int .i64 n] 61) = WB := ⟨_, rfl⟩
  have kb : Keeps [] w WB := by rw [← hWB]; exact (Keeps.refl [] w).alloc _
  have bb : WB.heap[w.heap.size]? = some (.cells #[.int .i64 3, .int .i64 h, .int .i64 ky, .int .i64 v, .int .i64 n] 61 (0, 0)) := by rw [← hWB]; exact has_new _ _
  have hWB2 := Lib.hid hWB
  have p0 : WB.cell? ⟨w.heap.size, 0, none⟩ = some (.int .i64 3) := cell_has bb (i := 0) rfl
  have p1 : WB.cell? ⟨w.heap.size, 1, none⟩ = some (.int .i64 h) := cell_has bb (i := 1) rfl
  have p2 : WB.cell? ⟨w.heap.size, 2, none⟩ = some (.int .i64 ky) := cell_has bb (i := 2) rfl
  have p3 : WB.cell? ⟨w.heap.size, 3, none⟩ = some (.int .i64 v) := cell_has bb (i := 3) rfl
  have p4 : WB.cell? ⟨w.heap.size, 4, none⟩ = some (.int .i64 n) := cell_has bb (i := 4) rfl
  have y0 := kb.cell x0 (by simp)
  have y1 := kb.cell x1 (by simp)
  have KB := Lib.hid kb
  have BB := Lib.hid bb
  clear h1 h2 h3 h4 h5 h6 h7 xs xr ws wr' hWB kb bb x0 x1 hI
  go_enter Try.func28, Try.ntmps28
  go_upto_region 1 with (fail)
  rw [hWB2.out]
  go_wp2_with fail
  go_region_held3 (fun w' => w'.cell? ⟨xb, 0, none⟩ = some (.pointer (some ⟨t, 0, none⟩)) ∧ w'.cell? ⟨xb, 1, none⟩ = some (.pointer (some ⟨tw, 0, none⟩)) ∧ w'.cell? ⟨w.heap.size, 4, none⟩ = some (.int .i64 n)) (go_keep)
    (first
      | (go_at_call 37; refine (kill_z t lo S m1 T _ (H2.out.keeps KB.out.drew (by simp)) (HI.out.mono (by omega)) n).mono ?_; rintro r w1 ⟨rfl, t1, k1s⟩; have E1 := Lib.hid ((H4.out.keeps KB.out.drew (by simp)).keeps k1s (fun b hb hx => H7.out.off1 hb hx)); have k1 := k1s.mono (T := S ++ mS m1) (by intro x hx; simp [hx]); have T1 := Lib.hid t1; have K1 := Lib.hid (KB.out.drew.mono (T := S ++ mS m1) (by simp) |>.trans k1); have q0 := k1.cell (w := WB.drew) y0 XX.out.1; have q1 := k1.cell (w := WB.drew) y1 XX.out.1; have u4 := k1.cell (w := WB.drew) p4 XX.out.2.2.1; have MID := Lib.hid (two_mid H3.out H5.out H7.out K1.out); clear t1 k1 k1s)
      | (go_at_call 60; refine (rkill_any k (by omega) tw lo R m2 T _ MID.out.1 HI.out n).mono ?_; rintro r w2 ⟨rfl, t2, k2s⟩; have E2 := Lib.hid (MID.out.2.keeps k2s (fun b hb hx => H7.out.off2 hb hx)); have k2 := k2s.mono (T := R ++ mS m2) (by intro x hx; simp [hx]); have T2 := Lib.hid t2; have K2 := Lib.hid k2; have s0 := k2.cell (w := w1) q0 XX.out.2.1; have s1 := k2.cell (w := w1) q1 XX.out.2.1; have v4 := k2.cell (w := w1) u4 XX.out.2.2.2; clear t2 k2 k2s))
  go_wp2_with fail
  go_ret
  exact ⟨by simp, two_pair H1.out H5.out H6.out H7.out K1.out T1.out E1.out (Grew.refl _ _) K2.out T2.out E2.out (Grew.refl _ _) (fun s hs => hs.kill n) ((HI.out.kill n).mono (by omega))⟩
set_option maxRecDepth 100000 in
set_option maxHeartbeats 4000000 in
theorem does_clear (xb lo k : Nat) (F : List Nat) (m1 m2 : Option Nat) (c : C4) (T : Tab) (so : Option Sk) (w : World) (H : TwoAt xb lo F m1 m2 c T so w) (hk : k ≤ 900) (hI : TInv k T) (h ky v n : Int) :
    Calls Try.prog 28 #[.pointer (some ⟨xb, 0, none⟩), .agg #[.int .i64 5, .int .i64 h, .int .i64 ky, .int .i64 v, .int .i64 n]] w (DoesP xb lo F m1 m2 k w) := by
  have HH := Lib.hid H
  obtain ⟨t, tw, S, R, sp, kp, h1, h2, h3, h4, h5, h6, h7⟩ := H
  have H1 := Lib.hid h1
  have H2 := Lib.hid h2
  have H3 := Lib.hid h3
  have H4 := Lib.hid h4
  have H5 := Lib.hid h5
  have H6 := Lib.hid h6
  have H7 := Lib.hid h7
  have HI := Lib.hid hI
  have hek := hI.ek
  have hl3 := hI.l3
  have hl12 := hI.l12
  have zx := lt_of_block h1
  have x0 : w.cell? ⟨xb, 0, none⟩ = some (.pointer (some ⟨t, 0, none⟩)) := cell_has h1 (i := 0) rfl
  have x1 : w.cell? ⟨xb, 1, none⟩ = some (.pointer (some ⟨tw, 0, none⟩)) := cell_has h1 (i := 1) rfl
  have xs : xb ∉ S ++ mS m1 := fun hx => by
    rcases List.mem_append.1 hx with hx | hx
    · exact h7.sx hx
    · have := mS_lt h7.a1 hx; have := (h7.ft xb h7.fx).1; omega
  have xr : xb ∉ R ++ mS m2 := fun hx => by
    rcases List.mem_append.1 hx with hx | hx
    · exact h7.rx hx
    · have := mS_lt h7.a2 hx; have := (h7.ft xb h7.fx).1; omega
  have ws : w.heap.size ∉ S ++ mS m1 := fun hx => by
    rcases List.mem_append.1 hx with hx | hx
    · have := (h7.ft _ (h7.fs _ hx)).2; omega
    · have := mS_lt h7.a1 hx; have := (h7.ft xb h7.fx); omega
  have wr' : w.heap.size ∉ R ++ mS m2 := fun hx => by
    rcases List.mem_append.1 hx with hx | hx
    · have := (h7.ft _ (h7.fr _ hx)).2; omega
    · have := mS_lt h7.a2 hx; have := (h7.ft xb h7.fx); omega
  have XX := Lib.hid (And.intro xs (And.intro xr (And.intro ws wr')))
  obtain ⟨WB, hWB⟩ : ∃ WB, w.alloc (.cells #[.int .i64 5, .int .i64 h, .int .i64 ky, .int .i64 v, .int .i64 n] 61) = WB := ⟨_, rfl⟩
  have kb : Keeps [] w WB := by rw [← hWB]; exact (Keeps.refl [] w).alloc _
  have bb : WB.heap[w.heap.size]? = some (.cells #[.int .i64 5, .int .i64 h, .int .i64 ky, .int .i64 v, .int .i64 n] 61 (0, 0)) := by rw [← hWB]; exact has_new _ _
  have hWB2 := Lib.hid hWB
  have p0 : WB.cell? ⟨w.heap.size, 0, none⟩ = some (.int .i64 5) := cell_has bb (i := 0) rfl
  have p1 : WB.cell? ⟨w.heap.size, 1, none⟩ = some (.int .i64 h) := cell_has bb (i := 1) rfl
  have p2 : WB.cell? ⟨w.heap.size, 2, none⟩ = some (.int .i64 ky) := cell_has bb (i := 2) rfl
  have p3 : WB.cell? ⟨w.heap.size, 3, none⟩ = some (.int .i64 v) := cell_has bb (i := 3) rfl
  have p4 : WB.cell? ⟨w.heap.size, 4, none⟩ = some (.int .i64 n) := cell_has bb (i := 4) rfl
  have y0 := kb.cell x0 (by simp)
  have y1 := kb.cell x1 (by simp)
  have KB := Lib.hid kb
  have BB := Lib.hid bb
  clear h1 h2 h3 h4 h5 h6 h7 xs xr ws wr' hWB kb bb x0 x1 hI
  go_enter Try.func28, Try.ntmps28
  go_upto_region 1 with (fail)
  rw [hWB2.out]
  go_wp2_with fail
  refine (clear_z t lo S m1 c T _ (H2.out.keeps KB.out (by simp)) (H4.out.keeps KB.out (by simp)) H7.out.a1 (by have := HI.out.mdk; omega) (by have := HI.out.tk; omega)).mono ?_
  rintro r w1 ⟨S1, rfl, t1, e1, k1, g1⟩
  have T1 := Lib.hid (And.intro t1 (And.intro e1 g1))
  have K1 := Lib.hid (KB.out.mono (T := S ++ mS m1) (by simp) |>.trans k1)
  have MID := Lib.hid (two_mid H3.out H5.out H7.out K1.out)
  have q0 := k1.cell y0 XX.out.1
  have q1 := k1.cell y1 XX.out.1
  have u0 := k1.cell p0 XX.out.2.2.1
  clear t1 e1 k1 g1
  go_wp2_with fail
  refine (rclear_any tw lo R m2 c T _ MID.out.1 MID.out.2 (by have := HI.out.mdk; omega) (by have := HI.out.tk; omega)).mono ?_
  rintro r w2 ⟨R2, rfl, t2, e2, k2, g2⟩
  have T2 := Lib.hid (And.intro t2 (And.intro e2 (And.intro k2 g2)))
  clear t2 e2 k2 g2
  go_wp2_with fail
  go_ret
  refine ⟨rfl, two_pair H1.out H5.out H6.out H7.out K1.out (.inl T1.out.1) T1.out.2.1 (fun x hx => ?_) T2.out.2.2.1 T2.out.1 T2.out.2.1 T2.out.2.2.2 (fun s hs => hs.clear) (HI.out.clear)⟩
  rcases T1.out.2.2 x hx with q | q
  · exact .inl q
  · exact .inr (by have := KB.out.size; omega)
set_option maxRecDepth 100000 in
set_option maxHeartbeats 4000000 in
theorem does_none (xb lo k : Nat) (F : List Nat) (m1 m2 : Option Nat) (c : C4) (T : Tab) (so : Option Sk) (w : World) (H : TwoAt xb lo F m1 m2 c T so w) (hk : k ≤ 900) (hI : TInv k T) (x h ky v n : Int) (hx : x ≠ 1 ∧ x ≠ 2 ∧ x ≠ 3 ∧ x ≠ 4 ∧ x ≠ 5 ∧ x ≠ 6 ∧ x ≠ 7 ∧ x ≠ 8) :
    Calls Try.prog 28 #[.pointer (some ⟨xb, 0, none⟩), .agg #[.int .i64 x, .int .i64 h, .int .i64 ky, .int .i64 v, .int .i64 n]] w (DoesP xb lo F m1 m2 k w) := by
  have HH := Lib.hid H
  obtain ⟨t, tw, S, R, sp, kp, h1, h2, h3, h4, h5, h6, h7⟩ := H
  have H1 := Lib.hid h1
  have H2 := Lib.hid h2
  have H3 := Lib.hid h3
  have H4 := Lib.hid h4
  have H5 := Lib.hid h5
  have H6 := Lib.hid h6
  have H7 := Lib.hid h7
  have HI := Lib.hid hI
  have hek := hI.ek
  have hl3 := hI.l3
  have hl12 := hI.l12
  have zx := lt_of_block h1
  have x0 : w.cell? ⟨xb, 0, none⟩ = some (.pointer (some ⟨t, 0, none⟩)) := cell_has h1 (i := 0) rfl
  have x1 : w.cell? ⟨xb, 1, none⟩ = some (.pointer (some ⟨tw, 0, none⟩)) := cell_has h1 (i := 1) rfl
  have xs : xb ∉ S ++ mS m1 := fun hx => by
    rcases List.mem_append.1 hx with hx | hx
    · exact h7.sx hx
    · have := mS_lt h7.a1 hx; have := (h7.ft xb h7.fx).1; omega
  have xr : xb ∉ R ++ mS m2 := fun hx => by
    rcases List.mem_append.1 hx with hx | hx
    · exact h7.rx hx
    · have := mS_lt h7.a2 hx; have := (h7.ft xb h7.fx).1; omega
  have ws : w.heap.size ∉ S ++ mS m1 := fun hx => by
    rcases List.mem_append.1 hx with hx | hx
    · have := (h7.ft _ (h7.fs _ hx)).2; omega
    · have := mS_lt h7.a1 hx; have := (h7.ft xb h7.fx); omega
  have wr' : w.heap.size ∉ R ++ mS m2 := fun hx => by
    rcases List.mem_append.1 hx with hx | hx
    · have := (h7.ft _ (h7.fr _ hx)).2; omega
    · have := mS_lt h7.a2 hx; have := (h7.ft xb h7.fx); omega
  have XX := Lib.hid (And.intro xs (And.intro xr (And.intro ws wr')))
  obtain ⟨WB, hWB⟩ : ∃ WB, w.alloc (.cells #[.int .i64 x, .int .i64 h, .int .i64 ky, .int .i64 v, .int .i64 n] 61) = WB := ⟨_, rfl⟩
  have kb : Keeps [] w WB := by rw [← hWB]; exact (Keeps.refl [] w).alloc _
  have bb : WB.heap[w.heap.size]? = some (.cells #[.int .i64 x, .int .i64 h, .int .i64 ky, .int .i64 v, .int .i64 n] 61 (0, 0)) := by rw [← hWB]; exact has_new _ _
  have hWB2 := Lib.hid hWB
  have p0 : WB.cell? ⟨w.heap.size, 0, none⟩ = some (.int .i64 x) := cell_has bb (i := 0) rfl
  have p1 : WB.cell? ⟨w.heap.size, 1, none⟩ = some (.int .i64 h) := cell_has bb (i := 1) rfl
  have p2 : WB.cell? ⟨w.heap.size, 2, none⟩ = some (.int .i64 ky) := cell_has bb (i := 2) rfl
  have p3 : WB.cell? ⟨w.heap.size, 3, none⟩ = some (.int .i64 v) := cell_has bb (i := 3) rfl
  have p4 : WB.cell? ⟨w.heap.size, 4, none⟩ = some (.int .i64 n) := cell_has bb (i := 4) rfl
  have y0 := kb.cell x0 (by simp)
  have y1 := kb.cell x1 (by simp)
  have KB := Lib.hid kb
  have BB := Lib.hid bb
  clear h1 h2 h3 h4 h5 h6 h7 xs xr ws wr' hWB kb bb x0 x1 hI
  have b1 : (x == 1) = false := by simpa using hx.1
  have b2 : (x == 2) = false := by simpa using hx.2.1
  have b3 : (x == 3) = false := by simpa using hx.2.2.1
  have b4 : (x == 4) = false := by simpa using hx.2.2.2.1
  have b5 : (x == 5) = false := by simpa using hx.2.2.2.2.1
  have b6 : (x == 6) = false := by simpa using hx.2.2.2.2.2.1
  have b7 : (x == 7) = false := by simpa using hx.2.2.2.2.2.2.1
  have b8 : (x == 8) = false := by simpa using hx.2.2.2.2.2.2.2
  clear hx
  go_enter Try.func28, Try.ntmps28
  go_upto_region 1 with (fail)
  rw [hWB2.out]
  go_wp2_with fail
  go_ret
  exact ⟨rfl, F, c, T, so, HH.out.keeps KB.out (by simp), HI.out.mono (by omega), KB.out.mono (by simp), Grew.refl _ _⟩
end Go.Proofs.Ytajcbghhpjpmhaa
end
