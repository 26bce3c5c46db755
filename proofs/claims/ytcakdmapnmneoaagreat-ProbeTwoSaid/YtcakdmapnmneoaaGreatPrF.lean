/- What holds behind a call of chapter 8's Two: plain laws. -/
import Derived.Test.YtcakdmapnmneoaaGreatPrD
import Derived.Test.YtcakdmapnmneoaaGreatDictE
import Derived.Test.YtcakdmapnmneoaaGreatRefK
namespace Go.Proofs.YtcakdmapnmneoaaGreat
open Go.RowKit
set_option linter.unusedVariables false
set_option linter.unusedSimpArgs false

section
variable {B : Nat} {m1 m2 : Option Nat} {c : C4} {N Z : Nat} {o : Nat → Tag} {T : List Tw8} {D E : List PD} {M L : List PM} {W W' : World}
theorem J8.kept (h : J8 B m1 m2 c N Z o T D E M L W) {S : List Nat} (k : Keeps S W W') (hS : ∀ z, z ∈ S → o z = .free) : J8 B m1 m2 c N Z o T D E M L W' := ⟨h.g.kept k hS, h.a, h.n, h.t⟩
theorem J8.mono {N' Z' : Nat} (h : J8 B m1 m2 c N Z o T D E M L W) (a : N ≤ N') (b : Z ≤ Z') : J8 B m1 m2 c N' Z' o T D E M L W := ⟨h.g.mono a a b b, h.a, h.n, h.t⟩
end
theorem Mv.free {p : Tag → Bool} {o : Nat → Tag} {W W' : World} {S : List Nat} (k : Keeps S W W') (hS : ∀ z, z ∈ S → o z = .free) (h : ∀ z, W.heap.size ≤ z → o z = .free) : Mv (fun t => t == .free) o W o W' := Mv.of_keeps k (fun z hz => by simp [hS z hz])
/-- The same Twos at the same places. -/
def SameTwos (T T' : List Tw8) : Prop := T'.length = T.length ∧ ∀ (k : Nat) (u : Tw8), T[k]? = some u → ∃ u', T'[k]? = some u' ∧ u'.xb = u.xb
theorem SameTwos.refl (T : List Tw8) : SameTwos T T := ⟨rfl, fun _ u h => ⟨u, h, rfl⟩⟩
theorem SameTwos.trans {a b c : List Tw8} (h : SameTwos a b) (g : SameTwos b c) : SameTwos a c := ⟨g.1.trans h.1, fun k u hk => by
  obtain ⟨u1, h1, h2⟩ := h.2 k u hk
  obtain ⟨u2, h3, h4⟩ := g.2 k u1 h1
  exact ⟨u2, h3, h4.trans h2⟩⟩
theorem SameTwos.set {T : List Tw8} {k : Nat} {u u' : Tw8} (hk : T[k]? = some u) (h : u'.xb = u.xb) : SameTwos T (T.set k u') := ⟨List.length_set, fun k2 u2 h2 => by
  by_cases e : k = k2
  · subst e; rw [hk] at h2; cases h2; exact ⟨u', get_set hk, h⟩
  · exact ⟨u2, (get_set_ne e).trans h2, rfl⟩⟩
/-- Behind a call of does. -/
def Does8P (B : Nat) (m1 m2 : Option Nat) (N Z : Nat) (o : Nat → Tag) (T : List Tw8) (w : World) (r : Ending) (w' : World) : Prop :=
  ∃ c o' T' D E M L, r = .returned (.bool true) ∧ J8 B m1 m2 c (N + 1) (Z + 16) o' T' D E M L w' ∧ Mv Tag.own o w o' w' ∧ SameTwos T T'
def step8A (g gl hs ky vl m nn : Int) (sm : Bool) : Value := .agg #[.int .i64 g, .int .i64 gl, .int .i64 hs, .int .i64 ky, .int .i64 vl, .int .i64 m, .int .i64 nn, .bool sm]
def step8O (g gl hs ky vl m nn : Int) (sm : Bool) : Obj := .cells #[.int .i64 g, .int .i64 gl, .int .i64 hs, .int .i64 ky, .int .i64 vl, .int .i64 m, .int .i64 nn, .bool sm] 53 (0, 0)
theorem idx8 (m : Int) {n : Nat} (hn : 0 < n) : ∃ p : Nat, p < n ∧ (if m.tmod n < 0 then m.tmod n + n else m.tmod n) = (p : Int) := by
  have h1 := Int.tmod_lt_of_pos m (show (0 : Int) < n by omega)
  have h2 := Int.lt_tmod_of_pos m (show (0 : Int) < n by omega)
  by_cases h : m.tmod n < 0
  · rw [if_pos h]; exact ⟨(m.tmod n + n).toNat, by omega, by omega⟩
  · rw [if_neg h]; exact ⟨(m.tmod n).toNat, by omega, by omega⟩
theorem MacOk.ups {d e : Dic} {q : Mac} (h : MacOk d q) (ht : d.T.turns < e.T.turns) (hv : d.ver < e.ver) : MacOk e q :=
  ⟨h.g1, h.g4, h.st, fun hs => (h.sk hs).later ht, fun _ hq => by have := h.ver; omega, by have := h.ver; omega⟩
theorem MacOk.clr8 {d : Dic} {q : Mac} (h : MacOk d q) : MacOk d.clr q := h.ups (by show d.T.turns < d.T.turns + 1; omega) (by show d.ver < d.ver + 1; omega)
theorem MacOk.took8 {d : Dic} {q : Mac} (h : MacOk d q) (e : Int) : MacOk (d.took e) q := by
  by_cases he : ∃ x, d.T.ent e = some x
  · obtain ⟨x, hx⟩ := he
    refine h.ups ?_ (by show d.ver < d.ver + 1; omega)
    show d.T.turns < (d.T.kill e).turns
    unfold Tab.kill
    rw [hx]; show d.T.turns < d.T.turns + 1; omega
  · have hn : d.T.ent e = none := by
      cases hq : d.T.ent e with
      | none => rfl
      | some x => exact absurd ⟨x, hq⟩ he
    have ek : d.T.kill e = d.T := by unfold Tab.kill; rw [hn]
    refine ⟨h.g1, h.g4, h.st, fun hs => ?_, fun _ hq => ?_, ?_⟩
    · show SkOk (d.T.kill e) q.sk; rw [ek]; exact h.sk hs
    · have := h.ver; have h9 : q.ver = d.ver + 1 := hq; omega
    · have := h.ver; show q.ver ≤ d.ver + 1; omega
theorem MacOk.outD8 {d : Dic} {q : Mac} (h : MacOk d q) (back : Bool) : MacOk (d.outD back) q := by
  unfold Dic.outD; split
  · exact h
  · exact h.took8 _
theorem DicOk.clr8 {k : Nat} {d : Dic} (h : DicOk k d) : DicOk (k + 1) d.clr := ⟨h.t.clear, by have := h.v; show d.ver + 1 ≤ _; omega⟩
theorem DicOk.took8 {k : Nat} {d : Dic} (h : DicOk k d) (e : Int) : DicOk (k + 1) (d.took e) := ⟨h.t.kill e, by have := h.v; show d.ver + 1 ≤ _; omega⟩
theorem DicOk.outD8 {k : Nat} {d : Dic} (h : DicOk k d) (back : Bool) : DicOk (k + 1) (d.outD back) := by
  unfold Dic.outD; split
  · exact h.mono (by omega)
  · exact h.took8 _
theorem DicOk.cpy8 {k : Nat} (hk : k ≤ 1000) {d : Dic} (h : DicOk k d) : DicOk k d.cpy := ⟨h.t.copy hk, by show 0 ≤ _; omega⟩
theorem TWk.next {B : Nat} {p : Tag → Bool} {o o' : Nat → Tag} {k : Nat} {u : Tw8} {D E D' E' : List PD} {M L M' L' : List PM} {W W' : World} (h : TWk B o k u D E M L W) (q : Mv p o W o' W') (ha : p (.rowA k) = false) (hb : p (.rowB k) = false) (cur' : Nat)
    (hrow : ∃ x y : PD, D'[cur']? = some x ∧ E'[cur']? = some y ∧ W'.heap[u.xb]? = some (two8O x.db y.db (.slice u.a u.ms.length u.c) (.slice u.a' u.ms.length u.c'))) (hM : HeadM M M') (hL : HeadM L L') : TWk B o' k { u with cur := cur' } D' E' M' L' W' := by
  have kk := q.keeps
  obtain ⟨l1, l2, l3⟩ := h.lt
  refine ⟨hrow, h.pa.keeps kk (fun z hz => not_frL (by rw [h.oa z hz]; exact ha)), h.pb.keeps kk (fun z hz => not_frL (by rw [h.ob z hz]; exact hb)), (q.old _ l1).trans h.ox, fun z hz => (q.old _ (l2 z hz)).trans (h.oa z hz), fun z hz => (q.old _ (l3 z hz)).trans (h.ob z hz), h.m40, fun r hr => ?_⟩
  obtain ⟨y1, y2, g1, g2, g3, g4⟩ := h.mem r hr
  obtain ⟨y1', i1, i2⟩ := hM _ _ g1
  obtain ⟨y2', i3, i4⟩ := hL _ _ g3
  exact ⟨y1', y2', i1, i2.trans g2, i3, i4.trans g4⟩
theorem two8_set {W : World} {xb db wb : Nat} {sv kv : Value} (h : W.heap[xb]? = some (two8O db wb sv kv)) :
    (∀ d, (W.setCell ⟨xb, 0, none⟩ (.pointer (some ⟨d, 0, none⟩))).heap[xb]? = some (two8O d wb sv kv)) ∧ (∀ d, (W.setCell ⟨xb, 1, none⟩ (.pointer (some ⟨d, 0, none⟩))).heap[xb]? = some (two8O db d sv kv)) ∧
    (∀ v, (W.setCell ⟨xb, 2, none⟩ v).heap[xb]? = some (two8O db wb v kv)) ∧ (∀ v, (W.setCell ⟨xb, 3, none⟩ v).heap[xb]? = some (two8O db wb sv v)) ∧ ∀ i v, Keeps [xb] W (W.setCell ⟨xb, i, none⟩ v) := by
  unfold two8O at h ⊢
  refine ⟨fun d => ?_, fun d => ?_, fun v => ?_, fun v => ?_, fun i v => (Keeps.refl [xb] W).setCell (p := ⟨xb, i, none⟩) (.inr (by simp)) _⟩
  · have h0 := has_setCell h 0 (.pointer (some ⟨d, 0, none⟩)); simpa using h0
  · have h0 := has_setCell h 1 (.pointer (some ⟨d, 0, none⟩)); simpa using h0
  · have h0 := has_setCell h 2 v; simpa using h0
  · have h0 := has_setCell h 3 v; simpa using h0
/-- A row's new block gets the row's owner. -/
theorem own_row {o : Nat → Tag} {W W' : World} (fr : FreeUp o W) (tag : Tag) {g : Nat} (hg : g < W'.heap.size) (hs : W.heap.size ≤ W'.heap.size) (h : o g = tag ∨ W.heap.size ≤ g) :
    ∃ o' : Nat → Tag, (∀ z, z < W.heap.size → o' z = o z) ∧ o' g = tag ∧ FreeUp o' W' ∧ NewUp o o' W := by
  refine ⟨fun z => if z = g then tag else o z, fun z hz => ?_, by simp, fun z hz => ?_, fun z hz => ?_⟩
  · show (if z = g then tag else o z) = o z
    by_cases e : z = g
    · subst e; rw [if_pos rfl]
      rcases h with h | h
      · exact h.symm
      · omega
    · rw [if_neg e]
  · show (if z = g then tag else o z) = .free
    rw [if_neg (by omega)]; exact fr z (by omega)
  · by_cases e : z = g
    · subst e
      rcases h with h | h
      · left
        have : (if z = z then tag else o z) ≠ .free := hz
        rw [if_pos rfl] at this; rw [h]; exact this
      · exact .inr h
    · left
      have : (if z = g then tag else o z) ≠ .free := hz
      rwa [if_neg e] at this
theorem val_app8 {T E TY : TypeId} {z : Value} (hT : Tryz.prog.underlying T = some (.slice E)) (hE : (Tryz.prog.info? E).map (fun i => (i.zero, i.size, i.bytes)) = some (some z, 1, 8)) (hz : z.cells.size = 1)
    (lo : Nat) (a : Option Addr) (c m : Nat) (V : Nat → Value) (x : Value) (hx : x.oneCell' = true) (W : World) (B : Nat) (h : ValRow E lo a m c V W) (hB : W.heap[B]? = some (.cells #[x] TY (0, 0))) (hm : m ≤ 1000000) (hlo : lo ≤ W.heap.size) :
    ∃ g cap w', (Builtin.append_ #[T, T] T #[.slice a m c, .slice (some ⟨B, 0, none⟩) 1 1]).run Tryz.prog W = .ok (.slice (some ⟨g, 0, none⟩) (m + 1) cap) w' ∧ ValRow E lo (some ⟨g, 0, none⟩) (m + 1) cap (putV V m x) w' ∧ Keeps (blk a) W w' ∧ (g ∈ blk a ∨ g = W.heap.size) ∧ g < w'.heap.size := by
  obtain ⟨j0, hi, hz0, hz1, hz2⟩ := info_parts hE
  obtain ⟨g, cap, w', r1, r2, r3, r4, r5⟩ := run_append_lies (P := Tryz.prog) W T T lo E j0 z 1 8 hT hi hz0 hz1 hz2 hz (by decide) _ m (valR m V) h ⟨B, 0, none⟩ 1 1 [x] rfl
    (fun j u hj => by
      have hlt : j < 1 := by have := (List.getElem?_eq_some_iff.1 hj).1; simpa using this
      obtain rfl : j = 0 := by omega
      rw [show (⟨B, 0, none⟩ : Addr).add 0 = ⟨B, 0, none⟩ by unfold Addr.add; split <;> simp_all, cell_of_has hB]
      simpa using hj) (by intro u hu; simp at hu; subst hu; exact hx) (by decide) (by unfold maxLen; omega) (by omega) hlo _ rfl
  refine ⟨g, cap, w', r1, ValRow.of_append r2, ?_, ?_, r5⟩
  · exact ⟨r3.os, r3.tape, r3.output, r3.size, fun k hk hn => r3.block k hk (fun e => hn (blk_own a _ _ k e.symm))⟩
  · rcases r4 with r4 | r4
    · exact .inl (blk_own a _ _ g r4)
    · exact .inr r4
theorem infoPM : (Tryz.prog.info? 70).map (fun i => (i.zero, i.size, i.bytes)) = some (some (.pointer none), 1, 8) := by kernel_rfl
theorem infoRM : (Tryz.prog.info? 98).map (fun i => (i.zero, i.size, i.bytes)) = some (some (.pointer none), 1, 8) := by kernel_rfl
theorem Mv.of_keepsO {p : Tag → Bool} {o o' : Nat → Tag} {W W' : World} {S : List Nat} (k : Keeps S W W') (hS : ∀ z, z ∈ S → z < W.heap.size → p (o z) = true) (old : ∀ z, z < W.heap.size → o' z = o z) : Mv p o W o' W' :=
  ⟨k.os, k.tape, k.output, k.size, old, fun z hz hp => k.block z hz (fun hx => by rw [hS z hx hz] at hp; cases hp)⟩
set_option maxRecDepth 100000 in
/-- The document's Copy. -/
theorem rdcopy_any (k : Nat) (hk : k ≤ 1000) (db t lo : Nat) (S : List Nat) (m : Option Nat) (c : C4) (d : Dic) (w : World) (HD : RDicAt db t lo S m d w) (hC : CtrAt m c w) (hm : ∀ b, m = some b → b < lo) (hI : DicOk k d) :
    Calls Tryz.prog 14 #[.pointer (some ⟨db, 0, none⟩)] w fun r w' => ∃ db2 t2 S2, r = .returned (.pointer (some ⟨db2, 0, none⟩)) ∧ RDicAt db2 t2 w.heap.size S2 m d.cpy w' ∧ CtrAt m c.tab w' ∧ Keeps (mS m) w w' := by
  have HDD := Lib.hid HD
  have HCC := Lib.hid hC
  have HI := Lib.hid (hI.t.mono hk)
  have y0 : w.cell? ⟨db, 0, none⟩ = some (.int .i64 d.most) := cell_has HD.b (i := 0) rfl
  have y2 : w.cell? ⟨db, 2, none⟩ = some (.pointer (some ⟨t, 0, none⟩)) := cell_has HD.b (i := 2) rfl
  have NM := Lib.hid (show db ∉ mS m from fun h => by
    cases m with
    | none => simp [mS] at h
    | some b => simp [mS] at h; have := hm b rfl; have := HD.l; omega)
  obtain ⟨mo, hmo⟩ := ex_hid d.most
  rw [← hmo.out] at y0
  clear HD hC hm hI
  go_enter Tryz.func14, Tryz.ntmps14
  go_upto_region 1 with (fail)
  go_region_held3 (fun w' => w'.cell? ⟨db, 0, none⟩ = some (.int .i64 mo) ∧ w'.cell? ⟨db, 2, none⟩ = some (.pointer (some ⟨t, 0, none⟩))) (go_keep)
    (first
      | (go_at_call 34; refine (rcopy_any t lo S m c d.T w.drew (HDD.out.t.keeps (Keeps.refl [] w).drew (by simp)) (HCC.out.keeps (Keeps.refl [] w).drew (by simp)) HI.out).mono ?_; rintro r w1 ⟨t2, S2, rfl, t1, c1, k1⟩; have j1 := k1.cell (w := w.drew) y0 NM.out; have j2 := k1.cell (w := w.drew) y2 NM.out))
  go_wp2_with fail
  go_ret
  have ka : Keeps [] w1 (w1.alloc (.cells #[.int .i64 mo, .int .i64 0, .pointer (some ⟨t2, 0, none⟩)] 89)) := (Keeps.refl [] w1).alloc _
  refine ⟨w1.heap.size, t2, S2, rfl, ⟨?_, t1.keeps ka (by simp), fun h => by have := (t1.foot _ h).2; omega, k1.size⟩, c1.keeps ka (by simp), ((Keeps.refl (mS m) w).drew.trans k1).trans (ka.mono (by simp))⟩
  have h := has_new w1 (.cells #[.int .i64 mo, .int .i64 0, .pointer (some ⟨t2, 0, none⟩)] 89)
  rw [h]
  show some (rdicO t2 mo 0) = some (rdicO t2 d.most 0)
  rw [hmo.out]
end Go.Proofs.YtcakdmapnmneoaaGreat
