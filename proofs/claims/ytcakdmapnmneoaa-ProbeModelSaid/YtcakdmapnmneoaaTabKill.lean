/- Kill takes an entry out (chapter 7). -/
import Derived.Test.YtcakdmapnmneoaaB4
import Derived.Deep.MidRow
import Derived.Deep.RegionHeld3
import Derived.Deep.DeepMust
import Derived.Deep.RegionLaw
import Derived.Deep.Cut
import Derived.Deep.CutRange
namespace Go
theorem step_storeS {P : Program} {ops : Array Oper} {o : Oper} {a : Act} {w : World} {K : Act → World → Prop} {Q : Exit → Act → World → Prop} {E : Prop} (hgd : o.guard = none) (ty : TypeId) (x y : Operand) (ho : o.op = .store ty x y)
    (b off : Nat) (cells : Array Value) (hx : a.eval x = .pointer (some ⟨b, off, none⟩)) (hy : a.eval y = .agg cells)
    (ht : w.there b off cells.size) (hi : (P.info? ty).map (·.size) = some cells.size) (h1 : cells.all (·.oneCell') = true)
    (h : ∀ w', w.setCells b off cells.toList = w' → K (a.put o.dst undef) w') :
    if Region.wanted o (yielded ops a.tmps) = true then Oper.wp P o a w K Q else E := by
  have hw : Region.wanted o (yielded ops a.tmps) = true := by simp [Region.wanted, hgd]
  rw [if_pos hw]
  exact wp_store_mid ty x y ho b off cells hx hy ht hi h1 (h _ rfl)
end Go
namespace Go.Proofs.Ytcakdmapnmneoaa
open Go.RowKit Go.Shelf
set_option linter.unusedVariables false
attribute [local go_sem] Oper.semAt_some

theorem liveN_kill {E : List Ent} {k : Nat} {x : Ent} (h : E[k]? = some x) (hl : x.live = true) : liveN E = liveN (E.set k noE) + 1 := by
  have hk := (List.getElem?_eq_some_iff.1 h).1
  have hx := (List.getElem?_eq_some_iff.1 h).2
  unfold liveN
  rw [List.countP_set hk, hx, hl]
  have := List.countP_pos_iff (p := fun y : Ent => y.live) (l := E)
  have : 0 < E.countP (fun y => y.live) := this.2 ⟨x, by rw [← hx]; exact List.getElem_mem _, hl⟩
  simp [noE]; omega
/-- The first place of the trail at which e stands. -/
def fk (L h : Nat) (V : Nat → Int) (e : Int) : Nat := fi (isV L h V e) (2 ^ L + 13)
theorem fk_eq {L h : Nat} {V : Nat → Int} {e : Int} {i : Nat} (h1 : i ≤ fk L h V e) (h2 : i < 2 ^ L + 13) (h3 : V (trC L h i) = e) : i = fk L h V e := by
  have := fi_at (p := isV L h V e) h2 (by unfold isV; simp [h3])
  unfold fk at *; omega
theorem fk_succ {L h : Nat} {V : Nat → Int} {e : Int} {i : Nat} (h1 : i ≤ fk L h V e) (h2 : i < 2 ^ L + 13) (h3 : V (trC L h i) ≠ e) : i + 1 ≤ fk L h V e := by
  rcases Nat.lt_or_ge i (fk L h V e) with h4 | h4
  · omega
  · have h5 : fk L h V e = i := by omega
    unfold fk at h5
    have h6 := fi_is (p := isV L h V e) (n := 2 ^ L + 13) (by omega)
    rw [h5] at h6
    unfold isV at h6
    simp only [beq_iff_eq] at h6
    exact absurd h6 h3
theorem killV_hit {L h : Nat} {V : Nat → Int} {e : Int} (h1 : fk L h V e < 2 ^ L + 13) : killV L h V e = putN V (trC L h (fk L h V e)) (-2) := by unfold killV fk at *; rw [if_pos h1]

def KillP (t lo : Nat) (S : List Nat) (m : Value) (T : Tab) (e : Int) (w : World) (r : Ending) (w' : World) : Prop :=
  r = .returned (.int .i64 (okE (T.ent e))) ∧ TabAt t lo S m (T.kill e) w' ∧ Keeps S w w'

set_option maxRecDepth 100000 in
set_option maxHeartbeats 4000000 in
theorem kill_ok (t lo : Nat) (S : List Nat) (m : Value) (E : List Ent) (V : Nat → Int) (L bi ma tu : Nat) (w : World) (H : TabC t lo S m E V L (liveN E) bi ma tu w) (h3 : 3 ≤ L) (hL : L ≤ 20) (hF : Fits (2 ^ L) V) (hl : E.length ≤ 1000000) (htu : tu ≤ 1000000)
    (e : Nat) (x : Ent) (hx : E[e]? = some x) (hlv : x.live = true) (hst : fk L (uh x.hash) V e < 2 ^ L + 13) :
    Calls Try.prog 70 #[.pointer (some ⟨t, 0, none⟩), .int .i64 e] w fun r w' => r = .returned (.int .i64 0) ∧ TabC t lo S m (E.set e noE) (killV L (uh x.hash) V e) L (liveN (E.set e noE)) bi ma (tu + 1) w' ∧ Keeps S w w' := by
  obtain ⟨a, c, cb, cr, h1, h2, h3', h4, h5, h6, h7, h8⟩ := H
  have hel := (List.getElem?_eq_some_iff.1 hx).1
  obtain ⟨g, rfl⟩ := h2.shape (by omega)
  have HC := Lib.hid h3'
  have HE := Lib.hid h2
  have HB := Lib.hid h1
  have HF := Lib.hid hF
  have HX := Lib.hid hx
  have HV := Lib.hid hlv
  have HQ := Lib.hid hst
  have HS := Lib.hid (show t ∈ S ∧ cb ∈ S ∧ cr ∈ S ∧ (∀ y, y ∈ blk (some (⟨g, 0, none⟩ : Addr)) → y ∈ S) ∧ ∀ y, y ∈ S → lo ≤ y ∧ y < w.heap.size from ⟨h4, h5, h6, h7, h8⟩)
  have e1 : w.cell? ⟨t, 1, none⟩ = some (.slice (some ⟨g, 0, none⟩) E.length c) := cell_has h1 (i := 1) rfl
  have e2 : w.cell? ⟨t, 2, none⟩ = some (.pointer (some ⟨cb, 0, none⟩)) := cell_has h1 (i := 2) rfl
  have q1 : w.cell? ⟨g, e * 5 + 1, none⟩ = some (.int .i64 x.hash) := h2.cell hx 1 (by omega)
  have he0 := Lib.hid (show entE E (e : Int) = some x by unfold entE; rw [if_pos (by omega)]; simp [hx, Option.filter, hlv])
  obtain ⟨n, hn⟩ := ex_hid E.length
  rw [← hn.out] at e1 hel hl
  have hel' : (e : Int) < (n : Int) := by omega
  clear h1 h2 h3' h4 h5 h6 h7 h8 hx hF hlv hst
  refine calls_of_wp_ranges Try.func70 rfl ?_
  simp only [Try.ntmps70, List.size_toArray, List.length_cons, List.length_nil, Nat.reduceAdd, Nat.reduceSub, Array.replicate_succ, Array.replicate_zero, List.push_toArray, List.append_toArray, List.nil_append, List.cons_append]
  go_wp2_with fail
  apply wp_scope_straight
  refine wp_gen (fun W => W.heap[w.heap.size]? = some (.cells #[.pointer (some ⟨t, 0, none⟩)] 77 (0, 0)) ∧ W.heap[w.heap.size + 1]? = some (.cells #[.int .i64 e] 3 (0, 0)) ∧ Keeps [] w W ∧ W.heap.size = w.heap.size + 2) ⟨has_alloc (has_new _ _) _, has_new' _ _ (by simp), ((Keeps.refl [] w).alloc _).alloc _, by simp⟩ ?_
  rintro W ⟨b0, b1, k0, zW⟩
  have K0 := Lib.hid k0
  have B01 := Lib.hid (And.intro b0 b1)
  have x0 := cell_has b0 (i := 0) rfl
  have x1 := cell_has b1 (i := 0) rfl
  have y1 := k0.cell e1 (by simp)
  have y2 := k0.cell e2 (by simp)
  have y3 := k0.cell q1 (by simp)
  clear e1 e2 q1 b0 b1 k0
  go_wp2_with fail
  refine (wrong_ok t lo c _ E m _ _ _ _ _ e x _ (K0.out.has HB.out (by simp)) (HE.out.keeps K0.out (by simp)) (by rw [← hn.out]; exact hl) he0.out).mono ?_
  rintro r w1 ⟨rfl, rfl⟩
  clear he0
  have D := Lib.hid (show W.drew.cell? ⟨w.heap.size, 0, none⟩ = _ ∧ W.drew.cell? ⟨w.heap.size + 1, 0, none⟩ = _ ∧ W.drew.cell? ⟨t, 1, none⟩ = _ ∧ W.drew.cell? ⟨t, 2, none⟩ = _ ∧ W.drew.cell? ⟨g, e * 5 + 1, none⟩ = _ from ⟨x0, x1, y1, y2, y3⟩)
  go_wp2_with fail
  apply wp_label
  go_wp2_with fail
  go_region_held3 (fun w' => w'.cell? ⟨w.heap.size, 0, none⟩ = some (.pointer (some ⟨t, 0, none⟩)) ∧ w'.cell? ⟨w.heap.size + 1, 0, none⟩ = some (.int .i64 e) ∧ w'.cell? ⟨g, e * 5 + 1, none⟩ = some (.int .i64 x.hash) ∧ w'.cell? ⟨t, 1, none⟩ = some (.slice (some ⟨g, 0, none⟩) n c) ∧ w'.cell? ⟨t, 2, none⟩ = some (.pointer (some ⟨cb, 0, none⟩))) (go_keep)
    (first
      | (go_at_call 76; refine (log_any cb cr L (2 ^ L) V _ (HC.out.keeps K0.out.drew (by simp) (by simp))).mono ?_; rintro r1 w1 ⟨rfl, rfl⟩)
      | (go_at_call 93; refine (trail_all _ _ _).mono ?_; rintro r1 w1 ⟨rfl, hw1⟩; have kw := Lib.hid ((((Keeps.refl [] W.drew).alloc (.cells #[.int .i64 x.hash] 3)).alloc (.cells #[.int .i64 (L : Int)] 3))); rw [hw1] at kw; have HW := Lib.hid hw1; have p0 := kw.out.cell D.out.1 (by simp); have p1 := kw.out.cell D.out.2.1 (by simp); have p2 := kw.out.cell D.out.2.2.1 (by simp); have p3 := kw.out.cell D.out.2.2.2.1 (by simp); have p4 := kw.out.cell D.out.2.2.2.2 (by simp); clear hw1))
  have B1 := Lib.hid (And.intro (kw.out.has (has_drew B01.out.1) (by simp)) (kw.out.has (has_drew B01.out.2) (by simp)))
  have K1 := Lib.hid (K0.out.drew.trans kw.out)
  have P1 : Hid (TrPriv (w.heap.size + 2 + 1) (w.heap.size + 2) L x.hash w1) := Lib.hid (by
    have hw := HW.out
    have zd : W.drew.heap.size = w.heap.size + 2 := zW
    rw [← hw, ← zd]
    exact ⟨cell_has (has_new' _ _ (by simp)) (i := 0) rfl, cell_has (has_alloc (has_new _ _) _) (i := 0) rfl⟩)
  clear HW kw p0 p1 p2 p3 p4 D x0 x1 y1 y2 y3 K0 B01
  go_wp2_with fail
  refine wp_rangeN (gf := 105) (lb := #[.pointer (some ⟨w.heap.size + 2 + 1, 0, none⟩), .pointer (some ⟨w.heap.size + 2, 0, none⟩)]) rfl enters_trail (trIter (w.heap.size + 2 + 1) (w.heap.size + 2) L hL x.hash) (fun _ => rfl)
    (fun i W => Keeps [] w1 W ∧ i ≤ fk L (uh x.hash) V e) (fun c i W => c = .exit 0 ∧ i = fk L (uh x.hash) V e ∧ Keeps [cr] w1 W ∧ CellsAt cb cr L (2 ^ L) (putN V (trC L (uh x.hash) i) (-2)) W)
    (fun i A B h k => ⟨h.1.then k (by intro y hy; simp at hy; left; omega), h.2⟩) (fun c i A B h k => ⟨h.1, h.2.1, h.2.2.1.then k (by intro y hy; simp at hy; left; omega), h.2.2.2.keeps k (by have := lt_of_block HC.out.ho; have := K1.out.size; simp; omega) (by have := lt_of_block HC.out.hr; have := K1.out.size; simp; omega)⟩) ?priv ⟨Keeps.refl _ _, Nat.zero_le _⟩ ?round ?done ?stop
  case priv => intro i A h; exact ⟨h.1.cell P1.out.1 (by simp), h.1.cell P1.out.2 (by simp)⟩
  case round =>
    intro l i W2 K hi hW hsz hK
    gi_wp2
    refine hK _ _ (fun _ => True) (fun _ _ h _ => h) trivial (Keeps.refl _ _) ?_
    clear hK hW hsz
    intro W2 hW _ hsz
    obtain ⟨hk2, hie⟩ := hW
    have hc2 := trC_lt L (uh x.hash) i
    have KW := Lib.hid (K1.out.trans hk2)
    have HC2 := Lib.hid (HC.out.keeps KW.out (by simp) (by simp))
    have x0 : W2.cell? ⟨w.heap.size, 0, none⟩ = some (.pointer (some ⟨t, 0, none⟩)) := hk2.cell (cell_has B1.out.1 (i := 0) rfl) (by simp)
    have y2 : W2.cell? ⟨t, 2, none⟩ = some (.pointer (some ⟨cb, 0, none⟩)) := KW.out.cell (cell_has HB.out (i := 2) rfl) (by simp)
    have HK2 := Lib.hid hk2
    have hn1 : 2 ^ L ≤ 1048576 := pow_le hL
    obtain ⟨n2, hn2⟩ := ex_hid (2 ^ L)
    obtain ⟨k, hk⟩ := ex_hid (trC L (uh x.hash) i)
    rw [← hk.out, ← hn2.out] at hc2
    rw [← hn2.out] at hn1
    rw [← hk.out]
    have HF2 := HF
    rw [← hn2.out] at HC2 HF2
    have hk0 : (0 : Int) ≤ (k : Int) := by omega
    have hk1 : (k : Int) < (n2 : Int) := by omega
    clear hk2
    gi_wp2
    refine ⟨trivial, (CallsIn.inRound l (callsIn_wide.2 (getc_in cb cr L n2 V k _ HC2.out HF2.out hn1 hk0 hk1))).mono ?_⟩
    rintro r w5 ⟨rfl, b5⟩
    have K5 := Below.keeps b5 []
    have HC5 := Lib.hid (HC2.out.keeps K5 (by simp) (by simp))
    have x5 := K5.cell x0 (by simp)
    have y5 := K5.cell y2 (by simp)
    have x6 : w5.cell? ⟨w.heap.size + 1, 0, none⟩ = some (.int .i64 e) := K5.cell (HK2.out.cell (cell_has B1.out.2 (i := 0) rfl) (by simp)) (by simp)
    have KK := Lib.hid K5
    clear b5 K5 x0 y2
    rw [show V (k : Int).toNat = V k by simp]
    by_cases hv : V k = e
    · rw [hv]
      have HM2 : Hid (mayB n2 (-2) = true) := Lib.hid (by unfold mayB; exact decide_eq_true (.inr (.inl rfl)))
      gi_wp2
      refine ⟨trivial, (CallsIn.inRound l (callsIn_wide.2 (setc_in cb cr L n2 V k (-2) w5 HC5.out hL hn2.out hk0 hk1 HM2.out))).mono ?_⟩
      rintro r w6 ⟨rfl, k6, h6⟩
      gi_wp2
      all_goals
        have hq : i = fk L (uh x.hash) V e := fk_eq hie hi (by rw [← hk.out]; exact hv)
        have z1 := lt_of_block HC.out.hr
        have z2 := K1.out.size
        have z3 := KK.out.size
        refine ⟨⟨rfl, hq, ((HK2.out.trans KK.out).mono (by simp)).trans k6, ?_⟩, (k6.block _ (by show w1.heap.size < w5.heap.size; omega) (by simp; omega)).trans (KK.out.block _ (by omega) (by simp)), (k6.block _ (by show w1.heap.size + 1 < w5.heap.size; omega) (by simp; omega)).trans (KK.out.block _ (by omega) (by simp))⟩
        rw [← hk.out, ← hn2.out]
        exact h6
    · have hv' : (V k == (e : Int)) = false := by simpa using hv
      gi_wp2
      have z3 := KK.out.size
      exact ⟨⟨HK2.out.trans KK.out, fk_succ hie hi (by rw [← hk.out]; exact hv)⟩, KK.out.block _ (by omega) (by simp), KK.out.block _ (by omega) (by simp)⟩
  case done =>
    intro W2 hW hD
    exact absurd hW.2 (by have := HQ.out; omega)
  case stop =>
    rintro c' i W2 hi ⟨rfl, rfl, hk2, hc2⟩ hD
    have HD := Lib.hid hD
    have HK2 := Lib.hid ((K1.out.mono (by simp)).trans hk2)
    have HC2 := Lib.hid hc2
    have hot := HC.out.other HB.out
    have hne := HC.out.noent HE.out
    have gt : t ∉ blk (some (⟨g, 0, none⟩ : Addr)) := HE.out.notin HB.out (by decide)
    simp only [blk, List.mem_singleton] at hne gt
    have hb2 := HK2.out.has HB.out (by simp; exact fun h => hot.2 h.symm)
    have he2 := HE.out.keeps HK2.out (by intro y hy hy2; simp at hy2; subst hy2; simp [blk] at hy; exact hne.2 hy)
    have crn : w.heap.size ≠ cr ∧ w.heap.size + 1 ≠ cr := by have := lt_of_block HC.out.hr; omega
    have x0 : W2.cell? ⟨w.heap.size, 0, none⟩ = some (.pointer (some ⟨t, 0, none⟩)) := hk2.cell (cell_has B1.out.1 (i := 0) rfl) (by simp; exact crn.1)
    have x1 : W2.cell? ⟨w.heap.size + 1, 0, none⟩ = some (.int .i64 e) := hk2.cell (cell_has B1.out.2 (i := 0) rfl) (by simp; exact crn.2)
    have y1 : W2.cell? ⟨t, 1, none⟩ = some (.slice (some ⟨g, 0, none⟩) n c) := by rw [hn.out]; exact cell_has hb2 (i := 1) rfl
    have HB2 := Lib.hid hb2
    have HE2 := Lib.hid he2
    have e0 : (0 : Int) ≤ (e : Int) := by omega
    have gl : g < w.heap.size := (HE.out.blk_lt g (by simp [blk])).2
    have gn0 : w.heap.size ≠ g ∧ w.heap.size + 1 ≠ g := by omega
    have hen : e < E.length := by rw [← hn.out]; exact hel
    have q0 : W2.cell? ⟨g, e * 5, none⟩ = some (.bool x.live) := he2.cell HX.out 0 (by omega)
    have q1 : W2.cell? ⟨g, e * 5 + 1, none⟩ = some (.int .i64 x.hash) := he2.cell HX.out 1 (by omega)
    have q2 : W2.cell? ⟨g, e * 5 + 2, none⟩ = some (.int .i64 x.key) := he2.cell HX.out 2 (by omega)
    have q3 : W2.cell? ⟨g, e * 5 + 3, none⟩ = some (.int .i64 x.val) := he2.cell HX.out 3 (by omega)
    have q4 : W2.cell? ⟨g, e * 5 + 4, none⟩ = some (.int .i64 x.birth) := he2.cell HX.out 4 (by omega)
    have f0 : W2.frozen? ⟨g, e * 5, none⟩ = false := he2.free _
    have f1 : W2.frozen? ⟨g, e * 5 + 1, none⟩ = false := he2.free _
    have f2 : W2.frozen? ⟨g, e * 5 + 2, none⟩ = false := he2.free _
    have f3 : W2.frozen? ⟨g, e * 5 + 3, none⟩ = false := he2.free _
    have f4 : W2.frozen? ⟨g, e * 5 + 4, none⟩ = false := he2.free _
    have hl3 := EntRow.lay (w := W2.drew) he2 hen noE
    obtain ⟨w3, hw3⟩ : ∃ w3, W2.drew.setCells g (e * 5) noE.cells = w3 := ⟨_, rfl⟩
    rw [hw3] at hl3
    have K3 := Lib.hid hl3.2
    have E3 := Lib.hid hl3.1
    have p0 : w3.cell? ⟨w.heap.size, 0, none⟩ = some (.pointer (some ⟨t, 0, none⟩)) := hl3.2.cell (w := W2.drew) x0 (by simpa using gn0.1)
    have p1 : w3.cell? ⟨w.heap.size + 1, 0, none⟩ = some (.int .i64 e) := hl3.2.cell (w := W2.drew) x1 (by simpa using gn0.2)
    have p2 : w3.cell? ⟨t, 1, none⟩ = some (.slice (some ⟨g, 0, none⟩) n c) := hl3.2.cell (w := W2.drew) y1 (by simp; exact gt)
    have hb3 : w3.heap[t]? = _ := hl3.2.has (w := W2.drew) hb2 (by simp; exact gt)
    have B3 := Lib.hid hb3
    have p3 : w3.cell? ⟨t, 3, none⟩ = some (.int .i64 (liveN E : Nat)) := cell_has hb3 (i := 3) rfl
    have p6 : w3.cell? ⟨t, 6, none⟩ = some (.int .i64 tu) := cell_has hb3 (i := 6) rfl
    have g3 := free_of_has hb3 3
    have g6 := free_of_has hb3 6
    have lv0 : liveN E ≤ 1000000 := by have := liveN_le E; have := hn.out; omega
    have hlk := Lib.hid (liveN_kill HX.out HV.out)
    have lvp : 0 < liveN E := by rw [hlk.out]; omega
    have HS2 := HS
    clear hk2 hc2 hD hb2 he2 hl3 hb3 HS gl hot hne gt crn
    go_wp2_with fail
    have W3 := Lib.hid hw3
    clear hw3
    go_cut [54] from 48 to 54 (fun z54 wx => wx = w3)
    case first =>
      refine wp_region_noPanic ?_
      go_region_law (fail)
      all_goals apply NoPanic.normal
      all_goals
        have e9 : (((((W2.setCell ⟨g, e * 5, none⟩ (.bool false)).setCell ⟨g, e * 5 + 1, none⟩ (.int .i64 0)).setCell ⟨g, e * 5 + 2, none⟩ (.int .i64 0)).setCell ⟨g, e * 5 + 3, none⟩ (.int .i64 0)).setCell ⟨g, e * 5 + 4, none⟩ (.int .i64 0)).drew = w3 := W3.out
        rw [e9]
        go_wp2_with fail
        go_meet
        rfl
    case rest =>
      subst hcut
      clear W3 q0 q1 q2 q3 q4 f0 f1 f2 f3 f4 x0 x1 y1
      go_wp2_with fail
      rw [Exit.noGoto_ret]
      have zB := lt_of_block HB.out
      have zD := K1.out.size
      have zC := lt_of_block HC.out.ho
      have zR := lt_of_block HC.out.hr
      have zG := (HE.out.blk_lt g (by simp [blk])).2
      have HD3 := Lib.hid (K3.out.has (w := W2.drew) HD.out (by simp; omega))
      refine bodyPostR_ret1 (D := w1.heap.size) (v := .int .i64 0) (fun w => by simp [results, Try.results70, go_sem]) rfl ?_ fun w4 kD => ?_
      · exact (has_setCell_other (has_setCell_other HD3.out (by simp; omega) _) (by simp; omega) _)
      · obtain ⟨s1, s2, s3, s4, s5⟩ := HS2.out
        have hot := HC.out.other HB.out
        have hne := HC.out.noent HE.out
        have gt : t ∉ blk (some (⟨g, 0, none⟩ : Addr)) := HE.out.notin HB.out (by decide)
        simp only [blk, List.mem_singleton] at hne gt s4
        have k5 : Keeps [t] wc ((wc.setCell ⟨t, 3, none⟩ (.int .i64 ((liveN E : Nat) - 1))).setCell ⟨t, 6, none⟩ (.int .i64 ((tu : Int) + 1))) := ((Keeps.refl _ _).setCell (.inr (by simp)) _).setCell (.inr (by simp)) _
        have h5 := has_setCell (has_setCell B3.out 3 (.int .i64 ((liveN E : Nat) - 1))) 6 (.int .i64 ((tu : Int) + 1))
        have kk := (k5.mono (T := [t, w1.heap.size]) (by simp)).trans (kD.mono (by simp))
        have C3 := HC2.out.keeps ((Keeps.refl [g] W2).drew.trans K3.out) (by simp; exact hne.1) (by simp; exact hne.2)
        refine ⟨rfl, ⟨some ⟨g, 0, none⟩, c, cb, cr, ?_, E3.out.keeps kk (by simp [blk]; omega), ?_, s1, s2, s3, (by intro y hy; simp [blk] at hy; rw [hy]; exact s4 g rfl), fun y hy => ⟨(s5 y hy).1, ?_⟩⟩, ?_⟩
        · have h6 := kD.has h5 (by simp; omega)
          rw [h6]
          have e7 : ((liveN E : Nat) : Int) - 1 = ((liveN (E.set e noE) : Nat) : Int) := by rw [hlk.out]; omega
          rw [e7, List.length_set]
          rfl
        · rw [killV_hit HQ.out]
          exact C3.keeps kk (by simp; exact ⟨hot.1, by omega⟩) (by simp; exact ⟨hot.2, by omega⟩)
        · have := (s5 y hy).2
          have := HK2.out.size
          have z3 : W2.heap.size ≤ wc.heap.size := K3.out.size
          have := kk.size
          omega
        · have ka : Keeps S w wc := (HK2.out.mono (T := S) (by intro y hy; simp at hy; rw [hy]; exact s3)).drew.trans (K3.out.mono (T := S) (by intro y hy; simp at hy; rw [hy]; exact s4 g rfl))
          exact (ka.trans (k5.mono (by intro y hy; simp at hy; rw [hy]; exact s1))).then kD (by intro y hy; simp at hy; left; omega)
theorem kill_any (t lo : Nat) (S : List Nat) (m : Value) (T : Tab) (w : World) (H : TabAt t lo S m T w) (hI : TInv 1000 T) (e : Int) :
    Calls Try.prog 70 #[.pointer (some ⟨t, 0, none⟩), .int .i64 e] w (KillP t lo S m T e w) := by
  unfold KillP Tab.kill
  rw [entE_T]
  have hl : T.E.length ≤ 1000 := hI.ek
  have HH := Lib.hid H
  cases hx : entE T.E e with
  | none =>
    obtain ⟨a, c, cb, cr, h1, h2, _⟩ := H
    have H1 := Lib.hid h1
    have H2 := Lib.hid h2
    have HX := Lib.hid hx
    clear h1 h2 hx
    refine calls_of_wp_ranges Try.func70 rfl ?_
    simp only [Try.ntmps70, List.size_toArray, List.length_cons, List.length_nil, Nat.reduceAdd, Nat.reduceSub, Array.replicate_succ, Array.replicate_zero, List.push_toArray, List.append_toArray, List.nil_append, List.cons_append]
    go_wp2_with fail
    apply wp_scope_straight
    go_wp2_with fail
    have kA : Keeps [] w ((w.alloc (.cells #[.pointer (some ⟨t, 0, none⟩)] 77)).alloc (.cells #[.int .i64 e] 3)) := ((Keeps.refl [] w).alloc _).alloc _
    have KA := Lib.hid kA
    clear kA
    refine (wrong_no t lo c a T.E m _ _ _ _ _ e _ (KA.out.has H1.out (by simp)) (H2.out.keeps KA.out (by simp)) (by omega) HX.out).mono ?_
    rintro r w1 ⟨rfl, rfl⟩
    go_wp2_with fail
    rw [Exit.noGoto_ret]
    refine bodyPostR_ret0 (v := .int .i64 7) (by simp [results, Try.results70, go_sem]) rfl ?_
    exact ⟨rfl, HH.out.keeps KA.out (by simp), KA.out.mono (by simp)⟩
  | some x =>
    obtain ⟨h0, hx2, h9, h10⟩ := entE_some hx
    obtain ⟨k, rfl⟩ : ∃ k : Nat, e = (k : Int) := ⟨e.toNat, by omega⟩
    have hxk : T.E[k]? = some x := by simpa using hx2
    have hs := (hI.ci.stand hxk h9).1
    have := hI.tk
    have := hI.l12
    refine (kill_ok t lo S m T.E T.V T.L T.births T.made T.turns w H hI.l3 (by omega) hI.ft (by omega) (by omega) k x hxk h9 hs).mono ?_
    rintro r w' ⟨rfl, h1, h2⟩
    refine ⟨rfl, ?_, h2⟩
    simp only [Int.toNat_natCast]
    exact h1
end Go.Proofs.Ytcakdmapnmneoaa
