/- The document's table in memory; its index, its lay (chapter 7). The document's Seek (chapter 7). The document's All, and its entries laid anew (chapter 7). -/
import Derived.Test.YtajmfenfajbakaaGreatB5
import Derived.Test.YtajmfenfajbakaaGreatB4
import Derived.Test.YtajmfenfajbakaaGreatB7
import Derived.Deep.LoopGhost
section
namespace Go.Proofs.YtajmfenfajbakaaGreat
open Go.RowKit
set_option linter.unusedVariables false
set_option linter.unusedSimpArgs false

/-- The document's counts. -/
def ctr (c : C4) : Obj := .cells #[.int .i64 c.a, .int .i64 c.b, .int .i64 c.c, .int .i64 c.d] 40 (0, 0)
def CtrAt (m : Option Nat) (c : C4) (w : World) : Prop := ∀ b, m = some b → w.heap[b]? = some (ctr c)
theorem CtrAt.keeps {m : Option Nat} {c : C4} {w w' : World} {S : List Nat} (h : CtrAt m c w) (k : Keeps S w w') (hS : ∀ b, m = some b → b ∉ S) : CtrAt m c w' := fun b hb => k.has (h b hb) (hS b hb)
theorem CtrAt.nil (c : C4) (w : World) : CtrAt none c w := fun b hb => by cases hb
theorem CtrAt.ne {m : Option Nat} {c : C4} {t : Nat} {w : World} {cs : Array Value} {T : TypeId} {f : Nat × Nat} (hM : CtrAt m c w) (h : w.heap[t]? = some (.cells cs T f)) (hT : 40 ≠ T) : t ∉ mS m := by
  intro hx
  cases m with
  | none => simp [mS] at hx
  | some b =>
    simp [mS] at hx
    subst hx
    have h1 := hM _ rfl
    rw [h] at h1
    simp only [ctr, Option.some.injEq, Obj.cells.injEq] at h1
    exact hT h1.2.1.symm
/-- The document's table, its parts named. -/
def RTabC (t lo : Nat) (S : List Nat) (m : Option Nat) (E : List Ent) (V : Nat → Int) (L : Nat) (lv bi ma tu : Nat) (w : World) : Prop :=
  ∃ a c q, w.heap[t]? = some (rtabO (.slice a E.length c) L (.slice (some ⟨q, 0, none⟩) (2 ^ L) (2 ^ L)) (.int .i64 lv) (.int .i64 bi) (.int .i64 ma) (.int .i64 tu) (mV m)) ∧
    EntRow lo a c E w ∧ RefAt q (2 ^ L) V w ∧ t ∈ S ∧ q ∈ S ∧ (∀ x, x ∈ blk a → x ∈ S) ∧ ∀ x, x ∈ S → lo ≤ x ∧ x < w.heap.size
def RTabAt (t lo : Nat) (S : List Nat) (m : Option Nat) (T : Tab) (w : World) : Prop := RTabC t lo S m T.E T.V T.L (liveN T.E) T.births T.made T.turns w
theorem RTabC.keeps {t lo : Nat} {S R : List Nat} {m : Option Nat} {E : List Ent} {V : Nat → Int} {L lv bi ma tu : Nat} {w w' : World} (h : RTabC t lo S m E V L lv bi ma tu w) (k : Keeps R w w') (hd : ∀ x, x ∈ S → x ∉ R) : RTabC t lo S m E V L lv bi ma tu w' := by
  obtain ⟨a, c, q, h1, h2, h3, h4, h5, h6, h7⟩ := h
  exact ⟨a, c, q, k.has h1 (hd _ h4), h2.keeps k (fun x hx => hd _ (h6 x hx)), k.has h3 (hd _ h5), h4, h5, h6, fun x hx => ⟨(h7 x hx).1, Nat.lt_of_lt_of_le (h7 x hx).2 k.size⟩⟩
theorem RTabC.foot {t lo : Nat} {S : List Nat} {m : Option Nat} {E : List Ent} {V : Nat → Int} {L lv bi ma tu : Nat} {w : World} (h : RTabC t lo S m E V L lv bi ma tu w) : ∀ x, x ∈ S → lo ≤ x ∧ x < w.heap.size := by
  obtain ⟨a, c, q, h1, h2, h3, h4, h5, h6, h7⟩ := h
  exact h7
theorem RTabAt.keeps {t lo : Nat} {S R : List Nat} {m : Option Nat} {T : Tab} {w w' : World} (h : RTabAt t lo S m T w) (k : Keeps R w w') (hd : ∀ x, x ∈ S → x ∉ R) : RTabAt t lo S m T w' := RTabC.keeps h k hd
theorem RTabAt.foot {t lo : Nat} {S : List Nat} {m : Option Nat} {T : Tab} {w : World} (h : RTabAt t lo S m T w) : ∀ x, x ∈ S → lo ≤ x ∧ x < w.heap.size := RTabC.foot h
theorem ref_ne {q n : Nat} {V : Nat → Int} {w : World} (h : RefAt q n V w) {b : Nat} {cs : Array Value} {T : TypeId} {f : Nat × Nat} (hb : w.heap[b]? = some (.cells cs T f)) (hT : 3 ≠ T) : q ≠ b := fun e => by
  have h1 : w.heap[q]? = _ := h
  rw [e, hb] at h1
  simp only [Option.some.injEq, Obj.cells.injEq] at h1
  exact hT h1.2.1.symm
theorem ref_noent {q n : Nat} {V : Nat → Int} {w : World} (h : RefAt q n V w) {lo : Nat} {a : Option Addr} {c : Nat} {E : List Ent} (hE : EntRow lo a c E w) : q ∉ blk a := hE.notin h (by decide)
theorem numA_congr {k : IntKind} {n : Nat} {V U : Nat → Int} (h : ∀ i, i < n → V i = U i) : numA k n V = numA k n U := by
  apply Array.ext_getElem?
  intro i
  by_cases hi : i < n
  · rw [numA_get hi, numA_get hi, h i hi]
  · rw [Array.getElem?_eq_none (by simp [numA]; omega), Array.getElem?_eq_none (by simp [numA]; omega)]
theorem ref_congr {q n : Nat} {V U : Nat → Int} {w : World} (h : RefAt q n V w) (hU : ∀ i, i < n → V i = U i) : RefAt q n U w := by
  have h1 : w.heap[q]? = _ := h
  rw [numA_congr hU] at h1
  exact h1
set_option maxRecDepth 100000 in
theorem rindex_any (t L n : Nat) (l : Int) (hl : l = (L : Int)) (ev lv bi tu : Value) (L0 : Nat) (cl : Value) (ma : Int) (m : Option Nat) (c : C4) (w : World) (h : w.heap[t]? = some (rtabO ev L0 cl lv bi (.int .i64 ma) tu (mV m))) (hM : CtrAt m c w) (h3 : 3 ≤ L) (hL : L ≤ 20) (hn : n = 2 ^ L) (hma0 : 0 ≤ ma) (hma : ma ≤ 1000000) (hcl : ∃ a b c, cl = .slice a b c) :
    Calls Tryz.prog 70 #[.pointer (some ⟨t, 0, none⟩), .int .i64 l] w fun r w' => r = .returned (.tuple #[]) ∧ ∃ q, w'.heap[t]? = some (rtabO ev L (.slice (some ⟨q, 0, none⟩) n n) lv bi (.int .i64 (ma + 1)) tu (mV m)) ∧ RefAt q n (begun n) w' ∧ CtrAt m c.tab w' ∧ w.heap.size ≤ q ∧ Keeps (t :: mS m) w w' := by
  cases m with
  | none =>
    refine (rindex_none t L n l hl ev lv bi tu L0 cl ma w h h3 hL hn hma0 hma hcl).mono ?_
    rintro r w' ⟨rfl, q, h1, h2, h4, h5⟩
    exact ⟨rfl, q, h1, h2, CtrAt.nil _ _, h4, by simpa [mS] using h5⟩
  | some b =>
    have hbt := hM.ne h (by decide)
    simp only [mS, List.mem_singleton] at hbt
    have HM := Lib.hid (hM b rfl)
    subst hl
    obtain ⟨ca, cb, cc, rfl⟩ := hcl
    have H := Lib.hid h
    have HN := Lib.hid hn
    clear h hn hM
    go_enter Tryz.func70, Tryz.ntmps70
    go_wp2_with fail
    refine (rnew_any L n _ rfl h3 hL HN.out _).mono ?_
    rintro r w1 ⟨q, rfl, hq, zq, b1⟩
    have k1 := Below.keeps b1 []
    have h1 := k1.has H.out (by simp)
    have m1 := k1.has HM.out (by simp)
    have c1 : w1.cell? ⟨t, 1, none⟩ = some (.int .i64 L0) := cell_has h1 (i := 1) rfl
    have c2 : w1.cell? ⟨t, 2, none⟩ = some (.slice ca cb cc) := cell_has h1 (i := 2) rfl
    have c4 : w1.cell? ⟨t, 5, none⟩ = some (.int .i64 ma) := cell_has h1 (i := 5) rfl
    have c7 : w1.cell? ⟨t, 7, none⟩ = some (.pointer (some ⟨b, 0, none⟩)) := cell_has h1 (i := 7) rfl
    have d0 : w1.cell? ⟨b, 0, none⟩ = some (.int .i64 c.a) := cell_has m1 (i := 0) rfl
    have f1 := free_of_has h1 1
    have f2 := free_of_has h1 2
    have f4 := free_of_has h1 5
    have g0 := free_of_has m1 0
    have H1 := Lib.hid h1
    have M1 := Lib.hid m1
    have K1 := Lib.hid k1
    have HQ := Lib.hid hq
    have hbt' : b ≠ t := Ne.symm hbt
    clear b1 k1 h1 hq m1
    go_wp2_with fail
    go_end0
    have hb := has_setCell (has_setCell (has_setCell H1.out 1 (.int .i64 L)) 2 (.slice (some ⟨q, 0, none⟩) n n)) 5 (.int .i64 (ma + 1))
    unfold rtabO at hb
    simp only [List.setIfInBounds_toArray, List.set_cons_zero, List.set_cons_succ] at hb
    have kt : Keeps [t] w1 (((w1.setCell ⟨t, 1, none⟩ (.int .i64 L)).setCell ⟨t, 2, none⟩ (.slice (some ⟨q, 0, none⟩) n n)).setCell ⟨t, 5, none⟩ (.int .i64 (ma + 1))) := (((Keeps.refl _ _).setCell (.inr (by simp)) _).setCell (.inr (by simp)) _).setCell (.inr (by simp)) _
    have ht := lt_of_block H.out
    have hbl := lt_of_block HM.out
    have mb := has_setCell (kt.has M1.out (by simpa using hbt')) 0 (.int .i64 (wrap64 (c.a + 1)))
    have kb : Keeps [b] _ (((((w1.setCell ⟨t, 1, none⟩ (.int .i64 L)).setCell ⟨t, 2, none⟩ (.slice (some ⟨q, 0, none⟩) n n)).setCell ⟨t, 5, none⟩ (.int .i64 (ma + 1)))).setCell ⟨b, 0, none⟩ (.int .i64 (wrap64 (c.a + 1)))) := (Keeps.refl _ _).setCell (.inr (by simp)) _
    refine ⟨rfl, q, kb.has hb (by simpa using hbt), kb.has (kt.has HQ.out (by simp; omega)) (by simp; omega), ?_, zq, ((K1.out.mono (by simp)).trans (kt.mono (by intro x hx; simp at hx; subst hx; simp))).trans (kb.mono (by intro x hx; simp at hx; subst hx; simp [mS]))⟩
    intro b' hb'
    simp at hb'; subst hb'
    simpa [ctr, C4.tab, List.setIfInBounds_toArray, List.set_cons_zero] using mb
theorem div32 (h i : Nat) : h / 32 ^ i / 32 = h / 32 ^ (i + 1) := by rw [Nat.div_div_eq_div_mul, ← Nat.pow_succ]
set_option maxRecDepth 100000 in
set_option maxHeartbeats 2000000 in
/-- lay: an entry's number, into the first empty cell of its trail. -/
theorem rlay_any (t q L : Nat) (V : Nat → Int) (h : Int) (e : Nat) (ev lv bi ma tu m : Value) (w : World) (H : w.heap[t]? = some (rtabO ev L (.slice (some ⟨q, 0, none⟩) (2 ^ L) (2 ^ L)) lv bi ma tu m)) (hq : RefAt q (2 ^ L) V w) (hL : L ≤ 20) (hlt : fe L (uh h) V < 2 ^ L + 13) (his : V (trC L (uh h) (fe L (uh h) V)) = -1) :
    Calls Tryz.prog 76 #[.pointer (some ⟨t, 0, none⟩), .int .i64 h, .int .i64 e] w fun r w' => r = .returned (.tuple #[]) ∧ RefAt q (2 ^ L) (layV L (uh h) V e) w' ∧ Keeps [q] w w' := by
  have HB := Lib.hid H
  have HQ := Lib.hid hq
  have HV := Lib.hid his
  have HLT := Lib.hid hlt
  have e1 : w.cell? ⟨t, 1, none⟩ = some (.int .i64 L) := cell_has H (i := 1) rfl
  have e2 : w.cell? ⟨t, 2, none⟩ = some (.slice (some ⟨q, 0, none⟩) (2 ^ L) (2 ^ L)) := cell_has H (i := 2) rfl
  obtain ⟨M, hM⟩ := ex_hid (2 ^ L)
  have m2 : M ≤ 1048576 := by rw [hM.out]; exact pow_le hL
  rw [← hM.out] at e2
  have HU := Lib.hid (uh_cast h)
  have hu := uh_lt h
  obtain ⟨f, hf⟩ := ex_hid (fe L (uh h) V)
  obtain ⟨c0, hc0⟩ := ex_hid (trC L (uh h) 0)
  obtain ⟨u, huu⟩ := ex_hid (uh h)
  have hU2 : IntKind.u64.wrap h = (u : Int) := by rw [huu.out]; exact HU.out
  clear H hq hlt his
  go_enter Tryz.func76, Tryz.ntmps76
  go_wp2_with fail
  refine (rfirst_any h _ _ L rfl hL).mono ?_
  rintro r w1 ⟨rfl, rfl⟩
  rw [← hc0.out]
  go_wp2_with fail
  go_loopg [6, 7] f (fun gk x y wr => ∃ j p : Nat, gk = f - j ∧ j ≤ f ∧ x = .int .i64 (trC L (uh h) j : Nat) ∧ y = .int .u64 (p : Nat) ∧ Hid (p = uh h / 32 ^ j) ∧ w = wr)
  case atStart => exact ⟨0, u, by omega, by omega, by rw [hc0.out], rfl, Lib.hid (by rw [huu.out]; simp), rfl⟩
  case round =>
    obtain ⟨j, p, rfl, hj, rfl, rfl, hp, rfl⟩ := hrel
    have hp1 : p < 18446744073709551616 := by rw [hp.out]; exact Nat.lt_of_le_of_lt (Nat.div_le_self _ _) hu
    have hcl := trC_lt L (uh h) j
    obtain ⟨k, hk⟩ := ex_hid (trC L (uh h) j)
    rw [← hk.out, ← hM.out] at hcl
    rw [← hk.out]
    have hk0 : (0 : Int) ≤ (k : Int) := by omega
    have hk1 : (k : Int) < (M : Int) := by omega
    have cq : w.cell? ⟨q, k, none⟩ = some (.int .i64 (V k)) := cell_has HQ.out (numA_get (by rw [← hM.out]; exact hcl))
    have fq := free_of_has HQ.out k
    obtain ⟨v, hv⟩ := ex_hid (V k)
    rw [← hv.out] at cq
    by_cases hve : v = -1
    · subst hve
      have HJ := Lib.hid hj
      clear hj
      go_wp2_with fail
      go_end0
      have hjf : j = fe L (uh h) V := fe_eq (by rw [← hf.out]; exact HJ.out) (by have := HLT.out; have := HJ.out; have := hf.out; omega) (by rw [← hk.out, ← hv.out])
      refine ⟨rfl, ?_, (Keeps.refl _ _).setCell (.inr (by simp)) _⟩
      rw [layV_hit HLT.out, ← hjf, ← hk.out]
      have hb := has_setCell HQ.out k (.int .i64 e)
      rw [numA_set] at hb
      exact hb
    · have hvb : (v != -1) = true := by simpa using hve
      have HJ := Lib.hid hj
      have hkm : k ≤ 1048576 := by omega
      clear hj
      go_wp2_with fail
      refine (rnext_any k p L _ _ _ _ rfl rfl rfl hkm hp1 hL).mono ?_
      rintro r w1 ⟨rfl, rfl⟩
      go_wp2_with fail
      have hs := fe_succ (L := L) (h := uh h) (V := V) (i := j) (by rw [← hf.out]; exact HJ.out) (by have := HLT.out; have := HJ.out; have := hf.out; omega) (by rw [← hk.out, ← hv.out]; exact hve)
      rw [← hf.out] at hs
      go_roundg (f - (j + 1))
      case measure => omega
      case rel => exact ⟨j + 1, p / 32, rfl, hs, by rw [hk.out, hp.out]; rfl, rfl, Lib.hid (by rw [hp.out, div32]), rfl⟩
end Go.Proofs.YtajmfenfajbakaaGreat
end

section
namespace Go.Proofs.YtajmfenfajbakaaGreat
open Go.RowKit
set_option linter.unusedVariables false
set_option linter.unusedSimpArgs false

/-- The document's Seeker's block. -/
def rskO (t : Nat) (s : Sk) (c p : Nat) : Obj := .cells #[.pointer (some ⟨t, 0, none⟩), .int .i64 s.h, .int .i64 s.tu, .int .i64 c, .int .u64 p, .bool s.over, .int .i64 s.vis, .int .i64 s.told] 168 (0, 0)
def RSkAt (kb t : Nat) (s : Sk) (W : World) : Prop := ∃ c p, W.heap[kb]? = some (rskO t s c p) ∧ (s.over = false → c = skC s ∧ p = skP s)
theorem RSkAt.keeps {kb t : Nat} {s : Sk} {W W' : World} {S : List Nat} (h : RSkAt kb t s W) (k : Keeps S W W') (hs : kb ∉ S) : RSkAt kb t s W' := by
  obtain ⟨c, p, h1, h2⟩ := h
  exact ⟨c, p, k.has h1 hs, h2⟩
def RSeekP (t : Nat) (T : Tab) (h : Int) (w : World) (r : Ending) (w' : World) : Prop :=
  ∃ kb, r = .returned (.pointer (some ⟨kb, 0, none⟩)) ∧ RSkAt kb t (T.seek h) w' ∧ w.heap.size ≤ kb ∧ Keeps [] w w'
set_option maxRecDepth 100000 in
theorem rseek_any (t lo : Nat) (S : List Nat) (m : Option Nat) (T : Tab) (w : World) (H : RTabAt t lo S m T w) (hL : T.L ≤ 20) (h : Int) :
    Calls Tryz.prog 71 #[.pointer (some ⟨t, 0, none⟩), .int .i64 h] w (RSeekP t T h w) := by
  obtain ⟨a, c, q, h1, _⟩ := H
  have e1 : w.cell? ⟨t, 1, none⟩ = some (.int .i64 T.L) := cell_has h1 (i := 1) rfl
  have e6 : w.cell? ⟨t, 6, none⟩ = some (.int .i64 T.turns) := cell_has h1 (i := 6) rfl
  have huc := Lib.hid (uh_cast h)
  clear h1
  go_enter Tryz.func71, Tryz.ntmps71
  go_wp2_with fail
  go_region_held3 (fun w' => w'.cell? ⟨t, 1, none⟩ = some (.int .i64 T.L) ∧ w'.cell? ⟨t, 6, none⟩ = some (.int .i64 T.turns)) (go_keep)
    (first
      | (go_at_call 92; refine (rfirst_any h _ _ T.L rfl hL).mono ?_; rintro r1 w1 ⟨rfl, rfl⟩))
  go_wp2_with fail
  go_ret
  refine ⟨w.heap.size, rfl, ⟨skC (T.seek h), skP (T.seek h), ?_, fun _ => ⟨rfl, rfl⟩⟩, Nat.le_refl _, (Keeps.refl [] w).drew.alloc _⟩
  refine (has_new' w.drew _ rfl).trans ?_
  rw [huc.out]
  simp [rskO, skC, skP, Tab.seek]
end Go.Proofs.YtajmfenfajbakaaGreat
end

section
namespace Go.Proofs.YtajmfenfajbakaaGreat
open Go.RowKit
set_option linter.unusedVariables false
set_option linter.unusedSimpArgs false

set_option maxRecDepth 100000 in
set_option maxHeartbeats 2000000 in
theorem rall_any (t lo L c : Nat) (a : Option Addr) (E : List Ent) (cl lv bi ma tu m : Value) (w : World) (hb : w.heap[t]? = some (rtabO (.slice a E.length c) L cl lv bi ma tu m)) (h : EntRow lo a c E w) (hl : E.length ≤ 1000000) :
    Calls Tryz.prog 42 #[.pointer (some ⟨t, 0, none⟩)] w fun r w' => ∃ a' c', r = .returned (.slice a' (liveN E) c') ∧ EntRow w.heap.size a' c' (liveL E) w' ∧ Keeps [] w w' := by
  have H := Lib.hid h
  have e0 : w.cell? ⟨t, 0, none⟩ = some (.slice a E.length c) := cell_has hb (i := 0) rfl
  obtain ⟨n, hn⟩ := ex_hid E.length
  rw [← hn.out] at hl e0
  clear h hb
  go_enter Tryz.func42, Tryz.ntmps42
  go_wp2_with fail
  go_loopw [3, 4] (fun l i wr => ∃ (k : Nat) (b : Option Addr) (cc : Nat), k ≤ n ∧ i = .int .i64 k ∧ l = .slice b (liveL (E.take k)).length cc ∧ EntRow w.heap.size b cc (liveL (E.take k)) wr ∧ Keeps [] w wr) (fun _ i _ => n - (intOf i).toNat)
  case atStart => exact ⟨0, none, 0, by omega, rfl, by simp [liveL], by simpa [liveL] using EntRow.nil _ _, Keeps.refl _ _⟩
  case round =>
    obtain ⟨k, b, cc, hk, rfl, rfl, hR, hK⟩ := hrel
    have hk0 : (0 : Int) ≤ (k : Int) := by omega
    have HR := Lib.hid hR
    have HK := Lib.hid hK
    have e0 := hK.cell e0 (by simp)
    by_cases hlt : k < n
    · have hlt' : (k : Int) < (n : Int) := by omega
      obtain ⟨x, hx⟩ : ∃ x, E[k]? = some x := ⟨_, List.getElem?_eq_getElem (by rw [← hn.out]; exact hlt)⟩
      obtain ⟨g, rfl⟩ := H.out.shape (by rw [← hn.out]; omega)
      obtain ⟨q0, q1, q2, q3, q4⟩ := (H.out.keeps hK (by simp)).five hx
      have HX := Lib.hid hx
      cases hlv : x.live
      · rw [hlv] at q0
        clear hR hK hx
        go_wp2_with fail
        go_roundw
        case rel =>
          refine ⟨k + 1, b, cc, by omega, by go_num, ?_, ?_, HK.out⟩
          · rw [liveL_succ HX.out, hlv]; simp
          · rw [liveL_succ HX.out, hlv]; simpa using HR.out
        case measure => simp [intOf]; omega
      · rw [hlv] at q0
        have k2 : Keeps [] wr (wr.alloc (.cells #[.bool true, .int .i64 x.hash, .int .i64 x.key, .int .i64 x.val, .int .i64 x.birth] 99)) := (Keeps.refl [] wr).alloc _
        obtain ⟨g2, cap, w3, hrun, r1, r2, r3, r4⟩ := ent_append w.heap.size b cc (liveL (E.take k)) x _ wr.heap.size (hR.keeps k2 (by simp)) (by rw [hlv]; exact has_new _ _) (by rw [liveL_len]; have := liveN_le (E.take k); simp at this; omega) (by have := hK.size; have := k2.size; omega)
        have R3 := Lib.hid r1
        have K3 := Lib.hid ((hK.trans k2).then r2 (by intro y hy; exact .inl (hR.blk_lt y hy).1))
        have q5 := hlv
        have HRun := Lib.hid hrun
        clear hR hK hx k2 r1 r2 r3 r4 hlv hrun
        go_wp2_with (at_builtin; refine wpList_append_run rfl _ _ 61 rfl _ _ rfl rfl _ _ HRun.out ?_)
        go_roundw
        case rel =>
          refine ⟨k + 1, some ⟨g2, 0, none⟩, cap, by omega, by go_num, ?_, ?_, K3.out⟩
          · rw [liveL_succ HX.out, q5]; simp
          · rw [liveL_succ HX.out, q5]; exact R3.out
        case measure => simp [intOf]; omega
    · obtain rfl : k = n := by omega
      have hge : ¬ (k : Int) < (k : Int) := by omega
      have hall : liveL (E.take k) = liveL E := by rw [hn.out, List.take_length]
      have HR2 : Hid (EntRow w.heap.size b cc (liveL E) wr) := Lib.hid (by rw [← hall]; exact HR.out)
      rw [hall, liveL_len]
      clear hR hK HR
      go_wp2_with fail
      go_ret
      exact ⟨b, cc, rfl, HR2.out, HK.out⟩
/-- The block without its last store. -/
theorem rtabO_set0 {w : World} {t L : Nat} {ev cl lv bi ma tu m v : Value} (h : w.heap[t]? = some (rtabO ev L cl lv bi ma tu m)) : (w.setCell ⟨t, 0, none⟩ v).heap[t]? = some (rtabO v L cl lv bi ma tu m) := has_setCell h 0 v
def RLaid (t lo : Nat) (S : List Nat) (m : Option Nat) (c4 : C4) (E : List Ent) (L lv bi ma tu : Nat) (w : World) (r : Ending) (w' : World) : Prop :=
  r = .returned (.tuple #[]) ∧ ∃ S', RTabC t lo S' m (liveL E) (layN L (liveL E) (liveN E)) L lv bi (ma + 1) tu w' ∧ CtrAt m c4.tab w' ∧ Keeps (S ++ mS m) w w' ∧ Grew S w S'
set_option maxRecDepth 100000 in
set_option maxHeartbeats 4000000 in
theorem ralls_any (t lo : Nat) (S : List Nat) (m : Option Nat) (E : List Ent) (V : Nat → Int) (L L' lv bi ma tu : Nat) (c4 : C4) (w : World) (H : RTabC t lo S m E V L lv bi ma tu w) (hM : CtrAt m c4 w) (hm : ∀ b, m = some b → b < lo) (h3 : 3 ≤ L') (hL : L' ≤ 20) (hl : liveN E < 2 ^ L') (hma : ma ≤ 100000) (hE : E.length ≤ 1000000) :
    Calls Tryz.prog 75 #[.pointer (some ⟨t, 0, none⟩), .int .i64 L'] w (RLaid t lo S m c4 E L' lv bi ma tu w) := by
  obtain ⟨a, c, q, b1, r1, q1, s1, s2, s3, s4⟩ := H
  have HR := Lib.hid r1
  have HS := Lib.hid (And.intro s1 (And.intro s3 s4))
  have HM := Lib.hid hM
  have HB := Lib.hid b1
  have HLS := Lib.hid hl
  obtain ⟨n, hn⟩ := ex_hid E.length
  have hlo : lo ≤ w.heap.size := by have := s4 t s1; omega
  clear b1 r1 q1 s1 s2 s3 s4 hM hl
  go_enter Tryz.func75, Tryz.ntmps75
  go_wp2_with fail
  refine (rindex_any t L' (2 ^ L') L' rfl _ _ _ _ L _ ma m c4 _ HB.out HM.out h3 hL rfl (by omega) (by omega) ⟨_, _, _, rfl⟩).mono ?_
  rintro r w1 ⟨rfl, q2, b2, f2, m2, z2, k2⟩
  have htm : t ∉ mS m := HM.out.ne HB.out (by decide)
  have hem : ∀ x, x ∈ blk a → x ∉ t :: mS m := fun x hx hx2 => by
    simp only [List.mem_cons] at hx2
    rcases hx2 with rfl | hx2
    · exact HR.out.notin HB.out (by decide) hx
    · cases m with
      | none => simp [mS] at hx2
      | some b => simp [mS] at hx2; subst hx2; have := hm x rfl; have := (HR.out.blk_lt x hx).1; omega
  have R2 := Lib.hid (HR.out.keeps k2 hem)
  have B2 := Lib.hid b2
  have F2 := Lib.hid f2
  have M2 := Lib.hid m2
  have K2 := Lib.hid k2
  have e0 : w1.cell? ⟨t, 0, none⟩ = some (.slice a E.length c) := cell_has b2 (i := 0) rfl
  rw [← hn.out] at e0 hE
  have HSM := Lib.hid (And.intro htm hem)
  clear b2 f2 m2 k2 htm hem
  go_wp2_with fail
  go_loopw [4, 5] (fun l i wr => ∃ (k : Nat) (b : Option Addr) (cc : Nat), k ≤ n ∧ i = .int .i64 k ∧ l = .slice b (liveL (E.take k)).length cc ∧ EntRow w1.heap.size b cc (liveL (E.take k)) wr ∧ Keeps [] w1 wr) (fun _ i _ => n - (intOf i).toNat)
  case atStart => exact ⟨0, none, 0, by omega, rfl, by simp [liveL], by simpa [liveL] using EntRow.nil _ _, Keeps.refl _ _⟩
  case round =>
    obtain ⟨k, b, cc, hk, rfl, rfl, hR, hK⟩ := hrel
    have hk0 : (0 : Int) ≤ (k : Int) := by omega
    have HQR := Lib.hid hR
    have HK := Lib.hid hK
    have e0 := hK.cell e0 (by simp)
    by_cases hlt : k < n
    · have hlt' : (k : Int) < (n : Int) := by omega
      obtain ⟨x, hx⟩ : ∃ x, E[k]? = some x := ⟨_, List.getElem?_eq_getElem (by rw [← hn.out]; exact hlt)⟩
      obtain ⟨g, rfl⟩ := R2.out.shape (by rw [← hn.out]; omega)
      obtain ⟨q0, q1, q2, q3, q4⟩ := (R2.out.keeps hK (by simp)).five hx
      have HX := Lib.hid hx
      cases hlv : x.live
      · rw [hlv] at q0
        clear hR hK hx
        go_wp2_with fail
        go_roundw
        case rel =>
          refine ⟨k + 1, b, cc, by omega, by go_num, ?_, ?_, HK.out⟩
          · rw [liveL_succ HX.out, hlv]; simp
          · rw [liveL_succ HX.out, hlv]; simpa using HQR.out
        case measure => simp [intOf]; omega
      · rw [hlv] at q0
        have k2 : Keeps [] wr (wr.alloc (.cells #[.bool true, .int .i64 x.hash, .int .i64 x.key, .int .i64 x.val, .int .i64 x.birth] 99)) := (Keeps.refl [] wr).alloc _
        obtain ⟨g2, cap, w3, hrun, r1, r2, r3, r4⟩ := ent_append w1.heap.size b cc (liveL (E.take k)) x _ wr.heap.size (hR.keeps k2 (by simp)) (by rw [hlv]; exact has_new _ _) (by rw [liveL_len]; have := liveN_le (E.take k); simp at this; omega) (by have := hK.size; have := k2.size; omega)
        have R3 := Lib.hid r1
        have K3 := Lib.hid ((hK.trans k2).then r2 (by intro y hy; exact .inl (hR.blk_lt y hy).1))
        have q5 := hlv
        have HRun := Lib.hid hrun
        clear hR hK hx k2 r1 r2 r3 r4 hlv hrun
        go_wp2_with (at_builtin; refine wpList_append_run rfl _ _ 61 rfl _ _ rfl rfl _ _ HRun.out ?_)
        go_roundw
        case rel =>
          refine ⟨k + 1, some ⟨g2, 0, none⟩, cap, by omega, by go_num, ?_, ?_, K3.out⟩
          · rw [liveL_succ HX.out, q5]; simp
          · rw [liveL_succ HX.out, q5]; exact R3.out
        case measure => simp [intOf]; omega
    · obtain rfl : k = n := by omega
      have hge : ¬ (k : Int) < (k : Int) := by omega
      have hall : liveL (E.take k) = liveL E := by rw [hn.out, List.take_length]
      have HR2 : Hid (EntRow w1.heap.size b cc (liveL E) wr) := Lib.hid (by rw [← hall]; exact HQR.out)
      rw [hall, liveL_len]
      have b3 := hK.has B2.out (by simp)
      have B3 := Lib.hid (rtabO_set0 (v := .slice b (liveN E) cc) b3)
      have f0 := free_of_has b3 0
      have LE := Lib.hid (liveL_live E)
      have LL := Lib.hid (liveL_len E)
      have zt := lt_of_block HB.out
      have zk := K2.out.size
      have KS : Keeps [t] wr (wr.setCell ⟨t, 0, none⟩ (.slice b (liveN E) cc)) := (Keeps.refl _ _).setCell (.inr (by simp)) _
      have htb : t ∉ blk b := fun hx => by have := (HR2.out.blk_lt t hx).1; omega
      have R3 := Lib.hid (HR2.out.keeps KS (fun x hx hx2 => by simp at hx2; subst hx2; exact htb hx))
      have F3 := Lib.hid (KS.has (hK.has F2.out (by simp)) (by simp; omega))
      have M3 := Lib.hid ((M2.out.keeps hK (by simp)).keeps KS (fun b hb hx => by simp at hx; subst hx; exact HSM.out.1 (by rw [hb]; simp [mS])))
      have K3 := Lib.hid ((K2.out.trans (hK.mono (by simp))).trans (KS.mono (T := t :: mS m) (by intro x hx; simp at hx; subst hx; simp)))
      obtain ⟨E2, hE2⟩ : ∃ E2, Hid (E2 = liveL E) := ⟨_, Lib.hid rfl⟩
      obtain ⟨l, hl⟩ : ∃ l, Hid (l = liveN E) := ⟨_, Lib.hid rfl⟩
      rw [← hl.out] at B3 KS R3 F3 M3 K3 ⊢
      rw [← hE2.out] at R3 LE LL
      rw [← hl.out] at LL HLS
      clear hR hK HQR HR2 b3 KS htb hall
      go_wp2_with fail
      obtain ⟨W3, hW3⟩ : ∃ W3, wr.setCell ⟨t, 0, none⟩ (.slice b l cc) = W3 := ⟨_, rfl⟩
      rw [hW3] at B3 R3 F3 M3 K3 ⊢
      clear hW3 f0
      have hl1 : l ≤ 1000000 := by have := liveN_le E; have := hl.out; have := hn.out; omega
      go_loopw [6] (fun i wr => ∃ k : Nat, k ≤ l ∧ i = .int .i64 k ∧ RefAt q2 (2 ^ L') (layN L' E2 k) wr ∧ Keeps [q2] W3 wr) (fun i _ => l - (intOf i).toNat)
      case atStart => exact ⟨0, by omega, rfl, by rw [layN_zero]; exact F3.out, Keeps.refl _ _⟩
      case round =>
        obtain ⟨k, hk, rfl, hq, hK⟩ := hrel
        have hk0 : (0 : Int) ≤ (k : Int) := by omega
        have HQ := Lib.hid hq
        have HK := Lib.hid hK
        by_cases hlt : k < l
        · have hlt' : (k : Int) < (l : Int) := by omega
          obtain ⟨x, hx⟩ : ∃ x, E2[k]? = some x := ⟨_, List.getElem?_eq_getElem (by rw [LL.out]; exact hlt)⟩
          obtain ⟨g, rfl⟩ := R3.out.shape (by rw [LL.out]; omega)
          have hqb : q2 ∉ blk (some (⟨g, 0, none⟩ : Addr)) := ref_noent F3.out R3.out
          have q3 := ((R3.out.keeps hK (fun x hx hx2 => hqb (by simp at hx2; rw [← hx2]; exact hx))).five hx).2.1
          have hI := layN_inv L' E2 LE.out (by rw [LL.out]; have := HLS.out; omega) k (by rw [LL.out]; omega)
          have hlt2 : (E2.take k).length < 2 ^ L' := by simp; have := HLS.out; omega
          have hx2 : E2.getD k noE = x := by simp [List.getD, hx]
          have i1 := hI.fe_lt hlt2 x.hash
          have i2 := hI.fe_is hlt2 x.hash
          have HX := Lib.hid hx2
          have b4 := hK.has B3.out (by simp; omega)
          have B4 := Lib.hid b4
          have I12 := Lib.hid (And.intro i1 i2)
          clear hq hK hI hlt2 hx2 i1 i2 b4 hx
          go_wp2_with fail
          refine (rlay_any t q2 L' (layN L' E2 k) x.hash k _ _ _ _ _ _ _ B4.out HQ.out hL I12.out.1 I12.out.2).mono ?_
          rintro r w4 ⟨rfl, h4, k4⟩
          have H4 := Lib.hid h4
          have K4 := Lib.hid (HK.out.trans k4)
          clear h4 k4
          go_wp2_with fail
          go_roundw
          case rel => exact ⟨k + 1, by omega, by go_num, by rw [layN_succ, HX.out]; exact H4.out, K4.out⟩
          case measure => simp [intOf]; omega
        · obtain rfl : k = l := by omega
          have hge : ¬ (k : Int) < (k : Int) := by omega
          clear hq hK
          go_wp2_with fail
          go_end0
          refine ⟨rfl, t :: q2 :: blk b, ⟨b, cc, q2, ?_, ?_, ?_, by simp, by simp, fun x hx => by simp [hx], ?_⟩, ?_, ?_, ?_⟩
          · rw [liveL_len, ← hl.out]
            have := HK.out.has B3.out (by simp; omega)
            simpa using this
          · rw [← hE2.out]
            exact (R3.out.keeps HK.out (fun x hx hx2 => ref_noent F3.out R3.out (by simp at hx2; rw [← hx2]; exact hx))).lift (fun x hx => by have := (R3.out.blk_lt x hx).1; omega)
          · rw [← hE2.out, ← hl.out]; exact HQ.out
          · intro x hx
            have z3 := K3.out.size
            have z4 := HK.out.size
            have z5 := lt_of_block HQ.out
            have z6 := HS.out.2.2 t HS.out.1
            simp at hx
            rcases hx with rfl | rfl | hx
            · exact ⟨z6.1, by omega⟩
            · exact ⟨by omega, z5⟩
            · have := R3.out.blk_lt x hx; exact ⟨by omega, by omega⟩
          · refine M3.out.keeps HK.out (fun b hb hx => ?_)
            simp at hx; subst hx
            have := hm b hb; omega
          · refine (K3.out.mono (fun x hx => ?_)).then HK.out (fun x hx => by simp at hx; left; omega)
            simp only [List.mem_cons] at hx
            rcases hx with rfl | hx
            · simp [HS.out.1]
            · simp [hx]
          · intro x hx
            simp at hx
            rcases hx with rfl | rfl | hx
            · exact .inl HS.out.1
            · exact .inr z2
            · have := (R3.out.blk_lt x hx).1; exact .inr (by omega)
end Go.Proofs.YtajmfenfajbakaaGreat
end
