/- The document's table in memory; its index, its lay (chapter 7). -/
import Derived.Test.YtajcbghhpjpmhaaTabNil3
import Derived.Test.YtajcbghhpjpmhaaTabLay
import Derived.Test.YtajcbghhpjpmhaaLawEnt
import Derived.Deep.LoopGhost
namespace Go.Proofs.Ytajcbghhpjpmhaa
open Go.RowKit
set_option linter.unusedVariables false
set_option linter.unusedSimpArgs false

/-- The document's counts. -/
def ctr (c : C4) : Obj := .cells #[.int .i64 c.a, .int .i64 c.b, .int .i64 c.c, .int .i64 c.d] 76 (0, 0)
def CtrAt (m : Option Nat) (c : C4) (w : World) : Prop := ∀ b, m = some b → w.heap[b]? = some (ctr c)
theorem CtrAt.keeps {m : Option Nat} {c : C4} {w w' : World} {S : List Nat} (h : CtrAt m c w) (k : Keeps S w w') (hS : ∀ b, m = some b → b ∉ S) : CtrAt m c w' := fun b hb => k.has (h b hb) (hS b hb)
theorem CtrAt.nil (c : C4) (w : World) : CtrAt none c w := fun b hb => by cases hb
theorem CtrAt.ne {m : Option Nat} {c : C4} {t : Nat} {w : World} {cs : Array Value} {T : TypeId} {f : Nat × Nat} (hM : CtrAt m c w) (h : w.heap[t]? = some (.cells cs T f)) (hT : 76 ≠ T) : t ∉ mS m := by
  intro hx
  cases m with
  | none => simp [mS] at hx
  | some b =>
    simp [mS] at hx
    subst hx
    have h1 := hM _ rfl
    rw [h] at h1
    simp only [ctr, Option.some.injEq, Obj.cells.injEq] at h1
    exact hT h1.2.1.symm
/-- The document's table, its parts named. -/
def RTabC (t lo : Nat) (S : List Nat) (m : Option Nat) (E : List Ent) (V : Nat → Int) (L : Nat) (lv bi ma tu : Nat) (w : World) : Prop :=
  ∃ a c q, w.heap[t]? = some (rtabO (.slice a E.length c) L (.slice (some ⟨q, 0, none⟩) (2 ^ L) (2 ^ L)) (.int .i64 lv) (.int .i64 bi) (.int .i64 ma) (.int .i64 tu) (mV m)) ∧
    EntRow lo a c E w ∧ RefAt q (2 ^ L) V w ∧ t ∈ S ∧ q ∈ S ∧ (∀ x, x ∈ blk a → x ∈ S) ∧ ∀ x, x ∈ S → lo ≤ x ∧ x < w.heap.size
def RTabAt (t lo : Nat) (S : List Nat) (m : Option Nat) (T : Tab) (w : World) : Prop := RTabC t lo S m T.E T.V T.L (liveN T.E) T.births T.made T.turns w
theorem RTabC.keeps {t lo : Nat} {S R : List Nat} {m : Option Nat} {E : List Ent} {V : Nat → Int} {L lv bi ma tu : Nat} {w w' : World} (h : RTabC t lo S m E V L lv bi ma tu w) (k : Keeps R w w') (hd : ∀ x, x ∈ S → x ∉ R) : RTabC t lo S m E V L lv bi ma tu w' := by
  obtain ⟨a, c, q, h1, h2, h3, h4, h5, h6, h7⟩ := h
  exact ⟨a, c, q, k.has h1 (hd _ h4), h2.keeps k (fun x hx => hd _ (h6 x hx)), k.has h3 (hd _ h5), h4, h5, h6, fun x hx => ⟨(h7 x hx).1, Nat.lt_of_lt_of_le (h7 x hx).2 k.size⟩⟩
theorem RTabC.foot {t lo : Nat} {S : List Nat} {m : Option Nat} {E : List Ent} {V : Nat → Int} {L lv bi ma tu : Nat} {w : World} (h : RTabC t lo S m E V L lv bi ma tu w) : ∀ x, x ∈ S → lo ≤ x ∧ x < w.heap.size := by
  obtain ⟨a, c, q, h1, h2, h3, h4, h5, h6, h7⟩ := h
  exact h7
theorem RTabAt.keeps {t lo : Nat} {S R : List Nat} {m : Option Nat} {T : Tab} {w w' : World} (h : RTabAt t lo S m T w) (k : Keeps R w w') (hd : ∀ x, x ∈ S → x ∉ R) : RTabAt t lo S m T w' := RTabC.keeps h k hd
theorem RTabAt.foot {t lo : Nat} {S : List Nat} {m : Option Nat} {T : Tab} {w : World} (h : RTabAt t lo S m T w) : ∀ x, x ∈ S → lo ≤ x ∧ x < w.heap.size := RTabC.foot h
theorem ref_ne {q n : Nat} {V : Nat → Int} {w : World} (h : RefAt q n V w) {b : Nat} {cs : Array Value} {T : TypeId} {f : Nat × Nat} (hb : w.heap[b]? = some (.cells cs T f)) (hT : 3 ≠ T) : q ≠ b := fun e => by
  have h1 : w.heap[q]? = _ := h
  rw [e, hb] at h1
  simp only [Option.some.injEq, Obj.cells.injEq] at h1
  exact hT h1.2.1.symm
theorem ref_noent {q n : Nat} {V : Nat → Int} {w : World} (h : RefAt q n V w) {lo : Nat} {a : Option Addr} {c : Nat} {E : List Ent} (hE : EntRow lo a c E w) : q ∉ blk a := hE.notin h (by decide)
theorem numA_congr {k : IntKind} {n : Nat} {V U : Nat → Int} (h : ∀ i, i < n → V i = U i) : numA k n V = numA k n U := by
  apply Array.ext_getElem?
  intro i
  by_cases hi : i < n
  · rw [numA_get hi, numA_get hi, h i hi]
  · rw [Array.getElem?_eq_none (by simp [numA]; omega), Array.getElem?_eq_none (by simp [numA]; omega)]
theorem ref_congr {q n : Nat} {V U : Nat → Int} {w : World} (h : RefAt q n V w) (hU : ∀ i, i < n → V i = U i) : RefAt q n U w := by
  have h1 : w.heap[q]? = _ := h
  rw [numA_congr hU] at h1
  exact h1
set_option maxRecDepth 100000 in
theorem rindex_any (t L n : Nat) (l : Int) (hl : l = (L : Int)) (ev lv bi tu : Value) (L0 : Nat) (cl : Value) (ma : Int) (m : Option Nat) (c : C4) (w : World) (h : w.heap[t]? = some (rtabO ev L0 cl lv bi (.int .i64 ma) tu (mV m))) (hM : CtrAt m c w) (h3 : 3 ≤ L) (hL : L ≤ 20) (hn : n = 2 ^ L) (hma0 : 0 ≤ ma) (hma : ma ≤ 1000000) (hcl : ∃ a b c, cl = .slice a b c) :
    Calls Try.prog 55 #[.pointer (some ⟨t, 0, none⟩), .int .i64 l] w fun r w' => r = .returned (.tuple #[]) ∧ ∃ q, w'.heap[t]? = some (rtabO ev L (.slice (some ⟨q, 0, none⟩) n n) lv bi (.int .i64 (ma + 1)) tu (mV m)) ∧ RefAt q n (begun n) w' ∧ CtrAt m c.tab w' ∧ w.heap.size ≤ q ∧ Keeps (t :: mS m) w w' := by
  cases m with
  | none =>
    refine (rindex_none t L n l hl ev lv bi tu L0 cl ma w h h3 hL hn hma0 hma hcl).mono ?_
    rintro r w' ⟨rfl, q, h1, h2, h4, h5⟩
    exact ⟨rfl, q, h1, h2, CtrAt.nil _ _, h4, by simpa [mS] using h5⟩
  | some b =>
    have hbt := hM.ne h (by decide)
    simp only [mS, List.mem_singleton] at hbt
    have HM := Lib.hid (hM b rfl)
    subst hl
    obtain ⟨ca, cb, cc, rfl⟩ := hcl
    have H := Lib.hid h
    have HN := Lib.hid hn
    clear h hn hM
    go_enter Try.func55, Try.ntmps55
    go_wp2_with fail
    refine (rnew_any L n _ rfl h3 hL HN.out _).mono ?_
    rintro r w1 ⟨q, rfl, hq, zq, b1⟩
    have k1 := Below.keeps b1 []
    have h1 := k1.has H.out (by simp)
    have m1 := k1.has HM.out (by simp)
    have c1 : w1.cell? ⟨t, 1, none⟩ = some (.int .i64 L0) := cell_has h1 (i := 1) rfl
    have c2 : w1.cell? ⟨t, 2, none⟩ = some (.slice ca cb cc) := cell_has h1 (i := 2) rfl
    have c4 : w1.cell? ⟨t, 5, none⟩ = some (.int .i64 ma) := cell_has h1 (i := 5) rfl
    have c7 : w1.cell? ⟨t, 7, none⟩ = some (.pointer (some ⟨b, 0, none⟩)) := cell_has h1 (i := 7) rfl
    have d0 : w1.cell? ⟨b, 0, none⟩ = some (.int .i64 c.a) := cell_has m1 (i := 0) rfl
    have f1 := free_of_has h1 1
    have f2 := free_of_has h1 2
    have f4 := free_of_has h1 5
    have g0 := free_of_has m1 0
    have H1 := Lib.hid h1
    have M1 := Lib.hid m1
    have K1 := Lib.hid k1
    have HQ := Lib.hid hq
    have hbt' : b ≠ t := Ne.symm hbt
    clear b1 k1 h1 hq m1
    go_wp2_with fail
    go_end0
    have hb := has_setCell (has_setCell (has_setCell H1.out 1 (.int .i64 L)) 2 (.slice (some ⟨q, 0, none⟩) n n)) 5 (.int .i64 (ma + 1))
    unfold rtabO at hb
    simp only [List.setIfInBounds_toArray, List.set_cons_zero, List.set_cons_succ] at hb
    have kt : Keeps [t] w1 (((w1.setCell ⟨t, 1, none⟩ (.int .i64 L)).setCell ⟨t, 2, none⟩ (.slice (some ⟨q, 0, none⟩) n n)).setCell ⟨t, 5, none⟩ (.int .i64 (ma + 1))) := (((Keeps.refl _ _).setCell (.inr (by simp)) _).setCell (.inr (by simp)) _).setCell (.inr (by simp)) _
    have ht := lt_of_block H.out
    have hbl := lt_of_block HM.out
    have mb := has_setCell (kt.has M1.out (by simpa using hbt')) 0 (.int .i64 (wrap64 (c.a + 1)))
    have kb : Keeps [b] _ (((((w1.setCell ⟨t, 1, none⟩ (.int .i64 L)).setCell ⟨t, 2, none⟩ (.slice (some ⟨q, 0, none⟩) n n)).setCell ⟨t, 5, none⟩ (.int .i64 (ma + 1)))).setCell ⟨b, 0, none⟩ (.int .i64 (wrap64 (c.a + 1)))) := (Keeps.refl _ _).setCell (.inr (by simp)) _
    refine ⟨rfl, q, kb.has hb (by simpa using hbt), kb.has (kt.has HQ.out (by simp; omega)) (by simp; omega), ?_, zq, ((K1.out.mono (by simp)).trans (kt.mono (by intro x hx; simp at hx; subst hx; simp))).trans (kb.mono (by intro x hx; simp at hx; subst hx; simp [mS]))⟩
    intro b' hb'
    simp at hb'; subst hb'
    simpa [ctr, C4.tab, List.setIfInBounds_toArray, List.set_cons_zero] using mb
theorem div32 (h i : Nat) : h / 32 ^ i / 32 = h / 32 ^ (i + 1) := by rw [Nat.div_div_eq_div_mul, ← Nat.pow_succ]
set_option maxRecDepth 100000 in
set_option maxHeartbeats 2000000 in
/-- lay: an entry's number, into the first empty cell of its trail. -/
theorem rlay_any (t q L : Nat) (V : Nat → Int) (h : Int) (e : Nat) (ev lv bi ma tu m : Value) (w : World) (H : w.heap[t]? = some (rtabO ev L (.slice (some ⟨q, 0, none⟩) (2 ^ L) (2 ^ L)) lv bi ma tu m)) (hq : RefAt q (2 ^ L) V w) (hL : L ≤ 20) (hlt : fe L (uh h) V < 2 ^ L + 13) (his : V (trC L (uh h) (fe L (uh h) V)) = -1) :
    Calls Try.prog 57 #[.pointer (some ⟨t, 0, none⟩), .int .i64 h, .int .i64 e] w fun r w' => r = .returned (.tuple #[]) ∧ RefAt q (2 ^ L) (layV L (uh h) V e) w' ∧ Keeps [q] w w' := by
  have HB := Lib.hid H
  have HQ := Lib.hid hq
  have HV := Lib.hid his
  have HLT := Lib.hid hlt
  have e1 : w.cell? ⟨t, 1, none⟩ = some (.int .i64 L) := cell_has H (i := 1) rfl
  have e2 : w.cell? ⟨t, 2, none⟩ = some (.slice (some ⟨q, 0, none⟩) (2 ^ L) (2 ^ L)) := cell_has H (i := 2) rfl
  obtain ⟨M, hM⟩ := ex_hid (2 ^ L)
  have m2 : M ≤ 1048576 := by rw [hM.out]; exact pow_le hL
  rw [← hM.out] at e2
  have HU := Lib.hid (uh_cast h)
  have hu := uh_lt h
  obtain ⟨f, hf⟩ := ex_hid (fe L (uh h) V)
  obtain ⟨c0, hc0⟩ := ex_hid (trC L (uh h) 0)
  obtain ⟨u, huu⟩ := ex_hid (uh h)
  have hU2 : IntKind.u64.wrap h = (u : Int) := by rw [huu.out]; exact HU.out
  clear H hq hlt his
  go_enter Try.func57, Try.ntmps57
  go_wp2_with fail
  refine (rfirst_any h _ _ L rfl hL).mono ?_
  rintro r w1 ⟨rfl, rfl⟩
  rw [← hc0.out]
  go_wp2_with fail
  go_loopg [6, 7] f (fun gk x y wr => ∃ j p : Nat, gk = f - j ∧ j ≤ f ∧ x = .int .i64 (trC L (uh h) j : Nat) ∧ y = .int .u64 (p : Nat) ∧ Hid (p = uh h / 32 ^ j) ∧ w = wr)
  case atStart => exact ⟨0, u, by omega, by omega, by rw [hc0.out], rfl, Lib.hid (by rw [huu.out]; simp), rfl⟩
  case round =>
    obtain ⟨j, p, rfl, hj, rfl, rfl, hp, rfl⟩ := hrel
    have hp1 : p < 18446744073709551616 := by rw [hp.out]; exact Nat.lt_of_le_of_lt (Nat.div_le_self _ _) hu
    have hcl := trC_lt L (uh h) j
    obtain ⟨k, hk⟩ := ex_hid (trC L (uh h) j)
    rw [← hk.out, ← hM.out] at hcl
    rw [← hk.out]
    have hk0 : (0 : Int) ≤ (k : Int) := by omega
    have hk1 : (k : Int) < (M : Int) := by omega
    have cq : w.cell? ⟨q, k, none⟩ = some (.int .i64 (V k)) := cell_has HQ.out (numA_get (by rw [← hM.out]; exact hcl))
    have fq := free_of_has HQ.out k
    obtain ⟨v, hv⟩ := ex_hid (V k)
    rw [← hv.out] at cq
    by_cases hve : v = -1
    · subst hve
      have HJ := Lib.hid hj
      clear hj
      go_wp2_with fail
      go_end0
      have hjf : j = fe L (uh h) V := fe_eq (by rw [← hf.out]; exact HJ.out) (by have := HLT.out; have := HJ.out; have := hf.out; omega) (by rw [← hk.out, ← hv.out])
      refine ⟨rfl, ?_, (Keeps.refl _ _).setCell (.inr (by simp)) _⟩
      rw [layV_hit HLT.out, ← hjf, ← hk.out]
      have hb := has_setCell HQ.out k (.int .i64 e)
      rw [numA_set] at hb
      exact hb
    · have hvb : (v != -1) = true := by simpa using hve
      have HJ := Lib.hid hj
      have hkm : k ≤ 1048576 := by omega
      clear hj
      go_wp2_with fail
      refine (rnext_any k p L _ _ _ _ rfl rfl rfl hkm hp1 hL).mono ?_
      rintro r w1 ⟨rfl, rfl⟩
      go_wp2_with fail
      have hs := fe_succ (L := L) (h := uh h) (V := V) (i := j) (by rw [← hf.out]; exact HJ.out) (by have := HLT.out; have := HJ.out; have := hf.out; omega) (by rw [← hk.out, ← hv.out]; exact hve)
      rw [← hf.out] at hs
      go_roundg (f - (j + 1))
      case measure => omega
      case rel => exact ⟨j + 1, p / 32, rfl, hs, by rw [hk.out, hp.out]; rfl, rfl, Lib.hid (by rw [hp.out, div32]), rfl⟩
end Go.Proofs.Ytajcbghhpjpmhaa
