/- The document's there, Put, At, Clear, Kill (chapter 7). The document's Kill (chapter 7). -/
import Derived.Test.YtajmfenfajbakaaGreatB9
import Derived.Test.YtajmfenfajbakaaGreatB5
import Derived.Test.YtajmfenfajbakaaGreatTabKill
import Derived.Deep.MidRow
section
namespace Go.Proofs.YtajmfenfajbakaaGreat
open Go.RowKit
set_option linter.unusedVariables false
set_option linter.unusedSimpArgs false

set_option maxRecDepth 100000 in
theorem rthere_any (t lo c L : Nat) (a : Option Addr) (E : List Ent) (cl lv bi ma tu m : Value) (e : Int) (w : World) (h1 : w.heap[t]? = some (rtabO (.slice a E.length c) L cl lv bi ma tu m)) (hE : EntRow lo a c E w) (hl : E.length ≤ 1000000) :
    Calls Tryz.prog 73 #[.pointer (some ⟨t, 0, none⟩), .int .i64 e] w fun r w' => r = .returned (.bool (entE E e).isSome) ∧ w = w' := by
  have e1 : w.cell? ⟨t, 0, none⟩ = some (.slice a E.length c) := cell_has h1 (i := 0) rfl
  by_cases h0 : 0 ≤ e
  · have d1 : decide (0 ≤ e) = true := by simpa using h0
    by_cases h4 : e < E.length
    · obtain ⟨g, rfl⟩ := hE.shape (by omega)
      obtain ⟨k, rfl⟩ : ∃ k : Nat, e = (k : Int) := ⟨e.toNat, by omega⟩
      obtain ⟨x, hx⟩ : ∃ x, E[k]? = some x := ⟨_, List.getElem?_eq_getElem (by omega)⟩
      have q0 : w.cell? ⟨g, k * 5, none⟩ = some (.bool x.live) := hE.cell hx 0 (by omega)
      have hr : (entE E (k : Int)).isSome = x.live := by
        unfold entE
        rw [if_pos h0]
        cases hlv : x.live <;> simp [hx, Option.filter, hlv]
      rw [hr]
      obtain ⟨n, hn⟩ := ex_hid E.length
      rw [← hn.out] at e1 h4 hl
      have d2 : decide ((k : Int) < (n : Int)) = true := by simpa using h4
      obtain ⟨y, hy⟩ : ∃ y, Hid (y = x.live) := ⟨_, Lib.hid rfl⟩
      rw [← hy.out] at q0 ⊢
      clear h1 hE hx hr
      go_enter Tryz.func73, Tryz.ntmps73
      go_wp2_with fail
      go_ret
      exact ⟨rfl, rfl⟩
    · have d2 : decide (e < ((E.length : Nat) : Int)) = false := by simpa using h4
      have hr : entE E e = none := by
        unfold entE
        rw [if_pos h0, List.getElem?_eq_none (by omega)]; rfl
      rw [hr]
      obtain ⟨n, hn⟩ := ex_hid E.length
      rw [← hn.out] at e1 h4 hl d2
      clear h1 hE hr
      go_enter Tryz.func73, Tryz.ntmps73
      go_wp2_with fail
      go_ret
      exact ⟨rfl, rfl⟩
  · have d1 : decide (0 ≤ e) = false := by simpa using h0
    have hr : entE E e = none := by unfold entE; rw [if_neg h0]
    rw [hr]
    clear h1 hE hr
    go_enter Tryz.func73, Tryz.ntmps73
    go_wp2_with fail
    go_ret
    exact ⟨rfl, rfl⟩
def RPutP (t lo : Nat) (S : List Nat) (m : Option Nat) (T : Tab) (e v : Int) (w : World) (r : Ending) (w' : World) : Prop := r = .returned (.int .i64 (okE (T.ent e))) ∧ RTabAt t lo S m (T.put e v) w' ∧ Keeps S w w'
theorem rput_any (t lo : Nat) (S : List Nat) (m : Option Nat) (T : Tab) (w : World) (H : RTabAt t lo S m T w) (hl : T.E.length ≤ 1000000) (e v : Int) :
    Calls Tryz.prog 53 #[.pointer (some ⟨t, 0, none⟩), .int .i64 e, .int .i64 v] w (RPutP t lo S m T e v w) := by
  have HH := Lib.hid H
  obtain ⟨a, c, q, h1, h2, h3, h4, h5, h6, h7⟩ := H
  unfold RPutP Tab.put
  rw [entE_T]
  have H1 := Lib.hid h1
  have H2 := Lib.hid h2
  cases hx : entE T.E e with
  | none =>
    have HX := Lib.hid hx
    clear h1 h2 h3 h4 h5 h6 h7 hx
    go_enter Tryz.func53, Tryz.ntmps53
    go_wp2_with fail
    refine (rthere_any t lo c T.L a T.E _ _ _ _ _ _ e _ H1.out H2.out hl).mono ?_
    rintro r w1 ⟨rfl, rfl⟩
    rw [HX.out]
    simp only [Option.isSome_none]
    go_wp2_with fail
    go_ret
    exact ⟨rfl, HH.out, Keeps.refl _ _⟩
  | some x =>
    obtain ⟨h0, hx2, h9, h10⟩ := entE_some hx
    obtain ⟨g, rfl⟩ := h2.shape (by omega)
    obtain ⟨k, rfl⟩ : ∃ k : Nat, e = (k : Int) := ⟨e.toNat, by omega⟩
    have hxk : T.E[k]? = some x := by simpa using hx2
    have e1 : w.cell? ⟨t, 0, none⟩ = some (.slice (some ⟨g, 0, none⟩) T.E.length c) := cell_has h1 (i := 0) rfl
    have q3 : w.cell? ⟨g, k * 5 + 3, none⟩ = some (.int .i64 x.val) := h2.cell hxk 3 (by omega)
    have f3 := h2.free (k * 5 + 3)
    have gt : t ∉ [g] := by have := h2.notin h1 (by decide); simpa [blk] using this
    have hq2 : q ∉ [g] := by have := ref_noent h3 h2; simpa [blk] using this
    obtain ⟨n, hn⟩ := ex_hid T.E.length
    rw [← hn.out] at e1 h10
    have HX := Lib.hid hx
    have H3 := Lib.hid h3
    have XK := Lib.hid hxk
    have HS := Lib.hid (And.intro h4 (And.intro h5 (And.intro h6 h7)))
    have GQ := Lib.hid (And.intro gt hq2)
    have k0 : (0 : Int) ≤ (k : Int) := by omega
    clear h1 h2 h3 h4 h5 h6 h7 hx hx2 h9 h0 hxk gt hq2
    go_enter Tryz.func53, Tryz.ntmps53
    go_wp2_with fail
    refine (rthere_any t lo c T.L _ T.E _ _ _ _ _ _ k _ H1.out H2.out hl).mono ?_
    rintro r w1 ⟨rfl, rfl⟩
    rw [HX.out]
    simp only [Option.isSome_some]
    go_wp2_with fail
    go_ret
    have kg : Keeps [g] w (w.setCell ⟨g, k * 5 + 3, none⟩ (.int .i64 v)) := (Keeps.refl _ _).setCell (.inr (by simp)) _
    obtain ⟨s4, s5, s6, s7⟩ := HS.out
    simp only [blk] at s6
    refine ⟨rfl, ?_, kg.mono (by intro y hy; exact s6 y hy)⟩
    simp only [Int.toNat_natCast]
    refine ⟨some ⟨g, 0, none⟩, c, q, ?_, H2.out.put XK.out v, kg.has H3.out GQ.out.2, s4, s5, s6, fun y hy => ⟨(s7 y hy).1, Nat.lt_of_lt_of_le (s7 y hy).2 kg.size⟩⟩
    have h := kg.has H1.out GQ.out.1
    simp only [List.length_set, liveN_put XK.out v]
    exact h
def RClearP (t lo : Nat) (S : List Nat) (m : Option Nat) (c : C4) (T : Tab) (w : World) (r : Ending) (w' : World) : Prop :=
  ∃ S', r = .returned (.tuple #[]) ∧ RTabAt t lo S' m T.clear w' ∧ CtrAt m c.tab w' ∧ Keeps (S ++ mS m) w w' ∧ Grew S w S'
/-- The cells when the first k have been gone through by Kill. -/
def rkV (V : Nat → Int) (e : Int) (k : Nat) : Nat → Int := fun i => if i < k ∧ V i = e then -2 else V i
theorem rkV_kill {L : Nat} {V : Nat → Int} {E : List Ent} (h : CInv L V E) {e : Nat} {x : Ent} (hx : E[e]? = some x) (hl : x.live = true) : ∀ i, i < 2 ^ L → rkV V e (2 ^ L) i = killV L (uh x.hash) V e i := by
  intro i hi
  have h1 := (h.stand hx hl).1
  rw [killV_hit h1]
  have h2 : isV L (uh x.hash) V (e : Int) (fk L (uh x.hash) V e) = true := fi_is (p := isV L (uh x.hash) V (e : Int)) (n := 2 ^ L + 13) h1
  unfold isV at h2
  simp only [beq_iff_eq] at h2
  have hc := trC_lt L (uh x.hash) (fk L (uh x.hash) V e)
  have h3 : V (trC L (uh x.hash) (fk L (uh x.hash) V e)) = e := h2
  show (if i < 2 ^ L ∧ V i = e then (-2 : Int) else V i) = if i = trC L (uh x.hash) (fk L (uh x.hash) V e) then -2 else V i
  by_cases hv : V i = e
  · rw [if_pos ⟨hi, hv⟩, if_pos (h.one _ _ e hi hc hv h3)]
  · rw [if_neg (fun hh => hv hh.2), if_neg (fun hh => hv (by rw [hh]; exact h3))]
end Go.Proofs.YtajmfenfajbakaaGreat
end

section
namespace Go.Proofs.YtajmfenfajbakaaGreat
open Go.RowKit
set_option linter.unusedVariables false
set_option linter.unusedSimpArgs false

def RKillP (t lo : Nat) (S : List Nat) (m : Option Nat) (T : Tab) (e : Int) (w : World) (r : Ending) (w' : World) : Prop :=
  r = .returned (.int .i64 (okE (T.ent e))) ∧ RTabAt t lo S m (T.kill e) w' ∧ Keeps S w w'
set_option maxRecDepth 100000 in
set_option maxHeartbeats 4000000 in
theorem rkill_any (k0 : Nat) (hk : k0 ≤ 1000) (t lo : Nat) (S : List Nat) (m : Option Nat) (T : Tab) (w : World) (H : RTabAt t lo S m T w) (hI : TInv k0 T) (e : Int) :
    Calls Tryz.prog 60 #[.pointer (some ⟨t, 0, none⟩), .int .i64 e] w (RKillP t lo S m T e w) := by
  have HH := Lib.hid H
  have HI := Lib.hid hI
  have hl := hI.ek
  have htk := hI.tk
  have hL := hI.l12
  obtain ⟨a, c, q, h1, h2, h3, h4, h5, h6, h7⟩ := H
  unfold RKillP Tab.kill
  rw [entE_T]
  have H1 := Lib.hid h1
  have H2 := Lib.hid h2
  cases hx : entE T.E e with
  | none =>
    have HX := Lib.hid hx
    clear h1 h2 h3 h4 h5 h6 h7 hx hI
    go_enter Tryz.func60, Tryz.ntmps60
    go_wp2_with fail
    refine (rthere_any t lo c T.L a T.E _ _ _ _ _ _ e _ H1.out H2.out (by omega)).mono ?_
    rintro r w1 ⟨rfl, rfl⟩
    rw [HX.out]
    simp only [Option.isSome_none]
    go_wp2_with fail
    go_ret
    exact ⟨rfl, HH.out, Keeps.refl _ _⟩
  | some x =>
    obtain ⟨h0, hx2, h9, h10⟩ := entE_some hx
    obtain ⟨g, rfl⟩ := h2.shape (by omega)
    obtain ⟨k, rfl⟩ : ∃ k : Nat, e = (k : Int) := ⟨e.toNat, by omega⟩
    have hxk : T.E[k]? = some x := by simpa using hx2
    have c2 : w.cell? ⟨t, 2, none⟩ = some (.slice (some ⟨q, 0, none⟩) (2 ^ T.L) (2 ^ T.L)) := cell_has h1 (i := 2) rfl
    have gt : t ∉ [g] := by have := h2.notin h1 (by decide); simpa [blk] using this
    have hq2 : q ∉ [g] := by have := ref_noent h3 h2; simpa [blk] using this
    have hqt := ref_ne h3 h1 (by decide)
    obtain ⟨M, hM⟩ := ex_hid (2 ^ T.L)
    have hM1 : M ≤ 1048576 := by rw [hM.out]; exact pow_le (by omega)
    rw [← hM.out] at c2
    have HX := Lib.hid hx
    have H3 := Lib.hid h3
    have XK := Lib.hid hxk
    have XL := Lib.hid h9
    have HS := Lib.hid (And.intro h4 (And.intro h5 (And.intro h6 h7)))
    have GQ := Lib.hid (And.intro gt (And.intro hq2 hqt))
    have k0' : (0 : Int) ≤ (k : Int) := by omega
    clear h1 h2 h3 h4 h5 h6 h7 hx hx2 h9 h0 hxk gt hq2 hqt hI
    go_enter Tryz.func60, Tryz.ntmps60
    go_wp2_with fail
    refine (rthere_any t lo c T.L _ T.E _ _ _ _ _ _ k _ H1.out H2.out (by omega)).mono ?_
    rintro r w1 ⟨rfl, rfl⟩
    rw [HX.out]
    simp only [Option.isSome_some]
    go_wp2_with fail
    go_loopw [5] (fun i wr => ∃ j : Nat, j ≤ M ∧ i = .int .i64 j ∧ RefAt q (2 ^ T.L) (rkV T.V k j) wr ∧ Keeps [q] w wr) (fun i _ => M - (intOf i).toNat)
    case atStart => exact ⟨0, by omega, rfl, ref_congr H3.out (fun i _ => by simp [rkV]), Keeps.refl _ _⟩
    case round =>
      obtain ⟨j, hj, rfl, hq, hK⟩ := hrel
      have hj0 : (0 : Int) ≤ (j : Int) := by omega
      have HQ := Lib.hid hq
      have HK := Lib.hid hK
      have c2 := hK.cell c2 (by simp; exact fun e => GQ.out.2.2 e.symm)
      by_cases hlt : j < M
      · have hlt' : (j : Int) < (M : Int) := by omega
        have cq : wr.cell? ⟨q, j, none⟩ = some (.int .i64 (T.V j)) := by
          have := cell_has hq (numA_get (show j < 2 ^ T.L by rw [← hM.out]; exact hlt))
          rwa [show rkV T.V k j j = T.V j by simp [rkV]] at this
        have fq := free_of_has hq j
        obtain ⟨v, hv⟩ := ex_hid (T.V j)
        rw [← hv.out] at cq
        have st : ∀ i, i < 2 ^ T.L → i ≠ j → rkV T.V k j i = rkV T.V k (j + 1) i := fun i _ hi => by
          unfold rkV
          have : (i < j ∧ T.V i = k) ↔ (i < j + 1 ∧ T.V i = k) := by constructor <;> (rintro ⟨h1, h2⟩; exact ⟨by omega, h2⟩)
          simp only [this]
        have ST := Lib.hid st
        clear hq hK st
        by_cases hve : v = k
        · have hvb : (v == (k : Int)) = true := by simpa using hve
          go_wp2_with fail
          go_roundw
          case rel =>
            refine ⟨j + 1, by omega, by go_num, ?_, HK.out.setCell (.inr (by simp)) _⟩
            have hb := has_setCell HQ.out j (.int .i64 (-2))
            rw [numA_set] at hb
            refine ref_congr hb (fun i hi => ?_)
            by_cases hij : i = j
            · subst hij
              rw [show rkV T.V k (i + 1) i = -2 by unfold rkV; rw [if_pos ⟨by omega, by rw [← hv.out]; exact hve⟩]]
              simp [putN]
            · rw [← ST.out i hi hij]; simp [putN, hij]
          case measure => simp [intOf]; omega
        · have hvb : (v == (k : Int)) = false := by simpa using hve
          go_wp2_with fail
          go_roundw
          case rel =>
            refine ⟨j + 1, by omega, by go_num, ?_, HK.out⟩
            refine ref_congr HQ.out (fun i hi => ?_)
            by_cases hij : i = j
            · subst hij
              unfold rkV
              rw [if_neg (by omega), if_neg (fun h => hve (by rw [hv.out]; exact h.2))]
            · exact ST.out i hi hij
          case measure => simp [intOf]; omega
      · obtain rfl : j = M := by omega
        have hge : ¬ (j : Int) < (j : Int) := by omega
        have b2 := hK.has H1.out (by simp; exact fun e => GQ.out.2.2 e.symm)
        have R2 := H2.out.keeps hK (by simp [blk]; have := GQ.out.2.1; simp at this; exact fun e => this e.symm)
        have e0 : wr.cell? ⟨t, 0, none⟩ = some (.slice (some ⟨g, 0, none⟩) T.E.length c) := cell_has b2 (i := 0) rfl
        have hel := (List.getElem?_eq_some_iff.1 XK.out).1
        obtain ⟨n, hn⟩ := ex_hid T.E.length
        rw [← hn.out] at e0
        have hel' : (k : Int) < (n : Int) := by have := hn.out; omega
        have hl3 := EntRow.lay R2 hel noE
        have hth : wr.there g (k * 5) 5 := fun j hj => ⟨R2.some_cells hel j hj, R2.free _⟩
        obtain ⟨w3, hw3⟩ : ∃ w3, wr.setCells g (k * 5) noE.cells = w3 := ⟨_, rfl⟩
        rw [hw3] at hl3
        have b3 := hl3.2.has b2 GQ.out.1
        have x3 : w3.cell? ⟨t, 3, none⟩ = some (.int .i64 (liveN T.E : Nat)) := cell_has b3 (i := 3) rfl
        have x6 : w3.cell? ⟨t, 6, none⟩ = some (.int .i64 T.turns) := cell_has b3 (i := 6) rfl
        have f3 := free_of_has b3 3
        have f6 := free_of_has b3 6
        have lk := liveN_kill XK.out XL.out
        have lvl := liveN_le T.E
        obtain ⟨l0, hl0⟩ := ex_hid (liveN T.E)
        rw [← hl0.out] at x3 lvl
        have B3 := Lib.hid b3
        have R3 := Lib.hid hl3.1
        have K3 := Lib.hid hl3.2
        have Q3 := Lib.hid (hl3.2.has HQ.out GQ.out.2.1)
        have LK := Lib.hid lk
        have W3 := Lib.hid hw3
        clear hw3
        have hl1 : 1 ≤ l0 := by rw [hl0.out, lk]; omega
        have hl2 : l0 ≤ 1000 := by omega
        clear hq hK b2 R2 hl3 b3 lk
        go_upto_region 8 with (fail)
        go_upto_region 9 with (refine wpList_store_mid (op := ⟨none, .store 99 (.tmp 43) (.tmp 42), _, _, _, _⟩) rfl 99 (.tmp 43) (.tmp 42) rfl g (k * 5) noE.cells.toArray ?hx ?hy hth (by kernel_rfl) (all_oneCell_toArray (cs := noE.cells) noE.one) ?_)
        case hy => rfl
        rw [W3.out]
        go_wp2_with fail
        go_ret
        have kt : Keeps [t] w3 ((w3.setCell ⟨t, 3, none⟩ (.int .i64 ((l0 : Int) - 1))).setCell ⟨t, 6, none⟩ (.int .i64 ((T.turns : Int) + 1))) := ((Keeps.refl _ _).setCell (.inr (by simp)) _).setCell (.inr (by simp)) _
        obtain ⟨s4, s5, s6, s7⟩ := HS.out
        try simp only [blk] at s6
        refine ⟨rfl, ?_, ((HK.out.mono ?_).trans (K3.out.mono ?_)).trans (kt.mono ?_)⟩
        · try simp only [Int.toNat_natCast]
          refine ⟨some ⟨g, 0, none⟩, c, q, ?_, R3.out.keeps kt (by simp [blk]; have := GQ.out.1; simp at this; exact fun e => this e.symm), ?_, s4, s5, s6, fun y hy => ⟨(s7 y hy).1, ?_⟩⟩
          · have h := has_setCell (has_setCell B3.out 3 (.int .i64 ((l0 : Int) - 1))) 6 (.int .i64 ((T.turns : Int) + 1))
            unfold rtabO at h
            simp only [List.setIfInBounds_toArray, List.set_cons_zero, List.set_cons_succ] at h
            simp only [List.length_set]
            have e9 : (((liveN (T.E.set k noE) : Nat)) : Int) = (l0 : Int) - 1 := by have := LK.out; have := hl0.out; omega
            rw [e9]
            exact h
          · refine ref_congr (kt.has Q3.out (by simp; exact GQ.out.2.2)) (fun i hi => ?_)
            have h := rkV_kill HI.out.ci XK.out XL.out i hi
            rwa [← hM.out] at h
          · have z1 := HK.out.size
            have z2 := K3.out.size
            have z3 := kt.size
            have := (s7 y hy).2
            omega
        · intro y hy; simp at hy; subst hy; exact s5
        · intro y hy; exact s6 y hy
        · intro y hy; simp at hy; subst hy; exact s4
end Go.Proofs.YtajmfenfajbakaaGreat
end
