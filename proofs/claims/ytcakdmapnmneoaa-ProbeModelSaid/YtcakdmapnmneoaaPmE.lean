/- ProbeModel: the model's find, whoever is asked (chapter 8's laws). -/
import Derived.Test.YtcakdmapnmneoaaPmD
namespace Go.Proofs.Ytcakdmapnmneoaa
open Go.RowKit
set_option linter.unusedVariables false
set_option linter.unusedSimpArgs false

def callO (c : Ca8) : Obj := .cells #[.int .i64 c.g, .int .i64 c.h, .int .i64 c.k, .int .i64 c.v] 71 (0, 0)
/-- What an act does, on the model. -/
def ActM (w0 : World) (mo : Nat) (most same : Int) (acv : Value) (acts : List Ac8) : Prop :=
  ∀ (M : List Nat) (s : Ms8) (w : World), MdAt w0.heap.size mo M most same acv false s w → Keeps [] w0 w → s.L.length ≤ s.V → s.V + acts.length ≤ 100 → 0 < s.A.length → s.A.length ≤ 1000000 →
    Calls Try.prog 85 #[.pointer (some ⟨mo, 0, none⟩)] w fun r w' => r = .returned (.tuple #[]) ∧ Md8 w0.heap.size mo M most same acv false (acts8 (one8 same) most acts s) w w'
def oI : Option Nat → Int
  | some i => i
  | none => -1
/-- What a find comes to. -/
def FoundM (res : Option (Ms8 × Option Nat)) (r : Ending) (R : Ms8 → Prop) : Prop :=
  (∃ s' o, res = some (s', o) ∧ r = .returned (.tuple #[.int .i64 (oI o), .bool true]) ∧ R s') ∨ (res = none ∧ r = .returned (.tuple #[.int .i64 (-1), .bool false]) ∧ ∃ s', R s')
/-- Ahead of a scan. -/
def FindJ (w0 : World) (mo : Nat) (M : List Nat) (most same : Int) (acv : Value) (inner : Bool) (acts : List Ac8) (ask : Ms8 → Int → Ms8) (C B : Nat) (h k : Int) (res : Option (Ms8 × Option Nat)) (w1 : World) (j : Nat) (st : Ms8) (Mt : List Nat) (wr : World) : Prop :=
  res = find8 ask (one8 same) h k (20 - j) st ∧ Bd8 acts C (B + j * 100) st ∧ MdAt w0.heap.size mo Mt most same acv inner st wr ∧ Keeps M w1 wr ∧ Grew M w1 Mt
theorem scanL_step (ask : Ms8 → Int → Ms8) (one : Int → Int → Bool) (h k : Int) {L : List Pr8} {i : Nat} {x : Pr8} (hx : L[i]? = some x) (s : Ms8) :
    scanL ask one h k (L.drop i) i s = if x.h = h then (if x.k = k then .hit s i else if (ask s x.k).V = s.V then (if one x.k k = true then .hit (ask s x.k) i else scanL ask one h k (L.drop (i + 1)) (i + 1) (ask s x.k)) else .anew (ask s x.k)) else scanL ask one h k (L.drop (i + 1)) (i + 1) s := by
  obtain ⟨hi, rfl⟩ := List.getElem?_eq_some_iff.1 hx
  rw [List.drop_eq_getElem_cons hi]
  rfl
theorem meas8 {n q : Nat} (h : q < n) : n - (intOf (.int .i64 ((q : Int) + 1))).toNat < n - (intOf (.int .i64 (q : Int))).toNat := by simp [intOf]; omega
/-- All that was asked lies behind. -/
theorem grew_then8 {M M2 M3 : List Nat} {w1 wx w : World} (g : Grew M w1 M2) (k : w1.heap.size ≤ wx.heap.size) (g3 : Grew M2 wx M3) : Grew M w1 M3 := fun x hx => by
  rcases g3 x hx with h | h
  · exact g x h
  · exact .inr (by omega)
theorem keeps_then8 {M M2 : List Nat} {w1 wx wz : World} (k : Keeps M w1 wx) (g : Grew M w1 M2) (k3 : Keeps M2 wx wz) : Keeps M w1 wz := k.then k3 (fun x hx => (g x hx).elim .inr .inl)
theorem asked8 {lo mo : Nat} {la aa : Option Addr} {lc ac ga cap : Nat} {most same : Int} {acv : Value} {inner : Bool} {s : Ms8} {x : Int} {w W5 : World}
    (m1 : w.heap[mo]? = some (modO (.slice la s.L.length lc) most s.V (.slice aa s.A.length ac) acv same inner)) (p1 : P8Row lo la lc s.L w) (q1 : A8Row lo aa ac s.A w) (l1 : lo ≤ mo)
    (k5 : Keeps (blk aa) w W5) (v5 : A8Row lo (some ⟨ga, 0, none⟩) cap (s.A ++ [x]) W5) (g5 : ga ∈ blk aa ∨ w.heap.size ≤ ga) :
    MdAt lo mo (mo :: (blk la ++ [ga])) most same acv inner ⟨s.L, s.V, s.A ++ [x]⟩ (W5.setCell ⟨mo, 3, none⟩ (.slice (some ⟨ga, 0, none⟩) (s.A.length + 1) cap)) ∧ Keeps (mo :: (blk la ++ blk aa)) w (W5.setCell ⟨mo, 3, none⟩ (.slice (some ⟨ga, 0, none⟩) (s.A.length + 1) cap)) ∧ Grew (mo :: (blk la ++ blk aa)) w (mo :: (blk la ++ [ga])) := by
  have hmo := lt_of_block m1
  have nml : mo ∉ blk la := own_notin8 p1 m1 (by decide)
  have nma : mo ∉ blk aa := own_notin8 q1 m1 (by decide)
  have dis := own_disj8 p1 q1 (by decide)
  have k6 : Keeps [mo] W5 (W5.setCell ⟨mo, 3, none⟩ (.slice (some ⟨ga, 0, none⟩) (s.A.length + 1) cap)) := (Keeps.refl _ _).setCell (.inr (by simp)) _
  have hgm : ga ≠ mo := fun e => by
    rcases g5 with h | h
    · rw [e] at h; exact nma h
    · omega
  refine ⟨⟨la, lc, some ⟨ga, 0, none⟩, cap, ?_, own_keeps8 (own_keeps8 p1 k5 dis) k6 (fun y hy h => by simp at h; subst h; exact nml hy), own_keeps8 v5 k6 (fun y hy h => by simp [blk] at hy h; subst hy; exact hgm h), by simp [blk], l1⟩, (k5.mono (fun y hy => by simp [hy])).trans (k6.mono (by simp)), fun y hy => ?_⟩
  · rw [has_A8 (k5.has m1 nma) (.slice (some ⟨ga, 0, none⟩) (s.A.length + 1) cap), List.length_append]
    rfl
  · simp only [List.mem_cons, List.mem_append, List.not_mem_nil, or_false] at hy ⊢
    rcases hy with rfl | hy | rfl
    · exact .inl (.inl rfl)
    · exact .inl (.inr (.inl hy))
    · rcases g5 with h | h
      · exact .inl (.inr (.inr h))
      · exact .inr h
set_option maxRecDepth 100000 in
set_option maxHeartbeats 8000000 in
theorem find_any8 (w0 : World) (mo : Nat) (M : List Nat) (most same : Int) (acv : Value) (inner : Bool) (acts : List Ac8) (ask : Ms8 → Int → Ms8) (A : Asks8 acts ask)
    (hin : inner = true → ask = askIn) (hout : inner = false → ask = askO (one8 same) most acts ∧ ActM w0 mo most same acv acts)
    (C B : Nat) (hC : C + 2 * acts.length ≤ 100) (hB : inner = false → B + 2100 ≤ 900000) (c : Ca8) (s : Ms8) (w : World) (H : MdAt w0.heap.size mo M most same acv inner s w) (K0 : Keeps [] w0 w) (hb : Bd8 acts C B s) :
    Calls Try.prog 54 #[.pointer (some ⟨mo, 0, none⟩), .agg #[.int .i64 c.g, .int .i64 c.h, .int .i64 c.k, .int .i64 c.v]] w fun r w' => FoundM (find8 ask (one8 same) c.h c.k 20 s) r (fun s' => Md8 w0.heap.size mo M most same acv inner s' w w') := by
  obtain ⟨cg, ch, ck, cv⟩ := c
  have HM := Lib.hid H
  have HK0 := Lib.hid K0
  have HBD := Lib.hid hb
  have AA := Lib.hid A
  have HIN := Lib.hid hin
  have HOUT := Lib.hid hout
  obtain ⟨res, hres⟩ := ex_hid (find8 ask (one8 same) ch ck 20 s)
  simp only
  rw [← hres.out]
  clear H K0 hb A hin hout
  go_enter Try.func54, Try.ntmps54
  go_upto_region 1 with (fail)
  refine wp_gen (fun V => V.heap[w.heap.size]? = some (callO ⟨cg, ch, ck, cv⟩) ∧ Keeps [] w V) ⟨has_new _ _, (Keeps.refl [] w).alloc _⟩ ?_
  rintro w1 ⟨b1, k1⟩
  obtain ⟨bx, hbx⟩ := ex_hid w.heap.size
  rw [← hbx.out] at b1 ⊢
  have B1 := Lib.hid b1
  have K1 := Lib.hid k1
  have J0 := Lib.hid (show FindJ w0 mo M most same acv inner acts ask C B ch ck res w1 0 s M w1 from ⟨hres.out, HBD.out.mono (Nat.le_refl _) (by omega), HM.out.keeps k1 (by simp), Keeps.refl _ _, fun x hx => .inl hx⟩)
  have NB := Lib.hid (show bx ∉ M from fun hx => by have := (HM.out.foot _ hx).2; have := hbx.out; omega)
  have FIN : Hid (∀ (s' : Ms8) (M' : List Nat) (W : World), MdAt w0.heap.size mo M' most same acv inner s' W → Keeps M w1 W → Grew M w1 M' → Md8 w0.heap.size mo M most same acv inner s' w W) := Lib.hid (fun s' M' W g1 g2 g3 => ⟨M', g1, (K1.out.mono (by simp)).trans g2, fun x hx => by
    rcases g3 x hx with h9 | h9
    · exact .inl h9
    · have := K1.out.size; exact .inr (by omega)⟩)
  have K01 : Hid (∀ W, Keeps M w1 W → Keeps [] w0 W) := Lib.hid (fun W k => (HK0.out.trans K1.out).then k (fun x hx => .inl (HM.out.foot x hx).1))
  clear b1 k1
  go_wp2_with fail
  go_loopw [6] (fun z6 wr => ∃ (j : Nat) (st : Ms8) (Mt : List Nat), j ≤ 20 ∧ z6 = .int .i64 j ∧ Hid (FindJ w0 mo M most same acv inner acts ask C B ch ck res w1 j st Mt wr)) (fun z6 _ => 20 - (intOf z6).toNat)
  case atStart => exact ⟨0, s, M, by omega, rfl, J0⟩
  case round =>
    obtain ⟨j, st, Mt, hj, rfl, JJ⟩ := hrel
    clear J0
    by_cases hlt : j < 20
    · have j1 : (j : Int) < 20 := by omega
      have j0 : (0 : Int) ≤ (j : Int) := by omega
      have y2 : wr.cell? ⟨mo, 2, none⟩ = some (.int .i64 st.V) := by obtain ⟨la3, lc3, aa3, ac3, m3, _⟩ := JJ.out.2.2.1; exact cell_has m3 (i := 2) rfl
      obtain ⟨n, hn⟩ := ex_hid st.L.length
      have hn100 : n ≤ 100 := by have h1 := JJ.out.2.1.le; have h2 := JJ.out.2.1.l; have h3 := hn.out; omega
      have R0 := Lib.hid (show res = rest8 ask (one8 same) ch ck (19 - j) (scanL ask (one8 same) ch ck (st.L.drop 0) 0 st) from by
        rw [JJ.out.1, show 20 - j = (19 - j) + 1 by omega, find8_succ]; rfl)
      go_wp2_with fail
      obtain ⟨WJ, hWJ⟩ : ∃ x, x = wr := ⟨_, rfl⟩
      subst hWJ
      go_loopw [8, 9, 10] (fun z8 z9 z10 wx => ∃ (s2 : Ms8) (M2 : List Nat) (i : Nat), i ≤ n ∧ z10 = .int .i64 i ∧ Hid (MdAt w0.heap.size mo M2 most same acv inner s2 wx ∧ Keeps M w1 wx ∧ Grew M w1 M2 ∧ Bd8 acts C (B + j * 100 + i) s2) ∧ ((z8 = .int .i64 (-1) ∧ z9 = .bool false ∧ Hid (s2.V = st.V ∧ s2.L = st.L ∧ res = rest8 ask (one8 same) ch ck (19 - j) (scanL ask (one8 same) ch ck (st.L.drop i) i s2))) ∨ (z8 = .int .i64 (-1) ∧ z9 = .bool true ∧ Hid (res = find8 ask (one8 same) ch ck (19 - j) s2)) ∨ (∃ a : Nat, z8 = .int .i64 a ∧ z9 = .bool false ∧ Hid (res = some (s2, some a))))) (fun _ _ z10 _ => n - (intOf z10).toNat)
      case atStart => exact ⟨st, Mt, 0, by omega, rfl, Lib.hid ⟨JJ.out.2.2.1, JJ.out.2.2.2.1, JJ.out.2.2.2.2, JJ.out.2.1.mono (Nat.le_refl _) (by omega)⟩, .inl ⟨rfl, rfl, Lib.hid ⟨rfl, rfl, R0.out⟩⟩⟩
      case round =>
        obtain ⟨s2, M2, i, hi, rfl, SS, hcase⟩ := hrel
        clear y2 R0 JJ
        have i0 : (0 : Int) ≤ (i : Int) := by omega
        rcases hcase with ⟨rfl, rfl, hA⟩ | ⟨rfl, rfl, hB2⟩ | ⟨at_, rfl, rfl, hC2⟩
        · have HV2 := Lib.hid hA.out.1
          have HL2 := Lib.hid hA.out.2.1
          have RES2 := Lib.hid hA.out.2.2
          clear hA
          obtain ⟨la, lc, aa, ac, m1, p1, q1, rfl, l1⟩ := SS.out.1
          rw [HL2.out, ← hn.out] at m1
          have M1 := Lib.hid m1
          have P1 := Lib.hid p1
          have Q1 := Lib.hid q1
          have y0 : wr.cell? ⟨mo, 0, none⟩ = some (.slice la n lc) := cell_has m1 (i := 0) rfl
          have y6 : wr.cell? ⟨mo, 6, none⟩ = some (.bool inner) := cell_has m1 (i := 6) rfl
          by_cases hlt : i < n
          · have i1 : (i : Int) < (n : Int) := by omega
            have e1 : wr.cell? ⟨bx, 1, none⟩ = some (.int .i64 ch) := cell_has (SS.out.2.1.has B1.out NB.out) (i := 1) rfl
            have e2 : wr.cell? ⟨bx, 2, none⟩ = some (.int .i64 ck) := cell_has (SS.out.2.1.has B1.out NB.out) (i := 2) rfl
            obtain ⟨g, rfl⟩ := own_shape8 p1 (by rw [HL2.out, ← hn.out]; omega)
            obtain ⟨x, hx⟩ : ∃ x, st.L[i]? = some x := ⟨_, List.getElem?_eq_getElem (by rw [← hn.out]; exact hlt)⟩
            have c0 : wr.cell? ⟨g, i * 3, none⟩ = some (.int .i64 x.h) := P1.out.cell (by rw [HL2.out]; exact hx) 0 (by omega)
            have c1 : wr.cell? ⟨g, i * 3 + 1, none⟩ = some (.int .i64 x.k) := P1.out.cell (by rw [HL2.out]; exact hx) 1 (by omega)
            obtain ⟨xh, xk, xv⟩ := x
            have HX := Lib.hid hx
            have hi2 := hi
            clear m1 p1 q1 hx hi
            go_upto_region 10 with (fail)
            by_cases hh : xh = ch
            · have bh : (xh != ch) = false := by simpa using hh
              have HH := Lib.hid hh
              clear hh
              go_region_held3 (fun w' => w'.cell? ⟨mo, 0, none⟩ = some (.slice (some ⟨g, 0, none⟩) n lc) ∧ w'.cell? ⟨g, i * 3, none⟩ = some (.int .i64 xh) ∧ w'.cell? ⟨bx, 1, none⟩ = some (.int .i64 ch)) (go_keep) (fail)
              go_upto_region 11 with (fail)
              by_cases hk : xk = ck
              · have bk : (xk == ck) = true := by simpa using hk
                have HKY := Lib.hid hk
                clear hk
                go_region_held3 (fun w' => w'.cell? ⟨mo, 0, none⟩ = some (.slice (some ⟨g, 0, none⟩) n lc) ∧ w'.cell? ⟨g, i * 3 + 1, none⟩ = some (.int .i64 xk) ∧ w'.cell? ⟨bx, 2, none⟩ = some (.int .i64 ck)) (go_keep) (fail)
                go_wp2_with fail
                go_ret2
                have kd : Keeps [] wr wr.drew.drew := (Keeps.refl [] wr).drew.drew
                refine .inl ⟨s2, some i, ?_, rfl, FIN.out s2 _ _ (SS.out.1.keeps kd (by simp)) (SS.out.2.1.trans (kd.mono (by simp))) SS.out.2.2.1⟩
                rw [RES2.out, scanL_step ask (one8 same) ch ck HX.out, if_pos HH.out, if_pos HKY.out]; rfl
              · have bk : (xk == ck) = false := by simpa using hk
                have HKY := Lib.hid hk
                clear hk
                go_region_held3 (fun w' => w'.cell? ⟨mo, 0, none⟩ = some (.slice (some ⟨g, 0, none⟩) n lc) ∧ w'.cell? ⟨g, i * 3 + 1, none⟩ = some (.int .i64 xk) ∧ w'.cell? ⟨bx, 2, none⟩ = some (.int .i64 ck)) (go_keep) (fail)
                cases hinn : inner
                · rw [hinn] at y6
                  have ni : (!false) = true := rfl
                  have hB' := hB hinn
                  have y3 : wr.cell? ⟨mo, 3, none⟩ = some (.slice aa s2.A.length ac) := cell_has M1.out (i := 3) rfl
                  obtain ⟨na, hna⟩ := ex_hid s2.A.length
                  rw [← hna.out] at y3
                  have kd : Keeps [] wr wr.drew.drew := (Keeps.refl [] wr).drew.drew
                  have hba := SS.out.2.2.2.a
                  have hsz := (SS.out.1.foot mo (by simp)).2
                  have hsz2 := (SS.out.1.foot mo (by simp)).1
                  obtain ⟨gA, cap, W5, run5, v5, k5, g5, l5⟩ := a8_append w0.heap.size aa ac s2.A xk (wr.drew.drew.alloc (.cells #[.int .i64 xk] 3)) wr.heap.size (0, 0) (own_keeps8 Q1.out (kd.alloc _) (by simp)) (has_new wr.drew.drew _) (by omega) (by simp; omega)
                  rw [← hna.out] at run5
                  have RUN := Lib.hid run5
                  have k5' : Keeps (blk aa) wr W5 := ((kd.alloc _).mono (by simp)).trans k5
                  have f3 : W5.frozen? ⟨mo, 3, none⟩ = false := free_of_has (k5'.has M1.out (own_notin8 Q1.out M1.out (by decide))) 3
                  have y3' : W5.cell? ⟨mo, 3, none⟩ = some (.slice aa na ac) := k5'.cell y3 (own_notin8 Q1.out M1.out (by decide))
                  have M1f := M1.out
                  rw [hn.out, ← HL2.out] at M1f
                  obtain ⟨a1, a2, a3⟩ := asked8 (x := xk) M1f P1.out Q1.out l1 k5' v5 (g5.imp id (fun h => by rw [h]; simp))
                  rw [← hna.out] at a1 a2
                  have A1 := Lib.hid a1
                  have A2 := Lib.hid a2
                  have A3 := Lib.hid a3
                  have BA := Lib.hid hba
                  obtain ⟨s3, hs3⟩ := ex_hid (ask s2 xk)
                  have ES := Lib.hid (show acts8 (one8 same) most acts ⟨s2.L, s2.V, s2.A ++ [xk]⟩ = s3 from by rw [hs3.out, (HOUT.out hinn).1]; rfl)
                  have ACT := Lib.hid (HOUT.out hinn).2
                  have EZ := hs3
                  have HINN := Lib.hid hinn
                  clear run5 v5 k5 g5 l5 M1f a1 a2 a3 hba hsz hsz2 kd k5' hinn
                  go_upto_region 16 with (at_builtin; refine wpList_append_run rfl _ _ 22 rfl _ _ rfl rfl _ _ RUN.out ?_)
                  obtain ⟨w4, hw4⟩ : ∃ x, x = W5.setCell ⟨mo, 3, none⟩ (.slice (some ⟨gA, 0, none⟩) (na + 1) cap) := ⟨_, rfl⟩
                  rw [← hw4]
                  have A1' := Lib.hid (show MdAt w0.heap.size mo (mo :: (blk (some (⟨g, 0, none⟩ : Addr)) ++ [gA])) most same acv false ⟨s2.L, s2.V, s2.A ++ [xk]⟩ w4 from by rw [hw4, ← HINN.out]; exact A1.out)
                  have A2' := Lib.hid (show Keeps (mo :: (blk (some (⟨g, 0, none⟩ : Addr)) ++ blk aa)) wr w4 from by rw [hw4]; exact A2.out)
                  clear hw4 f3 y3 y3' y0 y6 e1 e2 c0 c1
                  have K14 := Lib.hid (keeps_then8 SS.out.2.1 SS.out.2.2.1 A2'.out)
                  have G14 := Lib.hid (grew_then8 (w := w) SS.out.2.2.1 SS.out.2.1.size A3.out)
                  have CL := Lib.hid (ACT.out _ _ w4 A1'.out (K01.out _ K14.out) (SS.out.2.2.2.l) (by have := SS.out.2.2.2.le; show s2.V + _ ≤ _; omega) (by simp) (by have := BA.out; simp; omega))
                  go_upto_region 17 with (go_at_call 85; refine (CL.out).mono ?_; rintro r wz ⟨rfl, M3, m9, k9, g9⟩; rw [ES.out] at m9; have MZ := Lib.hid (show MdAt w0.heap.size mo M3 most same acv inner s3 wz from by rw [HINN.out]; exact m9); have KZ := Lib.hid (keeps_then8 K14.out G14.out k9); have GZ := Lib.hid (grew_then8 (w := w) G14.out K14.out.size g9); clear m9 k9 g9)
                  have DZ := Lib.hid (show Bd8 acts C (B + j * 100 + (i + 1)) s3 from by rw [EZ.out]; exact AA.out.bd s2 xk C _ SS.out.2.2.2)
                  clear CL A1 A2 A1' A2' A3 K14 G14 RUN
                  have y2 : wz.cell? ⟨mo, 2, none⟩ = some (.int .i64 s3.V) := by obtain ⟨la3, lc3, aa3, ac3, m3, _⟩ := MZ.out; exact cell_has m3 (i := 2) rfl
                  have y5 : wz.cell? ⟨mo, 5, none⟩ = some (.int .i64 same) := by obtain ⟨la3, lc3, aa3, ac3, m3, _⟩ := MZ.out; exact cell_has m3 (i := 5) rfl
                  have e2 : wz.cell? ⟨bx, 2, none⟩ = some (.int .i64 ck) := cell_has (KZ.out.has B1.out NB.out) (i := 2) rfl
                  by_cases hv : s3.V = st.V
                  · have bv : ((s3.V : Int) != (st.V : Int)) = false := by simp [hv]
                    have HV3 := Lib.hid hv
                    have HL3 := Lib.hid (show s3.L = st.L from by rw [EZ.out] at hv ⊢; rw [AA.out.same _ _ (hv.trans HV2.out.symm), HL2.out])
                    have RES := Lib.hid (show res = rest8 ask (one8 same) ch ck (19 - j) (if one8 same xk ck = true then .hit (ask s2 xk) i else scanL ask (one8 same) ch ck (st.L.drop (i + 1)) (i + 1) (ask s2 xk)) from by
                      rw [RES2.out, scanL_step ask (one8 same) ch ck HX.out, if_pos HH.out, if_neg HKY.out, if_pos (by rw [← EZ.out, HV3.out, HV2.out])])
                    clear hv
                    go_upto_region 18 with (fail)
                    have nb : (!false) = true := rfl
                    by_cases ho : one8 same xk ck = true
                    · have HO := Lib.hid ho
                      go_wp2_with (refine (one_any8 mo same xk ck wz y5).mono ?_; rintro r w9 ⟨rfl, rfl⟩; rw [HO.out])
                      go_roundw
                      case rel =>
                        refine ⟨s3, M3, i + 1, by omega, by go_num, Lib.hid ⟨MZ.out, KZ.out, GZ.out, DZ.out⟩, .inr (.inr ⟨i, rfl, rfl, Lib.hid ?_⟩)⟩
                        rw [RES.out, EZ.out, if_pos HO.out]; rfl
                      case measure => exact meas8 hlt
                    · have HO := Lib.hid (show one8 same xk ck = false from by simpa using ho)
                      go_wp2_with (refine (one_any8 mo same xk ck wz y5).mono ?_; rintro r w9 ⟨rfl, rfl⟩; rw [HO.out])
                      go_roundw
                      case rel =>
                        refine ⟨s3, M3, i + 1, by omega, by go_num, Lib.hid ⟨MZ.out, KZ.out, GZ.out, DZ.out⟩, .inl ⟨rfl, rfl, Lib.hid ⟨HV3.out, HL3.out, ?_⟩⟩⟩
                        rw [RES.out, EZ.out, if_neg (by rw [HO.out]; simp)]
                      case measure => exact meas8 hlt
                  · have bv : ((s3.V : Int) != (st.V : Int)) = true := by simp; omega
                    have RES := Lib.hid (show res = find8 ask (one8 same) ch ck (19 - j) s3 from by
                      rw [RES2.out, scanL_step ask (one8 same) ch ck HX.out, if_pos HH.out, if_neg HKY.out, if_neg (by rw [← EZ.out, HV2.out]; exact hv), ← EZ.out]; rfl)
                    have HV3 := Lib.hid hv
                    clear hv
                    go_upto_region 18 with (fail)
                    have nb : (!true) = false := rfl
                    go_wp2_with fail
                    go_roundw
                    case rel => exact ⟨s3, M3, i + 1, by omega, by go_num, Lib.hid ⟨MZ.out, KZ.out, GZ.out, DZ.out⟩, .inr (.inl ⟨rfl, rfl, RES⟩)⟩
                    case measure => exact meas8 hlt
                · rw [hinn] at y6
                  have ni : (!true) = false := rfl
                  obtain ⟨s3, hs3⟩ := ex_hid (ask s2 xk)
                  have ES : Hid (s3 = s2) := Lib.hid (by rw [hs3.out, HIN.out hinn]; rfl)
                  have M3h : ∃ M3, M3 = mo :: (blk (some (⟨g, 0, none⟩ : Addr)) ++ blk aa) := ⟨_, rfl⟩
                  obtain ⟨M3, hM3⟩ := M3h
                  have kd : Keeps [] wr wr.drew.drew := (Keeps.refl [] wr).drew.drew
                  have MZ0 : MdAt w0.heap.size mo M3 most same acv inner s3 wr.drew.drew := by rw [ES.out, hM3]; exact SS.out.1.keeps kd (by simp)
                  have KZ0 : Keeps M w1 wr.drew.drew := SS.out.2.1.trans (kd.mono (by simp))
                  have GZ := Lib.hid (show Grew M w1 M3 from by rw [hM3]; exact SS.out.2.2.1)
                  have DZ := Lib.hid (show Bd8 acts C (B + j * 100 + (i + 1)) s3 from by rw [ES.out]; exact SS.out.2.2.2.mono (Nat.le_refl _) (by omega))
                  have EZ := hs3
                  have hz : ∃ wz, wz = wr.drew.drew := ⟨_, rfl⟩
                  go_upto_region 17 with (fail)
                  obtain ⟨wz, hwz⟩ := hz
                  rw [← hwz] at MZ0 KZ0 ⊢
                  have MZ := Lib.hid MZ0
                  have KZ := Lib.hid KZ0
                  clear MZ0 KZ0 hwz hM3 kd y0 y6 e1 e2 c0 c1 hinn
                  have y2 : wz.cell? ⟨mo, 2, none⟩ = some (.int .i64 s3.V) := by obtain ⟨la3, lc3, aa3, ac3, m3, _⟩ := MZ.out; exact cell_has m3 (i := 2) rfl
                  have y5 : wz.cell? ⟨mo, 5, none⟩ = some (.int .i64 same) := by obtain ⟨la3, lc3, aa3, ac3, m3, _⟩ := MZ.out; exact cell_has m3 (i := 5) rfl
                  have e2 : wz.cell? ⟨bx, 2, none⟩ = some (.int .i64 ck) := cell_has (KZ.out.has B1.out NB.out) (i := 2) rfl
                  by_cases hv : s3.V = st.V
                  · have bv : ((s3.V : Int) != (st.V : Int)) = false := by simp [hv]
                    have HV3 := Lib.hid hv
                    have HL3 := Lib.hid (show s3.L = st.L from by rw [EZ.out] at hv ⊢; rw [AA.out.same _ _ (hv.trans HV2.out.symm), HL2.out])
                    have RES := Lib.hid (show res = rest8 ask (one8 same) ch ck (19 - j) (if one8 same xk ck = true then .hit (ask s2 xk) i else scanL ask (one8 same) ch ck (st.L.drop (i + 1)) (i + 1) (ask s2 xk)) from by
                      rw [RES2.out, scanL_step ask (one8 same) ch ck HX.out, if_pos HH.out, if_neg HKY.out, if_pos (by rw [← EZ.out, HV3.out, HV2.out])])
                    clear hv
                    go_upto_region 18 with (fail)
                    have nb : (!false) = true := rfl
                    by_cases ho : one8 same xk ck = true
                    · have HO := Lib.hid ho
                      go_wp2_with (refine (one_any8 mo same xk ck wz y5).mono ?_; rintro r w9 ⟨rfl, rfl⟩; rw [HO.out])
                      go_roundw
                      case rel =>
                        refine ⟨s3, M3, i + 1, by omega, by go_num, Lib.hid ⟨MZ.out, KZ.out, GZ.out, DZ.out⟩, .inr (.inr ⟨i, rfl, rfl, Lib.hid ?_⟩)⟩
                        rw [RES.out, EZ.out, if_pos HO.out]; rfl
                      case measure => exact meas8 hlt
                    · have HO := Lib.hid (show one8 same xk ck = false from by simpa using ho)
                      go_wp2_with (refine (one_any8 mo same xk ck wz y5).mono ?_; rintro r w9 ⟨rfl, rfl⟩; rw [HO.out])
                      go_roundw
                      case rel =>
                        refine ⟨s3, M3, i + 1, by omega, by go_num, Lib.hid ⟨MZ.out, KZ.out, GZ.out, DZ.out⟩, .inl ⟨rfl, rfl, Lib.hid ⟨HV3.out, HL3.out, ?_⟩⟩⟩
                        rw [RES.out, EZ.out, if_neg (by rw [HO.out]; simp)]
                      case measure => exact meas8 hlt
                  · have bv : ((s3.V : Int) != (st.V : Int)) = true := by simp; omega
                    have RES := Lib.hid (show res = find8 ask (one8 same) ch ck (19 - j) s3 from by
                      rw [RES2.out, scanL_step ask (one8 same) ch ck HX.out, if_pos HH.out, if_neg HKY.out, if_neg (by rw [← EZ.out, HV2.out]; exact hv), ← EZ.out]; rfl)
                    have HV3 := Lib.hid hv
                    clear hv
                    go_upto_region 18 with (fail)
                    have nb : (!true) = false := rfl
                    go_wp2_with fail
                    go_roundw
                    case rel => exact ⟨s3, M3, i + 1, by omega, by go_num, Lib.hid ⟨MZ.out, KZ.out, GZ.out, DZ.out⟩, .inr (.inl ⟨rfl, rfl, RES⟩)⟩
                    case measure => exact meas8 hlt
            · have bh : (xh != ch) = true := by simpa using hh
              have HH := Lib.hid hh
              clear hh
              go_region_held3 (fun w' => w'.cell? ⟨mo, 0, none⟩ = some (.slice (some ⟨g, 0, none⟩) n lc) ∧ w'.cell? ⟨g, i * 3, none⟩ = some (.int .i64 xh) ∧ w'.cell? ⟨bx, 1, none⟩ = some (.int .i64 ch)) (go_keep) (fail)
              go_wp2_with fail
              go_roundw
              case rel =>
                have kd : Keeps [] wr wr.drew := (Keeps.refl [] wr).drew
                refine ⟨s2, _, i + 1, by omega, by go_num, Lib.hid ⟨SS.out.1.keeps kd (by simp), SS.out.2.1.trans (kd.mono (by simp)), SS.out.2.2.1, SS.out.2.2.2.mono (Nat.le_refl _) (by omega)⟩, .inl ⟨rfl, rfl, Lib.hid ⟨HV2.out, HL2.out, ?_⟩⟩⟩
                rw [RES2.out, scanL_step ask (one8 same) ch ck HX.out, if_neg HH.out]
              case measure => exact meas8 hlt
          · obtain rfl : i = n := by omega
            have hge : ¬ (i : Int) < (i : Int) := by omega
            clear m1 p1 q1 hi
            go_wp2_with fail
            go_ret2
            refine .inl ⟨s2, none, ?_, rfl, FIN.out s2 _ _ SS.out.1 SS.out.2.1 SS.out.2.2.1⟩
            rw [RES2.out, List.drop_eq_nil_of_le (by rw [← hn.out]; exact Nat.le_refl _)]; rfl
        · obtain ⟨la, lc, aa, ac, m1, p1, q1, rfl, l1⟩ := SS.out.1
          obtain ⟨n2, hn2⟩ := ex_hid s2.L.length
          rw [← hn2.out] at m1
          have y0 : wr.cell? ⟨mo, 0, none⟩ = some (.slice la n2 lc) := cell_has m1 (i := 0) rfl
          have nt : (!true) = false := rfl
          clear m1 p1 q1
          have JN := Lib.hid (show FindJ w0 mo M most same acv inner acts ask C B ch ck res w1 (j + 1) s2 (mo :: (blk la ++ blk aa)) wr from ⟨by rw [show 20 - (j + 1) = 19 - j by omega]; exact hB2.out, SS.out.2.2.2.mono (Nat.le_refl _) (by omega), SS.out.1, SS.out.2.1, SS.out.2.2.1⟩)
          by_cases hl2 : i < n2
          · have i1 : (i : Int) < (n2 : Int) := by omega
            go_wp2_with fail
            go_roundw
            case rel => exact ⟨j + 1, s2, _, by omega, by go_num, JN⟩
            case measure => exact meas8 hlt
          · have i1 : ¬ (i : Int) < (n2 : Int) := by omega
            go_wp2_with fail
            go_roundw
            case rel => exact ⟨j + 1, s2, _, by omega, by go_num, JN⟩
            case measure => exact meas8 hlt
        · obtain ⟨la, lc, aa, ac, m1, p1, q1, rfl, l1⟩ := SS.out.1
          obtain ⟨n2, hn2⟩ := ex_hid s2.L.length
          rw [← hn2.out] at m1
          have y0 : wr.cell? ⟨mo, 0, none⟩ = some (.slice la n2 lc) := cell_has m1 (i := 0) rfl
          have nf : (!false) = true := rfl
          have a0 : ¬ (at_ : Int) < 0 := by omega
          clear m1 p1 q1
          by_cases hl2 : i < n2
          · have i1 : (i : Int) < (n2 : Int) := by omega
            go_wp2_with fail
            go_ret2
            exact .inl ⟨s2, some at_, hC2.out, rfl, FIN.out s2 _ _ SS.out.1 SS.out.2.1 SS.out.2.2.1⟩
          · have i1 : ¬ (i : Int) < (n2 : Int) := by omega
            go_wp2_with fail
            go_ret2
            exact .inl ⟨s2, some at_, hC2.out, rfl, FIN.out s2 _ _ SS.out.1 SS.out.2.1 SS.out.2.2.1⟩
    · obtain rfl : j = 20 := by omega
      have hge : ¬ ((20 : Nat) : Int) < 20 := by omega
      go_wp2_with fail
      go_ret2
      obtain ⟨g1, g2, g3, g4, g5⟩ := JJ.out
      exact .inr ⟨by rw [g1]; rfl, rfl, st, FIN.out _ _ _ g3 g4 g5⟩
end Go.Proofs.Ytcakdmapnmneoaa
