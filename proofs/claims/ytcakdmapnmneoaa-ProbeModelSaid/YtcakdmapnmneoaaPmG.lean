/- ProbeModel: the model's call, whoever is asked (chapter 8's laws). -/
import Derived.Test.YtcakdmapnmneoaaPmE
import Derived.Test.YtcakdmapnmneoaaPmF
import Derived.Test.YtcakdmapnmneoaaDictO
namespace Go.Proofs.Ytcakdmapnmneoaa
open Go.RowKit
set_option linter.unusedVariables false
set_option linter.unusedSimpArgs false

/-- What a call comes to. -/
def CallM (res : Option (Ms8 × Trn)) (r : Ending) (R : Ms8 → Prop) : Prop :=
  (∃ s' t, res = some (s', t) ∧ r = .returned (.tuple #[Trn.agg t, .bool true]) ∧ R s') ∨ (res = none ∧ r = .returned (.tuple #[Trn.agg noTrn, .bool false]) ∧ ∃ s', R s')
theorem Md8.mono {lo mo : Nat} {M M2 : List Nat} {most same : Int} {acv : Value} {inner : Bool} {s' : Ms8} {w w2 w3 W : World} {b : Nat} (k : Keeps M w w2) (g : Grew M w M2) (h : Md8 lo mo M2 most same acv inner s' w2 w3) (k9 : Keeps [b] w3 W) (hb : w.heap.size ≤ b) (hb2 : b ∉ M2) (hb3 : b < w2.heap.size) : Md8 lo mo M most same acv inner s' w W := by
  obtain ⟨M3, h1, h2, h3⟩ := h
  refine ⟨M3, h1.keeps k9 (fun x hx hq => ?_), (keeps_then8 k g h2).then k9 (fun x hx => by simp at hx; subst hx; exact .inl hb), grew_then8 (w := w) g k.size h3⟩
  simp at hq; subst hq
  rcases h3 _ hx with h9 | h9
  · exact hb2 h9
  · omega
set_option maxRecDepth 100000 in
set_option maxHeartbeats 8000000 in
theorem call_any8 (w0 : World) (mo : Nat) (M : List Nat) (most same : Int) (acv : Value) (inner : Bool) (acts : List Ac8) (ask : Ms8 → Int → Ms8) (A : Asks8 acts ask)
    (hin : inner = true → ask = askIn) (hout : inner = false → ask = askO (one8 same) most acts ∧ ActM w0 mo most same acv acts)
    (C B : Nat) (hC : C + 2 * acts.length ≤ 100) (hB : inner = false → B + 2100 ≤ 900000) (c : Ca8) (s : Ms8) (w : World) (H : MdAt w0.heap.size mo M most same acv inner s w) (K0 : Keeps [] w0 w) (hb : Bd8 acts C B s) :
    Calls Try.prog 28 #[.pointer (some ⟨mo, 0, none⟩), .agg #[.int .i64 c.g, .int .i64 c.h, .int .i64 c.k, .int .i64 c.v]] w fun r w' => CallM (call8 ask (one8 same) most c s) r (fun s' => Md8 w0.heap.size mo M most same acv inner s' w w') := by
  obtain ⟨cg, ch, ck, cv⟩ := c
  have HM := Lib.hid H
  have HK0 := Lib.hid K0
  have HBD := Lib.hid hb
  have FB := Lib.hid (fun s' o (e : find8 ask (one8 same) ch ck 20 s = some (s', o)) => find8_bd A (one8 same) ch ck (C := C) (by omega) 20 s B hb s' o e)
  have FIND := Lib.hid (fun (W : World) (h : MdAt w0.heap.size mo M most same acv inner s W) (k : Keeps [] w0 W) => find_any8 w0 mo M most same acv inner acts ask A hin hout C B hC hB ⟨cg, ch, ck, cv⟩ s W h k hb)
  have hcall : call8 ask (one8 same) most ⟨cg, ch, ck, cv⟩ s = (find8 ask (one8 same) ch ck 20 s).map fun r => fin8 most ⟨cg, ch, ck, cv⟩ r.1 r.2 := rfl
  rw [hcall]
  clear H K0 hb A hin hout hcall
  simp only
  rcases hf : find8 ask (one8 same) ch ck 20 s with _ | ⟨s2, o⟩
  · go_enter Try.func28, Try.ntmps28
    go_upto_region 1 with (fail)
    refine wp_gen (fun V => V.heap[w.heap.size]? = some (callO ⟨cg, ch, ck, cv⟩) ∧ V.heap[w.heap.size + 1]? = some (trnO noTrn) ∧ Keeps [] w V) ⟨has_alloc (has_new _ _) _, has_new' _ _ (by simp), ((Keeps.refl [] w).alloc _).alloc _⟩ ?_
    rintro w1 ⟨b1, t1, k1⟩
    obtain ⟨bx, hbx⟩ := ex_hid w.heap.size
    obtain ⟨tb, htb⟩ := ex_hid (w.heap.size + 1)
    rw [← htb.out] at t1 ⊢
    rw [← hbx.out] at b1 ⊢
    have hbt : bx ≠ tb := by have := hbx.out; have := htb.out; omega
    have l1 : tb < w1.heap.size := lt_of_block t1
    have l2 : bx < w1.heap.size := lt_of_block b1
    have B1 := Lib.hid b1
    have T1 := Lib.hid t1
    have K1 := Lib.hid k1
    have LW := Lib.hid (show w.heap.size ≤ bx ∧ w.heap.size ≤ tb from by have := hbx.out; have := htb.out; omega)
    have HM1 := Lib.hid (HM.out.keeps k1 (by simp))
    have FD := Lib.hid (FIND.out w1 (HM.out.keeps k1 (by simp)) (HK0.out.trans k1))
    have NB := Lib.hid (show bx ∉ M ∧ tb ∉ M from ⟨fun hx => by have := (HM.out.foot _ hx).2; have := hbx.out; omega, fun hx => by have := (HM.out.foot _ hx).2; have := htb.out; omega⟩)
    have x0 : w1.cell? ⟨bx, 0, none⟩ = some (.int .i64 cg) := cell_has b1 (i := 0) rfl
    have x1 : w1.cell? ⟨bx, 1, none⟩ = some (.int .i64 ch) := cell_has b1 (i := 1) rfl
    have x2 : w1.cell? ⟨bx, 2, none⟩ = some (.int .i64 ck) := cell_has b1 (i := 2) rfl
    have x3 : w1.cell? ⟨bx, 3, none⟩ = some (.int .i64 cv) := cell_has b1 (i := 3) rfl
    clear b1 t1 k1 FIND
    rw [hf] at FD
    have FD2 : Hid (Calls Try.prog 54 #[.pointer (some ⟨mo, 0, none⟩), .agg #[.int .i64 cg, .int .i64 ch, .int .i64 ck, .int .i64 cv]] w1 fun r w' => r = .returned (.tuple #[.int .i64 (-1), .bool false]) ∧ ∃ s', Md8 w0.heap.size mo M most same acv inner s' w1 w') := Lib.hid (FD.out.mono (fun r w' h => by
      rcases h with ⟨s', o, h1, _⟩ | ⟨_, h2, h3⟩
      · cases h1
      · exact ⟨h2, h3⟩))
    clear FD
    go_upto_region 3 with (go_at_call 54; refine (FD2.out).mono ?_; rintro r w2 ⟨rfl, hq⟩; have QQ := Lib.hid hq; clear hq)
    obtain ⟨s', M', q1, q2, q3⟩ := QQ.out
    have KTB := Lib.hid (q2.has T1.out NB.out.2)
    have FIN := Lib.hid (show ∀ W, Keeps [tb] w2 W → CallM (Option.map (fun r => fin8 most ⟨cg, ch, ck, cv⟩ r.1 r.2) (none : Option (Ms8 × Option Nat))) (.returned (.tuple #[Trn.agg noTrn, .bool false])) (fun s' => Md8 w0.heap.size mo M most same acv inner s' w W) from fun W k9 => .inr ⟨rfl, rfl, s', by
      refine Md8.mono (K1.out.mono (by simp)) (fun x hx => .inl hx) ⟨M', q1, q2, q3⟩ k9 LW.out.2 NB.out.2 l1⟩)
    clear q1 q2 q3 x0 x1 x2 x3
    have b0 := KTB.out
    obtain ⟨t0, t1, t2, t3, t4⟩ := trn_cells b0
    obtain ⟨u0, u1, u2, u3, u4⟩ := trn_free b0
    clear b0
    unfold noTrn at t0 t1 t2 t3 t4
    go_wp2_with fail
    obtain ⟨zz1, zz2⟩ := trn_store noTrn (⟨0, 0, false, 0, 0⟩ : Trn) KTB.out
    have rc := cell_of_has zz1
    exact bodyPost_ret (v := .tuple #[Trn.agg (⟨0, 0, false, 0, 0⟩ : Trn), .bool false]) (by simp [results, Try.results28, go_sem, Trn.agg, rc]) rfl (FIN.out _ zz2)
  · go_enter Try.func28, Try.ntmps28
    go_upto_region 1 with (fail)
    refine wp_gen (fun V => V.heap[w.heap.size]? = some (callO ⟨cg, ch, ck, cv⟩) ∧ V.heap[w.heap.size + 1]? = some (trnO noTrn) ∧ Keeps [] w V) ⟨has_alloc (has_new _ _) _, has_new' _ _ (by simp), ((Keeps.refl [] w).alloc _).alloc _⟩ ?_
    rintro w1 ⟨b1, t1, k1⟩
    obtain ⟨bx, hbx⟩ := ex_hid w.heap.size
    obtain ⟨tb, htb⟩ := ex_hid (w.heap.size + 1)
    rw [← htb.out] at t1 ⊢
    rw [← hbx.out] at b1 ⊢
    have hbt : bx ≠ tb := by have := hbx.out; have := htb.out; omega
    have l1 : tb < w1.heap.size := lt_of_block t1
    have l2 : bx < w1.heap.size := lt_of_block b1
    have B1 := Lib.hid b1
    have T1 := Lib.hid t1
    have K1 := Lib.hid k1
    have LW := Lib.hid (show w.heap.size ≤ bx ∧ w.heap.size ≤ tb from by have := hbx.out; have := htb.out; omega)
    have HM1 := Lib.hid (HM.out.keeps k1 (by simp))
    have FD := Lib.hid (FIND.out w1 (HM.out.keeps k1 (by simp)) (HK0.out.trans k1))
    have NB := Lib.hid (show bx ∉ M ∧ tb ∉ M from ⟨fun hx => by have := (HM.out.foot _ hx).2; have := hbx.out; omega, fun hx => by have := (HM.out.foot _ hx).2; have := htb.out; omega⟩)
    have x0 : w1.cell? ⟨bx, 0, none⟩ = some (.int .i64 cg) := cell_has b1 (i := 0) rfl
    have x1 : w1.cell? ⟨bx, 1, none⟩ = some (.int .i64 ch) := cell_has b1 (i := 1) rfl
    have x2 : w1.cell? ⟨bx, 2, none⟩ = some (.int .i64 ck) := cell_has b1 (i := 2) rfl
    have x3 : w1.cell? ⟨bx, 3, none⟩ = some (.int .i64 cv) := cell_has b1 (i := 3) rfl
    clear b1 t1 k1 FIND
    rw [hf] at FD
    have FD2 : Hid (Calls Try.prog 54 #[.pointer (some ⟨mo, 0, none⟩), .agg #[.int .i64 cg, .int .i64 ch, .int .i64 ck, .int .i64 cv]] w1 fun r w' => r = .returned (.tuple #[.int .i64 (oI o), .bool true]) ∧ Md8 w0.heap.size mo M most same acv inner s2 w1 w') := Lib.hid (FD.out.mono (fun r w' h => by
      rcases h with ⟨s', o', h1, h2, h3⟩ | ⟨h1, _⟩
      · cases h1; exact ⟨h2, h3⟩
      · cases h1))
    clear FD
    have BD2 := Lib.hid (FB.out s2 o hf).1
    have LT2 := Lib.hid (FB.out s2 o hf).2
    have hV2 : s2.V ≤ 1000 := by have := BD2.out.le; omega
    have hL2 : s2.L.length ≤ 1000 := by have := BD2.out.l; omega
    clear FB hf

    go_upto_region 2 with (go_at_call 54; refine (FD2.out).mono ?_; rintro r w2 ⟨rfl, hq⟩; have QQ := Lib.hid hq; clear hq)
    obtain ⟨M2, q1, q2, q3⟩ := QQ.out
    have n2b : bx ∉ M2 := fun hx => by
      rcases q3 _ hx with h9 | h9
      · exact NB.out.1 h9
      · omega
    have n2t : tb ∉ M2 := fun hx => by
      rcases q3 _ hx with h9 | h9
      · exact NB.out.2 h9
      · omega
    have N2 := Lib.hid (And.intro n2b n2t)
    have KTB2 := Lib.hid (q2.has T1.out NB.out.2)
    have KBX2 := Lib.hid (q2.has B1.out NB.out.1)
    have Q1 := Lib.hid q1
    have K12 := Lib.hid ((K1.out.mono (T := M) (by simp)).trans q2)
    have G12 := Lib.hid (show Grew M w M2 from fun x hx => (q3 x hx).imp id (fun h => by have := K1.out.size; omega))
    have l3 : tb < w2.heap.size := lt_of_block KTB2.out
    have l4 : bx < w2.heap.size := lt_of_block KBX2.out
    have LL := Lib.hid (And.intro l3 l4)
    have x0 : w2.cell? ⟨bx, 0, none⟩ = some (.int .i64 cg) := cell_has KBX2.out (i := 0) rfl
    have x1 : w2.cell? ⟨bx, 1, none⟩ = some (.int .i64 ch) := cell_has KBX2.out (i := 1) rfl
    have x2 : w2.cell? ⟨bx, 2, none⟩ = some (.int .i64 ck) := cell_has KBX2.out (i := 2) rfl
    have x3 : w2.cell? ⟨bx, 3, none⟩ = some (.int .i64 cv) := cell_has KBX2.out (i := 3) rfl
    -- nothing more is changed
    have SAME := Lib.hid (show ∀ W W2, Keeps [] w2 W → Keeps [tb] W W2 → Md8 w0.heap.size mo M most same acv inner s2 w W2 from fun W W2 k k9 => Md8.mono (K12.out) G12.out ⟨M2, Q1.out.keeps k (by simp), k.mono (by simp), fun x hx => .inl hx⟩ k9 LW.out.2 N2.out.2 l3)
    have MORE := Lib.hid (show ∀ s' W0 W W2, Keeps [] w2 W0 → Md8 w0.heap.size mo M2 most same acv inner s' W0 W → Keeps [tb] W W2 → Md8 w0.heap.size mo M most same acv inner s' w W2 from fun s' W0 W W2 k h k9 => Md8.mono (K12.out.trans (k.mono (by simp))) (fun x hx => (G12.out x hx)) h k9 LW.out.2 N2.out.2 (by have := k.size; omega))
    clear q1 q2 q3 n2b n2t QQ l1 l2
    cases o with
    | some i =>
      have hi := LT2.out i rfl
      obtain ⟨la, lc, aa, ac, m1, p1, p2, p3, p4⟩ := Q1.out
      obtain ⟨g, rfl⟩ := own_shape8 p1 (by omega)
      obtain ⟨x, hx⟩ : ∃ x, s2.L[i]? = some x := ⟨_, List.getElem?_eq_getElem hi⟩
      have hgd : s2.L.getD i noP8 = x := by simp [List.getD, hx]
      obtain ⟨n, hn⟩ := ex_hid s2.L.length
      have hi2 := hi
      rw [← hn.out] at m1 hi
      have y0 : w2.cell? ⟨mo, 0, none⟩ = some (.slice (some ⟨g, 0, none⟩) n lc) := cell_has m1 (i := 0) rfl
      have c2 : w2.cell? ⟨g, i * 3 + 2, none⟩ = some (.int .i64 x.v) := p1.cell hx 2 (by omega)
      have i0 : (0 : Int) ≤ (i : Int) := by omega
      have i1 : (i : Int) < (n : Int) := by omega
      have oe : oI (some i) = (i : Int) := rfl
      obtain ⟨xv, hxv⟩ := ex_hid x.v
      rw [← hxv.out] at c2
      have HG := Lib.hid hgd
      have HI2 := Lib.hid hi2
      obtain ⟨tn, htn⟩ := ex_hid (⟨2, 0, true, xv, 0⟩ : Trn)
      have FI := Lib.hid (show (fin8 most ⟨cg, ch, ck, cv⟩ s2 (some i)).2 = tn from by rw [htn.out]; unfold fin8; simp only [HG.out, hxv.out])
      rw [oe]
      clear m1 p1 p2 p4 hx hgd hi hi2
      go_upto_region 6 with (fail)
      refine wp_gen (fun V => V.heap[w2.heap.size]? = some (trnO tn) ∧ Keeps [] w2 V) ⟨by rw [htn.out]; exact has_new _ _, (Keeps.refl [] w2).alloc _⟩ ?_
      rintro w3 ⟨b3, k3⟩
      obtain ⟨b8, hb8⟩ := ex_hid w2.heap.size
      rw [← hb8.out] at b3 ⊢
      have B3 := Lib.hid b3
      have K3 := Lib.hid k3
      have Q3 := Lib.hid (Q1.out.keeps k3 (by simp))
      have KTB3 := Lib.hid (k3.has KTB2.out (by simp))
      have N8 := Lib.hid (show b8 ∉ M2 ∧ b8 ≠ tb from ⟨fun hx => by have := (Q1.out.foot _ hx).2; have := hb8.out; omega, by have := hb8.out; have := LL.out.1; omega⟩)
      have x0 : w3.cell? ⟨bx, 0, none⟩ = some (.int .i64 cg) := cell_has (k3.has KBX2.out (by simp)) (i := 0) rfl
      have x3 : w3.cell? ⟨bx, 3, none⟩ = some (.int .i64 cv) := cell_has (k3.has KBX2.out (by simp)) (i := 3) rfl
      clear b3 k3 y0 c2
      by_cases h2 : cg = 2
      · have bg : (cg == 2) = true := by simpa using h2
        have PUT := Lib.hid (put_at8 w0.heap.size mo M2 most same acv inner s2 i ⟨0, 0, cv⟩ w3 Q3.out hV2 hL2 HI2.out)
        have F1 := Lib.hid (show fin8 most ⟨cg, ch, ck, cv⟩ s2 (some i) = (⟨s2.L.set i ⟨(s2.L.getD i noP8).h, (s2.L.getD i noP8).k, cv⟩, s2.V + 1, s2.A⟩, tn) from by rw [← FI.out]; unfold fin8; simp only [if_pos h2])
        have n3 : (cg == 3) = false := by simp [h2]
        have h23 : (2 == 3) = false := rfl
        clear h2
        go_upto_region 8 with (go_at_call 55; refine (PUT.out).mono ?_; rintro r w4 ⟨rfl, hq⟩; have QQ := Lib.hid hq; clear hq)
        have KTB := Lib.hid (show w4.heap[tb]? = some (trnO noTrn) from by obtain ⟨M9, r1, r2, r3⟩ := QQ.out; exact r2.has KTB3.out N2.out.2)
        have b4 : w4.heap[b8]? = some (trnO tn) := by obtain ⟨M9, r1, r2, r3⟩ := QQ.out; exact r2.has B3.out N8.out.1
        have x0 : w4.cell? ⟨bx, 0, none⟩ = some (.int .i64 cg) := by obtain ⟨M9, r1, r2, r3⟩ := QQ.out; exact cell_has (r2.has (K3.out.has KBX2.out (by simp)) N2.out.1) (i := 0) rfl
        have FIN := Lib.hid (show ∀ W, Keeps [tb] w4 W → CallM (Option.map (fun r => fin8 most ⟨cg, ch, ck, cv⟩ r.1 r.2) (some (s2, some i))) (.returned (.tuple #[Trn.agg tn, .bool true])) (fun s' => Md8 w0.heap.size mo M most same acv inner s' w W) from fun W k9 => .inl ⟨_, tn, by rw [Option.map_some, F1.out], rfl, MORE.out _ w3 w4 W K3.out QQ.out k9⟩)
        obtain ⟨v0, v1, v2, v3, v4⟩ := trn_cells b4
        clear b4
        have b0 := KTB.out
        obtain ⟨t0, t1, t2, t3, t4⟩ := trn_cells b0
        obtain ⟨u0, u1, u2, u3, u4⟩ := trn_free b0
        clear b0
        unfold noTrn at t0 t1 t2 t3 t4
        go_wp2_with fail
        obtain ⟨zz1, zz2⟩ := trn_store noTrn tn KTB.out
        have rc := cell_of_has zz1
        exact bodyPost_ret (v := .tuple #[Trn.agg tn, .bool true]) (by simp [results, Try.results28, go_sem, Trn.agg, rc]) rfl (FIN.out _ zz2)
      · have bg : (cg == 2) = false := by simpa using h2
        by_cases h3 : cg = 3
        · have bg3 : (cg == 3) = true := by simpa using h3
          have OUT := Lib.hid (out_at8 w0.heap.size mo M2 most same acv inner s2 i w3 Q3.out hV2 hL2 HI2.out)
          have F1 := Lib.hid (show fin8 most ⟨cg, ch, ck, cv⟩ s2 (some i) = (⟨s2.L.take i ++ s2.L.drop (i + 1), s2.V + 1, s2.A⟩, tn) from by rw [← FI.out]; unfold fin8; simp only [if_neg h2, if_pos h3])
          clear h2 h3
          go_upto_region 10 with (go_at_call 56; refine (OUT.out).mono ?_; rintro r w4 ⟨rfl, hq⟩; have QQ := Lib.hid hq; clear hq)
          have KTB := Lib.hid (show w4.heap[tb]? = some (trnO noTrn) from by obtain ⟨M9, r1, r2, r3⟩ := QQ.out; exact r2.has KTB3.out N2.out.2)
          have b4 : w4.heap[b8]? = some (trnO tn) := by obtain ⟨M9, r1, r2, r3⟩ := QQ.out; exact r2.has B3.out N8.out.1
          have FIN := Lib.hid (show ∀ W, Keeps [tb] w4 W → CallM (Option.map (fun r => fin8 most ⟨cg, ch, ck, cv⟩ r.1 r.2) (some (s2, some i))) (.returned (.tuple #[Trn.agg tn, .bool true])) (fun s' => Md8 w0.heap.size mo M most same acv inner s' w W) from fun W k9 => .inl ⟨_, tn, by rw [Option.map_some, F1.out], rfl, MORE.out _ w3 w4 W K3.out QQ.out k9⟩)
          obtain ⟨v0, v1, v2, v3, v4⟩ := trn_cells b4
          clear b4
          have b0 := KTB.out
          obtain ⟨t0, t1, t2, t3, t4⟩ := trn_cells b0
          obtain ⟨u0, u1, u2, u3, u4⟩ := trn_free b0
          clear b0
          unfold noTrn at t0 t1 t2 t3 t4
          go_wp2_with fail
          obtain ⟨zz1, zz2⟩ := trn_store noTrn tn KTB.out
          have rc := cell_of_has zz1
          exact bodyPost_ret (v := .tuple #[Trn.agg tn, .bool true]) (by simp [results, Try.results28, go_sem, Trn.agg, rc]) rfl (FIN.out _ zz2)
        · have bg3 : (cg == 3) = false := by simpa using h3
          have F1 := Lib.hid (show fin8 most ⟨cg, ch, ck, cv⟩ s2 (some i) = (s2, tn) from by rw [← FI.out]; unfold fin8; simp only [if_neg h2, if_neg h3])
          clear h2 h3
          have KTB := KTB3
          have b4 := B3.out
          have FIN := Lib.hid (show ∀ W, Keeps [tb] w3 W → CallM (Option.map (fun r => fin8 most ⟨cg, ch, ck, cv⟩ r.1 r.2) (some (s2, some i))) (.returned (.tuple #[Trn.agg tn, .bool true])) (fun s' => Md8 w0.heap.size mo M most same acv inner s' w W) from fun W k9 => .inl ⟨_, tn, by rw [Option.map_some, F1.out], rfl, SAME.out w3 W K3.out k9⟩)
          obtain ⟨v0, v1, v2, v3, v4⟩ := trn_cells b4
          clear b4
          have b0 := KTB.out
          obtain ⟨t0, t1, t2, t3, t4⟩ := trn_cells b0
          obtain ⟨u0, u1, u2, u3, u4⟩ := trn_free b0
          clear b0
          unfold noTrn at t0 t1 t2 t3 t4
          go_wp2_with fail
          obtain ⟨zz1, zz2⟩ := trn_store noTrn tn KTB.out
          have rc := cell_of_has zz1
          exact bodyPost_ret (v := .tuple #[Trn.agg tn, .bool true]) (by simp [results, Try.results28, go_sem, Trn.agg, rc]) rfl (FIN.out _ zz2)
    | none =>
      have oe : oI none = -1 := rfl
      rw [oe]
      obtain ⟨la, lc, aa, ac, m1, p1, p2, p3, p4⟩ := Q1.out
      obtain ⟨n, hn⟩ := ex_hid s2.L.length
      rw [← hn.out] at m1
      have y0 : w2.cell? ⟨mo, 0, none⟩ = some (.slice la n lc) := cell_has m1 (i := 0) rfl
      have y1 : w2.cell? ⟨mo, 1, none⟩ = some (.int .i64 most) := cell_has m1 (i := 1) rfl
      clear m1 p1 p2 p3 p4
      by_cases h13 : cg = 1 ∨ cg = 3
      · have F1 := Lib.hid (show fin8 most ⟨cg, ch, ck, cv⟩ s2 none = (s2, ⟨2, 0, false, 0, 0⟩) from by unfold fin8; simp only [if_pos h13])
        have KTB := KTB2
        have FIN := Lib.hid (show ∀ W, Keeps [tb] w2 W → CallM (Option.map (fun r => fin8 most ⟨cg, ch, ck, cv⟩ r.1 r.2) (some (s2, none))) (.returned (.tuple #[Trn.agg ⟨2, 0, false, 0, 0⟩, .bool true])) (fun s' => Md8 w0.heap.size mo M most same acv inner s' w W) from fun W k9 => .inl ⟨_, ⟨2, 0, false, 0, 0⟩, by rw [Option.map_some, F1.out], rfl, SAME.out w2 W (Keeps.refl _ _) k9⟩)
        by_cases h1 : cg = 1
        · have bg1 : (cg == 1) = true := by simpa using h1
          clear h13 h1
          have b0 := KTB.out
          obtain ⟨t0, t1, t2, t3, t4⟩ := trn_cells b0
          obtain ⟨u0, u1, u2, u3, u4⟩ := trn_free b0
          clear b0
          unfold noTrn at t0 t1 t2 t3 t4
          go_wp2_with fail
          obtain ⟨zz1, zz2⟩ := trn_store noTrn (⟨2, 0, false, 0, 0⟩ : Trn) KTB.out
          have rc := cell_of_has zz1
          exact bodyPost_ret (v := .tuple #[Trn.agg (⟨2, 0, false, 0, 0⟩ : Trn), .bool true]) (by simp [results, Try.results28, go_sem, Trn.agg, rc]) rfl (FIN.out _ zz2)
        · have bg1 : (cg == 1) = false := by simpa using h1
          have bg3 : (cg == 3) = true := by simp; omega
          clear h13 h1
          have b0 := KTB.out
          obtain ⟨t0, t1, t2, t3, t4⟩ := trn_cells b0
          obtain ⟨u0, u1, u2, u3, u4⟩ := trn_free b0
          clear b0
          unfold noTrn at t0 t1 t2 t3 t4
          go_wp2_with fail
          obtain ⟨zz1, zz2⟩ := trn_store noTrn (⟨2, 0, false, 0, 0⟩ : Trn) KTB.out
          have rc := cell_of_has zz1
          exact bodyPost_ret (v := .tuple #[Trn.agg (⟨2, 0, false, 0, 0⟩ : Trn), .bool true]) (by simp [results, Try.results28, go_sem, Trn.agg, rc]) rfl (FIN.out _ zz2)
      · have bg1 : (cg == 1) = false := by simp; omega
        have bg3 : (cg == 3) = false := by simp; omega
        go_upto_region 13 with (fail)
        by_cases hm : most ≤ (n : Int)
        · have bm : decide (most ≤ (n : Int)) = true := by simpa using hm
          have F1 := Lib.hid (show fin8 most ⟨cg, ch, ck, cv⟩ s2 none = (s2, ⟨3, 0, false, 0, 0⟩) from by unfold fin8; simp only [if_neg h13]; rw [if_pos (by rw [← hn.out]; exact hm)])
          have FIN := Lib.hid (show ∀ W, Keeps [tb] w2 W → CallM (Option.map (fun r => fin8 most ⟨cg, ch, ck, cv⟩ r.1 r.2) (some (s2, none))) (.returned (.tuple #[Trn.agg ⟨3, 0, false, 0, 0⟩, .bool true])) (fun s' => Md8 w0.heap.size mo M most same acv inner s' w W) from fun W k9 => .inl ⟨_, ⟨3, 0, false, 0, 0⟩, by rw [Option.map_some, F1.out], rfl, SAME.out w2 W (Keeps.refl _ _) k9⟩)
          clear h13 hm
          go_region_held3 (fun w' => w'.cell? ⟨mo, 0, none⟩ = some (.slice la n lc) ∧ w'.cell? ⟨mo, 1, none⟩ = some (.int .i64 most)) (go_keep) (fail)
          have KTB := KTB2
          have b0 := KTB.out
          obtain ⟨t0, t1, t2, t3, t4⟩ := trn_cells b0
          obtain ⟨u0, u1, u2, u3, u4⟩ := trn_free b0
          clear b0
          unfold noTrn at t0 t1 t2 t3 t4
          go_wp2_with fail
          obtain ⟨zz1, zz2⟩ := trn_store noTrn (⟨3, 0, false, 0, 0⟩ : Trn) KTB.out
          have rc := cell_of_has (has_drew zz1)
          exact bodyPost_ret (v := .tuple #[Trn.agg (⟨3, 0, false, 0, 0⟩ : Trn), .bool true]) (by simp [results, Try.results28, go_sem, Trn.agg, rc]) rfl (FIN.out _ zz2.drew)
        · have bm : decide (most ≤ (n : Int)) = false := by simpa using hm
          have F1 := Lib.hid (show fin8 most ⟨cg, ch, ck, cv⟩ s2 none = (⟨s2.L ++ [⟨ch, ck, cv⟩], s2.V + 1, s2.A⟩, ⟨2, 0, false, cv, 0⟩) from by unfold fin8; simp only [if_neg h13]; rw [if_neg (by rw [← hn.out]; exact hm)])
          clear h13 hm
          go_region_held3 (fun w' => w'.cell? ⟨mo, 0, none⟩ = some (.slice la n lc) ∧ w'.cell? ⟨mo, 1, none⟩ = some (.int .i64 most)) (go_keep) (fail)
          have kd : Keeps [] w2 w2.drew := (Keeps.refl [] w2).drew
          have PUT := Lib.hid (put_new8 w0.heap.size mo M2 most same acv inner s2 ⟨ch, ck, cv⟩ w2.drew (Q1.out.keeps kd (by simp)) hV2 hL2)
          go_upto_region 16 with (go_at_call 55; refine (PUT.out).mono ?_; rintro r w4 ⟨rfl, hq⟩; have QQ := Lib.hid hq; clear hq)
          have KTB := Lib.hid (show w4.heap[tb]? = some (trnO noTrn) from by obtain ⟨M9, r1, r2, r3⟩ := QQ.out; exact r2.has (w := w2.drew) KTB2.out N2.out.2)
          have x3 : w4.cell? ⟨bx, 3, none⟩ = some (.int .i64 cv) := by obtain ⟨M9, r1, r2, r3⟩ := QQ.out; exact cell_has (r2.has (w := w2.drew) KBX2.out N2.out.1) (i := 3) rfl
          have FIN := Lib.hid (show ∀ W, Keeps [tb] w4 W → CallM (Option.map (fun r => fin8 most ⟨cg, ch, ck, cv⟩ r.1 r.2) (some (s2, none))) (.returned (.tuple #[Trn.agg ⟨2, 0, false, cv, 0⟩, .bool true])) (fun s' => Md8 w0.heap.size mo M most same acv inner s' w W) from fun W k9 => .inl ⟨_, ⟨2, 0, false, cv, 0⟩, by rw [Option.map_some, F1.out], rfl, MORE.out _ w2.drew w4 W kd QQ.out k9⟩)
          have b0 := KTB.out
          obtain ⟨t0, t1, t2, t3, t4⟩ := trn_cells b0
          obtain ⟨u0, u1, u2, u3, u4⟩ := trn_free b0
          clear b0
          unfold noTrn at t0 t1 t2 t3 t4
          go_wp2_with fail
          obtain ⟨zz1, zz2⟩ := trn_store noTrn (⟨2, 0, false, cv, 0⟩ : Trn) KTB.out
          have rc := cell_of_has zz1
          exact bodyPost_ret (v := .tuple #[Trn.agg (⟨2, 0, false, cv, 0⟩ : Trn), .bool true]) (by simp [results, Try.results28, go_sem, Trn.agg, rc]) rfl (FIN.out _ zz2)
  end Go.Proofs.Ytcakdmapnmneoaa
