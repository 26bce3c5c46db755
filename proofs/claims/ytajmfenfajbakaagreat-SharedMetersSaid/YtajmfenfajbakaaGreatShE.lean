/- A name is sought in a table (chapter 10). -/
import Derived.Test.YtajmfenfajbakaaGreatShD
import Derived.Test.YtajmfenfajbakaaGreatDictM
namespace Go.Proofs.YtajmfenfajbakaaGreat
open Go.RowKit
set_option linter.unusedVariables false
set_option linter.unusedSimpArgs false

/-- A search for a number among the entries of a hash. -/
def seekG (T : Tab) (n : Int) : Nat → Sk → C4 → Int × C4
  | 0, _, c => (-1, c)
  | k + 1, s, c => if (T.next s).over = true then (-1, c.visN (T.walks s)) else if (atE (entE T.E (T.next s).told)).key = n then ((T.next s).told, c.visN (T.walks s)) else seekG T n k (T.next s) (c.visN (T.walks s))
def seekR (T : Tab) (n h : Int) (c : C4) : Int × C4 := seekG T n (T.E.length + 1) (T.seek h) c
def FindP (m : Option Nat) (c : C4) (T : Tab) (n h : Int) (w : World) (r : Ending) (w' : World) : Prop :=
  r = .returned (.int .i64 (seekR T n h c).1) ∧ MtrAt m (seekR T n h c).2 w' ∧ Keeps (mS m) w w'
set_option maxRecDepth 100000 in
set_option maxHeartbeats 4000000 in
theorem find_any (k : Nat) (hk : k ≤ 1000) (fb t mb lo : Nat) (a : Option Addr) (ST : List Nat) (m : Option Nat) (f : Fam) (t2 lo2 : Nat) (S2 : List Nat) (T : Tab) (c : C4) (s : ByteArray) (w : World) (H : FamAt fb t mb lo a ST m f w) (HT : TabAt t2 lo2 S2 (mV m) T w) (hM : MtrAt m c w) (hm : ∀ b, m = some b → b < lo2) (hI : TInv k T) (hs : s.size ≤ 1000000) :
    Calls Tryz.prog 125 #[.pointer (some ⟨fb, 0, none⟩), .pointer (some ⟨t2, 0, none⟩), .string s] w (FindP m c T (numI f.N s) (txtH s) w) := by
  have NU := fnum_any fb t mb lo a ST m f s w H
  obtain ⟨n, hn⟩ := ex_hid (numI f.N s)
  rw [← hn.out] at NU ⊢
  have TX := text_any s w hs
  obtain ⟨h, hh⟩ := ex_hid (txtH s)
  rw [← hh.out] at TX ⊢
  obtain ⟨R, hR⟩ := ex_hid (seekR T n h c)
  have HRR := Lib.hid (show seekG T n (T.E.length + 1) (T.seek h) c = R from hR.out.symm)
  have FR : FindP m c T n h w = fun r w' => r = .returned (.int .i64 R.1) ∧ MtrAt m R.2 w' ∧ Keeps (mS m) w w' := by unfold FindP; rw [← hR.out]
  have HFR := Lib.hid FR
  have HT0 := Lib.hid HT
  have HM0 := Lib.hid hM
  have HI := Lib.hid hI
  have HMM := Lib.hid (show (∀ x, x ∈ S2 → x ∉ mS m) from fun x hx hy => by
    cases m with
    | none => simp [mS] at hy
    | some b => simp [mS] at hy; have := hm b rfl; have := (HT.foot x hx).1; omega)
  have HM1 := Lib.hid hm
  have HSW := Lib.hid (show ∀ x, x ∈ S2 → x < w.heap.size from fun x hx => (HT.foot x hx).2)
  clear H HT hM hI hm FR
  rw [HFR.out]
  go_enter Tryz.func125, Tryz.ntmps125
  go_wp2_with fail
  refine NU.mono ?_
  rintro r w0 ⟨rfl, rfl⟩
  go_wp2_with fail
  refine TX.mono ?_
  rintro r w1 ⟨rfl, k1⟩
  have K1 := Lib.hid k1
  clear k1 NU TX
  go_wp2_with fail
  refine (seek_any t2 lo2 S2 (mV m) T w1 (HT0.out.keeps K1.out (by simp)) (by have := HI.out.l12; omega) h).mono ?_
  rintro r w2 ⟨sb, rfl, s2, l2, k2⟩
  have K2 := Lib.hid (K1.out.trans k2)
  have L2 := Lib.hid (show w.heap.size ≤ sb from by have := K1.out.size; omega)
  have S0 := Lib.hid s2
  clear s2 l2 k2
  go_wp2_with fail
  go_loopg [] T.E.length (fun kx wr => ∃ (sk : Sk) (c' : C4) (jx : Nat), jx ≤ kx ∧ Hid (SkAt sb t2 sk wr ∧ MtrAt m c' wr ∧ Keeps (sb :: mS m) w2 wr ∧ SkOk T sk ∧ seekG T n (jx + 1) sk c' = R ∧ (T.E.length : Int) ≤ sk.told + 1 + jx))
  case atStart => exact ⟨T.seek h, c, T.E.length, Nat.le_refl _, Lib.hid ⟨S0.out, HM0.out.keeps K2.out (by simp), Keeps.refl _ _, SkOk.seek HI.out h, HRR.out, by show (T.E.length : Int) ≤ -1 + 1 + _; omega⟩⟩
  case round =>
    obtain ⟨sk, c', jx, hjx, I⟩ := hrel
    have TW := Lib.hid ((HT0.out.keeps K2.out (by simp)).keeps I.out.2.2.1 (fun x hx hy => by
      rcases List.mem_cons.1 hy with e | e
      · subst e; have := HSW.out _ hx; have := L2.out; omega
      · exact HMM.out x hx e))
    go_wp2_with fail
    refine (next_any k hk sb t2 lo2 S2 m c' T sk wr TW.out I.out.2.1 HM1.out HI.out I.out.1 (fun hx => by have := HSW.out _ hx; have := L2.out; omega) I.out.2.2.2.1).mono ?_
    rintro r w3 ⟨rfl, s3, m3, k3⟩
    have S3 := Lib.hid s3
    have M3 := Lib.hid m3
    have K3 := Lib.hid (I.out.2.2.1.trans k3)
    have T3 := Lib.hid (TW.out.keeps k3 (fun x hx hy => by
      rcases List.mem_cons.1 hy with e | e
      · subst e; have := HSW.out _ hx; have := L2.out; omega
      · exact HMM.out x hx e))
    have SG := Lib.hid (show (if (T.next sk).over = true then (-1, c'.visN (T.walks sk)) else if (atE (entE T.E (T.next sk).told)).key = n then ((T.next sk).told, c'.visN (T.walks sk)) else seekG T n jx (T.next sk) (c'.visN (T.walks sk))) = R from I.out.2.2.2.2.1)
    have OK3 := Lib.hid (SkOk.next HI.out I.out.2.2.2.1)
    clear s3 m3 k3
    cases ho : (T.next sk).over
    · have TL := Lib.hid (told_live HI.out I.out.2.2.2.1 ho)
      have SG1 := SG.out
      rw [ho] at SG1
      simp only [Bool.false_eq_true, if_false] at SG1
      have es : (T.next sk).says = (T.next sk).told := by unfold Sk.says; rw [ho]; rfl
      rw [es]
      obtain ⟨tl, htl⟩ := ex_hid (T.next sk).told
      rw [← htl.out]
      obtain ⟨x, hx⟩ := ex_hid (atE (entE T.E tl))
      have SGX := Lib.hid (show (if x.key = n then (tl, c'.visN (T.walks sk)) else seekG T n jx (T.next sk) (c'.visN (T.walks sk))) = R from by rw [hx.out, htl.out]; exact SG1)
      have HO := Lib.hid ho
      clear SG1 ho es
      obtain ⟨ta, tc, tcb, tcr, g1, g2, _⟩ := T3.out
      have AT := at_any t2 lo2 tc ta T.E _ _ _ _ _ _ tl w3 g1 g2 (by have := HI.out.ek; omega)
      rw [← hx.out] at AT
      unfold Ent.agg at AT
      clear g1 g2
      go_wp2_with fail
      refine AT.mono ?_
      rintro r w4 ⟨rfl, b4⟩
      have k4 := Below.keeps b4 []
      have K4 := Lib.hid k4
      clear b4 k4 AT
      go_upto_region 7 with (fail)
      refine wp_gen (fun V => V.heap[w4.heap.size]? = some (.cells #[.bool x.live, .int .i64 x.hash, .int .i64 x.key, .int .i64 x.val, .int .i64 x.birth] 99 (0, 0)) ∧ Keeps [] w4 V) ⟨has_new _ _, (Keeps.refl [] w4).alloc _⟩ ?_
      rintro w5 ⟨b5, k5⟩
      have y2 : w5.cell? ⟨w4.heap.size, 2, none⟩ = some (.int .i64 x.key) := cell_has b5 (i := 2) rfl
      have K5 := Lib.hid (K4.out.trans k5)
      have M5 := Lib.hid (M3.out.keeps K5.out (by simp))
      have KK := Lib.hid (K3.out.trans (K5.out.mono (by simp)))
      obtain ⟨xk, hxk⟩ := ex_hid x.key
      rw [← hxk.out] at y2
      clear b5 k5
      by_cases he : xk = n
      · have he1 : (xk == n) = true := by simpa using he
        have HE := Lib.hid he
        clear he
        go_wp2_with fail
        go_ret
        have e9 := SGX.out
        rw [if_pos (by rw [← hxk.out]; exact HE.out)] at e9
        refine ⟨by rw [← e9]; rfl, by rw [← e9]; exact M5.out, ?_⟩
        exact (K2.out.mono (by simp)).then KK.out (fun z hz => by
          rcases List.mem_cons.1 hz with e | e
          · left; rw [e]; exact L2.out
          · exact .inr e)
      · have he1 : (xk == n) = false := by simpa using he
        have HE := Lib.hid he
        clear he
        go_wp2_with fail
        have hlt : 1 ≤ jx ∧ (T.E.length : Int) ≤ tl + 1 + ((jx - 1 : Nat) : Int) := by
          obtain ⟨x', e1, _, e3⟩ := TL.out
          obtain ⟨e4, e5, _⟩ := ent_some e1
          have e6 := (List.getElem?_eq_some_iff.1 e5).1
          have e7 := I.out.2.2.2.2.2
          have e8 := htl.out
          omega
        have HLT := Lib.hid hlt
        clear hlt
        go_roundg (jx - 1)
        case measure => have := HLT.out.1; omega
        case rel =>
          refine ⟨T.next sk, c'.visN (T.walks sk), jx - 1, Nat.le_refl _, Lib.hid ⟨S3.out.keeps K5.out (by simp), M5.out, KK.out, OK3.out, ?_, ?_⟩⟩
          · have e9 := SGX.out
            rw [if_neg (by rw [← hxk.out]; exact HE.out)] at e9
            rw [Nat.sub_add_cancel HLT.out.1]; exact e9
          · rw [← htl.out]; exact HLT.out.2
    · have SG1 := SG.out
      rw [ho] at SG1
      simp only [if_true] at SG1
      have SGX := Lib.hid SG1
      clear SG1 ho
      go_wp2_with fail
      go_ret
      refine ⟨by rw [← SGX.out]; rfl, by rw [← SGX.out]; exact M3.out, ?_⟩
      exact (K2.out.mono (by simp)).then K3.out (fun z hz => by
        rcases List.mem_cons.1 hz with e | e
        · left; rw [e]; exact L2.out
        · exact .inr e)
end Go.Proofs.YtajmfenfajbakaaGreat
