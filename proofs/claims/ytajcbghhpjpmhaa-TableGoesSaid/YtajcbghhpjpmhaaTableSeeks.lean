/- TableSeeks, walked (chapter 7's laws). -/
import Derived.Test.YtajcbghhpjpmhaaB7
import Derived.Test.YtajcbghhpjpmhaaB8
import Derived.Test.YtajcbghhpjpmhaaB5
import Derived.Test.YtajcbghhpjpmhaaTabNxtL
import Derived.Deep.Cut
import Derived.Deep.CutRange
namespace Go.Proofs.Ytajcbghhpjpmhaa
open Go.RowKit
set_option linter.unusedVariables false
set_option linter.unusedSimpArgs false

theorem tableSeeks_early (a1 a2 : Option Addr) (n1 n2 c1 c2 : Nat) (a9 : Int) (w : World) (h : 300 < n1 ∨ (n1 ≤ 300 ∧ 300 < n2)) :
    Calls Try.prog 6 #[.slice a1 n1 c1, .slice a2 n2 c2, .int .i64 a9] w fun e w' => e = .returned (.bool true) ∧ Below w.heap.size w w' := by
  rcases h with h | ⟨h, h2⟩
  · have d1 : decide ((300 : Int) < (n1 : Int)) = true := by simp; omega
    go_enter Try.func6, Try.ntmps6
    go_wp2_with (go_at_call 13; refine (awake7 _).mono ?_; rintro e w' ⟨rfl, hb⟩)
    go_ret
    exact ⟨rfl, hb⟩
  · have d1 : decide ((300 : Int) < (n1 : Int)) = false := by simp; omega
    have d2 : decide ((300 : Int) < (n2 : Int)) = true := by simp; omega
    go_enter Try.func6, Try.ntmps6
    go_wp2_with (go_at_call 13; refine (awake7 _).mono ?_; rintro e w' ⟨rfl, hb⟩)
    go_ret
    exact ⟨rfl, hb⟩
theorem at_tab (t lo : Nat) (S : List Nat) (m : Value) (T : Tab) (w : World) (H : TabAt t lo S m T w) (hl : T.E.length ≤ 1000000) (e : Int) :
    Calls Try.prog 23 #[.pointer (some ⟨t, 0, none⟩), .int .i64 e] w fun r w' => r = .returned (.tuple #[(atE (entE T.E e)).agg, .int .i64 (okE (entE T.E e))]) ∧ Below w.heap.size w w' := by
  obtain ⟨a, c, cb, cr, h1, h2, _⟩ := H
  exact at_any t lo c a T.E m _ _ _ _ _ e w h1 h2 hl
theorem next_seek (k : Nat) (hk : k ≤ 1000) (sb t lo : Nat) (S : List Nat) (T : Tab) (s : Sk) (w : World) (H : TabAt t lo S (mV none) T w) (hI : TInv k T) (hs : SkAt sb t s w) (hsb : sb ∉ S) (hok : SkOk T s) :
    Calls Try.prog 22 #[.pointer (some ⟨sb, 0, none⟩)] w fun r w' => r = .returned (.tuple #[.int .i64 (T.next s).says, .bool (!(T.next s).over)]) ∧ SkAt sb t (T.next s) w' ∧ Keeps [sb] w w' := by
  refine (next_any k hk sb t lo S none ⟨0, 0, 0, 0⟩ T s w H (MtrAt.nil _ _) (by simp) hI hs hsb hok).mono ?_
  rintro r w' ⟨rfl, h1, _, h2⟩
  exact ⟨rfl, h1, by simpa [mS] using h2⟩
/-- In the midst of the search. -/
def SeekI (sb t : Nat) (T : Tab) (h : Int) (i : Nat) (w3 wr : World) : Prop := ∃ s, SkAt sb t s wr ∧ Mid T h s ∧ SkOk T s ∧ Thru T.E h i s.told ∧ Keeps [sb] w3 wr
set_option maxRecDepth 100000 in
set_option maxHeartbeats 8000000 in
theorem tableSeeks_main (a1 a2 : Option Addr) (n1 n2 c1 c2 : Nat) (F1 F2 : Nat → Int) (hash : Int) (w : World) (h1 : n1 ≤ 300) (h2 : n2 ≤ 300) (s1 : IntRow .i64 1 w a1 n1 F1) (s2 : IntRow .i64 1 w a2 n2 F2) :
    Calls Try.prog 6 #[.slice a1 n1 c1, .slice a2 n2 c2, .int .i64 hash] w fun e w' => e = .returned (.bool true) ∧ Below w.heap.size w w' := by
  have d1 : decide ((300 : Int) < (n1 : Int)) = false := by simp; omega
  have d2 : decide ((300 : Int) < (n2 : Int)) = false := by simp; omega
  have Z1 := Lib.hid s1
  have Z2 := Lib.hid s2
  clear s1 s2
  go_enter Try.func6, Try.ntmps6
  go_wp2_with fail
  refine (laid_any a1 a2 n1 c1 n2 c2 F1 F2 _ Z1.out Z2.out h1 h2).mono ?_
  have I := laidT_inv F1 F2 n2 n1 (by omega)
  generalize laidT F1 F2 n2 n1 = T at *
  have HI := Lib.hid I.inv
  have hEl := I.inv.ek
  have hL := I.inv.l12
  clear I d1 d2
  rintro r w1 ⟨t, S, wa, wc, rfl, t1, r1, _, k1⟩
  have T1 := Lib.hid t1
  have R1 := Lib.hid r1
  have K1 := Lib.hid k1
  obtain ⟨n, hn⟩ := ex_hid (liveN T.E)
  have hn1 : n ≤ 600 := by have := liveN_le T.E; rw [hn.out]; omega
  have LL := Lib.hid (liveL_len T.E)
  obtain ⟨M, hM⟩ := ex_hid (2 ^ T.L)
  have hM1 : M ≤ 4096 := by rw [hM.out]; exact Nat.le_trans (Nat.pow_le_pow_right (by omega) hL) (by decide)
  rw [← hn.out]
  clear t1 r1 k1
  have hfc := field_cells
  go_wp2_with fail
  go_loopw [10] (fun i wr => ∃ k : Nat, k ≤ n + 1 ∧ i = .int .i64 k ∧ Keeps [] w1 wr) (fun i _ => n + 1 - (intOf i).toNat)
  case atStart => exact ⟨0, by omega, rfl, Keeps.refl _ _⟩
  case round =>
    obtain ⟨k, hk, rfl, hK⟩ := hrel
    have hk0 : (0 : Int) ≤ (k : Int) := by omega
    have HK := Lib.hid hK
    by_cases hlt : k ≤ n
    · have hlt' : (k : Int) ≤ (n : Int) := by omega
      have RW := Lib.hid (R1.out.keeps hK (by simp))
      clear hK
      go_upto_if 48 with (fail)
      go_cut [10, 11] from 45 to 121 (fun y z wx => y = .int .i64 k ∧ ∃ h : Int, z = .int .i64 h ∧ wr = wx)
      case first =>
        by_cases hkn : k < n
        · have hkn' : (k : Int) < (n : Int) := by omega
          obtain ⟨x, hx⟩ : ∃ x, (liveL T.E)[k]? = some x := ⟨_, List.getElem?_eq_getElem (by rw [LL.out, ← hn.out]; exact hkn)⟩
          obtain ⟨gw, rfl⟩ := RW.out.shape (by rw [LL.out, ← hn.out]; omega)
          obtain ⟨q0, q1, q2, q3, q4⟩ := RW.out.five hx
          go_wp2_with fail
          go_meet
          exact ⟨rfl, _, rfl, rfl⟩
        · have hkn' : ¬ (k : Int) < (n : Int) := by omega
          go_wp2_with fail
          go_meet
          exact ⟨rfl, _, rfl, rfl⟩
      case rest =>
        obtain ⟨rfl, h, rfl, rfl⟩ := hcut
        obtain ⟨w2, hw2⟩ : ∃ x, x = wr := ⟨_, rfl⟩
        subst hw2
        go_wp2_with fail
        refine (seek_any t w.heap.size S (mV none) T _ (T1.out.keeps HK.out (by simp)) (by omega) h).mono ?_
        rintro r w3 ⟨sb, rfl, sk3, z3, k3⟩
        have SK3 := Lib.hid sk3
        have K3 := Lib.hid (HK.out.trans k3)
        have hsb : sb ∉ S := fun hx => by have := (T1.out.foot sb hx).2; have := HK.out.size; omega
        have HSB := Lib.hid hsb
        have Z3 := Lib.hid (show w1.heap.size ≤ sb from by have := HK.out.size; omega)
        clear sk3 z3 k3 hsb
        go_wp2_with fail
        go_loopw [13] (fun i wr => ∃ j : Nat, j ≤ n ∧ i = .int .i64 j ∧ SeekI sb t T h j w3 wr) (fun i _ => n - (intOf i).toNat)
        case atStart => exact ⟨0, by omega, rfl, T.seek h, SK3.out, Mid.seek T h, SkOk.seek HI.out h, Thru.start _ _, Keeps.refl _ _⟩
        case round =>
          obtain ⟨j, hj, rfl, s, hs, hm, hok, ht, hK⟩ := hrel
          have hj0 : (0 : Int) ≤ (j : Int) := by omega
          have SKA := Lib.hid hs
          have MID := Lib.hid hm
          have OK := Lib.hid hok
          have THR := Lib.hid ht
          have HK4 := Lib.hid hK
          have KW := Lib.hid (show Keeps [] w1 wr from K3.out.then hK (fun x hx => by simp at hx; subst hx; left; exact Z3.out))
          clear hs hm hok ht hK
          by_cases hlt2 : j < n
          · have hlt' : (j : Int) < (n : Int) := by omega
            obtain ⟨x, hx⟩ : ∃ x, (liveL T.E)[j]? = some x := ⟨_, List.getElem?_eq_getElem (by rw [LL.out, ← hn.out]; exact hlt2)⟩
            obtain ⟨gw, rfl⟩ := R1.out.shape (by rw [LL.out, ← hn.out]; omega)
            obtain ⟨q0, q1, q2, q3, q4⟩ := (R1.out.keeps KW.out (by simp)).five hx
            have HX := Lib.hid hx
            obtain ⟨xh, hxh⟩ := ex_hid x.hash
            rw [← hxh.out] at q1
            clear hx
            by_cases heq : xh = h
            · subst heq
              obtain ⟨f, hf, hfe⟩ := numL_at HX.out
              obtain ⟨hl1, hl2⟩ := THR.out.later hf hxh.out.symm
              obtain ⟨m1, m2⟩ := MID.out.next HI.out OK.out hl1 hl2
              have ok1 := SkOk.next HI.out OK.out
              have th1 := THR.out.hit hf
              rw [← m2] at th1
              have hsay : (T.next s).says = (f : Int) := by unfold Sk.says; rw [m1.ov]; simp [m2]
              have N := Lib.hid (And.intro m1 (And.intro ok1 (And.intro th1 (And.intro hsay (And.intro m1.ov hfe)))))
              have QQ := Lib.hid (And.intro q0 (And.intro q1 (And.intro q2 (And.intro q3 q4))))
              clear hf hfe hl1 hl2 m1 m2 ok1 th1 hsay
              go_wp2_with fail
              refine (next_seek (2 * n1) (by omega) sb t w.heap.size S T s _ (T1.out.keeps KW.out (by simp)) HI.out SKA.out HSB.out OK.out).mono ?_
              rintro r w5 ⟨rfl, s5, k5⟩
              rw [N.out.2.2.2.1, N.out.2.2.2.2.1]
              have S5 := Lib.hid s5
              have K5 := Lib.hid (KW.out.then k5 (fun x hx => by simp at hx; subst hx; left; exact Z3.out))
              have K45 := Lib.hid (HK4.out.trans k5)
              have S5k := Lib.hid k5
              clear s5 k5
              go_wp2_with fail
              refine (at_tab t w.heap.size S (mV none) T _ (T1.out.keeps K5.out (by simp)) (by omega) f).mono ?_
              rintro r w6 ⟨rfl, b6⟩
              rw [N.out.2.2.2.2.2]
              have K6 := Lib.hid (K5.out.trans (Below.keeps b6 []))
              have K56 := Lib.hid (Below.keeps b6 [])
              clear b6
              simp only [atE, okE, Option.getD_some, Option.isSome_some, if_true]
              unfold Ent.agg
              go_upto_region 21 with (fail)
              refine wp_gen (fun W => W.heap[w6.heap.size]? = some (.cells #[.bool x.live, .int .i64 x.hash, .int .i64 x.key, .int .i64 x.val, .int .i64 x.birth] 32 (0, 0)) ∧ Keeps [] w6 W) ⟨has_new _ _, (Keeps.refl [] w6).alloc _⟩ ?_
              rintro W ⟨hb, kb⟩
              rw [← hxh.out] at hb
              have r0 : W.cell? ⟨w6.heap.size, 0, none⟩ = some (.bool x.live) := cell_has hb (i := 0) rfl
              have r1 : W.cell? ⟨w6.heap.size, 1, none⟩ = some (.int .i64 xh) := cell_has hb (i := 1) rfl
              have r2 : W.cell? ⟨w6.heap.size, 2, none⟩ = some (.int .i64 x.key) := cell_has hb (i := 2) rfl
              have r3 : W.cell? ⟨w6.heap.size, 3, none⟩ = some (.int .i64 x.val) := cell_has hb (i := 3) rfl
              have r4 : W.cell? ⟨w6.heap.size, 4, none⟩ = some (.int .i64 x.birth) := cell_has hb (i := 4) rfl
              obtain ⟨o0, o1, o2, o3, o4⟩ := QQ.out
              have kk := ((K45.out.trans (K56.out.mono (by simp))).trans (kb.mono (by simp)))
              have ko : Keeps [sb] wr W := (show Keeps [sb] wr w5 from S5k.out).trans ((K56.out.trans kb).mono (by simp))
              have nsb : ∀ (i : Nat), ¬ gw = sb := fun _ e => by
                have := (R1.out.blk_lt gw (by simp [blk])).2; have := Z3.out; omega
              have v0 := ko.cell o0 (by simp; exact nsb 0)
              have v1 := ko.cell o1 (by simp; exact nsb 0)
              have v2 := ko.cell o2 (by simp; exact nsb 0)
              have v3 := ko.cell o3 (by simp; exact nsb 0)
              have v4 := ko.cell o4 (by simp; exact nsb 0)
              have KB := Lib.hid (And.intro kk (S5.out.keeps (K56.out.trans kb) (by simp)))
              have hqx := fun w => neq_ent x x w
              simp only [Ent.agg, decide_true, Bool.not_true] at hqx
              rw [← hxh.out] at hqx
              clear q0 q1 q2 q3 q4 o0 o1 o2 o3 o4 hb kb kk ko nsb
              go_region_held3 (fun w' => w'.cell? ⟨w6.heap.size, 0, none⟩ = some (.bool x.live) ∧ w'.cell? ⟨w6.heap.size, 1, none⟩ = some (.int .i64 xh) ∧ w'.cell? ⟨w6.heap.size, 2, none⟩ = some (.int .i64 x.key) ∧ w'.cell? ⟨w6.heap.size, 3, none⟩ = some (.int .i64 x.val) ∧ w'.cell? ⟨w6.heap.size, 4, none⟩ = some (.int .i64 x.birth) ∧ w'.cell? ⟨gw, j * 5, none⟩ = some (.bool x.live) ∧ w'.cell? ⟨gw, j * 5 + 1, none⟩ = some (.int .i64 xh) ∧ w'.cell? ⟨gw, j * 5 + 2, none⟩ = some (.int .i64 x.key) ∧ w'.cell? ⟨gw, j * 5 + 3, none⟩ = some (.int .i64 x.val) ∧ w'.cell? ⟨gw, j * 5 + 4, none⟩ = some (.int .i64 x.birth)) (go_keep) (fail)
              go_wp2_with fail
              go_roundw
              case rel => exact ⟨j + 1, by omega, by go_num, T.next s, KB.out.2.keeps (Keeps.refl [] W).drew (by simp), N.out.1, N.out.2.1, N.out.2.2.1, KB.out.1.drew⟩
              case measure => simp [intOf]; omega
            · have hne : (xh != h) = true := by simpa using heq
              obtain ⟨f, hf, hfe⟩ := numL_at HX.out
              have th1 := Lib.hid (THR.out.pass hf (by simp only; rw [← hxh.out]; exact heq))
              clear hf hfe
              go_wp2_with fail
              go_roundw
              case rel => exact ⟨j + 1, by omega, by go_num, s, SKA.out, MID.out, OK.out, th1.out, HK4.out⟩
              case measure => simp [intOf]; omega
          · obtain rfl : j = n := by omega
            have hge : ¬ (j : Int) < (j : Int) := by omega
            obtain ⟨o1, o2, o3⟩ := MID.out.over HI.out OK.out (THR.out.none (by rw [← hn.out]; exact Nat.le_refl _))
            have hsay : (T.next s).says = -1 := by unfold Sk.says; rw [o1]; rfl
            have N := Lib.hid (And.intro hsay (And.intro o1 (And.intro o2 o3)))
            clear o1 o2 o3 hsay
            go_wp2_with fail
            refine (next_seek (2 * n1) (by omega) sb t w.heap.size S T s _ (T1.out.keeps KW.out (by simp)) HI.out SKA.out HSB.out OK.out).mono ?_
            rintro r w5 ⟨rfl, s5, k5⟩
            rw [N.out.1, N.out.2.1]
            have S5 := Lib.hid s5
            have K5 := Lib.hid (KW.out.then k5 (fun x hx => by simp at hx; subst hx; left; exact Z3.out))
            obtain ⟨vi, hvi⟩ := ex_hid (T.next s).vis
            have hv1 : (1 : Int) ≤ (vi : Int) := by have := N.out.2.2.1; have := hvi.out; omega
            have hv2 : (vi : Int) ≤ (M : Int) + 13 := by have := N.out.2.2.2; have := hvi.out; have := hM.out; omega
            have hv3 : vi ≤ M + 13 := by omega
            have hv4 : 1 ≤ vi := by omega
            clear s5 k5
            go_wp2_with fail
            refine (visited_any sb t (T.next s) _ S5.out).mono ?_
            rintro r w6 ⟨rfl, rfl⟩
            rw [← hvi.out]
            go_wp2_with fail
            refine (sight_any t w.heap.size S (mV none) T _ (T1.out.keeps K5.out (by simp)) (by omega) HI.out.ft (by omega)).mono ?_
            rintro r w7 ⟨ca, cc, ea, ec, rfl, _, _, b7⟩
            have K7 := Lib.hid (Below.keeps b7 [])
            clear b7
            unfold sightAgg
            rw [← hM.out]
            go_wp2_with fail
            refine (visited_any sb t (T.next s) _ (S5.out.keeps K7.out (by simp))).mono ?_
            rintro r w8 ⟨rfl, rfl⟩
            rw [← hvi.out]
            go_wp2_with fail
            go_roundw
            case rel => exact ⟨k + 1, by omega, by go_num, K5.out.trans K7.out⟩
            case measure => simp [intOf]; omega
    · obtain rfl : k = n + 1 := by omega
      have hge : ¬ (((n + 1 : Nat) : Int)) ≤ (n : Int) := by omega
      have hge2 : ¬ ((n : Int) + 1) ≤ (n : Int) := by omega
      clear hK
      go_wp2_with (go_at_call 13; refine (awake7 _).mono ?_; rintro e w' ⟨rfl, hb⟩)
      go_ret
      exact ⟨rfl, ((K1.out.trans HK.out).trans (Below.keeps hb [])).below (by simp) (by simp)⟩
theorem tableSeeks_walk (a0 : Option Addr) (len0 cap0 : Nat) (F0 : Nat → Int) (a1 : Option Addr) (len1 cap1 : Nat) (F1 : Nat → Int) (a2 : Int) (w : World) (w0 : IntRow .i64 1 w a0 len0 F0) (w1 : IntRow .i64 1 w a1 len1 F1) (hw2 : (Lit.int .i64 a2).wf = true) :
    Calls Try.prog 6 #[.slice a0 len0 cap0, .slice a1 len1 cap1, .int .i64 a2] w fun e w' => e = .returned (.bool true) ∧ Below w.heap.size w w' := by
  by_cases h : 300 < len0 ∨ (len0 ≤ 300 ∧ 300 < len1)
  · exact tableSeeks_early a0 a1 len0 len1 cap0 cap1 a2 w h
  · exact tableSeeks_main a0 a1 len0 len1 cap0 cap1 F0 F1 a2 w (by omega) (by omega) w0 w1
end Go.Proofs.Ytajcbghhpjpmhaa
