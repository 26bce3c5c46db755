/- TableOnce, walked (chapter 7's laws). -/
import Derived.Test.YtajcbghhpjpmhaaOnceM
import Derived.Test.YtajcbghhpjpmhaaTableSeeks
namespace Go.Proofs.Ytajcbghhpjpmhaa
open Go.RowKit
set_option linter.unusedVariables false
set_option linter.unusedSimpArgs false

theorem tableOnce_early (a1 : Option Addr) (n1 c1 : Nat) (w : World) (h : 300 < n1) :
    Calls Try.prog 7 #[.slice a1 n1 c1] w fun e w' => e = .returned (.bool true) ∧ Below w.heap.size w w' := by
  have d1 : decide ((300 : Int) < (n1 : Int)) = true := by simp; omega
  go_enter Try.func7, Try.ntmps7
  go_wp2_with (go_at_call 13; refine (awake7 _).mono ?_; rintro e w' ⟨rfl, hb⟩)
  go_ret
  exact ⟨rfl, hb⟩
/-- The first i entries' firsts are apart. -/
def ApartN (T : Tab) (i : Nat) : Prop := ∀ (a b : Nat) (x y : Ent), T.E[a]? = some x → T.E[b]? = some y → a < i → b < a → trC T.L (uh x.hash) 0 ≠ trC T.L (uh y.hash) 0
def ApartR (T : Tab) (i k : Nat) : Prop := ∀ (b : Nat) (x y : Ent), T.E[i]? = some x → T.E[b]? = some y → b < k → trC T.L (uh x.hash) 0 ≠ trC T.L (uh y.hash) 0
set_option maxRecDepth 100000 in
set_option maxHeartbeats 800000 in
theorem tableOnce_main (a1 : Option Addr) (n1 c1 : Nat) (F1 : Nat → Int) (w : World) (h1 : n1 ≤ 300) (s1 : IntRow .i64 1 w a1 n1 F1) :
    Calls Try.prog 7 #[.slice a1 n1 c1] w fun e w' => e = .returned (.bool true) ∧ Below w.heap.size w w' := by
  have d1 : decide ((300 : Int) < (n1 : Int)) = false := by simp; omega
  have Z1 := Lib.hid s1
  clear s1
  go_enter Try.func7, Try.ntmps7
  go_wp2_with fail
  refine (laid_any a1 none n1 c1 0 0 F1 (fun _ => 0) _ Z1.out (.inl rfl) h1 (by omega)).mono ?_
  have I := laidT_inv F1 (fun _ => 0) 0 n1 (by omega)
  have WH := laidT_whole F1 (fun _ => 0) n1 (by omega)
  generalize laidT F1 (fun _ => 0) 0 n1 = T at *
  have HI := Lib.hid I.inv
  have HW := Lib.hid WH
  have hEl := I.inv.ek
  have hL := I.inv.l12
  have hLE := liveL_all WH.1
  have LE := Lib.hid hLE
  have hL20 : T.L ≤ 20 := by omega
  clear I WH d1
  rintro r w1 ⟨t, S, wa, wc, rfl, t1, r1, _, k1⟩
  rw [hLE] at r1
  have T1 := Lib.hid t1
  have R1 := Lib.hid r1
  have K1 := Lib.hid k1
  have hn0 : liveN T.E = T.E.length := by rw [← liveL_len, hLE]
  obtain ⟨n, hn⟩ := ex_hid T.E.length
  have hn1 : n ≤ 600 := by rw [hn.out]; omega
  rw [hn0, ← hn.out]
  clear t1 r1 k1 hLE hn0
  have hfl := field_log
  go_wp2_with fail
  refine (sight_any t w.heap.size S (mV none) T _ T1.out (by omega) HI.out.ft (by omega)).mono ?_
  rintro r w2 ⟨ca, cc, ea, ec, rfl, _, _, b2⟩
  have K2 := Lib.hid (Below.keeps b2 [])
  clear b2
  unfold sightAgg
  go_wp2_with fail
  have R2 := Lib.hid (R1.out.keeps K2.out (by simp))
  go_loopw [7] (fun i wr => ∃ k : Nat, k ≤ n ∧ i = .int .i64 k ∧ Hid (ApartN T k) ∧ Keeps [] w2 wr) (fun i _ => n - (intOf i).toNat)
  case atStart => exact ⟨0, by omega, rfl, Lib.hid (fun a b x y _ _ h => by omega), Keeps.refl _ _⟩
  case round =>
    obtain ⟨k, hk, rfl, hA, hK⟩ := hrel
    have hk0 : (0 : Int) ≤ (k : Int) := by omega
    have HK := Lib.hid hK
    have R3 := Lib.hid (R2.out.keeps hK (by simp))
    by_cases hlt : k < n
    · have hlt' : (k : Int) < (n : Int) := by omega
      obtain ⟨gw, rfl⟩ := R3.out.shape (by rw [← hn.out]; omega)
      obtain ⟨x, hx⟩ : ∃ x, T.E[k]? = some x := ⟨_, List.getElem?_eq_getElem (by rw [← hn.out]; exact hlt)⟩
      have HX := Lib.hid hx
      clear hK hx
      go_wp2_with fail
      obtain ⟨w4, hw4⟩ : ∃ z, z = wr := ⟨_, rfl⟩
      subst hw4
      go_loopw [8] (fun i wr => ∃ j : Nat, j ≤ k ∧ i = .int .i64 j ∧ Hid (ApartR T k j) ∧ Keeps [] w4 wr) (fun i _ => k - (intOf i).toNat)
      case atStart => exact ⟨0, by omega, rfl, Lib.hid (fun b x y _ _ h => by omega), Keeps.refl _ _⟩
      case round =>
        obtain ⟨j, hj, rfl, hR, hK2⟩ := hrel
        have hj0 : (0 : Int) ≤ (j : Int) := by omega
        have HK2 := Lib.hid hK2
        by_cases hlt2 : j < k
        · have hlt2' : (j : Int) < (k : Int) := by omega
          have hjn : (j : Int) < (n : Int) := by omega
          obtain ⟨y, hy⟩ : ∃ y, T.E[j]? = some y := ⟨_, List.getElem?_eq_getElem (by rw [← hn.out]; omega)⟩
          have q1 := ((R3.out.keeps hK2 (by simp)).five HX.out).2.1
          have p1 := ((R3.out.keeps hK2 (by simp)).five hy).2.1
          have HY := Lib.hid hy
          obtain ⟨cx, hcx⟩ := ex_hid (trC T.L (uh x.hash) 0)
          obtain ⟨cy, hcy⟩ := ex_hid (trC T.L (uh y.hash) 0)
          obtain ⟨xh, hxh⟩ := ex_hid x.hash
          obtain ⟨yh, hyh⟩ := ex_hid y.hash
          rw [← hxh.out] at q1 hcx
          rw [← hyh.out] at p1 hcy
          clear hK2 hy
          by_cases he : cx = cy
          · have heb : ((cx : Int) == (cy : Int)) = true := by rw [he]; simp
            go_wp2_with fail
            go_region_held3 (fun w' => w'.cell? ⟨gw, k * 5 + 1, none⟩ = some (.int .i64 xh) ∧ w'.cell? ⟨gw, j * 5 + 1, none⟩ = some (.int .i64 yh)) (go_keep)
              (first
                | (go_at_call 25; refine (rfirst_any _ _ _ T.L rfl hL20).mono ?_; rintro r w9 ⟨rfl, rfl⟩; first | rw [← hcx.out] | rw [← hcy.out]))
            go_wp2_with (go_at_call 13; refine (awake7 _).mono ?_; rintro e w' ⟨rfl, hb⟩)
            go_ret
            exact ⟨rfl, ((((K1.out.trans K2.out).trans HK.out).trans HK2.out.drew).trans (Below.keeps hb [])).below (by simp) (by simp)⟩
          · have heb : ((cx : Int) == (cy : Int)) = false := by simp; omega
            go_wp2_with fail
            go_region_held3 (fun w' => w'.cell? ⟨gw, k * 5 + 1, none⟩ = some (.int .i64 xh) ∧ w'.cell? ⟨gw, j * 5 + 1, none⟩ = some (.int .i64 yh)) (go_keep)
              (first
                | (go_at_call 25; refine (rfirst_any _ _ _ T.L rfl hL20).mono ?_; rintro r w9 ⟨rfl, rfl⟩; first | rw [← hcx.out] | rw [← hcy.out]))
            go_wp2_with fail
            go_roundw
            case rel =>
              refine ⟨j + 1, by omega, by go_num, Lib.hid (fun b x' y' hx' hy' hb => ?_), HK2.out.drew⟩
              by_cases e : b = j
              · subst e
                rw [HX.out] at hx'; rw [HY.out] at hy'
                simp at hx' hy'
                subst hx'; subst hy'
                rw [← hxh.out, ← hyh.out, ← hcx.out, ← hcy.out]
                exact he
              · exact hR.out b x' y' hx' hy' (by omega)
            case measure => simp [intOf]; omega
        · obtain rfl : j = k := by omega
          have hge : ¬ (j : Int) < (j : Int) := by omega
          clear hK2
          go_wp2_with fail
          go_roundw
          case rel =>
            refine ⟨j + 1, by omega, by go_num, Lib.hid (fun a b x' y' hx' hy' ha hb => ?_), HK.out.trans HK2.out⟩
            by_cases e : a = j
            · subst e; exact hR.out b x' y' hx' hy' hb
            · exact hA.out a b x' y' hx' hy' (by omega) hb
          case measure => simp [intOf]; omega
    · obtain rfl : k = n := by omega
      have hge : ¬ (k : Int) < (k : Int) := by omega
      have at0 := Lib.hid (once_at HI.out HW.out (fun i j x y hx hy hij => hA.out i j x y hx hy (by have := (List.getElem?_eq_some_iff.1 hx).1; have := hn.out; omega) hij))
      clear hK
      go_wp2_with fail
      obtain ⟨w4, hw4⟩ : ∃ z, z = wr := ⟨_, rfl⟩
      subst hw4
      go_loopw [9] (fun i wr => ∃ j : Nat, j ≤ k ∧ i = .int .i64 j ∧ Keeps [] w4 wr) (fun i _ => k - (intOf i).toNat)
      case atStart => exact ⟨0, by omega, rfl, Keeps.refl _ _⟩
      case round =>
        obtain ⟨j, hj, rfl, hK⟩ := hrel
        have hj0 : (0 : Int) ≤ (j : Int) := by omega
        have HK4 := Lib.hid hK
        have KW := Lib.hid ((K2.out.trans HK.out).trans hK)
        by_cases hlt2 : j < k
        · have hlt2' : (j : Int) < (k : Int) := by omega
          obtain ⟨gw, rfl⟩ := R3.out.shape (by rw [← hn.out]; omega)
          obtain ⟨x, hx⟩ : ∃ x, T.E[j]? = some x := ⟨_, List.getElem?_eq_getElem (by rw [← hn.out]; exact hlt2)⟩
          obtain ⟨q0, q1, q2, q3, q4⟩ := (R3.out.keeps hK (by simp)).five hx
          obtain ⟨o1, o2, o3⟩ := once_next HI.out hx (at0.out j x hx)
          have hsay : (T.next (T.seek x.hash)).says = (j : Int) := by unfold Sk.says; rw [o1]; simp [o2]
          have hEnt : entE T.E (j : Int) = some x := by
            unfold entE
            rw [if_pos hj0]
            simp [hx, Option.filter, HW.out.1 x (List.mem_of_getElem? hx)]
          have N := Lib.hid (And.intro hsay (And.intro o1 (And.intro o3 hEnt)))
          have QQ := Lib.hid (And.intro q0 (And.intro q1 (And.intro q2 (And.intro q3 q4))))
          clear hK hx o1 o2 o3 hsay hEnt
          go_wp2_with fail
          refine (seek_any t w.heap.size S (mV none) T _ (T1.out.keeps KW.out (by simp)) (by omega) x.hash).mono ?_
          rintro r w5 ⟨sb, rfl, sk5, z5, k5⟩
          have SK5 := Lib.hid sk5
          have K5 := Lib.hid k5
          have hsb : sb ∉ S := fun hx => by have := (T1.out.foot sb hx).2; have := KW.out.size; omega
          have HSB := Lib.hid hsb
          have Z5 := Lib.hid z5
          clear sk5 k5 hsb z5
          go_wp2_with fail
          refine (next_seek (2 * n1) (by omega) sb t w.heap.size S T (T.seek x.hash) _ (T1.out.keeps (KW.out.trans K5.out) (by simp)) HI.out SK5.out HSB.out (SkOk.seek HI.out x.hash)).mono ?_
          rintro r w6 ⟨rfl, s6, k6⟩
          rw [N.out.1, N.out.2.1]
          have S6 := Lib.hid s6
          have K6 := Lib.hid (show Keeps [] wr w6 from K5.out.then k6 (fun x hx => by simp at hx; subst hx; left; exact Z5.out))
          clear s6 k6
          go_wp2_with fail
          refine (at_tab t w.heap.size S (mV none) T _ (T1.out.keeps (KW.out.trans K6.out) (by simp)) (by omega) j).mono ?_
          rintro r w7 ⟨rfl, b7⟩
          rw [N.out.2.2.2]
          have K7 := Lib.hid (Below.keeps b7 [])
          clear b7
          simp only [atE, okE, Option.getD_some, Option.isSome_some, if_true]
          unfold Ent.agg
          go_upto_region 23 with (fail)
          refine wp_gen (fun W => W.heap[w7.heap.size]? = some (.cells #[.bool x.live, .int .i64 x.hash, .int .i64 x.key, .int .i64 x.val, .int .i64 x.birth] 32 (0, 0)) ∧ Keeps [] w7 W) ⟨has_new _ _, (Keeps.refl [] w7).alloc _⟩ ?_
          rintro W ⟨hb, kb⟩
          obtain ⟨o0, o1, o2, o3, o4⟩ := QQ.out
          have ko : Keeps [] wr W := (K6.out.trans K7.out).trans kb
          have r0 : W.cell? ⟨w7.heap.size, 0, none⟩ = some (.bool x.live) := cell_has hb (i := 0) rfl
          have r1 : W.cell? ⟨w7.heap.size, 1, none⟩ = some (.int .i64 x.hash) := cell_has hb (i := 1) rfl
          have r2 : W.cell? ⟨w7.heap.size, 2, none⟩ = some (.int .i64 x.key) := cell_has hb (i := 2) rfl
          have r3 : W.cell? ⟨w7.heap.size, 3, none⟩ = some (.int .i64 x.val) := cell_has hb (i := 3) rfl
          have r4 : W.cell? ⟨w7.heap.size, 4, none⟩ = some (.int .i64 x.birth) := cell_has hb (i := 4) rfl
          have v0 := ko.cell o0 (by simp)
          have v1 := ko.cell o1 (by simp)
          have v2 := ko.cell o2 (by simp)
          have v3 := ko.cell o3 (by simp)
          have v4 := ko.cell o4 (by simp)
          have KB := Lib.hid ko
          have SW := Lib.hid (S6.out.keeps (K7.out.trans kb) (by simp))
          have hqx := fun w => neq_ent x x w
          simp only [Ent.agg, decide_true, Bool.not_true] at hqx
          clear q0 q1 q2 q3 q4 o0 o1 o2 o3 o4 hb kb ko
          go_region_held3 (fun w' => w'.cell? ⟨w7.heap.size, 0, none⟩ = some (.bool x.live) ∧ w'.cell? ⟨w7.heap.size, 1, none⟩ = some (.int .i64 x.hash) ∧ w'.cell? ⟨w7.heap.size, 2, none⟩ = some (.int .i64 x.key) ∧ w'.cell? ⟨w7.heap.size, 3, none⟩ = some (.int .i64 x.val) ∧ w'.cell? ⟨w7.heap.size, 4, none⟩ = some (.int .i64 x.birth) ∧ w'.cell? ⟨gw, j * 5, none⟩ = some (.bool x.live) ∧ w'.cell? ⟨gw, j * 5 + 1, none⟩ = some (.int .i64 x.hash) ∧ w'.cell? ⟨gw, j * 5 + 2, none⟩ = some (.int .i64 x.key) ∧ w'.cell? ⟨gw, j * 5 + 3, none⟩ = some (.int .i64 x.val) ∧ w'.cell? ⟨gw, j * 5 + 4, none⟩ = some (.int .i64 x.birth)) (go_keep)
            (first
              | (go_at_call 24; refine (visited_any sb t (T.next (T.seek x.hash)) _ (SW.out.keeps (Keeps.refl [] W).drew (by simp))).mono ?_; rintro r w9 ⟨rfl, rfl⟩; rw [N.out.2.2.1]))
          go_wp2_with fail
          go_roundw
          case rel => exact ⟨j + 1, by omega, by go_num, (HK4.out.trans KB.out).drew⟩
          case measure => simp [intOf]; omega
        · obtain rfl : j = k := by omega
          have hge : ¬ (j : Int) < (j : Int) := by omega
          clear hK
          go_wp2_with (go_at_call 13; refine (awake7 _).mono ?_; rintro e w' ⟨rfl, hb⟩)
          go_ret
          exact ⟨rfl, ((K1.out.trans KW.out).trans (Below.keeps hb [])).below (by simp) (by simp)⟩
theorem tableOnce_walk (a0 : Option Addr) (len0 cap0 : Nat) (F0 : Nat → Int) (w : World) (w0 : IntRow .i64 1 w a0 len0 F0) :
    Calls Try.prog 7 #[.slice a0 len0 cap0] w fun e w' => e = .returned (.bool true) ∧ Below w.heap.size w w' := by
  by_cases h : 300 < len0
  · exact tableOnce_early a0 len0 cap0 w h
  · exact tableOnce_main a0 len0 cap0 F0 w (by omega) w0
end Go.Proofs.Ytajcbghhpjpmhaa
