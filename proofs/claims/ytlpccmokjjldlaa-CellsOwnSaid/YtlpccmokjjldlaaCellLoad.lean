/- Load of index cells: from bytes (chapter 6). -/
import Derived.Test.YtlpccmokjjldlaaCellLoadMath
import Derived.Laws.BitsAllLaws
namespace Go.Proofs.Ytlpccmokjjldlaa
open Go.RowKit
set_option linter.unusedVariables false

/-- Bytes as values. -/
def byV (B : Nat → Nat) : Nat → Value := fun i => .int .u8 (B i : Int)
/-- The first k cells are what the bytes say. -/
def loadedV (wd n : Nat) (B : Nat → Nat) (k : Nat) : Nat → Int := fun i => if i < k then valB wd B i else begun n i
theorem loadedV_put (wd n : Nat) (B : Nat → Nat) (k : Nat) : putN (loadedV wd n B k) k (valB wd B k) = loadedV wd n B (k + 1) := by
  funext i
  unfold putN loadedV
  by_cases h : i = k
  · subst h; rw [if_pos rfl, if_pos (by omega)]
  · rw [if_neg h]
    by_cases h2 : i < k
    · rw [if_pos h2, if_pos (by omega)]
    · rw [if_neg h2, if_neg (by omega)]

theorem wrap32_bd (x : Int) : -2147483648 ≤ wrap32 x ∧ wrap32 x ≤ 2147483647 := by unfold wrap32; omega
theorem sgn_wrap64 (L u : Nat) (hu : u < 256 ^ wdOf L) : (kiOf L).wrap (wrap64 (wrap32 (u : Int))) = sgnV (wdOf L) u := by
  have h2 := wrap32_bd (u : Int)
  rw [IntWalk.wrap64_in _ ⟨by omega, by omega⟩, ← IntWalk.i32_left]
  exact sgn_wrap L u hu
theorem wd_is (L wd : Nat) (h : wd = wdOf L) : wd = 1 ∨ wd = 2 ∨ wd = 4 := by
  rcases wdOf_cases L with h' | h' | h' <;> simp [h, h'.1]

/-- Behind Load of as many bytes as there must be; j: the first cell that may not hold what they say, or n. -/
def LoadC (L n wd : Nat) (B : Nat → Nat) (j : Nat) (w : World) (e : Ending) (w' : World) : Prop :=
  if j = n then ∃ c r, e = .returned (.tuple #[.pointer (some ⟨c, 0, none⟩), .int .i64 0]) ∧ CellsAt c r L n (loadedV wd n B n) w' ∧ w.heap.size ≤ c ∧ w.heap.size ≤ r ∧ Below w.heap.size w w'
  else e = .returned (.tuple #[.pointer none, .int .i64 1]) ∧ Below w.heap.size w w'

set_option maxRecDepth 100000 in
set_option maxHeartbeats 1000000 in
theorem load_any (L n j : Nat) (h3 : 3 ≤ L) (hL : L ≤ 20) (hn : n = 2 ^ L) (B : Nat → Nat) (hB : ∀ i, B i < 256) (hj : j ≤ n) (hall : ∀ i, i < j → mayB n (valB (wdOf L) B i) = true) (hbad : j < n → mayB n (valB (wdOf L) B j) = false)
    (a : Option Addr) (len cap : Nat) (hlen : len = n * wdOf L) (w : World) (hr : ReadsB w a len (byV B)) :
    Calls Try.prog 43 #[.int .i64 L, .slice a len cap] w (LoadC L n (wdOf L) B j w) := by
  have hn1 : n ≤ 1048576 := by rw [hn]; exact pow_le hL
  have HN := Lib.hid hn
  have HR := Lib.hid hr
  have HA := Lib.hid hall
  have HX := Lib.hid hbad
  have HBb := Lib.hid hB
  obtain ⟨wd, hwd⟩ := ex_hid (wdOf L)
  have w1' : 1 ≤ wd := by rw [hwd.out]; exact (wdOf_is L).1
  have w4' : wd ≤ 4 := by rw [hwd.out]; exact (wdOf_is L).2
  rw [← hwd.out] at hlen
  have hp : wrap64 ((wd : Int) * (n : Int)) = (len : Int) := by
    rw [hlen, Nat.mul_comm, Int.natCast_mul]
    refine IntWalk.wrap64_in _ ?_
    have := Nat.mul_le_mul w4' hn1
    have h0 : ((wd * n : Nat) : Int) ≤ 4194304 := by omega
    rw [Int.natCast_mul] at h0
    have h1 : (0 : Int) ≤ ((wd * n : Nat) : Int) := by omega
    rw [Int.natCast_mul] at h1
    omega
  have HP := Lib.hid hp
  have HLN := Lib.hid hlen
  have hlb : (len : Int) ≤ 4194304 := by
    have := Nat.mul_le_mul hn1 w4'
    omega
  rw [← hwd.out]
  clear hn hr hall hbad hB hp hlen
  go_enter Try.func43, Try.ntmps43
  go_wp2_with fail
  refine (new_any L n _ rfl h3 hL HN.out _).mono ?_
  rintro e w1 ⟨c, r, rfl, H1, zc, zr, b1⟩
  have HC := Lib.hid H1
  have B1 := Lib.hid b1
  clear H1 b1
  go_wp2_with fail
  refine (width_any c r L n _ _ HC.out).mono ?_
  rintro e w2 ⟨rfl, b2⟩
  rw [← hwd.out]
  have HC2 := Lib.hid (HC.out.below b2)
  have B2 := Lib.hid (B1.out.trans (b2.mono B1.out.size))
  clear b2 HC B1
  go_wp2_with fail
  refine (size_any c r L n _ _ HC2.out).mono ?_
  rintro e w3 ⟨rfl, b3⟩
  have HC3 := Lib.hid (HC2.out.below b3)
  have B3 := Lib.hid (B2.out.trans (b3.mono B2.out.size))
  have hp := HP.out
  clear b3 HC2 B2
  go_wp2_with fail
  refine (size_any c r L n _ _ HC3.out).mono ?_
  rintro e w4 ⟨rfl, b4⟩
  have HC4 := Lib.hid (HC3.out.below b4)
  have B4 := Lib.hid (B3.out.trans (b4.mono B3.out.size))
  clear b4 HC3 B3 hp
  go_wp2_with fail
  go_loopw [31] (fun i wr => ∃ k : Nat, k ≤ j ∧ i = .int .i64 k ∧ CellsAt c r L n (loadedV wd n B k) wr ∧ Below w.heap.size w wr) (fun i _ => n - (intOf i).toNat)
  case atStart => exact ⟨0, by omega, rfl, by rw [show loadedV wd n B 0 = begun n by funext i; simp [loadedV]]; exact HC4.out, B4.out⟩
  case round =>
    obtain ⟨k, hk, rfl, hC, hb⟩ := hrel
    clear HC4 B4
    have k0 : (0 : Int) ≤ (k : Int) := by omega
    by_cases hlt : k < n
    · have hlt' : (k : Int) < (n : Int) := by omega
      have HC := Lib.hid hC
      have HB := Lib.hid hb
      clear hC hb
      go_wp2_with fail
      go_loopw [10, 11] (fun u kk wr' => ∃ m : Nat, m ≤ wd ∧ kk = .int .i64 ((wd : Int) - 1 - m) ∧ u = .int .u32 (leN B (k * wd + (wd - m)) m : Nat) ∧ CellsAt c r L n (loadedV wd n B k) wr' ∧ Below w.heap.size w wr') (fun _ kk _ => (intOf kk + 1).toNat)
      case atStart => exact ⟨0, by omega, by simp, by simp [leN], HC.out, HB.out⟩
      case round =>
        obtain ⟨m, hm, rfl, rfl, hC, hb⟩ := hrel
        have HC := Lib.hid hC
        have HB := Lib.hid hb
        by_cases hml : m < wd
        · obtain ⟨s, hs⟩ := ex_hid (wd - m - 1)
          obtain ⟨p, hp⟩ := ex_hid (k * wd)
          obtain ⟨u, hu⟩ := ex_hid (leN B (k * wd + (wd - m)) m)
          have q1 : p + s < len := by
            rw [HLN.out, hp.out, hs.out]
            have := Nat.mul_le_mul (show k + 1 ≤ n by omega) (Nat.le_refl wd)
            rw [Nat.succ_mul] at this
            omega
          obtain ⟨bb, off, rfl, c1, -⟩ := HR.out.below hb (p + s) q1
          obtain ⟨b, hbb⟩ := ex_hid (B (p + s))
          rw [show byV B (p + s) = .int .u8 (b : Int) by rw [hbb.out]; rfl] at c1
          have e1 : (wd : Int) - 1 - (m : Int) = (s : Int) := by have := hs.out; omega
          have e2 : (k : Int) * (wd : Int) = (p : Int) := by rw [hp.out]; simp
          have ub : (u : Int) * 256 ≤ 4294967295 := by
            have h := leN_lt HBb.out m (k * wd + (wd - m))
            rw [← hu.out] at h
            have hm3 : m = 0 ∨ m = 1 ∨ m = 2 ∨ m = 3 := by omega
            rcases hm3 with h' | h' | h' | h' <;> rw [h'] at h <;> simp at h <;> omega
          have bb0 : b < 256 := by rw [hbb.out]; exact HBb.out _
          have s0 : (0 : Int) ≤ (s : Int) := by omega
          have s1 : (s : Int) ≤ 4 := by have := hs.out; omega
          have p0 : (p : Int) + (s : Int) < (len : Int) := by omega
          have hor := u32_or_nat (u * 256) b (by omega) (by omega)
          rw [or_front u b bb0] at hor
          have HOR : Hid (bits .or .u32 ((u : Int) * 256) (b : Int) = ((u * 256 + b : Nat) : Int)) := Lib.hid (by rw [← hor, Int.natCast_mul]; rfl)
          rw [e1, ← hu.out]
          have E1 := Lib.hid e1
          clear hC hb e1 hor
          go_wp2_with fail
          go_roundw
          case rel =>
            refine ⟨m + 1, by omega, ?_, ?_, HC.out, HB.out⟩
            · rw [← E1.out]
              congr 1
              omega
            · rw [HOR.out]
              have hx : leN B (k * wd + (wd - (m + 1))) (m + 1) = u * 256 + b := by
                rw [leN, hu.out, hbb.out, hp.out, hs.out]
                rw [show k * wd + (wd - (m + 1)) + 1 = k * wd + (wd - m) by omega, show wd - (m + 1) = wd - m - 1 by omega]
                omega
              rw [hx]
          case measure => simp [intOf]
        · have hme : m = wd := by omega
          subst hme
          obtain ⟨u, hu⟩ := ex_hid (leN B (k * m + (m - m)) m)
          have c1 := cell_has hC.ho (i := 1) rfl
          have e1 : (m : Int) - 1 - (m : Int) = -1 := by omega
          have hms := (rowKind L).ms
          have hes := fun args W => (rowKind L).es args W
          have hw : (kiOf L).wrap (wrap64 (wrap32 (u : Int))) = valB m B k := by
            have hx := sgn_wrap64 L u (by rw [hu.out, ← hwd.out]; exact leN_lt HBb.out m (k * m + (m - m)))
            rw [hx, valB, ← hwd.out, hu.out, Nat.sub_self, Nat.add_zero]
          have HW := Lib.hid hw
          rw [e1, ← hu.out]
          clear hC hb e1 hw
          go_wp2_with fail
          refine ((rowKind L).cs r n k _ _ rfl _ _ _ HC.out.hr hlt).mono ?_
          rintro e w5 ⟨rfl, k5, h5⟩
          rw [HW.out, loadedV_put] at h5
          have HC5 := Lib.hid (CellsAt.mk (k5.has HC.out.ho (by simpa using HC.out.apart)) h5)
          have HB5 := Lib.hid (HB.out.trans (k5.below HB.out.size (by simpa using zr)))
          clear k5 h5 hms hes c1
          have c1 := cell_has HC5.out.ho (i := 1) rfl
          have hmg := (rowKind L).mg
          have heg := fun args W => (rowKind L).eg args W
          obtain ⟨x, hx⟩ := ex_hid (valB m B k)
          have hbd : -2147483648 ≤ valB m B k ∧ valB m B k ≤ 2147483647 := sgn_bounds m _ (wd_is L m hwd.out) (leN_lt HBb.out m _)
          have HBD := Lib.hid hbd
          clear hbd
          go_wp2_with fail
          refine ((rowKind L).cg r n k _ _ rfl _ _ HC5.out.hr hlt (by simp only [loadedV, Nat.lt_succ_self, if_true]; exact HBD.out)).mono ?_
          rintro e w6 ⟨rfl, b6⟩
          rw [show loadedV m n B (k + 1) k = x by rw [hx.out]; simp [loadedV]]
          have HC6 := Lib.hid (HC5.out.below b6)
          have HB6 := Lib.hid (HB5.out.trans (b6.mono HB5.out.size))
          clear b6 hmg heg c1
          go_wp2_with fail
          refine (may_any c r L n _ x _ HC6.out hn1).mono ?_
          rintro e w7 ⟨rfl, b7⟩
          have HC7 := Lib.hid (HC6.out.below b7)
          have HB7 := Lib.hid (HB6.out.trans (b7.mono HB6.out.size))
          clear b7
          by_cases hkj : k < j
          · rw [show mayB n x = true by rw [hx.out, hwd.out]; exact HA.out k hkj]
            go_wp2_with fail
            go_roundw
            case rel => exact ⟨k + 1, by omega, by go_num, HC7.out, HB7.out⟩
            case measure => simp [intOf]; omega
          · have hke : k = j := by omega
            rw [show mayB n x = false by rw [hx.out, hwd.out, hke]; exact HX.out (by omega)]
            go_wp2_with fail
            go_ret2
            unfold LoadC
            rw [if_neg (by omega)]
            exact ⟨rfl, HB7.out⟩
    · have hke : k = n := by omega
      have hjn : j = n := by omega
      have hlt' : ¬ (k : Int) < (n : Int) := by omega
      have HC := Lib.hid (hke ▸ hC)
      have HB := Lib.hid hb
      clear hC hb hke
      go_wp2_with fail
      go_ret2
      unfold LoadC
      rw [if_pos rfl]
      exact ⟨c, r, rfl, HC.out, zc, zr, HB.out⟩
end Go.Proofs.Ytlpccmokjjldlaa
