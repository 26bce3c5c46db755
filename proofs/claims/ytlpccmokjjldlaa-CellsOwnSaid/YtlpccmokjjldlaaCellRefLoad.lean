/- The document's Load (chapter 6). -/
import Derived.Test.YtlpccmokjjldlaaCellLoad
namespace Go.Proofs.Ytlpccmokjjldlaa
open Go.RowKit
set_option linter.unusedVariables false

theorem or_step (u b m : Nat) (hm : m ≤ 3) (hb : b < 256) (hu : u < 256 ^ m) : bits .or .u32 (u : Int) ((b : Int) * 2 ^ (8 * m) % 4294967296) = ((u + b * 256 ^ m : Nat) : Int) := by
  have h := or_back u b m hu
  have hc : m = 0 ∨ m = 1 ∨ m = 2 ∨ m = 3 := by omega
  rcases hc with rfl | rfl | rfl | rfl
  · have e : (b : Int) * 2 ^ (8 * 0) % 4294967296 = ((b * 256 ^ 0 : Nat) : Int) := by simp; omega
    simp at hu
    rw [e, u32_or_nat _ _ (by omega) (by simp; omega), h]
  · have e : (b : Int) * 2 ^ (8 * 1) % 4294967296 = ((b * 256 ^ 1 : Nat) : Int) := by simp; omega
    simp at hu
    rw [e, u32_or_nat _ _ (by omega) (by simp; omega), h]
  · have e : (b : Int) * 2 ^ (8 * 2) % 4294967296 = ((b * 256 ^ 2 : Nat) : Int) := by simp; omega
    simp at hu
    rw [e, u32_or_nat _ _ (by omega) (by simp; omega), h]
  · have e : (b : Int) * 2 ^ (8 * 3) % 4294967296 = ((b * 256 ^ 3 : Nat) : Int) := by simp; omega
    simp at hu
    rw [e, u32_or_nat _ _ (by omega) (by simp; omega), h]

theorem sgn_shift (wd u : Nat) (hw : wd = 1 ∨ wd = 2 ∨ wd = 4) (hu : u < 256 ^ wd) : wrap64 (wrap32 ((u : Int) * 2 ^ (32 - 8 * wd) % 4294967296) / 2 ^ (32 - 8 * wd)) = sgnV wd u := by
  rcases hw with rfl | rfl | rfl
  · simp at hu
    simp only [sgnV, Nat.reduceMul, Nat.reduceSub, Int.reducePow, Nat.reducePow, wrap32, wrap64]
    split <;> omega
  · simp at hu
    simp only [sgnV, Nat.reduceMul, Nat.reduceSub, Int.reducePow, Nat.reducePow, wrap32, wrap64]
    split <;> omega
  · simp at hu
    simp only [sgnV, Nat.reduceMul, Nat.reduceSub, Int.reducePow, Nat.reducePow, wrap32, wrap64]
    split <;> omega

/-- Behind the document's Load. -/
def RLoadC (L n wd : Nat) (B : Nat → Nat) (j : Nat) (w : World) (e : Ending) (w' : World) : Prop :=
  if j = n then ∃ q, e = .returned (.tuple #[.agg #[.int .i64 L, .slice (some ⟨q, 0, none⟩) n n], .int .i64 0]) ∧ RefAt q n (loadedV wd n B n) w' ∧ w.heap.size ≤ q ∧ Below w.heap.size w w'
  else e = .returned (.tuple #[.agg #[.int .i64 0, .slice none 0 0], .int .i64 1]) ∧ Below w.heap.size w w'

/-- What is known between two cells. -/
structure RlS (q L n : Nat) (V : Nat → Int) (w : World) (cb : Nat) (W : World) : Prop where
  ref : RefAt q n V W
  rb : W.heap[w.heap.size]? = some (.cells #[.int .i64 0, .slice none 0 0] 64 (0, 0))
  cb : W.heap[cb]? = some (.cells #[.int .i64 L, .slice (some ⟨q, 0, none⟩) n n] 64 (0, 0))
  since : Below w.heap.size w W

set_option maxRecDepth 100000 in
set_option maxHeartbeats 1000000 in
theorem rload_any (L n j : Nat) (h3 : 3 ≤ L) (hL : L ≤ 20) (hn : n = 2 ^ L) (B : Nat → Nat) (hB : ∀ i, B i < 256) (hj : j ≤ n) (hall : ∀ i, i < j → mayB n (valB (wdOf L) B i) = true) (hbad : j < n → mayB n (valB (wdOf L) B j) = false)
    (a : Option Addr) (len cap : Nat) (hlen : len = n * wdOf L) (w : World) (hr : ReadsB w a len (byV B)) :
    Calls Try.prog 44 #[.int .i64 L, .slice a len cap] w (RLoadC L n (wdOf L) B j w) := by
  have hn1 : n ≤ 1048576 := by rw [hn]; exact pow_le hL
  have HN := Lib.hid hn
  have HR := Lib.hid hr
  have HA := Lib.hid hall
  have HX := Lib.hid hbad
  have HBb := Lib.hid hB
  obtain ⟨wd, hwd⟩ := ex_hid (wdOf L)
  have w1' : 1 ≤ wd := by rw [hwd.out]; exact (wdOf_is L).1
  have w4' : wd ≤ 4 := by rw [hwd.out]; exact (wdOf_is L).2
  rw [← hwd.out] at hlen
  rw [← hwd.out]
  have g0 : (0 : Int) ≤ (L : Int) := by omega
  have g1 : (L : Int) ≤ 20 := by omega
  have hlb : (len : Int) ≤ 4194304 := by
    have := Nat.mul_le_mul hn1 w4'
    omega
  have hp : wrap64 ((wd : Int) * 2 ^ L) = (len : Int) := by
    have e : (2 : Int) ^ L = (n : Int) := by rw [hn]; simp
    rw [e, hlen, Nat.mul_comm, Int.natCast_mul]
    refine IntWalk.wrap64_in _ ?_
    clear e hn
    have := Nat.mul_le_mul w4' hn1
    have h0 : ((wd * n : Nat) : Int) ≤ 4194304 := by omega
    rw [Int.natCast_mul] at h0
    have h1 : (0 : Int) ≤ ((wd * n : Nat) : Int) := by omega
    rw [Int.natCast_mul] at h1
    omega
  have HP := Lib.hid hp
  have HLN := Lib.hid hlen
  clear hn hr hall hbad hB hp hlen
  go_enter Try.func44, Try.ntmps44
  go_wp2_with fail
  refine (rnew_any L n _ rfl h3 hL HN.out _).mono ?_
  rintro e w1 ⟨q, rfl, hq, zq, b1⟩
  have hS0 : RlS q L n (begun n) w w1.heap.size (w1.alloc (.cells #[.int .i64 L, .slice (some ⟨q, 0, none⟩) n n] 64)) :=
    ⟨has_alloc hq _, has_alloc ((Below.keeps b1 []).has (has_new _ _) (by simp)) _, has_new _ _, (((Below.refl w.heap.size w).alloc (Nat.le_refl _) _).trans (b1.mono (by simp))).alloc (by have := b1.size; simp at this; omega) _⟩
  have Q := Lib.hid (show w.heap.size < q ∧ q < w1.heap.size from ⟨by simp at zq; omega, lt_of_block hq⟩)
  have HS0 := Lib.hid hS0
  have hp := HP.out
  clear hq zq b1 hS0
  go_wp2_with fail
  refine (rwidth_any L _ rfl h3 hL _).mono ?_
  rintro e w2 ⟨rfl, rfl⟩
  rw [← hwd.out]
  go_wp2_with fail
  clear hp
  go_loopw [9] (fun i wr => ∃ k : Nat, k ≤ j ∧ i = .int .i64 k ∧ RlS q L n (loadedV wd n B k) w w1.heap.size wr) (fun i _ => n - (intOf i).toNat)
  case atStart => exact ⟨0, by omega, rfl, by rw [show loadedV wd n B 0 = begun n by funext i; simp [loadedV]]; exact HS0.out⟩
  case round =>
    obtain ⟨k, hk, rfl, hS⟩ := hrel
    clear HS0
    have k0 : (0 : Int) ≤ (k : Int) := by omega
    have HS := Lib.hid hS
    have c1 := cell_has hS.cb (i := 1) rfl
    by_cases hlt : k < n
    · have hlt' : (k : Int) < (n : Int) := by omega
      clear hS
      go_wp2_with fail
      go_loopw [10, 11] (fun u kk wr' => ∃ m : Nat, m ≤ wd ∧ kk = .int .i64 m ∧ u = .int .u32 (leN B (k * wd) m : Nat) ∧ wr' = wr) (fun _ kk _ => wd - (intOf kk).toNat)
      case atStart => exact ⟨0, by omega, rfl, by simp [leN], rfl⟩
      case round =>
        obtain ⟨m, hm, rfl, rfl, rfl⟩ := hrel
        have m0 : (0 : Int) ≤ (m : Int) := by omega
        by_cases hml : m < wd
        · have hml' : (m : Int) < (wd : Int) := by omega
          have m3 : (m : Int) ≤ 3 := by omega
          obtain ⟨p, hp⟩ := ex_hid (k * wd)
          have q1 : p + m < len := by
            rw [HLN.out, hp.out]
            have := Nat.mul_le_mul (show k + 1 ≤ n by omega) (Nat.le_refl wd)
            rw [Nat.succ_mul] at this
            omega
          obtain ⟨bb, off, rfl, c2, -⟩ := HR.out.below HS.out.since (p + m) q1
          obtain ⟨b, hbb⟩ := ex_hid (B (p + m))
          rw [show byV B (p + m) = .int .u8 (b : Int) by rw [hbb.out]; rfl] at c2
          have e2 : (wd : Int) * (k : Int) = (p : Int) := by rw [hp.out, Int.mul_comm]; simp
          have bb0 : b < 256 := by rw [hbb.out]; exact HBb.out _
          have p0 : (p : Int) + (m : Int) < (len : Int) := by omega
          obtain ⟨u, hu⟩ := ex_hid (leN B (k * wd) m)
          rw [← hu.out]
          go_wp2_with fail
          go_roundw
          case rel =>
            refine ⟨m + 1, by omega, by go_num, ?_, trivial⟩
            rw [or_step u b m (by omega) bb0 (by rw [hu.out]; exact leN_lt HBb.out m _), leN_back, ← hu.out, hbb.out, hp.out]
          case measure => simp [intOf]; omega
        · have hme : m = wd := by omega
          have hml' : ¬ (m : Int) < (wd : Int) := by omega
          obtain ⟨u, hu⟩ := ex_hid (leN B (k * wd) m)
          rw [← hu.out]
          have HM := Lib.hid hme
          have wd2 : (wd : Int) ≤ 4 := by omega
          have wd3 : (1 : Int) ≤ (wd : Int) := by omega
          obtain ⟨x, hx⟩ := ex_hid (valB wd B k)
          have hv : Hid (wrap64 (wrap32 ((u : Int) * 2 ^ (32 - 8 * wd) % 4294967296) / 2 ^ (32 - 8 * wd)) = x) := Lib.hid (by
            have hl := leN_lt HBb.out m (k * wd)
            rw [sgn_shift wd u (wd_is L wd hwd.out) (by rw [hu.out]; rw [hme] at hl ⊢; exact hl), hx.out, valB, hu.out, hme])
          clear hme
          go_wp2_with fail
          rw [hv.out]
          refine (rmay_any L n _ x rfl h3 hL HN.out _).mono ?_
          rintro e w5 ⟨rfl, rfl⟩
          by_cases hkj : k < j
          · rw [show mayB n x = true by rw [hx.out, hwd.out]; exact HA.out k hkj]
            have c1 := cell_has HS.out.cb (i := 1) rfl
            have cq := cell_has HS.out.ref (numA_get hlt)
            have fq := free_of_has HS.out.ref k
            obtain ⟨y, hy⟩ := ex_hid (loadedV wd n B k k)
            rw [← hy.out] at cq
            go_wp2_with fail
            go_roundw
            case rel =>
              have hne := Q.out
              refine ⟨k + 1, by omega, by go_num, ?_, has_setCell_other HS.out.rb (by simp; omega) _, has_setCell_other HS.out.cb (by simp; omega) _, HS.out.since.setCell (by simp; omega) _⟩
              have h := has_setCell HS.out.ref k (.int .i64 x)
              rw [numA_set, hx.out, loadedV_put] at h
              rw [hx.out]
              exact h
            case measure => simp [intOf]; omega
          · have hke : k = j := by omega
            rw [show mayB n x = false by rw [hx.out, hwd.out, hke]; exact HX.out (by omega)]
            have r0 := cell_of_has HS.out.rb
            have f0 := free_of_has HS.out.rb
            have zb := lt_of_block HS.out.rb
            go_wp2_with fail
            refine bodyPost_ret (v := .tuple #[.agg #[.int .i64 0, .slice none 0 0], .int .i64 1]) (by simp [results, Try.results44, go_sem, r0]) rfl ?_
            unfold RLoadC
            rw [if_neg (by omega)]
            exact ⟨rfl, (HS.out.since.setCell (Nat.le_refl _) _).setCell (Nat.le_refl _) _⟩
    · have hke : k = n := by omega
      have hjn : j = n := by omega
      have hlt' : ¬ (k : Int) < (n : Int) := by omega
      have HQ : Hid (RefAt q n (loadedV wd n B n) wr) := Lib.hid (by rw [← hke]; exact hke ▸ hS.ref)
      have r0 := cell_of_has hS.rb
      have f0 := free_of_has hS.rb
      have c0 := cell_has hS.cb (i := 0) rfl
      have zb := lt_of_block hS.rb
      clear hS hke
      go_wp2_with fail
      refine bodyPost_ret (v := .tuple #[.agg #[.int .i64 L, .slice (some ⟨q, 0, none⟩) n n], .int .i64 0]) (by simp [results, Try.results44, go_sem, r0]) rfl ?_
      unfold RLoadC
      rw [if_pos (by first | rfl | exact hjn)]
      have hne := Q.out
      exact ⟨q, rfl, has_setCell_other (has_setCell_other HQ.out (by simp; omega) _) (by simp; omega) _, by omega, (HS.out.since.setCell (Nat.le_refl _) _).setCell (Nat.le_refl _) _⟩
end Go.Proofs.Ytlpccmokjjldlaa
