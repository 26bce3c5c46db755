/- CellsOwn, walked (chapter 6). -/
import Derived.Test.YtlpccmokjjldlaaCellsLoad3
import Derived.Test.YtlpccmokjjldlaaCellsPlay
namespace Go.Proofs.Ytlpccmokjjldlaa
open Go.RowKit
set_option linter.unusedVariables false
attribute [local go_sem ↓] Go.wp_at_zero Go.wp_at_succ

theorem infoN : (Try.prog.info? 3).map (fun i => (i.zero, i.size, i.bytes)) = some (some (.int .i64 0), 1, 8) := by kernel_rfl

theorem cellsOwn_early (l : Int) (a : Option Addr) (len cap : Nat) (w : World) (hc : 300 < len ∨ (len ≤ 300 ∧ l < 3) ∨ (len ≤ 300 ∧ 3 ≤ l ∧ 10 < l)) :
    Calls Try.prog 11 #[.int .i64 l, .slice a len cap] w fun e w' => e = .returned (.bool true) ∧ Below w.heap.size w w' := by
  rcases hc with h | ⟨h, h2⟩ | ⟨h, h2, h3⟩
  · have d1 : decide ((300 : Int) < (len : Int)) = true := by simp; omega
    go_enter Try.func11, Try.ntmps11
    go_wp2_with (go_at_call 30; refine (awake6 _).mono ?_; rintro e w' ⟨rfl, hb⟩)
    go_ret
    exact ⟨rfl, hb⟩
  · have d1 : decide ((300 : Int) < (len : Int)) = false := by simp; omega
    have d2 : decide (l < 3) = true := by simpa using h2
    go_enter Try.func11, Try.ntmps11
    go_wp2_with (go_at_call 30; refine (awake6 _).mono ?_; rintro e w' ⟨rfl, hb⟩)
    go_ret
    exact ⟨rfl, hb⟩
  · have d1 : decide ((300 : Int) < (len : Int)) = false := by simp; omega
    have d2 : decide (l < 3) = false := by simp; omega
    have d3 : decide (10 < l) = true := by simpa using h3
    go_enter Try.func11, Try.ntmps11
    go_wp2_with (go_at_call 30; refine (awake6 _).mono ?_; rintro e w' ⟨rfl, hb⟩)
    go_ret
    exact ⟨rfl, hb⟩

/-- What is known once All has been asked for. -/
structure OwS (c r d s bl g L n : Nat) (V : Nat → Int) (wa : Option Addr) (wc lo : Nat) (w0 W : World) : Prop where
  cells : CellsAt c r L n V W
  dells : CellsAt d s L n (begun n) W
  box : W.heap[bl]? = some (.cells #[.slice (some ⟨g, 0, none⟩) n n] 42 (0, 0))
  ref : RefAt g n (begun n) W
  was : ValRow 3 lo wa n wc (fun _ => .int .i64 (-1)) W
  below : Below w0.heap.size w0 W
theorem OwS.next {c r d s bl g L n : Nat} {V : Nat → Int} {wa : Option Addr} {wc lo : Nat} {w0 W w1 : World} (h : OwS c r d s bl g L n V wa wc lo w0 W) (b : Below W.heap.size W w1) : OwS c r d s bl g L n V wa wc lo w0 w1 :=
  ⟨h.cells.below b, h.dells.below b, (Below.keeps b []).has h.box (by simp), (Below.keeps b []).has h.ref (by simp), h.was.keeps (Below.keeps b []) (by simp), h.below.trans (b.mono h.below.size)⟩
theorem OwS.set {c r d s bl g L n : Nat} {V V2 : Nat → Int} {wa : Option Addr} {wc lo : Nat} {w0 W w1 : World} (h : OwS c r d s bl g L n V wa wc lo w0 W) (hc : CellsAt c r L n V2 w1) (k : Keeps [r] W w1) (hr : w0.heap.size ≤ r) (h1 : r ≠ d ∧ r ≠ s ∧ r ≠ bl ∧ r ≠ g ∧ r < lo) : OwS c r d s bl g L n V2 wa wc lo w0 w1 :=
  ⟨hc, h.dells.keeps k (by simp; omega) (by simp; omega), k.has h.box (by simp; omega), k.has h.ref (by simp; omega), h.was.keeps k (fun x hx => by have := (h.was.blk_lt x hx).1; simp; omega), h.below.trans (k.below h.below.size (by simp; omega))⟩
theorem OwS.lread {c r d s bl g L n : Nat} {V : Nat → Int} {wa : Option Addr} {wc lo : Nat} {w0 W : World} (h : OwS c r d s bl g L n V wa wc lo w0 W) : LRead W wa n (begun n) := fun i hi => by
  have hw := h.was
  obtain ⟨x, rfl⟩ := hw.shape (by omega)
  exact ⟨x, 0, rfl, by rw [Nat.zero_add, hw.cell hi]; simp [begun, hi]⟩

set_option maxRecDepth 100000 in
set_option maxHeartbeats 8000000 in
theorem cellsOwn_main (L : Nat) (h3 : 3 ≤ L) (hL : L ≤ 10) (a : Option Addr) (len cap : Nat) (F : Nat → Int) (w : World) (hr : IntRow .i64 2 w a len F) (hl : len ≤ 300) :
    Calls Try.prog 11 #[.int .i64 L, .slice a len cap] w fun e w' => e = .returned (.bool true) ∧ Below w.heap.size w w' := by
  obtain ⟨i0, hi, hz0, hz1, hz2⟩ := info_parts infoU
  have HI := Lib.hid (And.intro hi (And.intro hz0 (And.intro hz1 hz2)))
  clear hi hz0 hz1 hz2
  obtain ⟨j0, hi, hz0, hz1, hz2⟩ := info_parts infoN
  have HJ := Lib.hid (And.intro hi (And.intro hz0 (And.intro hz1 hz2)))
  clear hi hz0 hz1 hz2
  have d1 : decide ((300 : Int) < (len : Int)) = false := by simp; omega
  have d2 : decide ((L : Int) < 3) = false := by simp; omega
  have d3 : decide ((10 : Int) < (L : Int)) = false := by simp; omega
  have HR := Lib.hid hr
  have hL2 : L ≤ 20 := by omega
  obtain ⟨n, hn⟩ := ex_hid (2 ^ L)
  have hn1 : n ≤ 1048576 := by rw [hn.out]; exact pow_le hL2
  have hn0 : 0 < n := by rw [hn.out]; exact Nat.two_pow_pos L
  obtain ⟨tot, htot⟩ := ex_hid (n * wdOf L)
  have htot0 : 0 < tot := by rw [htot.out]; exact Nat.mul_pos hn0 (wdOf_is L).1
  have htot1 : tot ≤ 4194304 := by rw [htot.out]; exact Nat.le_trans (Nat.mul_le_mul hn1 (wdOf_is L).2) (by decide)
  clear hr
  go_enter Try.func11, Try.ntmps11
  go_wp2_with fail
  refine (new_any L n _ rfl h3 hL2 hn.out _).mono ?_
  rintro e w1 ⟨c, r, rfl, H1, zc, zr, b1⟩
  have HC1 := Lib.hid H1
  have B1 := Lib.hid b1
  clear H1 b1
  go_wp2_with fail
  refine (new_any L n _ rfl h3 hL2 hn.out _).mono ?_
  rintro e w2 ⟨d, s, rfl, H2, zd, zs, b2⟩
  have HC2 := Lib.hid (HC1.out.below b2)
  have HD2 := Lib.hid H2
  have B2 := Lib.hid (B1.out.trans (b2.mono B1.out.size))
  have Z := Lib.hid (show r < w1.heap.size ∧ c < w1.heap.size ∧ w1.heap.size ≤ w2.heap.size from ⟨lt_of_block HC1.out.hr, lt_of_block HC1.out.ho, b2.size⟩)
  clear H2 b2
  go_wp2_with fail
  go_loopw [9, 10] (fun x i wr => ∃ (k : Nat) (wa : Option Addr) (wc : Nat), k ≤ n ∧ i = .int .i64 k ∧ x = .slice wa k wc ∧ ValRow 3 w2.heap.size wa k wc (fun _ => .int .i64 (-1)) wr ∧ Below w2.heap.size w2 wr) (fun _ i _ => n - (intOf i).toNat)
  case atStart => exact ⟨0, none, 0, by omega, rfl, rfl, ValRow.nil _ _ _ _, Below.refl _ _⟩
  case round =>
    obtain ⟨k, wa, wc, hk, rfl, rfl, hrow, hb⟩ := hrel
    have k0 : (0 : Int) ≤ (k : Int) := by omega
    have ROW := Lib.hid hrow
    have HB := Lib.hid hb
    by_cases hlt : k < n
    · have hlt' : (k : Int) < (n : Int) := by omega
      have q3 : k + 1 ≤ maxLen := by unfold maxLen; omega
      have q4 : (k + 1) * 8 ≤ 140737488355328 := by omega
      have G := Lib.hid (And.intro q3 q4)
      clear hrow hb q3 q4
      go_wp2_with (first
        | (go_at_call 35; refine (size_any c r L n (begun n) _ (HC2.out.below HB.out)).mono ?_; rintro e w3 ⟨rfl, b3⟩; have ROW3 := Lib.hid (ROW.out.keeps (Below.keeps b3 []) (by simp)); have B3 := Lib.hid (HB.out.trans (b3.mono HB.out.size)); clear b3)
        | (at_builtin; refine wpList_append_lies _ rfl _ _ 42 rfl w2.heap.size 3 j0 (.int .i64 0) 1 8 Try.underlying42 HJ.out.1 HJ.out.2.1 HJ.out.2.2.1 HJ.out.2.2.2 rfl (by decide) _ k (valR k _) rfl (World.ownsRow.alloc ROW3.out _) ⟨w3.heap.size, 0, none⟩ 1 1 [_] rfl rfl (cell_one_new _ _ _) (by intro u hu; simp at hu; subst hu; rfl) (by decide) G.out.1 G.out.2 (by have := B3.out.size; simp <;> omega) (w3.heap.size + 1) (by simp) ?_; intro g xc2 w4 hown hgrow hat hlt2; have R4 := Lib.hid (ValRow.of_append hown); have B4 := Lib.hid (B3.out.trans ((keeps_of_grown hgrow).below B3.out.size (fun x hx => (ROW3.out.blk_lt x hx).1))); clear hown hgrow hat))
      go_roundw
      case rel => exact ⟨k + 1, _, _, by omega, by go_num, rfl, R4.out.congr (fun j hj => by unfold putV; split <;> rfl), B4.out⟩
      case measure => simp [intOf]; omega
    · have hke : k = n := by omega
      subst hke
      have hge : ¬ (k : Int) < (k : Int) := by omega
      clear hrow hb
      go_wp2_with (go_at_call 35; refine (size_any c r L k (begun k) _ (HC2.out.below HB.out)).mono ?_; rintro e w3 ⟨rfl, b3⟩; have ROW3 := Lib.hid (ROW.out.keeps (Below.keeps b3 []) (by simp)); have B3 := Lib.hid (HB.out.trans (b3.mono HB.out.size)); clear b3)
      refine (allc_any c r L k (begun k) _ (HC2.out.below B3.out) (begun_fits k k) hn1).mono ?_
      rintro e w6 ⟨bl, g, rfl, hbl, hg, zbl, zg, b6⟩
      have S6 : OwS c r d s bl g L k (begun k) wa wc w2.heap.size w w6 := ⟨(HC2.out.below B3.out).below b6, (HD2.out.below B3.out).below b6, hbl, hg, ROW3.out.keeps (Below.keeps b6 []) (by simp), (B2.out.trans (B3.out.mono B2.out.size)).trans (b6.mono (by have := B3.out.size; have := B2.out.size; omega))⟩
      have H6 := Lib.hid S6
      have ZZ := Lib.hid (show w.heap.size ≤ r ∧ r ≠ d ∧ r ≠ s ∧ r ≠ bl ∧ r ≠ g ∧ r < w2.heap.size from by have := Z.out; have := B3.out.size; omega)
      clear S6 hbl hg b6 zbl zg
      go_wp2_with fail
      refine (bytesc_any c r L k (begun k) _ H6.out.cells (begun_fits k k) hn1).mono ?_
      rintro e w7 ⟨a7, cap7, he, o7, b7⟩
      rw [← htot.out] at he o7
      subst he
      have hrow7 : ValRow 5 w6.heap.size a7 tot cap7 _ w7 := o7
      obtain ⟨gb, rfl⟩ := hrow7.shape htot0
      have R7 := Lib.hid hrow7
      have B7 := Lib.hid b7
      clear o7 b7 hrow7
      go_wp2_with fail
      go_loopw [13] (fun i wr => ∃ (j : Nat) (V : Nat → Value), j ≤ tot ∧ i = .int .i64 j ∧ ValRow 5 w6.heap.size (some ⟨gb, 0, none⟩) tot cap7 V wr ∧ Below w6.heap.size w6 wr) (fun i _ => tot - (intOf i).toNat)
      case atStart => exact ⟨0, _, by omega, rfl, R7.out, B7.out⟩
      case round =>
        obtain ⟨j, V, hj, rfl, hrow, hb⟩ := hrel
        have j0 : (0 : Int) ≤ (j : Int) := by omega
        have ROW := Lib.hid hrow
        have HB6 := Lib.hid hb
        by_cases hlt2 : j < tot
        · have hlt' : (j : Int) < (tot : Int) := by omega
          have ck := hrow.cell hlt2
          obtain ⟨y, hy⟩ := ex_hid (V j)
          rw [← hy.out] at ck
          have fk := hrow.free j
          have zgb := Lib.hid (hrow.blk_lt gb (by simp [blk])).1
          clear hrow hb
          go_wp2_with fail
          go_roundw
          case rel => exact ⟨j + 1, _, by omega, by go_num, ROW.out.put j _, HB6.out.setCell zgb.out _⟩
          case measure => simp [intOf]; omega
        · have hge2 : ¬ (j : Int) < (tot : Int) := by omega
          have H8 := Lib.hid (H6.out.next HB6.out)
          have z68 := Lib.hid hb.size
          clear hrow hb
          go_wp2_with fail
          go_loopw [14] (fun i wr => ∃ (m : Nat) (V : Nat → Int), m ≤ len ∧ i = .int .i64 m ∧ Fits k V ∧ OwS c r d s bl g L k V wa wc w2.heap.size w wr) (fun i _ => len - (intOf i).toNat)
          case atStart => exact ⟨0, _, by omega, rfl, begun_fits k k, H8.out⟩
          case round =>
            obtain ⟨m, V, hm, rfl, hF, hS⟩ := hrel
            have m0 : (0 : Int) ≤ (m : Int) := by omega
            have HS := Lib.hid hS
            have HF := Lib.hid hF
            by_cases hlt3 : m < len
            · have hlt' : (m : Int) < (len : Int) := by omega
              obtain ⟨b, off, rfl, nr, nq, g0, g1⟩ := (stepRow_of (r := r) (q := r) HR.out hS.below ZZ.out.1 ZZ.out.1) m hlt3
              obtain ⟨A, hA⟩ := ex_hid (F (m * 2))
              obtain ⟨B, hB⟩ := ex_hid (F (m * 2 + 1))
              rw [← hA.out] at g0
              rw [← hB.out] at g1
              have NR := Lib.hid nr
              have hC := CellsAt.below hS.cells ((Below.refl _ wr).drew)
              have HC := Lib.hid hC
              clear hS hF nr nq hC
              go_wp2_with fail
              go_region_held3 (fun w' => w'.cell? ⟨b, off + m * 2, none⟩ = some (.int .i64 A) ∧ w'.cell? ⟨b, off + m * 2 + 1, none⟩ = some (.int .i64 B)) (go_keep)
                (first
                  | (go_at_call 38; refine (setc_any c r L k V A B _ HC.out hL2 hn.out).mono ?_; rintro e w9 ⟨rfl, k9, h9⟩; have H9 := Lib.hid (HS.out.set h9 ((Keeps.refl _ _).drew.trans k9) ZZ.out.1 ZZ.out.2); have q0 := k9.cell (w := wr.drew) g0 (by simp; exact NR.out); have q1 := k9.cell (w := wr.drew) g1 (by simp; exact NR.out); clear k9 h9))
              clear g0 g1 q0 q1
              go_wp2_with fail
              go_roundw
              case rel => exact ⟨m + 1, _, by omega, by go_num, setV_fits HF.out A B, H9.out⟩
              case measure => simp [intOf]; omega
            · have hge3 : ¬ (m : Int) < (len : Int) := by omega
              clear hS hF
              go_wp2_with fail
              refine (bytesc_any c r L k V _ HS.out.cells HF.out hn1).mono ?_
              rintro e w9 ⟨a9, cap9, he, o9, b9⟩
              rw [← htot.out] at he o9
              subst he
              have RX9 := Lib.hid (readsB_own o9)
              have H9 := Lib.hid (HS.out.next b9)
              clear o9 b9
              have q3 : tot + 1 ≤ maxLen := by unfold maxLen; omega
              have q4 : (tot + 1) * 1 ≤ 140737488355328 := by omega
              have G := Lib.hid (And.intro q3 q4)
              clear q3 q4
              go_wp2_with fail
              refine (bytesc_any c r L k V _ H9.out.cells HF.out hn1).mono ?_
              rintro e w10 ⟨a10, cap10, he, o10, b10⟩
              rw [← htot.out] at he o10
              subst he
              have hrow10 : ValRow 5 w9.heap.size a10 tot cap10 _ w10 := o10
              have R10 := Lib.hid hrow10
              have B10 := Lib.hid b10
              clear o10 b10 hrow10
              go_wp2_with (at_builtin; refine wpList_append_lies _ rfl _ _ 74 rfl w9.heap.size 5 i0 (.int .u8 0) 1 1 Try.underlying74 HI.out.1 HI.out.2.1 HI.out.2.2.1 HI.out.2.2.2 rfl (by decide) _ tot (valR tot _) rfl (World.ownsRow.alloc R10.out _) ⟨w10.heap.size, 0, none⟩ 1 1 [_] rfl rfl (cell_one_new _ _ _) (by intro u hu; simp at hu; subst hu; rfl) (by decide) G.out.1 G.out.2 (by have := B10.out.size; simp <;> omega) (w10.heap.size + 1) (by simp) ?_; intro gy cy w11 hown hgrow hat hlt4; have R11 := Lib.hid (ValRow.of_append hown); have B11 := Lib.hid (B10.out.trans ((keeps_of_grown hgrow).below B10.out.size (fun x hx => (R10.out.blk_lt x hx).1))); clear hown hgrow hat)
              go_loopw [17] (fun i wr => ∃ (j : Nat) (U : Nat → Value), j ≤ tot + 1 ∧ i = .int .i64 j ∧ ValRow 5 w9.heap.size (some ⟨gy, 0, none⟩) (tot + 1) cy U wr ∧ Below w9.heap.size w9 wr) (fun i _ => tot + 1 - (intOf i).toNat)
              case atStart => exact ⟨0, _, by omega, rfl, R11.out, B11.out⟩
              case round =>
                obtain ⟨j, U, hj, rfl, hrow, hb⟩ := hrel
                have j0 : (0 : Int) ≤ (j : Int) := by omega
                have ROW := Lib.hid hrow
                have HB9 := Lib.hid hb
                by_cases hlt5 : j < tot + 1
                · have hlt' : (j : Int) < (tot : Int) + 1 := by omega
                  have ck := hrow.cell hlt5
                  obtain ⟨y, hy⟩ := ex_hid (U j)
                  rw [← hy.out] at ck
                  have fk := hrow.free j
                  have zgy := Lib.hid (hrow.blk_lt gy (by simp [blk])).1
                  clear hrow hb
                  go_wp2_with fail
                  go_roundw
                  case rel => exact ⟨j + 1, _, by omega, by go_num, ROW.out.put j _, HB9.out.setCell zgy.out _⟩
                  case measure => simp [intOf]; omega
                · have hge5 : ¬ (j : Int) < (tot : Int) + 1 := by omega
                  have H12 := Lib.hid (H9.out.next HB9.out)
                  have RX12 := Lib.hid (RX9.out.below HB9.out)
                  have hq3 := neq_seq2_nil
                  have htb : (tot : Int) ≤ 9223372036854775806 := by omega
                  clear hrow hb
                  go_wp2_with fail
                  refine (goes_any bl g k (begun k) hn1 wa wc 0 _ H12.out.box H12.out.ref H12.out.lread).mono ?_
                  rintro e w13 ⟨rfl, b13⟩
                  have H13 := Lib.hid (H12.out.next b13)
                  have RX13 := Lib.hid (RX12.out.below b13)
                  clear b13
                  go_wp2_with fail
                  refine (bytesc_any c r L k V _ H13.out.cells HF.out hn1).mono ?_
                  rintro e w14 ⟨a14, cap14, he, o14, b14⟩
                  rw [← htot.out] at he o14
                  subst he
                  have RX14 := Lib.hid (RX13.out.below b14)
                  have RY14 := Lib.hid (readsB_own o14)
                  have H14 := Lib.hid (H13.out.next b14)
                  clear o14 b14
                  go_wp2_with fail
                  refine (bytes_eq _ _ _ _ _ _ _ RX14.out RY14.out htb).mono ?_
                  rintro e w15 ⟨rfl, b15⟩
                  have H15 := Lib.hid (H14.out.next b15)
                  clear b15
                  go_wp2_with fail
                  refine (allc_any d s L k (begun k) _ H15.out.dells (begun_fits k k) hn1).mono ?_
                  rintro e w16 ⟨bl2, g2, rfl, hbl2, hg2, zbl2, zg2, b16⟩
                  have H16 := Lib.hid (H15.out.next b16)
                  have BL2 := Lib.hid hbl2
                  have G2 := Lib.hid hg2
                  clear hbl2 hg2 b16
                  go_wp2_with fail
                  refine (goes_any bl2 g2 k (begun k) hn1 wa wc 0 _ BL2.out G2.out H16.out.lread).mono ?_
                  rintro e w17 ⟨rfl, b17⟩
                  have H17 := Lib.hid (H16.out.next b17)
                  clear b17
                  go_wp2_with fail
                  refine (awake6 _).mono ?_
                  rintro e w18 ⟨rfl, b18⟩
                  have H18 := Lib.hid (H17.out.next b18)
                  clear b18
                  go_wp2_with fail
                  go_ret
                  exact ⟨rfl, H18.out.below⟩

theorem cellsOwn_walk (l : Int) (a : Option Addr) (len cap : Nat) (F : Nat → Int) (w : World) (_ : (Lit.int .i64 l).wf = true) (hr : IntRow .i64 2 w a len F) :
    Calls Try.prog 11 #[.int .i64 l, .slice a len cap] w fun e w' => e = .returned (.bool true) ∧ Below w.heap.size w w' := by
  by_cases h1 : 300 < len
  · exact cellsOwn_early l a len cap w (.inl h1)
  by_cases h2 : l < 3
  · exact cellsOwn_early l a len cap w (.inr (.inl ⟨by omega, h2⟩))
  by_cases h3 : 10 < l
  · exact cellsOwn_early l a len cap w (.inr (.inr ⟨by omega, by omega, h3⟩))
  obtain ⟨L, rfl⟩ := Int.eq_ofNat_of_zero_le (show 0 ≤ l by omega)
  exact cellsOwn_main L (by omega) (by omega) a len cap F w hr (by omega)
end Go.Proofs.Ytlpccmokjjldlaa
