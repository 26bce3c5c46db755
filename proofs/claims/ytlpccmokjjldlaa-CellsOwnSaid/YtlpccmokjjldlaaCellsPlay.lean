/- CellsPlay, walked (chapter 6). -/
import Derived.Test.YtlpccmokjjldlaaCellPlays
import Derived.Test.YtlpccmokjjldlaaCellAlike
import Derived.Test.YtlpccmokjjldlaaCellRefBytes
import Derived.Test.YtlpccmokjjldlaaCellsNothing
namespace Go.Proofs.Ytlpccmokjjldlaa
open Go.RowKit
set_option linter.unusedVariables false

theorem neq_seq2_nil (f : Fn) (a b : Array Value) (w : World) : (binOp .neq 72 (.func f a b) .nilFunc).run Try.prog w = .ok (.bool true) w := by kernel_rfl

theorem cellsPlay_early (l s : Int) (a : Option Addr) (len cap : Nat) (w : World) (hc : (300 < len) ∨ (len ≤ 300 ∧ 12 < l ∧ l ≤ 20)) :
    Calls Try.prog 12 #[.int .i64 l, .slice a len cap, .int .i64 s] w fun e w' => e = .returned (.bool true) ∧ Below w.heap.size w w' := by
  rcases hc with h | ⟨h, h2, h3⟩
  · have d1 : decide ((300 : Int) < (len : Int)) = true := by simp; omega
    go_enter Try.func12, Try.ntmps12
    go_wp2_with (go_at_call 30; refine (awake6 _).mono ?_; rintro e w' ⟨rfl, hb⟩)
    go_ret
    exact ⟨rfl, hb⟩
  · have d1 : decide ((300 : Int) < (len : Int)) = false := by simp; omega
    have d2 : decide (12 < l) = true := by simpa using h2
    have d3 : decide (l ≤ 20) = true := by simpa using h3
    go_enter Try.func12, Try.ntmps12
    go_wp2_with (go_at_call 30; refine (awake6 _).mono ?_; rintro e w' ⟨rfl, hb⟩)
    go_ret
    exact ⟨rfl, hb⟩

theorem cellsPlay_bad (l s : Int) (a : Option Addr) (len cap : Nat) (w : World) (hl : len ≤ 300) (hc : l < 3 ∨ 20 < l) :
    Calls Try.prog 12 #[.int .i64 l, .slice a len cap, .int .i64 s] w fun e w' => e = .returned (.bool true) ∧ Below w.heap.size w w' := by
  have d1 : decide ((300 : Int) < (len : Int)) = false := by simp; omega
  have HC := Lib.hid hc
  rcases hc with h | h
  · have d2 : decide (12 < l) = false := by simp; omega
    go_enter Try.func12, Try.ntmps12
    go_wp2_with fail
    refine (new_bad l _ HC.out).mono ?_
    rintro e w1 ⟨rfl, rfl⟩
    go_wp2_with fail
    refine (rnew_bad l _ HC.out).mono ?_
    rintro e w2 ⟨rfl, b2⟩
    have B2 := Lib.hid (b2.alloc b2.size (.cells #[.int .i64 0, .slice none 0 0] 64))
    clear b2
    go_wp2_with (go_at_call 30; refine (awake6 _).mono ?_; rintro e w' ⟨rfl, hb⟩)
    go_ret
    exact ⟨rfl, B2.out.trans (hb.mono B2.out.size)⟩
  · have d2 : decide (12 < l) = true := by simp; omega
    have d3 : decide (l ≤ 20) = false := by simp; omega
    go_enter Try.func12, Try.ntmps12
    go_wp2_with fail
    refine (new_bad l _ HC.out).mono ?_
    rintro e w1 ⟨rfl, rfl⟩
    go_wp2_with fail
    refine (rnew_bad l _ HC.out).mono ?_
    rintro e w2 ⟨rfl, b2⟩
    have B2 := Lib.hid (b2.alloc b2.size (.cells #[.int .i64 0, .slice none 0 0] 64))
    clear b2
    go_wp2_with (go_at_call 30; refine (awake6 _).mono ?_; rintro e w' ⟨rfl, hb⟩)
    go_ret
    exact ⟨rfl, B2.out.trans (hb.mono B2.out.size)⟩

/-- What is known after plays: some cells that both hold. -/
theorem PlS.played {c r q L n : Nat} {V V' V2 : Nat → Int} {w W w1 : World} (h : PlS c r q L n V V' w W) (hc : CellsAt c r L n V2 w1) (hq : RefAt q n V2 w1) (k : Keeps [r, q] W w1) : PlS c r q L n V2 V2 w w1 :=
  ⟨hc, hq, k.has h.box (by have := h.rq; simp <;> omega), h.keeps.trans k, h.rq⟩

set_option maxRecDepth 100000 in
set_option maxHeartbeats 4000000 in
theorem cellsPlay_main (L : Nat) (s : Int) (h3 : 3 ≤ L) (hL : L ≤ 12) (a : Option Addr) (len cap : Nat) (F : Nat → Int) (w : World) (hr : IntRow .i64 2 w a len F) (hl : len ≤ 300) :
    Calls Try.prog 12 #[.int .i64 L, .slice a len cap, .int .i64 s] w fun e w' => e = .returned (.bool true) ∧ Below w.heap.size w w' := by
  have d1 : decide ((300 : Int) < (len : Int)) = false := by simp; omega
  have d2 : decide ((12 : Int) < (L : Int)) = false := by simp; omega
  have hq2 := eql_seq2_nil
  have HR := Lib.hid hr
  have hL2 : L ≤ 20 := by omega
  obtain ⟨n, hn⟩ := ex_hid (2 ^ L)
  have hn1 : n ≤ 1048576 := by rw [hn.out]; exact pow_le hL2
  have htb : ((n * wdOf L : Nat) : Int) ≤ 9223372036854775806 := by have := Nat.mul_le_mul hn1 (wdOf_is L).2; omega
  clear hr
  go_enter Try.func12, Try.ntmps12
  go_wp2_with fail
  refine (new_any L n _ rfl h3 hL2 hn.out _).mono ?_
  rintro e w1 ⟨c, r, rfl, H1, zc, zr, b1⟩
  have hc1 := lt_of_block H1.ho
  have hr1 := lt_of_block H1.hr
  have HC := Lib.hid H1
  have B1 := Lib.hid b1
  clear H1 b1
  go_wp2_with fail
  refine (rnew_any L n _ rfl h3 hL2 hn.out _).mono ?_
  rintro e w2 ⟨q, rfl, hq, zq, b2⟩
  have hne := Lib.hid (CellsAt.apart HC.out)
  have P2 : PlS c r q L n (begun n) (begun n) w2 (w2.alloc (.cells #[.int .i64 L, .slice (some ⟨q, 0, none⟩) n n] 64)) :=
    have hx := HC.out.below b2
    ⟨⟨has_alloc hx.ho _, has_alloc hx.hr _⟩, has_alloc hq _, has_new _ _, (Keeps.refl _ _).alloc _, by have := lt_of_block hq; have := b2.size; have := hne.out; omega⟩
  have B2 := Lib.hid (B1.out.trans (b2.mono B1.out.size))
  have Z := Lib.hid (show w.heap.size ≤ r ∧ w.heap.size ≤ q ∧ w.heap.size ≤ w2.heap.size by have := B1.out.size; have := B2.out.size; omega)
  have HP := Lib.hid P2
  have p0 := cell_has P2.box (i := 0) rfl
  have p1 := cell_has P2.box (i := 1) rfl
  clear hq b2
  have hP := P2.drew
  clear P2
  go_wp2_with fail
  have HR2 := Lib.hid (show ∀ W, Keeps [r, q] w2 W → StepRow r q W a len F from fun W k => stepRow_of HR.out (B2.out.trans (k.below B2.out.size (by have := Z.out; simp; omega))) zr Z.out.2.1)
  have nqr := Lib.hid (show q ≠ r ∧ q ≠ c from ⟨HP.out.rq.1, HP.out.rq.2.1⟩)
  clear zc zr zq hc1 hr1 p0 p1
  go_region_held3 (fun w' => w'.cell? ⟨w2.heap.size, 0, none⟩ = some (.int .i64 L) ∧ w'.cell? ⟨w2.heap.size, 1, none⟩ = some (.slice (some ⟨q, 0, none⟩) n n)) (go_keep)
    (first
      | (go_at_call 33; refine (alike_any c r L n (begun n) _ h3 hL2 hn.out _ (PlS.cells (by assumption))).mono ?_; rintro e w3 ⟨rfl, b3⟩; have hP3 := PlS.next (by assumption) b3; have s0 := cell_has hP3.box (i := 0) rfl; have s1 := cell_has hP3.box (i := 1) rfl; clear b3)
      | (go_at_call 34; refine (plays_any c r q L n (fun V w hw => alike_any c r L n V _ h3 hL2 hn.out w hw) (begun n) (begun_fits n n) h3 hL2 hn.out _ _ _ F _ hP3.cells hP3.ref (HR2.out _ hP3.keeps) hl nqr.out.1 nqr.out.2).mono ?_; rintro e w4 ⟨rfl, V, c4, q4, f4, k4⟩; have hP4 := PlS.played hP3 c4 q4 k4; have t0 := cell_has hP4.box (i := 0) rfl; have t1 := cell_has hP4.box (i := 1) rfl; have F4 := Lib.hid f4; clear c4 q4 k4 f4 s0 s1)
      | (go_at_call 37; refine (bytesc_any c r L n V _ hP4.cells F4.out hn1).mono ?_; rintro e w5 ⟨a5, cap5, rfl, o5, b5⟩; have hP5 := PlS.next hP4 b5; have u0 := cell_has hP5.box (i := 0) rfl; have u1 := cell_has hP5.box (i := 1) rfl; have O5 := Lib.hid o5; clear b5 o5 t0 t1)
      | (go_at_call 41; refine (rbytesc_any q L n V _ hP5.ref F4.out h3 hL2 hn1).mono ?_; rintro e w6 ⟨a6, cap6, rfl, o6, b6⟩; have hP6 := PlS.next hP5 b6; have v0 := cell_has hP6.box (i := 0) rfl; have v1 := cell_has hP6.box (i := 1) rfl; have R5 := Lib.hid ((readsB_own O5.out).below b6); have R6 := Lib.hid (readsB_own o6); clear b6 o6 u0 u1)
      | (go_at_call 40; refine (bytes_eq _ _ _ _ _ _ _ R5.out R6.out htb).mono ?_; rintro e w7 ⟨rfl, b7⟩; have hP7 := PlS.next hP6 b7; have x0 := cell_has hP7.box (i := 0) rfl; have x1 := cell_has hP7.box (i := 1) rfl; clear b7 v0 v1))
  have HP7 := Lib.hid hP7
  clear hP hP3 hP4 hP5 hP6 hP7 x0 x1
  go_wp2_with fail
  refine (allc_any c r L n V _ HP7.out.cells F4.out hn1).mono ?_
  rintro e w8 ⟨bl, g, rfl, hbl, hg, zbl, zg, b8⟩
  have hP8 := HP7.out.next b8
  have y0 := cell_has hP8.box (i := 0) rfl
  have y1 := cell_has hP8.box (i := 1) rfl
  have HBL := Lib.hid hbl
  have HG := Lib.hid hg
  have HP8 := Lib.hid hP8
  have hq3 := neq_seq2_nil
  clear hbl hg b8 hP8
  go_wp2_with fail
  refine (goes_any bl g n V hn1 (some ⟨q, 0, none⟩) n s _ HBL.out HG.out (lread_ref HP8.out.ref)).mono ?_
  rintro e w9 ⟨rfl, b9⟩
  have HBL9 := Lib.hid ((Below.keeps b9 []).has HBL.out (by simp))
  have HG9 := Lib.hid ((Below.keeps b9 []).has HG.out (by simp))
  have hP9 := HP8.out.next b9
  have HP9 := Lib.hid hP9
  have z0 := cell_has hP9.box (i := 0) rfl
  have z1 := cell_has hP9.box (i := 1) rfl
  clear b9 hP9 y0 y1
  go_wp2_with fail
  refine (goes_any bl g n V hn1 (some ⟨q, 0, none⟩) n 0 _ HBL9.out HG9.out (lread_ref HP9.out.ref)).mono ?_
  rintro e w10 ⟨rfl, b10⟩
  have HP10 := Lib.hid (HP9.out.next b10)
  clear b10 z0 z1
  go_wp2_with fail
  refine (awake6 _).mono ?_
  rintro e w11 ⟨rfl, b11⟩
  have B11 := Lib.hid ((B2.out.trans (HP10.out.keeps.below B2.out.size (by have := Z.out; simp; omega))).trans (b11.mono (by have := HP10.out.keeps.size; have := B2.out.size; omega)))
  clear b11
  go_wp2_with fail
  go_ret
  exact ⟨rfl, B11.out⟩

theorem cellsPlay_walk (l : Int) (a : Option Addr) (len cap : Nat) (F : Nat → Int) (s : Int) (w : World) (_ : (Lit.int .i64 l).wf = true) (hr : IntRow .i64 2 w a len F) (_ : (Lit.int .i64 s).wf = true) :
    Calls Try.prog 12 #[.int .i64 l, .slice a len cap, .int .i64 s] w fun e w' => e = .returned (.bool true) ∧ Below w.heap.size w w' := by
  by_cases h1 : 300 < len
  · exact cellsPlay_early l s a len cap w (.inl h1)
  by_cases h2 : 12 < l ∧ l ≤ 20
  · exact cellsPlay_early l s a len cap w (.inr ⟨by omega, h2.1, h2.2⟩)
  by_cases h3 : l < 3 ∨ 20 < l
  · exact cellsPlay_bad l s a len cap w (by omega) h3
  obtain ⟨L, rfl⟩ := Int.eq_ofNat_of_zero_le (show 0 ≤ l by omega)
  exact cellsPlay_main L s (by omega) (by omega) a len cap F w hr (by omega)
end Go.Proofs.Ytlpccmokjjldlaa
