/- plays: the calls on both (chapter 6). -/
import Derived.Test.YtlpccmokjjldlaaCellAwake
import Derived.Test.YtlpccmokjjldlaaArgs
import Derived.Deep.RegionHeld3
import Derived.Deep.DrawnRows
namespace Go.Proofs.Ytlpccmokjjldlaa
open Go.RowKit
set_option linter.unusedVariables false
attribute [local go_sem ↓] Go.wp_at_zero Go.wp_at_succ

/-- A script that lies apart from the cells. -/
def StepRow (r q : Nat) (w : World) (a : Option Addr) (len : Nat) (F : Nat → Int) : Prop :=
  ∀ k, k < len → ∃ b off, a = some ⟨b, off, none⟩ ∧ b ≠ r ∧ b ≠ q ∧ w.cell? ⟨b, off + k * 2, none⟩ = some (.int .i64 (F (k * 2))) ∧ w.cell? ⟨b, off + k * 2 + 1, none⟩ = some (.int .i64 (F (k * 2 + 1)))
theorem stepRow_of {w0 w : World} {a : Option Addr} {len : Nat} {F : Nat → Int} {r q : Nat} (h : IntRow .i64 2 w0 a len F) (hb : Below w0.heap.size w0 w) (hr : w0.heap.size ≤ r) (hq : w0.heap.size ≤ q) : StepRow r q w a len F := by
  intro k hk
  rcases h with h0 | ⟨b, off, h1, hbl, _, hc⟩
  · omega
  · exact ⟨b, off, h1, by omega, by omega, (hb.cell (p := ⟨b, off + (k * 2 + 0), none⟩) hbl).trans (hc (k * 2 + 0) (by omega)).1, (hb.cell (p := ⟨b, off + (k * 2 + 1), none⟩) hbl).trans (hc (k * 2 + 1) (by omega)).1⟩

/-- What is known in the midst of plays. -/
structure PlS (c r q L n : Nat) (V V' : Nat → Int) (w : World) (W : World) : Prop where
  cells : CellsAt c r L n V W
  ref : RefAt q n V' W
  box : W.heap[w.heap.size]? = some (.cells #[.int .i64 L, .slice (some ⟨q, 0, none⟩) n n] 64 (0, 0))
  keeps : Keeps [r, q] w W
  rq : q ≠ r ∧ q ≠ c ∧ c ≠ r ∧ r < w.heap.size ∧ q < w.heap.size
theorem PlS.next {c r q L n : Nat} {V V' : Nat → Int} {w W w1 : World} (h : PlS c r q L n V V' w W) (b : Below W.heap.size W w1) : PlS c r q L n V V' w w1 :=
  ⟨h.cells.below b, (Below.keeps b []).has h.ref (by simp), (Below.keeps b []).has h.box (by simp), h.keeps.trans (Below.keeps b _), h.rq⟩
theorem PlS.setc {c r q L n : Nat} {V V' V2 : Nat → Int} {w W w1 : World} (h : PlS c r q L n V V' w W) (k : Keeps [r] W w1) (hc : CellsAt c r L n V2 w1) : PlS c r q L n V2 V' w w1 :=
  ⟨hc, k.has h.ref (by simpa using h.rq.1), k.has h.box (by have := h.rq; simp <;> omega), h.keeps.trans (k.mono (by simp)), h.rq⟩
theorem PlS.setr {c r q L n : Nat} {V V' V2 : Nat → Int} {w W w1 : World} (h : PlS c r q L n V V' w W) (k : Keeps [q] W w1) (hc : RefAt q n V2 w1) : PlS c r q L n V V2 w w1 :=
  ⟨h.cells.keeps k (by have := h.rq.2.1; simp; exact fun e => this e.symm) (by have := h.rq.1; simp; exact fun e => this e.symm), hc, k.has h.box (by have := h.rq; simp <;> omega), h.keeps.trans (k.mono (by simp)), h.rq⟩
theorem PlS.alloc {c r q L n : Nat} {V V' : Nat → Int} {w W : World} (h : PlS c r q L n V V' w W) (o : Obj) : PlS c r q L n V V' w (W.alloc o) :=
  ⟨⟨has_alloc h.cells.ho _, has_alloc h.cells.hr _⟩, has_alloc h.ref _, has_alloc h.box _, h.keeps.alloc _, h.rq⟩
theorem PlS.drew {c r q L n : Nat} {V V' : Nat → Int} {w W : World} (h : PlS c r q L n V V' w W) : PlS c r q L n V V' w W.drew := ⟨⟨h.cells.ho, h.cells.hr⟩, h.ref, h.box, h.keeps.drew, h.rq⟩

/-- Behind plays. -/
def Played (c r q L n : Nat) (w : World) (e : Ending) (w' : World) : Prop := e = .returned (.bool true) ∧ ∃ V, CellsAt c r L n V w' ∧ RefAt q n V w' ∧ Fits n V ∧ Keeps [r, q] w w'

set_option maxRecDepth 100000 in
set_option maxHeartbeats 2000000 in
theorem plays_any (c r q L n : Nat) (halike : ∀ (V : Nat → Int) (w : World), CellsAt c r L n V w → Calls Try.prog 33 #[.pointer (some ⟨c, 0, none⟩), .agg #[.int .i64 L, .slice (some ⟨q, 0, none⟩) n n]] w fun e w' => e = .returned (.bool true) ∧ Below w.heap.size w w')
    (V0 : Nat → Int) (hF : Fits n V0) (h3 : 3 ≤ L) (hL : L ≤ 20) (hn : n = 2 ^ L) (a : Option Addr) (len cap : Nat) (F : Nat → Int) (w : World) (H : CellsAt c r L n V0 w) (HR : RefAt q n V0 w) (hs : StepRow r q w a len F) (hlen : len ≤ 300) (hqr : q ≠ r) (hqc : q ≠ c) :
    Calls Try.prog 34 #[.pointer (some ⟨c, 0, none⟩), .agg #[.int .i64 L, .slice (some ⟨q, 0, none⟩) n n], .slice a len cap] w (Played c r q L n w) := by
  have hn1 : n ≤ 1048576 := by rw [hn]; exact pow_le hL
  have HN := Lib.hid hn
  have HA := Lib.hid halike
  have hP : PlS c r q L n V0 V0 w (w.alloc (.cells #[.int .i64 L, .slice (some ⟨q, 0, none⟩) n n] 64)) :=
    ⟨⟨has_alloc H.ho _, has_alloc H.hr _⟩, has_alloc HR _, has_new _ _, (Keeps.refl _ _).alloc _, hqr, hqc, H.apart, lt_of_block H.hr, lt_of_block HR⟩
  have HP := Lib.hid hP
  have HS := Lib.hid hs
  have hl3 : (len : Int) ≤ 300 := by omega
  clear hn halike hP hs H HR hqr hqc
  go_enter Try.func34, Try.ntmps34
  go_wp2_with fail
  go_loopw [7] (fun i wr => ∃ (k : Nat) (V : Nat → Int), k ≤ len ∧ i = .int .i64 k ∧ Fits n V ∧ PlS c r q L n V V w wr) (fun i _ => len - (intOf i).toNat)
  case atStart => exact ⟨0, V0, by omega, rfl, hF, HP.out⟩
  case round =>
    obtain ⟨k, V, hk, rfl, hFV, hP⟩ := hrel
    clear HP hF
    have hk0 : (0 : Int) ≤ (k : Int) := by omega
    have HF := Lib.hid hFV
    clear hFV
    by_cases hlt : k < len
    · obtain ⟨b, off, rfl, nr, nq, g0, g1⟩ := HS.out k hlt
      have hlt' : (k : Int) < (len : Int) := by omega
      obtain ⟨A, hA⟩ := ex_hid (F (k * 2))
      obtain ⟨B, hB⟩ := ex_hid (F (k * 2 + 1))
      rw [← hA.out] at g0
      rw [← hB.out] at g1
      have e0 := hP.keeps.cell g0 (by simp; exact ⟨nr, nq⟩)
      have e1 := hP.keeps.cell g1 (by simp; exact ⟨nr, nq⟩)
      have z := Lib.hid (lt_of_block hP.box)
      have zr := Lib.hid (Nat.lt_of_lt_of_le hP.rq.2.2.2.1 hP.keeps.size)
      have zq := Lib.hid (Nat.lt_of_lt_of_le hP.rq.2.2.2.2 hP.keeps.size)
      have b0 := cell_has hP.box (i := 0) rfl
      have b1 := cell_has hP.box (i := 1) rfl
      have zb := lt_of_block hP.box
      have hP1 := (hP.alloc (.cells #[.int .i64 A, .int .i64 B] 78)).drew
      clear g0 g1 nr nq hP
      go_wp2_with fail
      clear e0 e1
      go_region_held3 (fun w' => w'.cell? ⟨wr.heap.size, 0, none⟩ = some (.int .i64 A) ∧ w'.cell? ⟨wr.heap.size, 1, none⟩ = some (.int .i64 B) ∧ w'.cell? ⟨w.heap.size, 0, none⟩ = some (.int .i64 L) ∧ w'.cell? ⟨w.heap.size, 1, none⟩ = some (.slice (some ⟨q, 0, none⟩) n n)) (go_keep)
        (first
          | (go_at_call 38; refine (setc_any c r L n V A B _ (PlS.cells (by assumption)) hL HN.out).mono ?_; rintro e w1 ⟨rfl, k1, h1⟩; have hP2 := PlS.setc (by assumption) k1 h1; have q0 := k1.cell (cell_has (has_new wr (.cells #[.int .i64 A, .int .i64 B] 78)) (i := 0) rfl) (by have := zr.out; simp <;> omega); have q1 := k1.cell (cell_has (has_new wr (.cells #[.int .i64 A, .int .i64 B] 78)) (i := 1) rfl) (by have := zr.out; simp <;> omega); have q2 := cell_has hP2.box (i := 0) rfl; have q3 := cell_has hP2.box (i := 1) rfl; have K1 := Lib.hid k1; clear k1 h1)
          | (go_at_call 64; refine (rset_any q L n V A B _ (PlS.ref (by assumption)) h3 hL HN.out).mono ?_; rintro e w2 ⟨rfl, k2, h2⟩; have hP3 := PlS.setr (by assumption) k2 h2; have s0 := k2.cell q0 (by have := zq.out; simp <;> omega); have s1 := k2.cell q1 (by have := zq.out; simp <;> omega); have s2 := cell_has hP3.box (i := 0) rfl; have s3 := cell_has hP3.box (i := 1) rfl; clear k2 h2))
      have HP3 := Lib.hid hP3
      clear hP1 hP2 q0 q1 q2 q3 hP3 b0 b1
      go_wp2_with fail
      refine (getc_any c r L n _ A _ HP3.out.cells (setV_fits HF.out A B) hn1).mono ?_
      rintro e w4 ⟨rfl, c4⟩
      have HP4 := Lib.hid (HP3.out.next c4)
      have y2 := cell_has HP4.out.box (i := 0) rfl
      have y3 := cell_has HP4.out.box (i := 1) rfl
      have X0 := (Below.keeps c4 []).cell s0 (by simp)
      have X1 := (Below.keeps c4 []).cell s1 (by simp)
      clear c4 s0 s1 s2 s3
      go_wp2_with fail
      refine (rget_any q L n _ A _ HP4.out.ref (by omega)).mono ?_
      rintro e w5 ⟨rfl, c5⟩
      have HP5 := Lib.hid (HP4.out.next c5)
      clear c5 X0 X1 y2 y3
      go_wp2_with fail
      go_roundw
      case rel => exact ⟨k + 1, setV n V A B, by omega, by go_num, setV_fits HF.out A B, HP5.out⟩
      case measure => simp [intOf]; omega
    · have hge : (len : Int) ≤ (k : Int) := by omega
      have HP := Lib.hid hP
      have b0 := cell_has hP.box (i := 0) rfl
      have b1 := cell_has hP.box (i := 1) rfl
      clear hP
      go_wp2_with fail
      refine (HA.out V _ HP.out.cells).mono ?_
      rintro e w6 ⟨rfl, c6⟩
      have HP6 := Lib.hid (HP.out.next c6)
      clear c6
      go_wp2_with fail
      go_ret
      exact ⟨rfl, V, HP6.out.cells, HP6.out.ref, HF.out, HP6.out.keeps⟩
end Go.Proofs.Ytlpccmokjjldlaa
