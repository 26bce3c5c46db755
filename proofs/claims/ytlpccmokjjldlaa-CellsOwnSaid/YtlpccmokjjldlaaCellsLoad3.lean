/- CellsLoad, walked: where cells are loaded (chapter 6). -/
import Derived.Test.YtlpccmokjjldlaaCellsLoad2
namespace Go.Proofs.Ytlpccmokjjldlaa
open Go.RowKit
set_option linter.unusedVariables false
attribute [local go_sem ↓] Go.wp_at_zero Go.wp_at_succ

/-- What is known behind the loading. -/
structure LdS (c r q bx L n : Nat) (V V' : Nat → Int) (w0 W : World) : Prop where
  cells : CellsAt c r L n V W
  ref : RefAt q n V' W
  box : W.heap[bx]? = some (.cells #[.int .i64 L, .slice (some ⟨q, 0, none⟩) n n] 64 (0, 0))
  keeps : Keeps [r, q] w0 W
  ne : bx ≠ r ∧ bx ≠ q ∧ bx < w0.heap.size
theorem LdS.next {c r q bx L n : Nat} {V V' : Nat → Int} {w0 W w1 : World} (h : LdS c r q bx L n V V' w0 W) (b : Below W.heap.size W w1) : LdS c r q bx L n V V' w0 w1 :=
  ⟨h.cells.below b, (Below.keeps b []).has h.ref (by simp), (Below.keeps b []).has h.box (by simp), h.keeps.trans (Below.keeps b _), h.ne⟩
theorem LdS.played {c r q bx L n : Nat} {V V' V2 : Nat → Int} {w0 W w1 : World} (h : LdS c r q bx L n V V' w0 W) (hc : CellsAt c r L n V2 w1) (hq : RefAt q n V2 w1) (k : Keeps [r, q] W w1) : LdS c r q bx L n V2 V2 w0 w1 :=
  ⟨hc, hq, k.has h.box (by have := h.ne; simp <;> omega), h.keeps.trans k, h.ne⟩
theorem ReadsB.congr {w : World} {a : Option Addr} {n : Nat} {B B' : Nat → Value} (h : ReadsB w a n B) (hb : ∀ i, i < n → B i = B' i) : ReadsB w a n B' := fun i hi => by
  obtain ⟨b, off, h1, h2, h3⟩ := h i hi
  exact ⟨b, off, h1, by rw [← hb i hi]; exact h2, by rw [← hb i hi]; exact h3⟩
theorem loaded_fits (wd n : Nat) (B : Nat → Nat) (hall : ∀ i, i < n → mayB n (valB wd B i) = true) : Fits n (loadedV wd n B n) := fun i => by
  unfold loadedV
  by_cases h : i < n
  · rw [if_pos h]; exact .inl (hall i h)
  · rw [if_neg h]; exact begun_fits n n i

set_option maxRecDepth 100000 in
set_option maxHeartbeats 4000000 in
theorem cellsLoad_good (L n : Nat) (h3 : 3 ≤ L) (hL : L ≤ 12) (hn : n = 2 ^ L) (a : Option Addr) (len cap : Nat) (B : Nat → Nat) (hB : ∀ i, B i < 256) (hlen : len = n * wdOf L) (hall : ∀ i, i < n → mayB n (valB (wdOf L) B i) = true) (sa : Option Addr) (sl sc : Nat) (F : Nat → Int) (w : World) (hnil : a = none → len = 0 ∧ cap = 0) (hr : ReadsB w a len (byV B)) (hsr : IntRow .i64 2 w sa sl F) (hl : len ≤ 20000) (hs : sl ≤ 300) :
    Calls Try.prog 14 #[.int .i64 L, .slice a len cap, .slice sa sl sc] w fun e w' => e = .returned (.bool true) ∧ Below w.heap.size w w' := by
  obtain ⟨i0, hi, hz0, hz1, hz2⟩ := info_parts infoU
  have HI := Lib.hid (And.intro hi (And.intro hz0 (And.intro hz1 hz2)))
  clear hi hz0 hz1 hz2
  have d1 : decide ((20000 : Int) < (len : Int)) = false := by simp; omega
  have d2 : decide ((300 : Int) < (sl : Int)) = false := by simp; omega
  have q3 : len + 1 ≤ maxLen := by unfold maxLen; omega
  have q4 : (len + 1) * 1 ≤ 140737488355328 := by omega
  have G := Lib.hid (And.intro q3 q4)
  have HR := Lib.hid hr
  have HN := Lib.hid hnil
  have hl' : (len : Int) ≤ 20000 := by omega
  have d3 : decide ((12 : Int) < (L : Int)) = false := by simp; omega
  have hL2 : L ≤ 20 := by omega
  have hn1 : n ≤ 1048576 := by rw [hn]; exact pow_le hL2
  have HNN := Lib.hid hn
  have HA := Lib.hid hall
  have HBB := Lib.hid hB
  have HLN := Lib.hid hlen
  have SR := Lib.hid hsr
  clear hr hnil q3 q4 hn hall hB hlen hsr
  go_enter Try.func14, Try.ntmps14
  go_wp2_with (first
    | (at_builtin; refine wpList_append_src rfl _ _ 74 rfl w.heap.size 5 i0 (.int .u8 0) 1 Try.underlying74 HI.out.1 HI.out.2.1 HI.out.2.2.1 HI.out.2.2.2 rfl rfl a len cap (byV B) rfl HN.out (fun k hk => by obtain ⟨b, off, h1, h2, -⟩ := HR.out k hk; exact ⟨b, off, h1, h2⟩) (fun k hk => rfl) (Nat.le_of_succ_le G.out.1) (by omega) (Nat.le_refl _) ?_; intro xa xc w1 row1 k1; have ROW := Lib.hid row1; have K1 := Lib.hid k1; have z1 := Lib.hid k1.size; clear row1 k1)
    | (at_builtin; refine wpList_append_lies _ rfl _ _ 74 rfl w.heap.size 5 i0 (.int .u8 0) 1 1 Try.underlying74 HI.out.1 HI.out.2.1 HI.out.2.2.1 HI.out.2.2.2 rfl (by decide) _ len (valR len (byV B)) rfl (World.ownsRow.alloc ROW.out _) ⟨w1.heap.size, 0, none⟩ 1 1 [_] rfl rfl (cell_one_new _ _ _) (by intro u hu; simp at hu; subst hu; rfl) (by decide) G.out.1 G.out.2 (by have := z1.out; simp <;> omega) (w1.heap.size + 1) (by simp) ?_; intro g xc2 w2 hown hgrow hat hlt2; have row2 := ValRow.of_append hown; have hcap := row2.cap_le.1; have B2 := Lib.hid (((K1.out.below (Nat.le_refl _) (by simp))).trans ((keeps_of_grown hgrow).below z1.out (fun x hx => (ROW.out.blk_lt x hx).1))); have R2 := Lib.hid row2; clear hown hgrow hat row2))
  have rd2 := Lib.hid (readsB_row R2.out len (by omega) B (fun i hi => by simp [putV, show i ≠ len by omega]))
  refine (load_any L n n h3 hL2 HNN.out B HBB.out (Nat.le_refl _) HA.out (fun h => absurd h (Nat.lt_irrefl _)) _ _ _ HLN.out _ rd2.out).mono ?_
  intro e w3 hLd
  unfold LoadC at hLd
  rw [if_pos rfl] at hLd
  obtain ⟨c, r, rfl, hC, zc, zr, b3⟩ := hLd
  have z3 := Lib.hid b3.size
  have R3 := Lib.hid (row_below R2.out b3)
  have C3 := Lib.hid hC
  have B3 := Lib.hid (B2.out.trans (b3.mono B2.out.size))
  have zg2 := Lib.hid (R2.out.blk_lt g (by simp [blk]))
  clear b3 hC
  go_wp2_with fail
  refine (rload_any L n n h3 hL2 HNN.out B HBB.out (Nat.le_refl _) HA.out (fun h => absurd h (Nat.lt_irrefl _)) _ _ _ HLN.out _ (HR.out.below B3.out)).mono ?_
  intro e w4 hLd
  unfold RLoadC at hLd
  rw [if_pos rfl] at hLd
  obtain ⟨q, rfl, hq, zq, b4⟩ := hLd
  have R4 := Lib.hid (row_below R3.out b4)
  have C4 := Lib.hid (C3.out.below b4)
  have Q4 := Lib.hid hq
  have B4 := Lib.hid (B3.out.trans (b4.mono B3.out.size))
  have c77 : w4.cell? ⟨g, len, none⟩ = some (.int .u8 77) := by rw [R4.out.cell (k := len) (by omega)]; simp [putV]
  have zb4 := Lib.hid b4.size
  have zg := Lib.hid (R4.out.blk_lt g (by simp [blk])).2
  clear b4 hq
  go_wp2_with fail
  have BX := Lib.hid ((Below.refl w4.heap.size w4).alloc (Nat.le_refl _) (.cells #[.int .i64 L, .slice (some ⟨q, 0, none⟩) n n] 64))
  refine (bytes_eq (byV B) _ _ len _ _ _ (readsB_row (row_below R4.out BX.out) len (by omega) B (fun i hi => by simp [putV, show i ≠ len by omega])) (HR.out.below (B4.out.trans (BX.out.mono B4.out.size))) (by omega)).mono ?_
  rintro e w5 ⟨rfl, b5⟩
  have c78 : w5.cell? ⟨g, len, none⟩ = some (.int .u8 77) := (Below.keeps b5 []).cell (cell_alloc c77 _) (by simp)
  have B5 := Lib.hid ((B4.out.trans (BX.out.mono B4.out.size)).trans (b5.mono (by have := B4.out.size; simp; omega)))
  have R5 := Lib.hid (row_below (row_below R4.out BX.out) b5)
  have C5 := Lib.hid ((C4.out.below BX.out).below b5)
  have Q5 := Lib.hid ((Below.keeps b5 []).has (has_alloc Q4.out _) (by simp))
  have X5 := Lib.hid ((Below.keeps b5 []).has (has_new w4 (.cells #[.int .i64 L, .slice (some ⟨q, 0, none⟩) n n] 64)) (by simp))
  have z5 := Lib.hid (show w4.heap.size < w5.heap.size by have := b5.size; simp at this; omega)
  have zqq := Lib.hid (show r < w3.heap.size ∧ q < w4.heap.size ∧ c < w3.heap.size ∧ c ≠ r from ⟨lt_of_block C3.out.hr, lt_of_block Q4.out, lt_of_block C3.out.ho, C3.out.apart⟩)
  clear b5 c77
  go_wp2_with fail
  go_loopw [12] (fun i wr => ∃ (k : Nat) (V : Nat → Value), k ≤ len + 1 ∧ i = .int .i64 k ∧ ValRow 5 w.heap.size (some ⟨g, 0, none⟩) (len + 1) xc2 V wr ∧ Keeps [g] w5 wr) (fun i _ => len + 1 - (intOf i).toNat)
  case atStart => exact ⟨0, _, by omega, rfl, R5.out, Keeps.refl _ _⟩
  case round =>
    obtain ⟨k, V, hk, rfl, hrow, hkp⟩ := hrel
    have k0 : (0 : Int) ≤ (k : Int) := by omega
    have ROW := Lib.hid hrow
    have KP := Lib.hid hkp
    by_cases hlt : k < len + 1
    · have hlt' : (k : Int) < (len : Int) + 1 := by omega
      have ck := hrow.cell hlt
      obtain ⟨y, hy⟩ := ex_hid (V k)
      rw [← hy.out] at ck
      have fk := hrow.free k
      clear hrow hkp c78
      go_wp2_with fail
      go_roundw
      case rel => exact ⟨k + 1, _, by omega, by go_num, ROW.out.put k _, KP.out.setCell (.inr (by simp)) _⟩
      case measure => simp [intOf]; omega
    · have hge : ¬ (k : Int) < (len : Int) + 1 := by omega
      have gz := zg2.out
      have L0 : LdS c r q w4.heap.size L n (loadedV (wdOf L) n B n) (loadedV (wdOf L) n B n) wr wr :=
        ⟨C5.out.keeps hkp (by simp; omega) (by simp; omega), hkp.has Q5.out (by simp; have := z3.out; omega), hkp.has X5.out (by simp; have := zg.out; omega), Keeps.refl _ _, by have := zqq.out; have := zb4.out; have := z5.out; have := hkp.size; omega⟩
      have BR := Lib.hid (B5.out.trans (hkp.below B5.out.size (by simp; omega)))
      have RBr := Lib.hid (HR.out.below BR.out)
      have FIT := Lib.hid (loaded_fits (wdOf L) n B HA.out)
      have nqr := Lib.hid (show q ≠ r ∧ q ≠ c from by have := zqq.out; omega)
      have lows := Lib.hid (show w.heap.size ≤ r ∧ w.heap.size ≤ q from by have := B2.out.size; have := B3.out.size; omega)
      have hD := L0.next (W := wr) (w1 := wr.drew) ((Below.refl _ _).drew)
      have hVB := Lib.hid (show ∀ t, t < len → byteOf (loadedV (wdOf L) n B n (t / wdOf L)) (t % wdOf L) = (B t : Int) from fun t ht => by
        have h1 := (wdOf_is L).1
        have h2 : t / wdOf L < n := (Nat.div_lt_iff_lt_mul h1).2 (by rw [← HLN.out]; exact ht)
        simp only [loadedV, if_pos h2]
        exact valB_byte (wdOf L) B HBB.out (wd_is L _ rfl) t)
      have hlnn := Lib.hid HLN.out.symm
      have HRB := Lib.hid (show ∀ W, Keeps [r, q] wr W → ReadsB W a len (byV B) from fun W k => HR.out.below (BR.out.trans (k.below BR.out.size (by have := lows.out; simp; omega))))
      have HR2 := Lib.hid (show ∀ W, Keeps [r, q] wr W → StepRow r q W sa sl F from fun W k => stepRow_of SR.out (BR.out.trans (k.below BR.out.size (by have := lows.out; simp; omega))) lows.out.1 lows.out.2)
      have htb : (len : Int) ≤ 9223372036854775806 := by omega
      have x0 := cell_has L0.box (i := 0) rfl
      have x1 := cell_has L0.box (i := 1) rfl
      clear hrow hkp L0 c78
      go_wp2_with fail
      clear HI G HN zg2 K1 z1 R2 rd2 R3 C3 B3 R4 C4 Q4 B4 zb4 zg BX B5 R5 C5 Q5 X5 z5 zqq ROW KP gz B2 z3
      go_region_held3 (fun w' => w'.cell? ⟨w4.heap.size, 0, none⟩ = some (.int .i64 L) ∧ w'.cell? ⟨w4.heap.size, 1, none⟩ = some (.slice (some ⟨q, 0, none⟩) n n)) (go_keep)
        (first
          | (go_at_call 41; refine (rbytesc_any q L n V5 _ hD6.ref F5.out h3 hL2 hn1).mono ?_; rintro e w7 ⟨a7, cap7, he, o7, b7⟩; rw [hlnn.out] at he o7; subst he; have hD7 := LdS.next hD6 b7; have v0 := cell_has hD7.box (i := 0) rfl; have v1 := cell_has hD7.box (i := 1) rfl; have RA := Lib.hid ((readsB_own O6.out).below b7); have RB := Lib.hid (readsB_own o7); clear b7 o7 u0 u1)
          | (go_at_call 40; refine (bytes_eq _ _ _ _ _ _ _ RA.out RB.out htb).mono ?_; rintro e w8 ⟨rfl, b8⟩; have hD8 := LdS.next hD7 b8; have y0 := cell_has hD8.box (i := 0) rfl; have y1 := cell_has hD8.box (i := 1) rfl; clear b8 v0 v1)
          | (go_at_call 37; refine (bytesc_any c r L n V5 _ hD5.cells F5.out hn1).mono ?_; rintro e w6 ⟨a6, cap6, he, o6, b6⟩; rw [hlnn.out] at he o6; subst he; have hD6 := LdS.next hD5 b6; have u0 := cell_has hD6.box (i := 0) rfl; have u1 := cell_has hD6.box (i := 1) rfl; have O6 := Lib.hid o6; clear b6 o6 t0 t1)
          | (go_at_call 37; refine (bytesc_any c r L n (loadedV (wdOf L) n B n) _ hD.cells FIT.out hn1).mono ?_; rintro e w3 ⟨a3, cap3, he, o3, b3⟩; rw [hlnn.out] at he o3; subst he; have hD3 := LdS.next hD b3; have s0 := cell_has hD3.box (i := 0) rfl; have s1 := cell_has hD3.box (i := 1) rfl; have R33 := Lib.hid (ReadsB.congr (readsB_own o3) (fun t ht => congrArg (Value.int .u8) (hVB.out t ht))); clear b3 o3)
          | (go_at_call 40; refine (bytes_eq (byV B) _ _ _ _ _ _ R33.out (HRB.out _ hD3.keeps) htb).mono ?_; rintro e w44 ⟨rfl, b44⟩; have hD4 := LdS.next hD3 b44; have r0 := cell_has hD4.box (i := 0) rfl; have r1 := cell_has hD4.box (i := 1) rfl; clear b44 s0 s1)
          | (go_at_call 34; refine (plays_any c r q L n (fun V w hw => alike_any c r L n V _ h3 hL2 HNN.out w hw) _ FIT.out h3 hL2 HNN.out _ _ _ F _ hD4.cells hD4.ref (HR2.out _ hD4.keeps) hs nqr.out.1 nqr.out.2).mono ?_; rintro e w5 ⟨rfl, V5, c5, q5, f5, k5⟩; have hD5 := LdS.played hD4 c5 q5 k5; have t0 := cell_has hD5.box (i := 0) rfl; have t1 := cell_has hD5.box (i := 1) rfl; have F5 := Lib.hid f5; clear c5 q5 k5 f5 r0 r1)
          | (go_at_call 30; refine (awake6 _).mono ?_; rintro e w9 ⟨rfl, b9⟩; have hD9 := LdS.next hD8 b9; have z0 := cell_has hD9.box (i := 0) rfl; have z1 := cell_has hD9.box (i := 1) rfl; clear b9 y0 y1))
      have HD9 := Lib.hid hD9
      clear hD hD3 hD4 hD5 hD6 hD7 hD8 hD9 z0 z1
      go_wp2_with fail
      go_ret
      exact ⟨rfl, BR.out.trans (HD9.out.keeps.below BR.out.size (by have := lows.out; simp; omega))⟩
end Go.Proofs.Ytlpccmokjjldlaa
