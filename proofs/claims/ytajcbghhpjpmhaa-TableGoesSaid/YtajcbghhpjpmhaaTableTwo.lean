/- TableTwo, walked (chapter 7). -/
import Derived.Test.YtajcbghhpjpmhaaTabPlays
import Derived.Test.YtajcbghhpjpmhaaB8
namespace Go.Proofs.Ytajcbghhpjpmhaa
open Go.RowKit
set_option linter.unusedVariables false
set_option linter.unusedSimpArgs false

theorem mtrNone (c : C4) (w : World) : MtrAt none c w := fun b hb => by simp at hb
theorem ctrNone (c : C4) (w : World) : CtrAt none c w := fun b hb => by simp at hb
theorem mS_none : mS none = [] := rfl
/-- Two tables that have nothing in common, each with the document's. -/
def TwoI (xb yb lo k : Nat) (w wr : World) : Prop := ∃ F c T so G d U sp, TwoAt xb lo F none none c T so wr ∧ TwoAt yb lo G none none d U sp wr ∧ TInv k T ∧ TInv k U ∧ (∀ x, x ∈ F → x ∉ G) ∧ Keeps [] w wr
theorem two_leftG {xb yb lo k : Nat} {F G : List Nat} {c d : C4} {T U : Tab} {so sp : Option Sk} {w w' wr : World} (HX : TwoAt xb lo F none none c T so wr) (HY : TwoAt yb lo G none none d U sp wr) (hd : ∀ x, x ∈ F → x ∉ G) (hw : Keeps [] w wr) (hl : lo = w.heap.size) (h : DoneP xb lo F none none (k + 1) wr w') :
    ∃ F' c' T' so', TwoAt xb lo F' none none c' T' so' w' ∧ TwoAt yb lo G none none d U sp w' ∧ TInv (k + 1) T' ∧ (∀ x, x ∈ F' → x ∉ G) ∧ Keeps [] w w' := by
  obtain ⟨F', c', T', so', h1, h2, h3, h4⟩ := h
  refine ⟨F', c', T', so', h1, HY.keeps h3 (fun x hx => ?_), h2, fun x hx hg => ?_, hw.then h3 (fun x hx => ?_)⟩
  · simp [mS] at hx
    exact ⟨hd x hx, by simp [mS], by simp [mS]⟩
  · rcases h4 x hx with q | q
    · exact hd x q hg
    · have := (HY.foot x hg).2; omega
  · simp [mS] at hx
    left; have := (HX.foot x hx).1; omega
theorem two_left {xb yb lo k : Nat} {F G : List Nat} {c d : C4} {T U : Tab} {so sp : Option Sk} {w w' wr : World} (HX : TwoAt xb lo F none none c T so wr) (HY : TwoAt yb lo G none none d U sp wr) (hd : ∀ x, x ∈ F → x ∉ G) (hU : TInv (k + 1) U) (hw : Keeps [] w wr) (hl : lo = w.heap.size) (h : DoneP xb lo F none none (k + 1) wr w') : TwoI xb yb lo (k + 1) w w' := by
  obtain ⟨F', c', T', so', h1, h2, h3, h4, h5⟩ := two_leftG HX HY hd hw hl h
  exact ⟨F', c', T', so', G, d, U, sp, h1, h2, h3, hU, h4, h5⟩
theorem two_right {xb yb lo k : Nat} {F G : List Nat} {c d : C4} {T U : Tab} {so sp : Option Sk} {w w' wr : World} (HX : TwoAt xb lo F none none c T so wr) (HY : TwoAt yb lo G none none d U sp wr) (hd : ∀ x, x ∈ F → x ∉ G) (hT : TInv (k + 1) T) (hw : Keeps [] w wr) (hl : lo = w.heap.size) (h : DoneP yb lo G none none (k + 1) wr w') : TwoI xb yb lo (k + 1) w w' := by
  obtain ⟨F', c', T', so', h1, h2, h3, h4, h5⟩ := two_leftG HY HX (fun x hx hf => hd x hf hx) hw hl h
  exact ⟨F, c, T, so, F', c', T', so', h2, h1, hT, h3, fun x hx hf => h4 x hf hx, h5⟩
theorem TwoI.mono {xb yb lo k l : Nat} {w wr : World} (h : TwoI xb yb lo k w wr) (hk : k ≤ l) : TwoI xb yb lo l w wr := by
  obtain ⟨F, c, T, so, G, d, U, sp, h1, h2, h3, h4, h5, h6⟩ := h
  exact ⟨F, c, T, so, G, d, U, sp, h1, h2, h3.mono hk, h4.mono hk, h5, h6⟩
theorem tableTwo_early (a1 a2 a3 : Option Addr) (n1 n2 n3 c1 c2 c3 : Nat) (w : World) (h : 400 < n1 ∨ (n1 ≤ 400 ∧ 400 < n2) ∨ (n1 ≤ 400 ∧ n2 ≤ 400 ∧ 400 < n3)) :
    Calls Try.prog 9 #[.slice a1 n1 c1, .slice a2 n2 c2, .slice a3 n3 c3] w fun e w' => e = .returned (.bool true) ∧ Below w.heap.size w w' := by
  rcases h with h | ⟨h, h2⟩ | ⟨h, h2, h3⟩
  · have d1 : decide ((400 : Int) < (n1 : Int)) = true := by simp; omega
    go_enter Try.func9, Try.ntmps9
    go_wp2_with (go_at_call 13; refine (awake7 _).mono ?_; rintro e w' ⟨rfl, hb⟩)
    go_ret
    exact ⟨rfl, hb⟩
  · have d1 : decide ((400 : Int) < (n1 : Int)) = false := by simp; omega
    have d2 : decide ((400 : Int) < (n2 : Int)) = true := by simp; omega
    go_enter Try.func9, Try.ntmps9
    go_wp2_with (go_at_call 13; refine (awake7 _).mono ?_; rintro e w' ⟨rfl, hb⟩)
    go_ret
    exact ⟨rfl, hb⟩
  · have d1 : decide ((400 : Int) < (n1 : Int)) = false := by simp; omega
    have d2 : decide ((400 : Int) < (n2 : Int)) = false := by simp; omega
    have d3 : decide ((400 : Int) < (n3 : Int)) = true := by simp; omega
    go_enter Try.func9, Try.ntmps9
    go_wp2_with (go_at_call 13; refine (awake7 _).mono ?_; rintro e w' ⟨rfl, hb⟩)
    go_ret
    exact ⟨rfl, hb⟩
/-- A table's Sight leaves it as it is. -/
theorem two_sight {xb lo t tw : Nat} {F S R S6 : List Nat} {sp kp : Value} {c : C4} {T : Tab} {so : Option Sk} {w w6 : World} (h1 : w.heap[xb]? = some (twoO t tw sp kp)) (h3 : RTabAt tw lo R none T w) (h6 : SeekAt t tw xb S R F sp kp T so w) (h7 : Apart7 xb lo F S R none none w)
    (k : Keeps S w w6) (t6 : TabAt t lo S6 (mV none) T w6) (g : Grew S w S6) : TwoAt xb lo (F ++ S6 ++ R) none none c T so w6 ∧ Keeps F w w6 ∧ Grew F w (F ++ S6 ++ R) := by
  obtain ⟨a1, a2, a3⟩ := two_pair0 (c' := c) (T' := T) h1 (ctrNone c w) h6 h7 (k.mono (T := S ++ mS none) (fun x hx => by simp [hx])) (.inl t6) (mtrNone _ _) g (Keeps.refl _ _) (h3.keeps k (fun x hx hq => h7.sr x hq hx)) (ctrNone _ _) (Grew.refl _ _) (fun s hs => hs)
  exact ⟨a1, a2.mono (by simp [mS]), a3⟩
set_option maxRecDepth 100000 in
set_option maxHeartbeats 8000000 in
theorem tableTwo_main (a1 a2 a3 : Option Addr) (n1 n2 n3 c1 c2 c3 : Nat) (F1 F2 F3 : Nat → Int) (w : World) (h1 : n1 ≤ 400) (h2 : n2 ≤ 400) (h3 : n3 ≤ 400) (s1 : IntRow .i64 5 w a1 n1 F1) (s2 : IntRow .i64 5 w a2 n2 F2) (s3 : IntRow .i64 5 w a3 n3 F3) :
    Calls Try.prog 9 #[.slice a1 n1 c1, .slice a2 n2 c2, .slice a3 n3 c3] w fun e w' => e = .returned (.bool true) ∧ Below w.heap.size w w' := by
  have d1 : decide ((400 : Int) < (n1 : Int)) = false := by simp; omega
  have d2 : decide ((400 : Int) < (n2 : Int)) = false := by simp; omega
  have d3 : decide ((400 : Int) < (n3 : Int)) = false := by simp; omega
  have Z1 := Lib.hid s1
  have Z2 := Lib.hid s2
  have Z3 := Lib.hid s3
  clear s1 s2 s3
  go_enter Try.func9, Try.ntmps9
  go_wp2_with fail
  refine (plays_any a1 n1 c1 F1 none none ⟨0, 0, 0, 0⟩ _ Z1.out h1 (mtrNone _ _) (ctrNone _ _) (by simp) (by simp [mS])).mono ?_
  rintro r w1 ⟨xb, F, c, T, so, rfl, t9, hI9, k9⟩
  have T9 := Lib.hid t9
  have I9 := Lib.hid hI9
  have K9 := Lib.hid (show Keeps [] w w1 from k9.mono (by simp [mS]))
  obtain ⟨t, tw, S, R, sp, kp, g1, g2, g3, g4, g5, g6, g7⟩ := t9
  have TA := Lib.hid g2
  have RA := Lib.hid g3
  have y0 : w1.cell? ⟨xb, 0, none⟩ = some (.pointer (some ⟨t, 0, none⟩)) := cell_has g1 (i := 0) rfl
  have y1 : w1.cell? ⟨xb, 1, none⟩ = some (.pointer (some ⟨tw, 0, none⟩)) := cell_has g1 (i := 1) rfl
  clear g1 g2 g3 g4 g5 g6 g7 k9 hI9
  go_wp2_with fail
  go_region_held3 (fun w' => w'.cell? ⟨xb, 0, none⟩ = some (.pointer (some ⟨t, 0, none⟩)) ∧ w'.cell? ⟨xb, 1, none⟩ = some (.pointer (some ⟨tw, 0, none⟩))) (go_keep)
    (first
      | (go_at_call 20; refine (copy_z t w.heap.size S none c T _ (TA.out.keeps (Keeps.refl [] w1).drew (by simp)) (mtrNone _ _) (I9.out.mono (by omega))).mono ?_; rintro r w2 ⟨t2, S2, rfl, u2, e2, k2⟩; have q0 := k2.cell (w := w1.drew) y0 (by simp [mS]); have q1 := k2.cell (w := w1.drew) y1 (by simp [mS]); have U2 := Lib.hid u2; have K2 := Lib.hid (show Keeps [] w1 w2 from ((Keeps.refl [] w1).drew).trans (k2.mono (by simp [mS]))); clear u2 e2 k2)
      | (go_at_call 27; refine (rcopy_any tw w.heap.size R none c T _ (RA.out.keeps K2.out (by simp)) (ctrNone _ _) (I9.out.mono (by omega))).mono ?_; rintro r w3 ⟨t3, S3, rfl, u3, e3, k3⟩; have p0 := k3.cell q0 (by simp [mS]); have p1 := k3.cell q1 (by simp [mS]); have U3 := Lib.hid u3; have K3 := Lib.hid (show Keeps [] w2 w3 from k3.mono (by simp [mS])); clear u3 e3 k3))
  have yy0 : (w3.alloc (.cells #[.pointer (some ⟨t2, 0, none⟩), .pointer (some ⟨t3, 0, none⟩), .pointer none, .pointer none] 57)).cell? ⟨w3.heap.size, 0, none⟩ = some (.pointer (some ⟨t2, 0, none⟩)) := cell_has (has_new _ _) (i := 0) rfl
  go_wp2_with fail
  have hst : TwoI xb w3.heap.size w.heap.size 400 w (w3.alloc (.cells #[.pointer (some ⟨t2, 0, none⟩), .pointer (some ⟨t3, 0, none⟩), .pointer none, .pointer none] 57)) := by
    have ka : Keeps [] w3 (w3.alloc (.cells #[.pointer (some ⟨t2, 0, none⟩), .pointer (some ⟨t3, 0, none⟩), .pointer none, .pointer none] 57)) := (Keeps.refl [] w3).alloc _
    have f2 := U2.out.foot
    have f3 := U3.out.foot
    have fx := T9.out.foot
    have l1 := K9.out.size
    have l2 := K2.out.size
    have l3 := K3.out.size
    have ed : w1.drew.heap.size = w1.heap.size := rfl
    refine ⟨F, c, T, so, w3.heap.size :: (S2 ++ S3), c, T.copy, none, T9.out.keeps ((K2.out.trans K3.out).trans ka) (by simp), ⟨t2, t3, S2, S3, _, _, has_new _ _, .inl (((U2.out.lower (lo := w.heap.size) (by omega)).keeps K3.out (by simp)).keeps ka (by simp)), (U3.out.lower (lo := w.heap.size) (by omega)).keeps ka (by simp), mtrNone _ _, ctrNone _ _, ⟨rfl, _, rfl⟩, ?_⟩, I9.out, I9.out.copy (by omega), fun x hx hg => ?_, ((K9.out.trans K2.out).trans K3.out).trans ka⟩
    · refine ⟨fun x hx hr => ?_, fun hx => ?_, fun hx => ?_, by simp, fun x hx => by simp [hx], fun x hx => by simp [hx], fun x hx => ?_, by simp, by simp, by simp⟩
      · have := (f2 x hx).2; have := (f3 x hr).1; omega
      · have := (f2 _ hx).2; omega
      · have := (f3 _ hx).2; omega
      · simp only [List.mem_cons, List.mem_append] at hx
        rcases hx with rfl | hx | hx
        · simp; omega
        · have := f2 x hx; simp; omega
        · have := f3 x hx; simp; omega
    · have := (fx x hx).2
      simp only [List.mem_cons, List.mem_append] at hg
      rcases hg with rfl | hg | hg
      · omega
      · have := (f2 x hg).1; omega
      · have := (f3 x hg).1; omega
  obtain ⟨yb, hyb⟩ : ∃ x, x = w3.heap.size := ⟨_, rfl⟩
  rw [← hyb] at hst yy0 ⊢
  obtain ⟨W0, hW0⟩ : ∃ x, w3.alloc (.cells #[.pointer (some ⟨t2, 0, none⟩), .pointer (some ⟨t3, 0, none⟩), .pointer none, .pointer none] 57) = x := ⟨_, rfl⟩
  rw [hW0] at hst yy0 ⊢
  have HST := Lib.hid hst
  clear hst hW0 hyb yy0 y0 y1 q0 q1 p0 p1
  go_loopw [10] (fun i wr => ∃ k : Nat, k ≤ n2 + n3 ∧ i = .int .i64 k ∧ TwoI xb yb w.heap.size (400 + k) w wr) (fun i _ => n2 + n3 - (intOf i).toNat)
  case atStart => exact ⟨0, by omega, rfl, HST.out⟩
  case round =>
    obtain ⟨k, hk, rfl, F, c, T, so, G, d, U, sp, hX, hY, hI, hJ, hdis, hK⟩ := hrel
    clear HST T9 I9 TA RA U2 U3 K2 K3
    have hk0 : (0 : Int) ≤ (k : Int) := by omega
    have HX := Lib.hid hX
    have HY := Lib.hid hY
    have HI := Lib.hid hI
    have HJ := Lib.hid hJ
    have HD := Lib.hid hdis
    have HK := Lib.hid hK
    clear hX hY hI hJ hdis
    by_cases hA : k < n2
    · have hA' : (k : Int) < (n2 : Int) := by omega
      have dA : decide ((k : Int) < (n2 : Int)) = true := by simpa using hA'
      rcases Z2.out with h0 | ⟨b, off, rfl, hb1, hb2, hcl⟩
      · omega
      have hcell : ∀ i, i < 5 → wr.cell? ⟨b, off + (k * 5 + i), none⟩ = some (.int .i64 (F2 (k * 5 + i))) := fun i hi => hK.cell (hcl (k * 5 + i) (by omega)).1 (by simp)
      obtain ⟨x0, hx0⟩ := ex_hid (F2 (k * 5 + 0))
      obtain ⟨x1, hx1⟩ := ex_hid (F2 (k * 5 + 1))
      obtain ⟨x2, hx2⟩ := ex_hid (F2 (k * 5 + 2))
      obtain ⟨x3, hx3⟩ := ex_hid (F2 (k * 5 + 3))
      obtain ⟨x4, hx4⟩ := ex_hid (F2 (k * 5 + 4))
      have q0 : wr.cell? ⟨b, off + k * 5, none⟩ = some (.int .i64 x0) := by rw [hx0.out]; exact hcell 0 (by omega)
      have q1 : wr.cell? ⟨b, off + k * 5 + 1, none⟩ = some (.int .i64 x1) := by rw [hx1.out]; exact hcell 1 (by omega)
      have q2 : wr.cell? ⟨b, off + k * 5 + 2, none⟩ = some (.int .i64 x2) := by rw [hx2.out]; exact hcell 2 (by omega)
      have q3 : wr.cell? ⟨b, off + k * 5 + 3, none⟩ = some (.int .i64 x3) := by rw [hx3.out]; exact hcell 3 (by omega)
      have q4 : wr.cell? ⟨b, off + k * 5 + 4, none⟩ = some (.int .i64 x4) := by rw [hx4.out]; exact hcell 4 (by omega)
      clear hcell hcl hK
      by_cases hB : k < n3
      · have hB' : (k : Int) < (n3 : Int) := by omega
        have dB : decide ((k : Int) < (n3 : Int)) = true := by simpa using hB'
        go_wp2_with fail
        refine (does_any xb w.heap.size (400 + k) F none none c T so _ HX.out (by omega) HI.out x0 x1 x2 x3 x4).mono ?_
        rintro r w5 ⟨rfl, hD⟩
        have TI := two_left HX.out HY.out HD.out (HJ.out.mono (by omega)) HK.out rfl hD
        obtain ⟨F', c', T', so', hX, hY, hI, hdis, hK⟩ := two_leftG HX.out HY.out HD.out HK.out rfl hD
        rcases Z3.out with h0 | ⟨b3, off3, rfl, hb31, hb32, hcl3⟩
        · omega
        have hcell : ∀ i, i < 5 → w5.cell? ⟨b3, off3 + (k * 5 + i), none⟩ = some (.int .i64 (F3 (k * 5 + i))) := fun i hi => hK.cell (hcl3 (k * 5 + i) (by omega)).1 (by simp)
        obtain ⟨z0, hz0⟩ := ex_hid (F3 (k * 5 + 0))
        obtain ⟨z1, hz1⟩ := ex_hid (F3 (k * 5 + 1))
        obtain ⟨z2, hz2⟩ := ex_hid (F3 (k * 5 + 2))
        obtain ⟨z3, hz3⟩ := ex_hid (F3 (k * 5 + 3))
        obtain ⟨z4, hz4⟩ := ex_hid (F3 (k * 5 + 4))
        have q0 : w5.cell? ⟨b3, off3 + k * 5, none⟩ = some (.int .i64 z0) := by rw [hz0.out]; exact hcell 0 (by omega)
        have q1 : w5.cell? ⟨b3, off3 + k * 5 + 1, none⟩ = some (.int .i64 z1) := by rw [hz1.out]; exact hcell 1 (by omega)
        have q2 : w5.cell? ⟨b3, off3 + k * 5 + 2, none⟩ = some (.int .i64 z2) := by rw [hz2.out]; exact hcell 2 (by omega)
        have q3 : w5.cell? ⟨b3, off3 + k * 5 + 3, none⟩ = some (.int .i64 z3) := by rw [hz3.out]; exact hcell 3 (by omega)
        have q4 : w5.cell? ⟨b3, off3 + k * 5 + 4, none⟩ = some (.int .i64 z4) := by rw [hz4.out]; exact hcell 4 (by omega)
        clear HX HY HI HD HK
        have HX := Lib.hid hX
        have HY := Lib.hid hY
        have HI := Lib.hid hI
        have HD := Lib.hid hdis
        have HK := Lib.hid hK
        clear hX hY hI hdis hK hcell hcl3 hD
        go_wp2_with fail
        refine (does_any yb w.heap.size (400 + k) G none none d U sp _ HY.out (by omega) HJ.out z0 z1 z2 z3 z4).mono ?_
        rintro r w6 ⟨rfl, hD⟩
        have TI := Lib.hid (two_right HX.out HY.out HD.out HI.out HK.out rfl hD)
        clear hD
        go_wp2_with fail
        go_roundw
        case rel => exact ⟨k + 1, by omega, by go_num, TI.out⟩
        case measure => simp [intOf]; omega
      · have hB' : ¬ (k : Int) < (n3 : Int) := by omega
        have dB : decide ((k : Int) < (n3 : Int)) = false := by simpa using hB'
        go_wp2_with fail
        refine (does_any xb w.heap.size (400 + k) F none none c T so _ HX.out (by omega) HI.out x0 x1 x2 x3 x4).mono ?_
        rintro r w5 ⟨rfl, hD⟩
        have TI := Lib.hid (two_left HX.out HY.out HD.out (HJ.out.mono (by omega)) HK.out rfl hD)
        clear hD
        go_wp2_with fail
        go_roundw
        case rel => exact ⟨k + 1, by omega, by go_num, TI.out⟩
        case measure => simp [intOf]; omega
    · have hA' : ¬ (k : Int) < (n2 : Int) := by omega
      have dA : decide ((k : Int) < (n2 : Int)) = false := by simpa using hA'
      by_cases hB : k < n3
      · have hB' : (k : Int) < (n3 : Int) := by omega
        have dB : decide ((k : Int) < (n3 : Int)) = true := by simpa using hB'
        rcases Z3.out with h0 | ⟨b3, off3, rfl, hb31, hb32, hcl3⟩
        · omega
        have hcell : ∀ i, i < 5 → wr.cell? ⟨b3, off3 + (k * 5 + i), none⟩ = some (.int .i64 (F3 (k * 5 + i))) := fun i hi => hK.cell (hcl3 (k * 5 + i) (by omega)).1 (by simp)
        obtain ⟨z0, hz0⟩ := ex_hid (F3 (k * 5 + 0))
        obtain ⟨z1, hz1⟩ := ex_hid (F3 (k * 5 + 1))
        obtain ⟨z2, hz2⟩ := ex_hid (F3 (k * 5 + 2))
        obtain ⟨z3, hz3⟩ := ex_hid (F3 (k * 5 + 3))
        obtain ⟨z4, hz4⟩ := ex_hid (F3 (k * 5 + 4))
        have q0 : wr.cell? ⟨b3, off3 + k * 5, none⟩ = some (.int .i64 z0) := by rw [hz0.out]; exact hcell 0 (by omega)
        have q1 : wr.cell? ⟨b3, off3 + k * 5 + 1, none⟩ = some (.int .i64 z1) := by rw [hz1.out]; exact hcell 1 (by omega)
        have q2 : wr.cell? ⟨b3, off3 + k * 5 + 2, none⟩ = some (.int .i64 z2) := by rw [hz2.out]; exact hcell 2 (by omega)
        have q3 : wr.cell? ⟨b3, off3 + k * 5 + 3, none⟩ = some (.int .i64 z3) := by rw [hz3.out]; exact hcell 3 (by omega)
        have q4 : wr.cell? ⟨b3, off3 + k * 5 + 4, none⟩ = some (.int .i64 z4) := by rw [hz4.out]; exact hcell 4 (by omega)
        clear hK hcell hcl3
        go_wp2_with fail
        refine (does_any yb w.heap.size (400 + k) G none none d U sp _ HY.out (by omega) HJ.out z0 z1 z2 z3 z4).mono ?_
        rintro r w6 ⟨rfl, hD⟩
        have TI := Lib.hid (two_right HX.out HY.out HD.out (HI.out.mono (by omega)) HK.out rfl hD)
        clear hD
        go_wp2_with fail
        go_roundw
        case rel => exact ⟨k + 1, by omega, by go_num, TI.out⟩
        case measure => simp [intOf]; omega
      · have hB' : ¬ (k : Int) < (n3 : Int) := by omega
        have dB : decide ((k : Int) < (n3 : Int)) = false := by simpa using hB'
        obtain ⟨t, tw, S, R, sp1, kp, g1, g2, g3, g4, g5, g6, g7⟩ := HX.out
        obtain ⟨u, uw, P, Q, sp2, kp2, j1, j2, j3, j4, j5, j6, j7⟩ := HY.out
        have TA := Lib.hid g2
        have RA := Lib.hid g3
        have TB := Lib.hid j2
        have RB := Lib.hid j3
        have PX := Lib.hid (And.intro g1 (And.intro g6 g7))
        have PY := Lib.hid (And.intro j1 (And.intro j6 j7))
        have y0 : wr.cell? ⟨xb, 0, none⟩ = some (.pointer (some ⟨t, 0, none⟩)) := cell_has g1 (i := 0) rfl
        have y1 : wr.cell? ⟨xb, 1, none⟩ = some (.pointer (some ⟨tw, 0, none⟩)) := cell_has g1 (i := 1) rfl
        have v0 : wr.cell? ⟨yb, 0, none⟩ = some (.pointer (some ⟨u, 0, none⟩)) := cell_has j1 (i := 0) rfl
        have v1 : wr.cell? ⟨yb, 1, none⟩ = some (.pointer (some ⟨uw, 0, none⟩)) := cell_has j1 (i := 1) rfl
        have hL := HI.out.l3
        have hL2 := HI.out.l12
        have hE := HI.out.ek
        have hM := HJ.out.l3
        have hM2 := HJ.out.l12
        have hE2 := HJ.out.ek
        clear g1 g2 g3 g4 g5 g6 g7 j1 j2 j3 j4 j5 j6 j7 hK
        go_upto_region 14 with (fail)
        have nx : xb ∉ S := PX.out.2.2.sx
        have ny : yb ∉ S := fun hx => HD.out yb (PX.out.2.2.fs yb hx) PY.out.2.2.fx
        have mx : xb ∉ P := fun hx => HD.out xb PX.out.2.2.fx (PY.out.2.2.fs xb hx)
        have my : yb ∉ P := PY.out.2.2.sx
        have sp0 : ∀ x, x ∈ P → x ∉ S := fun x hx hq => HD.out x (PX.out.2.2.fs x hq) (PY.out.2.2.fs x hx)
        have sq : ∀ x, x ∈ Q → x ∉ S := fun x hx hq => HD.out x (PX.out.2.2.fs x hq) (PY.out.2.2.fr x hx)
        have SD := Lib.hid (And.intro sp0 sq)
        have HK0 := HK
        clear sp0 sq
        refine wp_regionG (fun w' => w'.cell? ⟨xb, 0, none⟩ = some (.pointer (some ⟨t, 0, none⟩)) ∧ w'.cell? ⟨xb, 1, none⟩ = some (.pointer (some ⟨tw, 0, none⟩)) ∧ w'.cell? ⟨yb, 0, none⟩ = some (.pointer (some ⟨u, 0, none⟩)) ∧ w'.cell? ⟨yb, 1, none⟩ = some (.pointer (some ⟨uw, 0, none⟩))) 28 (by kernel_rfl) ⟨y0, y1, v0, v1⟩ (fun hF => ?_)
        refine wpAnyG_takeY (i := 0) (v := ?_) rfl (by kernel_rfl) (by decide +kernel) (by decide +kernel) (by decide +kernel) (fun _ _ _ h => h) (by kernel_rfl) ?_ (by assumption) ?_
        rotate_left
        · (intro wz; go_simp; with_reducible rfl)
        try simp only [Act.put, List.setIfInBounds_toArray, List.set_cons_zero, List.set_cons_succ]
        refine wpAnyG_takeY (i := 1) (v := ?_) rfl (by kernel_rfl) (by decide +kernel) (by decide +kernel) (by decide +kernel) (fun _ _ _ h => h) (by kernel_rfl) ?_ (by assumption) ?_
        rotate_left
        · (intro wz; go_simp; with_reducible rfl)
        try simp only [Act.put, List.setIfInBounds_toArray, List.set_cons_zero, List.set_cons_succ]
        refine wpAnyG_takeY (i := 2) (v := ?_) rfl (by kernel_rfl) (by decide +kernel) (by decide +kernel) (by decide +kernel) (fun _ _ _ h => h) (by kernel_rfl) ?_ (by assumption) ?_
        rotate_left
        · (intro wz; go_simp; with_reducible rfl)
        try simp only [Act.put, List.setIfInBounds_toArray, List.set_cons_zero, List.set_cons_succ]
        refine wpAnyG_take (i := 3) (v := ?_) rfl (by kernel_rfl) (by decide +kernel) (by decide +kernel) (by decide +kernel) (by decide +kernel) (by rfl) (fun _ _ _ h => h) (by kernel_rfl) ?_ (by assumption) ?_
        rotate_left
        · (intro wz hSw; (try dsimp only at hSw); go_simp; with_reducible rfl)
        try simp only [Act.put, List.setIfInBounds_toArray, List.set_cons_zero, List.set_cons_succ]
        refine wpAnyG_takeY (i := 5) (v := ?_) rfl (by kernel_rfl) (by decide +kernel) (by decide +kernel) (by decide +kernel) (fun _ _ _ h => h) (by kernel_rfl) ?_ (by assumption) ?_
        rotate_left
        · (intro wz; go_simp; with_reducible rfl)
        try simp only [Act.put, List.setIfInBounds_toArray, List.set_cons_zero, List.set_cons_succ]
        refine wpAnyG_takeY (i := 6) (v := ?_) rfl (by kernel_rfl) (by decide +kernel) (by decide +kernel) (by decide +kernel) (fun _ _ _ h => h) (by kernel_rfl) ?_ (by assumption) ?_
        rotate_left
        · (intro wz; go_simp; with_reducible rfl)
        try simp only [Act.put, List.setIfInBounds_toArray, List.set_cons_zero, List.set_cons_succ]
        refine wpAnyG_takeY (i := 7) (v := ?_) rfl (by kernel_rfl) (by decide +kernel) (by decide +kernel) (by decide +kernel) (fun _ _ _ h => h) (by kernel_rfl) ?_ (by assumption) ?_
        rotate_left
        · (intro wz; go_simp; with_reducible rfl)
        try simp only [Act.put, List.setIfInBounds_toArray, List.set_cons_zero, List.set_cons_succ]
        refine wpAnyG_take (i := 8) (v := ?_) rfl (by kernel_rfl) (by decide +kernel) (by decide +kernel) (by decide +kernel) (by decide +kernel) (by rfl) (fun _ _ _ h => h) (by kernel_rfl) ?_ (by assumption) ?_
        rotate_left
        · (intro wz hSw; (try dsimp only at hSw); go_simp; with_reducible rfl)
        try simp only [Act.put, List.setIfInBounds_toArray, List.set_cons_zero, List.set_cons_succ]
        refine wpAnyG_one (i := 4) rfl (by kernel_rfl) (by kernel_rfl) (fun K hK => ?_)
        have HK := Lib.hid hK
        clear hK
        go_simp
        refine (sight_z t w.heap.size S none T _ (TA.out.keeps (Keeps.refl [] wr).drew (by simp)) (by omega) HI.out.ft (by omega)).mono ?_
        rintro r w6 ⟨ca, cc, ea, ec, S6, rfl, e1, e2, k6, _, _⟩
        have hF6 : (fun w' => w'.cell? ⟨xb, 0, none⟩ = some (.pointer (some ⟨t, 0, none⟩)) ∧ w'.cell? ⟨xb, 1, none⟩ = some (.pointer (some ⟨tw, 0, none⟩)) ∧ w'.cell? ⟨yb, 0, none⟩ = some (.pointer (some ⟨u, 0, none⟩)) ∧ w'.cell? ⟨yb, 1, none⟩ = some (.pointer (some ⟨uw, 0, none⟩))) w6 := ⟨k6.cell (w := wr.drew) y0 nx, k6.cell (w := wr.drew) y1 nx, k6.cell (w := wr.drew) v0 ny, k6.cell (w := wr.drew) v1 ny⟩
        have E1 := Lib.hid e1
        have E2 := Lib.hid e2
        have K6 := Lib.hid (((Keeps.refl S wr).drew).trans k6)
        clear e1 e2 k6
        refine HK.out _ _ hF6 ?_
        clear HK K
        try simp only [Act.put, List.setIfInBounds_toArray, List.set_cons_zero, List.set_cons_succ]
        refine wpAnyG_one (i := 9) rfl (by kernel_rfl) (by kernel_rfl) (fun K hK => ?_)
        have HK := Lib.hid hK
        clear hK
        go_simp
        refine (rsight_any tw w.heap.size R none T _ (RA.out.keeps K6.out (fun x hx hq => PX.out.2.2.sr x hq hx)) hL (by omega) (by omega)).mono ?_
        rintro r w7 ⟨ca2, cc2, ea2, ec2, rfl, e1, e2, b7⟩
        have k7 := Below.keeps b7 []
        obtain ⟨i0, i1, i2, i3⟩ := id hF6
        have hF7 : (fun w' => w'.cell? ⟨xb, 0, none⟩ = some (.pointer (some ⟨t, 0, none⟩)) ∧ w'.cell? ⟨xb, 1, none⟩ = some (.pointer (some ⟨tw, 0, none⟩)) ∧ w'.cell? ⟨yb, 0, none⟩ = some (.pointer (some ⟨u, 0, none⟩)) ∧ w'.cell? ⟨yb, 1, none⟩ = some (.pointer (some ⟨uw, 0, none⟩))) w7 := ⟨k7.cell i0 (by simp), k7.cell i1 (by simp), k7.cell i2 (by simp), k7.cell i3 (by simp)⟩
        have E3 := Lib.hid e1
        have E4 := Lib.hid e2
        have K7 := Lib.hid k7
        clear e1 e2 b7 k7 i0 i1 i2 i3
        refine HK.out _ _ hF7 ?_
        clear HK K
        try simp only [Act.put, List.setIfInBounds_toArray, List.set_cons_zero, List.set_cons_succ]
        refine wpAnyG_one (i := 10) rfl (by kernel_rfl) (by kernel_rfl) (fun K hK => ?_)
        have HK := Lib.hid hK
        clear hK
        go_simp
        refine (sight_same T _ _ _ _ _ _ _ _ _ _ _ _ _ (E1.out.keeps K7.out (by simp)) E3.out (E2.out.keeps K7.out (by simp)) E4.out (by omega) (by omega)).mono ?_
        rintro r w8 ⟨rfl, k8⟩
        obtain ⟨i0, i1, i2, i3⟩ := id hF7
        have hF8 : (fun w' => w'.cell? ⟨xb, 0, none⟩ = some (.pointer (some ⟨t, 0, none⟩)) ∧ w'.cell? ⟨xb, 1, none⟩ = some (.pointer (some ⟨tw, 0, none⟩)) ∧ w'.cell? ⟨yb, 0, none⟩ = some (.pointer (some ⟨u, 0, none⟩)) ∧ w'.cell? ⟨yb, 1, none⟩ = some (.pointer (some ⟨uw, 0, none⟩))) w8 := ⟨k8.cell i0 (by simp), k8.cell i1 (by simp), k8.cell i2 (by simp), k8.cell i3 (by simp)⟩
        have K8 := Lib.hid ((K6.out.trans (K7.out.mono (by simp))).trans (k8.mono (T := S) (by simp)))
        clear k8 i0 i1 i2 i3
        refine HK.out _ _ hF8 ?_
        clear HK K E1 E2 E3 E4 K6 K7 hF6 hF7
        try simp only [Act.put, List.setIfInBounds_toArray, List.set_cons_zero, List.set_cons_succ]
        refine wpAnyG_takeY (i := 11) (v := ?_) rfl (by kernel_rfl) (by decide +kernel) (by decide +kernel) (by decide +kernel) (fun _ _ _ h => h) (by kernel_rfl) ?_ (by assumption) ?_
        rotate_left
        · (intro wz; go_simp; with_reducible rfl)
        try simp only [Act.put, List.setIfInBounds_toArray, List.set_cons_zero, List.set_cons_succ]
        refine wpAnyG_takeY (i := 12) (v := ?_) rfl (by kernel_rfl) (by decide +kernel) (by decide +kernel) (by decide +kernel) (fun _ _ _ h => h) (by kernel_rfl) ?_ (by assumption) ?_
        rotate_left
        · (intro wz; go_simp; with_reducible rfl)
        try simp only [Act.put, List.setIfInBounds_toArray, List.set_cons_zero, List.set_cons_succ]
        refine wpAnyG_takeY (i := 13) (v := ?_) rfl (by kernel_rfl) (by decide +kernel) (by decide +kernel) (by decide +kernel) (fun _ _ _ h => h) (by kernel_rfl) ?_ (by assumption) ?_
        rotate_left
        · (intro wz; go_simp; with_reducible rfl)
        try simp only [Act.put, List.setIfInBounds_toArray, List.set_cons_zero, List.set_cons_succ]
        refine wpAnyG_takeY (i := 14) (v := ?_) rfl (by kernel_rfl) (by decide +kernel) (by decide +kernel) (by decide +kernel) (fun _ _ _ h => h) (by kernel_rfl) ?_ (by assumption) ?_
        rotate_left
        · (intro wz; go_simp; with_reducible rfl)
        try simp only [Act.put, List.setIfInBounds_toArray, List.set_cons_zero, List.set_cons_succ]
        refine wpAnyG_take (i := 15) (v := ?_) rfl (by kernel_rfl) (by decide +kernel) (by decide +kernel) (by decide +kernel) (by decide +kernel) (by rfl) (fun _ _ _ h => h) (by kernel_rfl) ?_ (by assumption) ?_
        rotate_left
        · (intro wz hSw; (try dsimp only at hSw); go_simp; with_reducible rfl)
        try simp only [Act.put, List.setIfInBounds_toArray, List.set_cons_zero, List.set_cons_succ]
        refine wpAnyG_takeY (i := 17) (v := ?_) rfl (by kernel_rfl) (by decide +kernel) (by decide +kernel) (by decide +kernel) (fun _ _ _ h => h) (by kernel_rfl) ?_ (by assumption) ?_
        rotate_left
        · (intro wz; go_simp; with_reducible rfl)
        try simp only [Act.put, List.setIfInBounds_toArray, List.set_cons_zero, List.set_cons_succ]
        refine wpAnyG_takeY (i := 18) (v := ?_) rfl (by kernel_rfl) (by decide +kernel) (by decide +kernel) (by decide +kernel) (fun _ _ _ h => h) (by kernel_rfl) ?_ (by assumption) ?_
        rotate_left
        · (intro wz; go_simp; with_reducible rfl)
        try simp only [Act.put, List.setIfInBounds_toArray, List.set_cons_zero, List.set_cons_succ]
        refine wpAnyG_takeY (i := 19) (v := ?_) rfl (by kernel_rfl) (by decide +kernel) (by decide +kernel) (by decide +kernel) (fun _ _ _ h => h) (by kernel_rfl) ?_ (by assumption) ?_
        rotate_left
        · (intro wz; go_simp; with_reducible rfl)
        try simp only [Act.put, List.setIfInBounds_toArray, List.set_cons_zero, List.set_cons_succ]
        refine wpAnyG_take (i := 20) (v := ?_) rfl (by kernel_rfl) (by decide +kernel) (by decide +kernel) (by decide +kernel) (by decide +kernel) (by rfl) (fun _ _ _ h => h) (by kernel_rfl) ?_ (by assumption) ?_
        rotate_left
        · (intro wz hSw; (try dsimp only at hSw); go_simp; with_reducible rfl)
        try simp only [Act.put, List.setIfInBounds_toArray, List.set_cons_zero, List.set_cons_succ]
        refine wpAnyG_one (i := 16) rfl (by kernel_rfl) (by kernel_rfl) (fun K hK => ?_)
        have HK := Lib.hid hK
        clear hK
        go_simp
        refine (sight_z u w.heap.size P none U _ (TB.out.keeps K8.out SD.out.1) (by omega) HJ.out.ft (by omega)).mono ?_
        rintro r w6 ⟨ca, cc, ea, ec, S6, rfl, e1, e2, k6, _, _⟩
        obtain ⟨i0, i1, i2, i3⟩ := id hF8
        have hF6 : (fun w' => w'.cell? ⟨xb, 0, none⟩ = some (.pointer (some ⟨t, 0, none⟩)) ∧ w'.cell? ⟨xb, 1, none⟩ = some (.pointer (some ⟨tw, 0, none⟩)) ∧ w'.cell? ⟨yb, 0, none⟩ = some (.pointer (some ⟨u, 0, none⟩)) ∧ w'.cell? ⟨yb, 1, none⟩ = some (.pointer (some ⟨uw, 0, none⟩))) w6 := ⟨k6.cell i0 mx, k6.cell i1 mx, k6.cell i2 my, k6.cell i3 my⟩
        have E1 := Lib.hid e1
        have E2 := Lib.hid e2
        have K6 := Lib.hid k6
        clear e1 e2 k6 i0 i1 i2 i3
        refine HK.out _ _ hF6 ?_
        clear HK K
        try simp only [Act.put, List.setIfInBounds_toArray, List.set_cons_zero, List.set_cons_succ]
        refine wpAnyG_one (i := 21) rfl (by kernel_rfl) (by kernel_rfl) (fun K hK => ?_)
        have HK := Lib.hid hK
        clear hK
        go_simp
        refine (rsight_any uw w.heap.size Q none U _ ((RB.out.keeps K8.out SD.out.2).keeps K6.out (fun x hx hq => PY.out.2.2.sr x hq hx)) hM (by omega) (by omega)).mono ?_
        rintro r w7 ⟨ca2, cc2, ea2, ec2, rfl, e1, e2, b7⟩
        have k7 := Below.keeps b7 []
        obtain ⟨i0, i1, i2, i3⟩ := id hF6
        have hF7 : (fun w' => w'.cell? ⟨xb, 0, none⟩ = some (.pointer (some ⟨t, 0, none⟩)) ∧ w'.cell? ⟨xb, 1, none⟩ = some (.pointer (some ⟨tw, 0, none⟩)) ∧ w'.cell? ⟨yb, 0, none⟩ = some (.pointer (some ⟨u, 0, none⟩)) ∧ w'.cell? ⟨yb, 1, none⟩ = some (.pointer (some ⟨uw, 0, none⟩))) w7 := ⟨k7.cell i0 (by simp), k7.cell i1 (by simp), k7.cell i2 (by simp), k7.cell i3 (by simp)⟩
        have E3 := Lib.hid e1
        have E4 := Lib.hid e2
        have K7 := Lib.hid k7
        clear e1 e2 b7 k7 i0 i1 i2 i3
        refine HK.out _ _ hF7 ?_
        clear HK K
        try simp only [Act.put, List.setIfInBounds_toArray, List.set_cons_zero, List.set_cons_succ]
        refine wpAnyG_one (i := 22) rfl (by kernel_rfl) (by kernel_rfl) (fun K hK => ?_)
        have HK := Lib.hid hK
        clear hK
        go_simp
        refine (sight_same U _ _ _ _ _ _ _ _ _ _ _ _ _ (E1.out.keeps K7.out (by simp)) E3.out (E2.out.keeps K7.out (by simp)) E4.out (by omega) (by omega)).mono ?_
        rintro r w9 ⟨rfl, k8⟩
        obtain ⟨i0, i1, i2, i3⟩ := id hF7
        have hF9 : (fun w' => w'.cell? ⟨xb, 0, none⟩ = some (.pointer (some ⟨t, 0, none⟩)) ∧ w'.cell? ⟨xb, 1, none⟩ = some (.pointer (some ⟨tw, 0, none⟩)) ∧ w'.cell? ⟨yb, 0, none⟩ = some (.pointer (some ⟨u, 0, none⟩)) ∧ w'.cell? ⟨yb, 1, none⟩ = some (.pointer (some ⟨uw, 0, none⟩))) w9 := ⟨k8.cell i0 (by simp), k8.cell i1 (by simp), k8.cell i2 (by simp), k8.cell i3 (by simp)⟩
        have K9' := Lib.hid ((K6.out.trans (K7.out.mono (by simp))).trans (k8.mono (T := P) (by simp)))
        clear k8 i0 i1 i2 i3
        refine HK.out _ _ hF9 ?_
        clear HK K E1 E2 E3 E4 K6 K7 hF6 hF7
        try simp only [Act.put, List.setIfInBounds_toArray, List.set_cons_zero, List.set_cons_succ]
        refine wpAnyG_takeY (i := 23) (v := ?_) rfl (by kernel_rfl) (by decide +kernel) (by decide +kernel) (by decide +kernel) (fun _ _ _ h => h) (by kernel_rfl) ?_ (by assumption) ?_
        rotate_left
        · (intro wz; go_simp; with_reducible rfl)
        try simp only [Act.put, List.setIfInBounds_toArray, List.set_cons_zero, List.set_cons_succ]
        refine wpAnyG_takeY (i := 24) (v := ?_) rfl (by kernel_rfl) (by decide +kernel) (by decide +kernel) (by decide +kernel) (fun _ _ _ h => h) (by kernel_rfl) ?_ (by assumption) ?_
        rotate_left
        · (intro wz; go_simp; with_reducible rfl)
        try simp only [Act.put, List.setIfInBounds_toArray, List.set_cons_zero, List.set_cons_succ]
        refine wpAnyG_one (i := 25) rfl (by kernel_rfl) (by kernel_rfl) (fun K hK => ?_)
        have HK := Lib.hid hK
        clear hK
        go_simp
        refine (awake7 _).mono ?_
        rintro r w10 ⟨rfl, b10⟩
        have k10 := Below.keeps b10 []
        obtain ⟨i0, i1, i2, i3⟩ := id hF9
        have hF10 : (fun w' => w'.cell? ⟨xb, 0, none⟩ = some (.pointer (some ⟨t, 0, none⟩)) ∧ w'.cell? ⟨xb, 1, none⟩ = some (.pointer (some ⟨tw, 0, none⟩)) ∧ w'.cell? ⟨yb, 0, none⟩ = some (.pointer (some ⟨u, 0, none⟩)) ∧ w'.cell? ⟨yb, 1, none⟩ = some (.pointer (some ⟨uw, 0, none⟩))) w10 := ⟨k10.cell i0 (by simp), k10.cell i1 (by simp), k10.cell i2 (by simp), k10.cell i3 (by simp)⟩
        have K10 := Lib.hid k10
        clear b10 k10 i0 i1 i2 i3
        refine HK.out _ _ hF10 ?_
        clear HK K
        try simp only [Act.put, List.setIfInBounds_toArray, List.set_cons_zero, List.set_cons_succ]
        refine wpAnyG_takeY (i := 26) (v := ?_) rfl (by kernel_rfl) (by decide +kernel) (by decide +kernel) (by decide +kernel) (fun _ _ _ h => h) (by kernel_rfl) ?_ (by assumption) ?_
        rotate_left
        · (intro wz; go_simp; with_reducible rfl)
        try simp only [Act.put, List.setIfInBounds_toArray, List.set_cons_zero, List.set_cons_succ]
        refine wpAnyG_takeY (i := 27) (v := ?_) rfl (by kernel_rfl) (by decide +kernel) (by decide +kernel) (by decide +kernel) (fun _ _ _ h => h) (by kernel_rfl) ?_ (by assumption) ?_
        rotate_left
        · (intro wz; go_simp; with_reducible rfl)
        try simp only [Act.put, List.setIfInBounds_toArray, List.set_cons_zero, List.set_cons_succ]
        refine wpAnyG_done (by kernel_rfl) ?_ _
        go_simp
        go_wp2_with fail
        go_ret
        refine ⟨rfl, (((HK0.out.then K8.out (fun x hx => .inl (TA.out.foot x hx).1)).then K9'.out (fun x hx => .inl (TB.out.foot x hx).1)).trans K10.out).below (Nat.le_refl _) (by simp)⟩
theorem tableTwo_walk (a0 : Option Addr) (len0 cap0 : Nat) (F0 : Nat → Int) (a1 : Option Addr) (len1 cap1 : Nat) (F1 : Nat → Int) (a2 : Option Addr) (len2 cap2 : Nat) (F2 : Nat → Int) (w : World) (w0 : IntRow .i64 5 w a0 len0 F0) (w1 : IntRow .i64 5 w a1 len1 F1) (w2 : IntRow .i64 5 w a2 len2 F2) :
    Calls Try.prog 9 #[.slice a0 len0 cap0, .slice a1 len1 cap1, .slice a2 len2 cap2] w fun e w' => e = .returned (.bool true) ∧ Below w.heap.size w w' := by
  by_cases h1 : 400 < len0
  · exact tableTwo_early a0 a1 a2 len0 len1 len2 cap0 cap1 cap2 w (.inl h1)
  by_cases h2 : 400 < len1
  · exact tableTwo_early a0 a1 a2 len0 len1 len2 cap0 cap1 cap2 w (.inr (.inl ⟨by omega, h2⟩))
  by_cases h3 : 400 < len2
  · exact tableTwo_early a0 a1 a2 len0 len1 len2 cap0 cap1 cap2 w (.inr (.inr ⟨by omega, by omega, h3⟩))
  exact tableTwo_main a0 a1 a2 len0 len1 len2 cap0 cap1 cap2 F0 F1 F2 w (by omega) (by omega) (by omega) w0 w1 w2
end Go.Proofs.Ytajcbghhpjpmhaa
