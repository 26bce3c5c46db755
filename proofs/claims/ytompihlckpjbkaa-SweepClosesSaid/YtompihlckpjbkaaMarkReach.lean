/- Mark's own function: through a list of numbers (chapter 12). -/
import Derived.Test.YtompihlckpjbkaaMarkMem
import Derived.Deep.DeepMust
namespace Go.Proofs.Ytompihlckpjbkaa
open Go.RowKit
set_option linter.unusedVariables false

/-- A value that reads as a list of numbers. -/
def RowL (w : World) (v : Value) (l : List Int) : Prop := ∃ a c, v = .slice a l.length c ∧ ∀ k, k < l.length → ∃ b off, a = some ⟨b, off, none⟩ ∧ w.cell? ⟨b, off + k, none⟩ = some (.int .i64 (l.getD k 0))
theorem RowL.keeps {w w' : World} {v : Value} {l : List Int} (h : RowL w v l) (k : Keeps [] w w') : RowL w' v l := by
  obtain ⟨a, c, h1, h2⟩ := h
  refine ⟨a, c, h1, fun j hj => ?_⟩
  obtain ⟨b, off, h3, h4⟩ := h2 j hj
  exact ⟨b, off, h3, k.cell h4 (by simp)⟩
theorem RowL.nil (w : World) : RowL w (.slice none 0 0) [] := ⟨none, 0, rfl, fun k hk => by simp at hk⟩

/-- Mark in the midst of its work: begun at w0. -/
structure MarkSt (w0 : World) (sb nw : Nat) (Sn : Nat → Bool) (n : Nat) (F : Nat → Nat) (W : World) : Prop where
  kp : Keeps [] w0 W
  bs : W.heap[w0.heap.size]? = some (.cells #[.pointer (some ⟨sb, 0, none⟩)] 54 (0, 0))
  wd : ∃ X, W.heap[w0.heap.size + 1]? = some (.cells (wordsA nw X) 98 (0, 0)) ∧ WordsOK Sn nw X
  bv : W.heap[w0.heap.size + 1 + 1]? = some (.cells #[.slice (some ⟨w0.heap.size + 1, 0, none⟩) nw nw] 82 (0, 0))
  bk : ∃ fa fc, W.heap[w0.heap.size + 1 + 1 + 1]? = some (.cells #[.slice fa n fc] 22 (0, 0)) ∧ ValRow 3 (w0.heap.size + 4) fa n fc (numV F) W
theorem MarkSt.keeps {w0 : World} {sb nw : Nat} {Sn : Nat → Bool} {n : Nat} {F : Nat → Nat} {W W' : World} (h : MarkSt w0 sb nw Sn n F W) (k : Keeps [] W W') : MarkSt w0 sb nw Sn n F W' := by
  obtain ⟨X, h1, h2⟩ := h.wd
  obtain ⟨fa, fc, h3, h4⟩ := h.bk
  exact ⟨h.kp.trans k, k.has h.bs (by simp), ⟨X, k.has h1 (by simp), h2⟩, k.has h.bv (by simp), fa, fc, k.has h3 (by simp), h4.keeps k (by simp)⟩

/-- Behind the function. -/
def ReachC (w0 : World) (sb m nw : Nat) (T : Nat → Bool) (xs : List Int) (Sn : Nat → Bool) (n : Nat) (F : Nat → Nat) (e : Ending) (W' : World) : Prop :=
  e = .returned (.tuple #[]) ∧ ∃ Sn' n' F', Reached m T xs Sn n F Sn' n' F' ∧ MarkSt w0 sb nw Sn' n' F' W'
theorem take_snoc {l : List Int} {k : Nat} (h : k < l.length) : l.take (k + 1) = l.take k ++ [l.getD k 0] := by
  rw [List.take_succ_eq_append_getElem h]; simp [List.getD_eq_getElem?_getD, h]

set_option maxRecDepth 100000 in
set_option maxHeartbeats 4000000 in
theorem reach_any (w0 : World) (sb lo m nw : Nat) (S : List Nat) (V : Nat → Value) (T : Nat → Bool) (hst : SL.SlotSt sb lo S m V T w0) (hm : m ≤ 200) (hnw : nw = m / 64 + 1) (xs : List Int) (a : Option Addr) (c : Nat) (hxs : RowL w0 (.slice a xs.length c) xs) (hlen : xs.length ≤ 100000)
    (Sn : Nat → Bool) (n : Nat) (F : Nat → Nat) (hn : n ≤ cntT Sn m) (W : World) (h : MarkSt w0 sb nw Sn n F W) :
    Calls Try.prog 53 #[.slice a xs.length c, .pointer (some ⟨w0.heap.size, 0, none⟩), .pointer (some ⟨w0.heap.size + 1 + 1, 0, none⟩), .pointer (some ⟨w0.heap.size + 1 + 1 + 1, 0, none⟩)] W (ReachC w0 sb m nw T xs Sn n F) := by
  obtain ⟨j0, hi, hz0, hz1, hz2⟩ := info_parts infoI
  have HJ := Lib.hid (And.intro hi (And.intro hz0 (And.intro hz1 hz2)))
  clear hi hz0 hz1 hz2
  have HST := Lib.hid hst
  have HX := Lib.hid hxs
  have H0 := Lib.hid h
  have HN := Lib.hid hn
  have HW := Lib.hid hnw
  have z0 : w0.heap.size + 1 + 1 + 1 < W.heap.size := by obtain ⟨fa, fc, h3, _⟩ := h.bk; exact lt_of_block h3
  obtain ⟨H, hH⟩ := ex_hid w0.heap.size
  clear hst hxs h hn hnw
  go_enter Try.func53, Try.ntmps53
  go_wp2_with fail
  go_loopw [11] (fun i wr => ∃ (k : Nat) (Sn' : Nat → Bool) (n' : Nat) (F' : Nat → Nat), k ≤ xs.length ∧ i = .int .i64 k ∧ Reached m T (xs.take k) Sn n F Sn' n' F' ∧ MarkSt w0 sb nw Sn' n' F' wr) (fun i _ => xs.length - (intOf i).toNat)
  case atStart => exact ⟨0, Sn, n, F, by omega, rfl, by simpa using Reached.refl m T Sn n F, H0.out⟩
  case round =>
    obtain ⟨k, Sn', n', F', hk, rfl, hR, hM⟩ := hrel
    have k0 : (0 : Int) ≤ (k : Int) := by omega
    have HR := Lib.hid hR
    have HM := Lib.hid hM
    clear hR hM
    by_cases hlt : k < xs.length
    · have hlt' : (k : Int) < (xs.length : Int) := by omega
      have hx1 := HX.out.keeps HM.out.kp
      obtain ⟨a', c', he, hx2⟩ := hx1
      obtain ⟨b, off, e2, hc⟩ := hx2 k hlt
      simp at he
      obtain ⟨rfl, rfl⟩ := he
      subst e2
      obtain ⟨x, hx⟩ := ex_hid (xs.getD k 0)
      rw [← hx.out] at hc
      have d1 := cell_has HM.out.bs (i := 0) rfl
      have d2 := cell_has HM.out.bv (i := 0) rfl
      have st1 := Lib.hid (HST.out.keeps HM.out.kp (by simp))
      have hcn : n' ≤ cntT Sn' m := by have := HR.out.cnt; have := HN.out; omega
      have hcm := cntT_le Sn' m
      have HTK := Lib.hid (take_snoc hlt)
      rw [← hx.out] at HTK
      clear hx2
      by_cases hB : isB m T x = true
      · have hb := isB_lt hB
        obtain ⟨y, hy⟩ := Int.eq_ofNat_of_zero_le hb.1
        subst hy
        have hym : y < m := by omega
        have HB := Lib.hid hB
        have hiw : y / 64 < nw := by rw [HW.out]; omega
        have hy6 : y ≤ 1000000 := by omega
        obtain ⟨v, hv⟩ := ex_hid (V y)
        have y0 : (0 : Int) ≤ (y : Int) := by omega
        clear hb hB
        by_cases hS : Sn' y = true
        · have HS := Lib.hid hS
          clear hS
          go_wp2_with fail
          refine (SL.get_st_in _ _ _ _ _ _ _ v _ st1.out HB.out (Lib.hid hv.out.symm)).mono ?_
          rintro e w1 ⟨rfl, k1⟩
          have M1 := Lib.hid (HM.out.keeps k1)
          have d2 := cell_has M1.out.bv (i := 0) rfl
          obtain ⟨X, hX1, hX2⟩ := M1.out.wd
          have Y1 := Lib.hid hX1
          have Y2 := Lib.hid hX2
          clear k1 hX1 hX2
          go_wp2_with fail
          refine (bhas_any _ nw Sn' X y true (Lib.hid HS.out) _ Y1.out Y2.out hiw hy6).mono ?_
          rintro e w2 ⟨rfl, rfl⟩
          go_wp2_with fail
          go_roundw
          case rel => exact ⟨k + 1, Sn', n', F', by omega, by go_num, by rw [HTK.out]; exact HR.out.skip (y : Int) (fun h => HS.out), M1.out⟩
          case measure => simp [intOf]; omega
        · have hS' : Sn' y = false := by simpa using hS
          have HS := Lib.hid hS'
          have hn1 : n' + 1 ≤ cntT (putB Sn' y true) m := by
            have := cntT_put (T := Sn') (m := m) (i := y) true hym
            simp [hS'] at this; omega
          have hn2 := cntT_le (putB Sn' y true) m
          have q3 : n' + 1 ≤ maxLen := by unfold maxLen; omega
          have q4 : (n' + 1) * 8 ≤ 140737488355328 := by omega
          have G := Lib.hid (And.intro q3 q4)
          clear hS hS' hn1 hn2 q3 q4
          go_wp2_with fail
          refine (SL.get_st_in _ _ _ _ _ _ _ v _ st1.out HB.out (Lib.hid hv.out.symm)).mono ?_
          rintro e w1 ⟨rfl, k1⟩
          have M1 := Lib.hid (HM.out.keeps k1)
          have d2 := cell_has M1.out.bv (i := 0) rfl
          obtain ⟨X, hX1, hX2⟩ := M1.out.wd
          have Y1 := Lib.hid hX1
          have Y2 := Lib.hid hX2
          clear k1 hX1 hX2
          go_wp2_with fail
          refine (bhas_any _ nw Sn' X y false (Lib.hid HS.out) _ Y1.out Y2.out hiw hy6).mono ?_
          rintro e w2 ⟨rfl, rfl⟩
          go_wp2_with fail
          refine (bset_any _ nw Sn' X y _ Y1.out Y2.out hiw hy6).mono ?_
          rintro e w2 ⟨rfl, k2, X2, hX1, hX2⟩
          obtain ⟨fa, fc, hk1, hk2⟩ := M1.out.bk
          have hlo := hk2.blk_lt
          have B2 := k2.has hk1 (by simp <;> omega)
          have R2 := hk2.keeps k2 (fun z hz hz2 => by simp at hz2; have := (hlo z hz).1; omega)
          have e1 := cell_has B2 (i := 0) rfl
          have ef := free_of_has B2 0
          have z2 := lt_of_block B2
          have bs2 := k2.has M1.out.bs (by simp <;> omega)
          have bv2 := k2.has M1.out.bv (by simp <;> omega)
          have kp2 : Keeps [] w0 w2 := M1.out.kp.then k2 (by intro z hz; simp at hz; left; omega)
          have Z := Lib.hid (And.intro B2 (And.intro R2 (And.intro bs2 (And.intro bv2 (And.intro kp2 (And.intro hX1 hX2))))))
          clear hk1 hk2 hlo B2 R2 bs2 bv2 kp2 hX1 hX2 k2
          go_wp2_with (at_builtin; go_must (refine wpList_append_lies _ rfl _ _ 22 rfl (w0.heap.size + 4) 3 j0 (.int .i64 0) 1 8 Try.underlying22 HJ.out.1 HJ.out.2.1 HJ.out.2.2.1 HJ.out.2.2.2 rfl (by decide) _ n' (valR n' (numV F')) rfl (World.ownsRow.alloc Z.out.2.1 _) ⟨w2.heap.size, 0, none⟩ 1 1 [_] rfl rfl (cell_one_new _ _ _) (by intro u hu; simp at hu; subst hu; rfl) (by decide) G.out.1 G.out.2 (by simp <;> omega) (w2.heap.size + 1) (by simp) ?_); go_must (intro g cap1 w3 hown hgrow hat hlt1; have K1 := grown_keeps hgrow; have P2 := Lib.hid (ValRow.of_append hown); have B3 := K1.has Z.out.1 (fun hz => by have := (Z.out.2.1.blk_lt _ hz).1; omega); have f3 := free_of_has B3 0; have z3 := lt_of_block B3; have P1 := Lib.hid K1; have P3 := Lib.hid B3; have e3 := cell_has B3 (i := 0) rfl; clear hgrow hown hat K1 B3))
          have lofa : ∀ z, z ∈ blk fa → w0.heap.size + 4 ≤ z := fun z hz => (Z.out.2.1.blk_lt z hz).1
          have kk : Keeps (blk fa) w2 w3 := P1.out
          have kz : Keeps [w0.heap.size + 1 + 1 + 1] w3 (w3.setCell ⟨w0.heap.size + 1 + 1 + 1, 0, none⟩ (.slice (some ⟨g, 0, none⟩) (n' + 1) cap1)) := (Keeps.refl _ _).setCell (.inr (by simp)) _
          have hno : ∀ q, q < w0.heap.size + 4 → q ∉ blk fa := fun q hq hz => by have := lofa q hz; omega
          have MS : Hid (MarkSt w0 sb nw (putB Sn' y true) (n' + 1) (fun j => if j = n' then y else F' j) (w3.setCell ⟨w0.heap.size + 1 + 1 + 1, 0, none⟩ (.slice (some ⟨g, 0, none⟩) (n' + 1) cap1))) := Lib.hid (by
            refine ⟨(Z.out.2.2.2.2.1.then kk (fun q hq => by left; have := lofa q hq; omega)).then kz (by intro q hq; simp at hq; left; omega), kz.has (kk.has Z.out.2.2.1 (hno _ (by omega))) (by simp <;> omega), ⟨X2, kz.has (kk.has Z.out.2.2.2.2.2.1 (hno _ (by omega))) (by simp <;> omega), Z.out.2.2.2.2.2.2⟩, kz.has (kk.has Z.out.2.2.2.1 (hno _ (by omega))) (by simp <;> omega), _, cap1, has_setCell P3.out 0 _, ?_⟩
            have r := P2.out.keeps kz (by intro q hq hq2; simp at hq2; have := (P2.out.blk_lt q hq).1; omega)
            rw [numV_put] at r
            exact r)
          clear kk kz
          go_wp2_with fail
          go_roundw
          case rel => exact ⟨k + 1, _, _, _, by omega, by go_num, by rw [HTK.out]; exact HR.out.push (y : Int) HB.out HS.out, MS.out⟩
          case measure => simp [intOf]; omega
      · have hB' : isB m T x = false := by simpa using hB
        have HB := Lib.hid hB'
        clear hB hB' 
        go_wp2_with fail
        refine (SL.get_st_out _ _ _ _ _ _ _ _ st1.out HB.out).mono ?_
        rintro e w1 ⟨rfl, k1⟩
        have M1 := Lib.hid (HM.out.keeps k1)
        clear k1
        go_wp2_with fail
        go_roundw
        case rel => exact ⟨k + 1, Sn', n', F', by omega, by go_num, by rw [HTK.out]; exact HR.out.skip x (fun h => by rw [HB.out] at h; simp at h), M1.out⟩
        case measure => simp [intOf]; omega
    · obtain rfl : k = xs.length := by omega
      go_wp2_with fail
      go_end0
      exact ⟨rfl, Sn', n', F', by simpa using HR.out, HM.out⟩
end Go.Proofs.Ytompihlckpjbkaa
