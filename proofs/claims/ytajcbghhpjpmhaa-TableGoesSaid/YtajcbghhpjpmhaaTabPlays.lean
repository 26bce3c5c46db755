/- A script on a table and on the document's (chapter 7). -/
import Derived.Test.YtajcbghhpjpmhaaB12
import Derived.Test.YtajcbghhpjpmhaaB7
import Derived.Test.YtajcbghhpjpmhaaB1
namespace Go.Proofs.Ytajcbghhpjpmhaa
open Go.RowKit
set_option linter.unusedVariables false
set_option linter.unusedSimpArgs false

def PlaysP (m1 m2 : Option Nat) (w : World) (r : Ending) (w' : World) : Prop :=
  ∃ xb F c T so, r = .returned (.tuple #[.pointer (some ⟨xb, 0, none⟩), .bool true]) ∧ TwoAt xb w.heap.size F m1 m2 c T so w' ∧ TInv 400 T ∧ Keeps (mS m1 ++ mS m2) w w'
def PlaysI (xb : Nat) (m1 m2 : Option Nat) (k : Nat) (w wr : World) : Prop := ∃ F c T so, TwoAt xb w.heap.size F m1 m2 c T so wr ∧ TInv k T ∧ Keeps (mS m1 ++ mS m2) w wr
set_option maxRecDepth 100000 in
set_option maxHeartbeats 8000000 in
theorem plays_any (la : Option Addr) (ln lc : Nat) (FF : Nat → Int) (m1 m2 : Option Nat) (c : C4) (w : World) (hr : IntRow .i64 5 w la ln FF) (hl : ln ≤ 400) (hM : MtrAt m1 c w) (hC : CtrAt m2 c w) (hmm : ∀ b, m1 = some b → m2 ≠ some b) (hla : ∀ b off, la = some ⟨b, off, none⟩ → 0 < ln → b ∉ mS m1 ++ mS m2) :
    Calls Try.prog 26 #[.bool false, .slice la ln lc, mV m1, mV m2] w (PlaysP m1 m2 w) := by
  have HR := Lib.hid hr
  have HM := Lib.hid hM
  have HC := Lib.hid hC
  have HMM := Lib.hid hmm
  have HLA := Lib.hid hla
  have h1b : ∀ b, m1 = some b → b < w.heap.size := fun b hb => lt_of_block (hM b hb)
  have h2b : ∀ b, m2 = some b → b < w.heap.size := fun b hb => lt_of_block (hC b hb)
  have MB := Lib.hid (And.intro h1b h2b)
  have x12 : ∀ b, m2 = some b → b ∉ mS m1 := fun b hb hx => by
    cases m1 with
    | none => simp [mS] at hx
    | some b1 => simp [mS] at hx; subst hx; exact hmm b rfl hb
  have x21 : ∀ b, m1 = some b → b ∉ mS m2 := fun b hb hx => by
    cases m2 with
    | none => simp [mS] at hx
    | some b1 => simp [mS] at hx; subst hx; exact hmm b hb rfl
  have XM := Lib.hid (And.intro x12 x21)
  obtain ⟨v1, hv1⟩ : ∃ v1, Hid (v1 = mV m1) := ⟨_, Lib.hid rfl⟩
  obtain ⟨v2, hv2⟩ : ∃ v2, Hid (v2 = mV m2) := ⟨_, Lib.hid rfl⟩
  rw [← hv1.out, ← hv2.out]
  clear hr hM hC hmm h1b h2b x12 x21 hla
  go_enter Try.func26, Try.ntmps26
  go_wp2_with fail
  rw [hv1.out]
  refine (newt_any m1 c _ HM.out).mono ?_
  rintro r w1 ⟨t, S, rfl, t1, e1, k1⟩
  have T1 := Lib.hid (And.intro t1 e1)
  have K1 := Lib.hid k1
  have C1 := Lib.hid (HC.out.keeps k1 XM.out.1)
  clear t1 e1 k1
  go_wp2_with fail
  rw [hv2.out]
  refine (rnew_tab m2 c _ C1.out).mono ?_
  rintro r w2 ⟨tw, R, rfl, t2, e2, k2⟩
  have T2 := Lib.hid (And.intro t2 (And.intro e2 k2))
  have z1 := K1.out.size
  have z2 := k2.size
  clear t2 e2 k2
  have y0 : (w2.alloc (.cells #[.pointer (some ⟨t, 0, none⟩), .pointer (some ⟨tw, 0, none⟩), .pointer none, .pointer none] 57)).cell? ⟨w2.heap.size, 0, none⟩ = some (.pointer (some ⟨t, 0, none⟩)) := cell_has (has_new _ _) (i := 0) rfl
  go_wp2_with fail
  have hst : PlaysI w2.heap.size m1 m2 0 w (w2.alloc (.cells #[.pointer (some ⟨t, 0, none⟩), .pointer (some ⟨tw, 0, none⟩), .pointer none, .pointer none] 57)) := by
    obtain ⟨t1, e1⟩ := T1.out
    obtain ⟨t2, e2, k2⟩ := T2.out
    have ka : Keeps [] w2 (w2.alloc (.cells #[.pointer (some ⟨t, 0, none⟩), .pointer (some ⟨tw, 0, none⟩), .pointer none, .pointer none] 57)) := (Keeps.refl [] w2).alloc _
    have f1 := t1.foot
    have f2 := t2.foot
    refine ⟨w2.heap.size :: (S ++ R), c.tab, newT, none, ⟨t, tw, S, R, _, _, has_new _ _, .inl ((t1.keeps k2 (fun x hx hq => ?_)).keeps ka (by simp)), (t2.lower z1).keeps ka (by simp), (e1.keeps k2 XM.out.2).keeps ka (by simp), e2.keeps ka (by simp), ⟨rfl, _, rfl⟩, ?_⟩, TInv.new, ?_⟩
    · have := mS_lt MB.out.2 hq; have := (f1 x hx).1; omega
    · refine ⟨fun x hx hr => ?_, fun hx => ?_, fun hx => ?_, by simp, fun x hx => by simp [hx], fun x hx => by simp [hx], fun x hx => ?_, MB.out.1, MB.out.2, HMM.out⟩
      · have := (f1 x hx).2; have := (f2 x hr).1; omega
      · have := (f1 _ hx).2; omega
      · have := (f2 _ hx).2; omega
      · simp only [List.mem_cons, List.mem_append] at hx
        rcases hx with rfl | hx | hx
        · simp; omega
        · have := f1 x hx; simp; omega
        · have := f2 x hx; simp; omega
    · exact ((K1.out.mono (fun x hx => by simp [hx])).trans (k2.mono (fun x hx => by simp [hx]))).trans (ka.mono (by simp))
  obtain ⟨xb, hxb⟩ : ∃ x, x = w2.heap.size := ⟨_, rfl⟩
  rw [← hxb] at hst y0 ⊢
  obtain ⟨W0, hW0⟩ : ∃ x, w2.alloc (.cells #[.pointer (some ⟨t, 0, none⟩), .pointer (some ⟨tw, 0, none⟩), .pointer none, .pointer none] 57) = x := ⟨_, rfl⟩
  rw [hW0] at hst y0 ⊢
  have HST := Lib.hid hst
  have zxb : w.heap.size ≤ xb := by omega
  clear hst hW0 hxb
  go_loopw [11] (fun i wr => ∃ k : Nat, k ≤ ln ∧ i = .int .i64 k ∧ PlaysI xb m1 m2 k w wr) (fun i _ => ln - (intOf i).toNat)
  case atStart => exact ⟨0, by omega, rfl, HST.out⟩
  case round =>
    obtain ⟨k, hk, rfl, F, c, T, so, hT, hI, hK⟩ := hrel
    have hk0 : (0 : Int) ≤ (k : Int) := by omega
    have HT := Lib.hid hT
    have HI := Lib.hid hI
    have HK := Lib.hid hK
    by_cases hlt : k < ln
    · have hlt' : (k : Int) < (ln : Int) := by omega
      have hlt3 : k < ln := hlt
      rcases HR.out with h0 | ⟨b, off, rfl, hb1, hb2, hcl⟩
      · omega
      have hnb := HLA.out b off rfl (by omega)
      have hcell : ∀ i, i < 5 → wr.cell? ⟨b, off + (k * 5 + i), none⟩ = some (.int .i64 (FF (k * 5 + i))) := fun i hi => hK.cell (hcl (k * 5 + i) (by omega)).1 hnb
      obtain ⟨x0, hx0⟩ := ex_hid (FF (k * 5 + 0))
      obtain ⟨x1, hx1⟩ := ex_hid (FF (k * 5 + 1))
      obtain ⟨x2, hx2⟩ := ex_hid (FF (k * 5 + 2))
      obtain ⟨x3, hx3⟩ := ex_hid (FF (k * 5 + 3))
      obtain ⟨x4, hx4⟩ := ex_hid (FF (k * 5 + 4))
      have q0 : wr.cell? ⟨b, off + k * 5, none⟩ = some (.int .i64 x0) := by rw [hx0.out]; exact hcell 0 (by omega)
      have q1 : wr.cell? ⟨b, off + k * 5 + 1, none⟩ = some (.int .i64 x1) := by rw [hx1.out]; exact hcell 1 (by omega)
      have q2 : wr.cell? ⟨b, off + k * 5 + 2, none⟩ = some (.int .i64 x2) := by rw [hx2.out]; exact hcell 2 (by omega)
      have q3 : wr.cell? ⟨b, off + k * 5 + 3, none⟩ = some (.int .i64 x3) := by rw [hx3.out]; exact hcell 3 (by omega)
      have q4 : wr.cell? ⟨b, off + k * 5 + 4, none⟩ = some (.int .i64 x4) := by rw [hx4.out]; exact hcell 4 (by omega)
      have HT9 := Lib.hid (hT.keeps (Keeps.refl [] wr).drew (by simp))
      clear hT hI hK hcl hcell hnb
      have hnf : (!false) = true := rfl
      have hnt : (!true) = false := rfl
      go_upto_region 9 with (fail)
      refine wp_regionG (fun w' => w'.cell? ⟨b, off + k * 5, none⟩ = some (.int .i64 x0) ∧ w'.cell? ⟨b, off + k * 5 + 1, none⟩ = some (.int .i64 x1) ∧ w'.cell? ⟨b, off + k * 5 + 2, none⟩ = some (.int .i64 x2) ∧ w'.cell? ⟨b, off + k * 5 + 3, none⟩ = some (.int .i64 x3) ∧ w'.cell? ⟨b, off + k * 5 + 4, none⟩ = some (.int .i64 x4)) 5 (by kernel_rfl) ⟨q0, q1, q2, q3, q4⟩ (fun hF => ?_)
      refine wpAnyG_takeY (i := 0) (v := ?_) rfl (by kernel_rfl) (by decide +kernel) (by decide +kernel) (by decide +kernel) (fun _ _ _ h => h) (by kernel_rfl) ?_ (by assumption) ?_
      rotate_left
      · (intro wz; go_simp; with_reducible rfl)
      try simp only [Act.put, List.setIfInBounds_toArray, List.set_cons_zero, List.set_cons_succ]
      refine wpAnyG_takeY (i := 1) (v := ?_) rfl (by kernel_rfl) (by decide +kernel) (by decide +kernel) (by decide +kernel) (fun _ _ _ h => h) (by kernel_rfl) ?_ (by assumption) ?_
      rotate_left
      · (intro wz; go_simp; with_reducible rfl)
      try simp only [Act.put, List.setIfInBounds_toArray, List.set_cons_zero, List.set_cons_succ]
      refine wpAnyG_takeY (i := 2) (v := ?_) rfl (by kernel_rfl) (by decide +kernel) (by decide +kernel) (by decide +kernel) (fun _ _ _ h => h) (by kernel_rfl) ?_ (by assumption) ?_
      rotate_left
      · (intro wz; go_simp; with_reducible rfl)
      try simp only [Act.put, List.setIfInBounds_toArray, List.set_cons_zero, List.set_cons_succ]
      refine wpAnyG_takeY (i := 3) (v := ?_) rfl (by kernel_rfl) (by decide +kernel) (by decide +kernel) (by decide +kernel) (fun _ _ _ h => h) (by kernel_rfl) ?_ (by assumption) ?_
      rotate_left
      · (intro wz; go_simp; with_reducible rfl)
      try simp only [Act.put, List.setIfInBounds_toArray, List.set_cons_zero, List.set_cons_succ]
      refine wpAnyG_take (i := 4) (v := ?_) rfl (by kernel_rfl) (by decide +kernel) (by decide +kernel) (by decide +kernel) (by decide +kernel) (by rfl) (fun _ _ _ h => h) (by kernel_rfl) ?_ (by assumption) ?_
      rotate_left
      · (intro wz hSw; (try dsimp only at hSw); go_simp; with_reducible rfl)
      try simp only [Act.put, List.setIfInBounds_toArray, List.set_cons_zero, List.set_cons_succ]
      refine wpAnyG_last rfl (by kernel_rfl) (by rfl) (by rfl) (fun K hK => ?_)
      have HK := Lib.hid hK
      clear hK
      go_simp
      refine (does_any xb w.heap.size k F m1 m2 c T so _ HT9.out (by omega) HI.out x0 x1 x2 x3 x4).mono ?_
      rintro r w5 ⟨rfl, F', c', T', so', t9, hI9, k9, g9⟩
      refine HK.out _ _ ?_
      clear HK K
      have T9 := Lib.hid t9
      have I9 := Lib.hid hI9
      have K9 := Lib.hid (show Keeps (mS m1 ++ mS m2) w w5 from (HK.out.drew).then k9 (fun x hx => by
        simp only [List.mem_append] at hx
        rcases hx with (hx | hx) | hx
        · left; exact (HT.out.foot x hx).1
        · right; simp [hx]
        · right; simp [hx]))
      obtain ⟨t', tw', S', R', sp', kp', h1, h2, h3, h4, h5, h6, h7⟩ := t9
      have TA := Lib.hid h2
      have RA := Lib.hid h3
      have PP := Lib.hid (And.intro h1 (And.intro h4 (And.intro h5 (And.intro h6 h7))))
      obtain ⟨ra, rc, rq, rb, _, _, hrt, _⟩ := h3
      have nx := h7.sx
      have nt : tw' ∉ S' := fun hx => h7.sr _ hx hrt
      obtain ⟨l0, hl0⟩ := ex_hid (liveN T'.E)
      obtain ⟨n0, hn0⟩ := ex_hid T'.E.length
      have hn1 : n0 ≤ 500 := by have := hI9.ek; have := hn0.out; omega
      have hL3 := hI9.l3
      have hL12 := hI9.l12
      have y0 : w5.cell? ⟨xb, 0, none⟩ = some (.pointer (some ⟨t', 0, none⟩)) := cell_has h1 (i := 0) rfl
      have y1 : w5.cell? ⟨xb, 1, none⟩ = some (.pointer (some ⟨tw', 0, none⟩)) := cell_has h1 (i := 1) rfl
      have y3 : w5.cell? ⟨tw', 3, none⟩ = some (.int .i64 l0) := by rw [hl0.out]; exact cell_has rb (i := 3) rfl
      have ye : w5.cell? ⟨tw', 0, none⟩ = some (.slice ra n0 rc) := by rw [hn0.out]; exact cell_has rb (i := 0) rfl
      have nl : ((l0 : Int) != (l0 : Int)) = false := by simp
      have hF2 : w5.cell? ⟨xb, 0, none⟩ = some (.pointer (some ⟨t', 0, none⟩)) ∧ w5.cell? ⟨xb, 1, none⟩ = some (.pointer (some ⟨tw', 0, none⟩)) ∧ w5.cell? ⟨tw', 3, none⟩ = some (.int .i64 l0) ∧ w5.cell? ⟨tw', 0, none⟩ = some (.slice ra n0 rc) := ⟨y0, y1, y3, ye⟩
      clear h1 h2 h4 h5 h6 h7 rb q0 q1 q2 q3 q4 hF g9 k9 hI9
      refine wpAnyG_of_any _ _ _ _ (by decide +kernel) ?_
      refine wpAny_of_g (F := fun w' => w'.cell? ⟨xb, 0, none⟩ = some (.pointer (some ⟨t', 0, none⟩)) ∧ w'.cell? ⟨xb, 1, none⟩ = some (.pointer (some ⟨tw', 0, none⟩)) ∧ w'.cell? ⟨tw', 3, none⟩ = some (.int .i64 l0) ∧ w'.cell? ⟨tw', 0, none⟩ = some (.slice ra n0 rc)) (s := 47) _ _ _ _ ?_
      try simp only [Act.put, List.setIfInBounds_toArray, List.set_cons_zero, List.set_cons_succ]
      refine wpAnyG_takeY (i := 6) (v := ?_) rfl (by kernel_rfl) (by decide +kernel) (by decide +kernel) (by decide +kernel) (fun _ _ _ h => h) (by kernel_rfl) ?_ (by assumption) ?_
      rotate_left
      · (intro wz; go_simp; with_reducible rfl)
      try simp only [Act.put, List.setIfInBounds_toArray, List.set_cons_zero, List.set_cons_succ]
      refine wpAnyG_takeY (i := 7) (v := ?_) rfl (by kernel_rfl) (by decide +kernel) (by decide +kernel) (by decide +kernel) (fun _ _ _ h => h) (by kernel_rfl) ?_ (by assumption) ?_
      rotate_left
      · (intro wz; go_simp; with_reducible rfl)
      try simp only [Act.put, List.setIfInBounds_toArray, List.set_cons_zero, List.set_cons_succ]
      refine wpAnyG_takeY (i := 8) (v := ?_) rfl (by kernel_rfl) (by decide +kernel) (by decide +kernel) (by decide +kernel) (fun _ _ _ h => h) (by kernel_rfl) ?_ (by assumption) ?_
      rotate_left
      · (intro wz; go_simp; with_reducible rfl)
      try simp only [Act.put, List.setIfInBounds_toArray, List.set_cons_zero, List.set_cons_succ]
      refine wpAnyG_takeY (i := 9) (v := ?_) rfl (by kernel_rfl) (by decide +kernel) (by decide +kernel) (by decide +kernel) (fun _ _ _ h => h) (by kernel_rfl) ?_ (by assumption) ?_
      rotate_left
      · (intro wz; go_simp; with_reducible rfl)
      try simp only [Act.put, List.setIfInBounds_toArray, List.set_cons_zero, List.set_cons_succ]
      refine wpAnyG_takeY (i := 10) (v := ?_) rfl (by kernel_rfl) (by decide +kernel) (by decide +kernel) (by decide +kernel) (fun _ _ _ h => h) (by kernel_rfl) ?_ (by assumption) ?_
      rotate_left
      · (intro wz; go_simp; with_reducible rfl)
      try simp only [Act.put, List.setIfInBounds_toArray, List.set_cons_zero, List.set_cons_succ]
      refine wpAnyG_take (i := 11) (v := ?_) rfl (by kernel_rfl) (by decide +kernel) (by decide +kernel) (by decide +kernel) (by decide +kernel) (by rfl) (fun _ _ _ h => h) (by kernel_rfl) ?_ (by assumption) ?_
      rotate_left
      · (intro wz hSw; (try dsimp only at hSw); go_simp; with_reducible rfl)
      try simp only [Act.put, List.setIfInBounds_toArray, List.set_cons_zero, List.set_cons_succ]
      refine wpAnyG_takeY (i := 13) (v := ?_) rfl (by kernel_rfl) (by decide +kernel) (by decide +kernel) (by decide +kernel) (fun _ _ _ h => h) (by kernel_rfl) ?_ (by assumption) ?_
      rotate_left
      · (intro wz; go_simp; with_reducible rfl)
      try simp only [Act.put, List.setIfInBounds_toArray, List.set_cons_zero, List.set_cons_succ]
      refine wpAnyG_takeY (i := 14) (v := ?_) rfl (by kernel_rfl) (by decide +kernel) (by decide +kernel) (by decide +kernel) (fun _ _ _ h => h) (by kernel_rfl) ?_ (by assumption) ?_
      rotate_left
      · (intro wz; go_simp; with_reducible rfl)
      try simp only [Act.put, List.setIfInBounds_toArray, List.set_cons_zero, List.set_cons_succ]
      refine wpAnyG_takeY (i := 15) (v := ?_) rfl (by kernel_rfl) (by decide +kernel) (by decide +kernel) (by decide +kernel) (fun _ _ _ h => h) (by kernel_rfl) ?_ (by assumption) ?_
      rotate_left
      · (intro wz; go_simp; with_reducible rfl)
      try simp only [Act.put, List.setIfInBounds_toArray, List.set_cons_zero, List.set_cons_succ]
      refine wpAnyG_take (i := 16) (v := ?_) rfl (by kernel_rfl) (by decide +kernel) (by decide +kernel) (by decide +kernel) (by decide +kernel) (by rfl) (fun _ _ _ h => h) (by kernel_rfl) ?_ (by assumption) ?_
      rotate_left
      · (intro wz hSw; (try dsimp only at hSw); go_simp; with_reducible rfl)
      try simp only [Act.put, List.setIfInBounds_toArray, List.set_cons_zero, List.set_cons_succ]
      refine wpAnyG_takeY (i := 17) (v := ?_) rfl (by kernel_rfl) (by decide +kernel) (by decide +kernel) (by decide +kernel) (fun _ _ _ h => h) (by kernel_rfl) ?_ (by assumption) ?_
      rotate_left
      · (intro wz; go_simp; with_reducible rfl)
      try simp only [Act.put, List.setIfInBounds_toArray, List.set_cons_zero, List.set_cons_succ]
      refine wpAnyG_takeY (i := 18) (v := ?_) rfl (by kernel_rfl) (by decide +kernel) (by decide +kernel) (by decide +kernel) (fun _ _ _ h => h) (by kernel_rfl) ?_ (by assumption) ?_
      rotate_left
      · (intro wz; go_simp; with_reducible rfl)
      try simp only [Act.put, List.setIfInBounds_toArray, List.set_cons_zero, List.set_cons_succ]
      refine wpAnyG_take (i := 19) (v := ?_) rfl (by kernel_rfl) (by decide +kernel) (by decide +kernel) (by decide +kernel) (by decide +kernel) (by rfl) (fun _ _ _ h => h) (by kernel_rfl) ?_ (by assumption) ?_
      rotate_left
      · (intro wz hSw; (try dsimp only at hSw); go_simp; with_reducible rfl)
      try simp only [Act.put, List.setIfInBounds_toArray, List.set_cons_zero, List.set_cons_succ]
      refine wpAnyG_one (i := 12) rfl (by kernel_rfl) (by kernel_rfl) (fun K hK => ?_)
      have HK := Lib.hid hK
      clear hK
      go_simp
      refine (len_z t' w.heap.size S' m1 T' _ TA.out).mono ?_
      rintro r w6 ⟨rfl, rfl⟩
      rw [← hl0.out]
      refine HK.out _ _ hF2 ?_
      clear HK K
      try simp only [Act.put, List.setIfInBounds_toArray, List.set_cons_zero, List.set_cons_succ]
      refine wpAnyG_takeY (i := 20) (v := ?_) rfl (by kernel_rfl) (by decide +kernel) (by decide +kernel) (by decide +kernel) (fun _ _ _ h => h) (by kernel_rfl) ?_ (by assumption) ?_
      rotate_left
      · (intro wz; go_simp; with_reducible rfl)
      try simp only [Act.put, List.setIfInBounds_toArray, List.set_cons_zero, List.set_cons_succ]
      refine wpAnyG_takeY (i := 21) (v := ?_) rfl (by kernel_rfl) (by decide +kernel) (by decide +kernel) (by decide +kernel) (fun _ _ _ h => h) (by kernel_rfl) ?_ (by assumption) ?_
      rotate_left
      · (intro wz; go_simp; with_reducible rfl)
      try simp only [Act.put, List.setIfInBounds_toArray, List.set_cons_zero, List.set_cons_succ]
      refine wpAnyG_takeY (i := 22) (v := ?_) rfl (by kernel_rfl) (by decide +kernel) (by decide +kernel) (by decide +kernel) (fun _ _ _ h => h) (by kernel_rfl) ?_ (by assumption) ?_
      rotate_left
      · (intro wz; go_simp; with_reducible rfl)
      try simp only [Act.put, List.setIfInBounds_toArray, List.set_cons_zero, List.set_cons_succ]
      refine wpAnyG_takeY (i := 23) (v := ?_) rfl (by kernel_rfl) (by decide +kernel) (by decide +kernel) (by decide +kernel) (fun _ _ _ h => h) (by kernel_rfl) ?_ (by assumption) ?_
      rotate_left
      · (intro wz; go_simp; with_reducible rfl)
      try simp only [Act.put, List.setIfInBounds_toArray, List.set_cons_zero, List.set_cons_succ]
      refine wpAnyG_takeY (i := 24) (v := ?_) rfl (by kernel_rfl) (by decide +kernel) (by decide +kernel) (by decide +kernel) (fun _ _ _ h => h) (by kernel_rfl) ?_ (by assumption) ?_
      rotate_left
      · (intro wz; go_simp; with_reducible rfl)
      try simp only [Act.put, List.setIfInBounds_toArray, List.set_cons_zero, List.set_cons_succ]
      refine wpAnyG_takeY (i := 25) (v := ?_) rfl (by kernel_rfl) (by decide +kernel) (by decide +kernel) (by decide +kernel) (fun _ _ _ h => h) (by kernel_rfl) ?_ (by assumption) ?_
      rotate_left
      · (intro wz; go_simp; with_reducible rfl)
      try simp only [Act.put, List.setIfInBounds_toArray, List.set_cons_zero, List.set_cons_succ]
      refine wpAnyG_take (i := 26) (v := ?_) rfl (by kernel_rfl) (by decide +kernel) (by decide +kernel) (by decide +kernel) (by decide +kernel) (by rfl) (fun _ _ _ h => h) (by kernel_rfl) ?_ (by assumption) ?_
      rotate_left
      · (intro wz hSw; (try dsimp only at hSw); go_simp; with_reducible rfl)
      try simp only [Act.put, List.setIfInBounds_toArray, List.set_cons_zero, List.set_cons_succ]
      refine wpAnyG_takeY (i := 27) (v := ?_) rfl (by kernel_rfl) (by decide +kernel) (by decide +kernel) (by decide +kernel) (fun _ _ _ h => h) (by kernel_rfl) ?_ (by assumption) ?_
      rotate_left
      · (intro wz; go_simp; with_reducible rfl)
      try simp only [Act.put, List.setIfInBounds_toArray, List.set_cons_zero, List.set_cons_succ]
      refine wpAnyG_takeY (i := 28) (v := ?_) rfl (by kernel_rfl) (by decide +kernel) (by decide +kernel) (by decide +kernel) (fun _ _ _ h => h) (by kernel_rfl) ?_ (by assumption) ?_
      rotate_left
      · (intro wz; go_simp; with_reducible rfl)
      try simp only [Act.put, List.setIfInBounds_toArray, List.set_cons_zero, List.set_cons_succ]
      refine wpAnyG_take (i := 29) (v := ?_) rfl (by kernel_rfl) (by decide +kernel) (by decide +kernel) (by decide +kernel) (by decide +kernel) (by rfl) (fun _ _ _ h => h) (by kernel_rfl) ?_ (by assumption) ?_
      rotate_left
      · (intro wz hSw; (try dsimp only at hSw); go_simp; with_reducible rfl)
      try simp only [Act.put, List.setIfInBounds_toArray, List.set_cons_zero, List.set_cons_succ]
      refine wpAnyG_takeY (i := 30) (v := ?_) rfl (by kernel_rfl) (by decide +kernel) (by decide +kernel) (by decide +kernel) (fun _ _ _ h => h) (by kernel_rfl) ?_ (by assumption) ?_
      rotate_left
      · (intro wz; go_simp; with_reducible rfl)
      try simp only [Act.put, List.setIfInBounds_toArray, List.set_cons_zero, List.set_cons_succ]
      by_cases h100 : n0 < 100
      · have d100 : decide ((n0 : Int) < 100) = true := by simp; omega
        have hi100 : (n0 : Int) < 100 := by omega
        refine wpAnyG_takeY (i := 31) (v := ?_) rfl (by kernel_rfl) (by decide +kernel) (by decide +kernel) (by decide +kernel) (fun _ _ _ h => h) (by kernel_rfl) ?_ (by assumption) ?_
        rotate_left
        · (intro wz; go_simp; with_reducible rfl)
        try simp only [Act.put, List.setIfInBounds_toArray, List.set_cons_zero, List.set_cons_succ]
        refine wpAnyG_takeY (i := 32) (v := ?_) rfl (by kernel_rfl) (by decide +kernel) (by decide +kernel) (by decide +kernel) (fun _ _ _ h => h) (by kernel_rfl) ?_ (by assumption) ?_
        rotate_left
        · (intro wz; go_simp; with_reducible rfl)
        try simp only [Act.put, List.setIfInBounds_toArray, List.set_cons_zero, List.set_cons_succ]
        refine wpAnyG_takeY (i := 33) (v := ?_) rfl (by kernel_rfl) (by decide +kernel) (by decide +kernel) (by decide +kernel) (fun _ _ _ h => h) (by kernel_rfl) ?_ (by assumption) ?_
        rotate_left
        · (intro wz; go_simp; with_reducible rfl)
        try simp only [Act.put, List.setIfInBounds_toArray, List.set_cons_zero, List.set_cons_succ]
        refine wpAnyG_takeY (i := 34) (v := ?_) rfl (by kernel_rfl) (by decide +kernel) (by decide +kernel) (by decide +kernel) (fun _ _ _ h => h) (by kernel_rfl) ?_ (by assumption) ?_
        rotate_left
        · (intro wz; go_simp; with_reducible rfl)
        try simp only [Act.put, List.setIfInBounds_toArray, List.set_cons_zero, List.set_cons_succ]
        refine wpAnyG_takeY (i := 35) (v := ?_) rfl (by kernel_rfl) (by decide +kernel) (by decide +kernel) (by decide +kernel) (fun _ _ _ h => h) (by kernel_rfl) ?_ (by assumption) ?_
        rotate_left
        · (intro wz; go_simp; with_reducible rfl)
        try simp only [Act.put, List.setIfInBounds_toArray, List.set_cons_zero, List.set_cons_succ]
        refine wpAnyG_take (i := 36) (v := ?_) rfl (by kernel_rfl) (by decide +kernel) (by decide +kernel) (by decide +kernel) (by decide +kernel) (by rfl) (fun _ _ _ h => h) (by kernel_rfl) ?_ (by assumption) ?_
        rotate_left
        · (intro wz hSw; (try dsimp only at hSw); go_simp; with_reducible rfl)
        try simp only [Act.put, List.setIfInBounds_toArray, List.set_cons_zero, List.set_cons_succ]
        refine wpAnyG_takeY (i := 38) (v := ?_) rfl (by kernel_rfl) (by decide +kernel) (by decide +kernel) (by decide +kernel) (fun _ _ _ h => h) (by kernel_rfl) ?_ (by assumption) ?_
        rotate_left
        · (intro wz; go_simp; with_reducible rfl)
        try simp only [Act.put, List.setIfInBounds_toArray, List.set_cons_zero, List.set_cons_succ]
        refine wpAnyG_takeY (i := 39) (v := ?_) rfl (by kernel_rfl) (by decide +kernel) (by decide +kernel) (by decide +kernel) (fun _ _ _ h => h) (by kernel_rfl) ?_ (by assumption) ?_
        rotate_left
        · (intro wz; go_simp; with_reducible rfl)
        try simp only [Act.put, List.setIfInBounds_toArray, List.set_cons_zero, List.set_cons_succ]
        refine wpAnyG_takeY (i := 40) (v := ?_) rfl (by kernel_rfl) (by decide +kernel) (by decide +kernel) (by decide +kernel) (fun _ _ _ h => h) (by kernel_rfl) ?_ (by assumption) ?_
        rotate_left
        · (intro wz; go_simp; with_reducible rfl)
        try simp only [Act.put, List.setIfInBounds_toArray, List.set_cons_zero, List.set_cons_succ]
        refine wpAnyG_take (i := 41) (v := ?_) rfl (by kernel_rfl) (by decide +kernel) (by decide +kernel) (by decide +kernel) (by decide +kernel) (by rfl) (fun _ _ _ h => h) (by kernel_rfl) ?_ (by assumption) ?_
        rotate_left
        · (intro wz hSw; (try dsimp only at hSw); go_simp; with_reducible rfl)
        try simp only [Act.put, List.setIfInBounds_toArray, List.set_cons_zero, List.set_cons_succ]
        refine wpAnyG_one (i := 37) rfl (by kernel_rfl) (by kernel_rfl) (fun K hK => ?_)
        have HK := Lib.hid hK
        clear hK
        go_simp
        refine (sight_z t' w.heap.size S' m1 T' _ TA.out (by omega) I9.out.ft (by have := hn0.out; omega)).mono ?_
        rintro r w6 ⟨ca, cc, ea, ec, S6, rfl, g1, g2, k6, t6, gr6⟩
        have T6 := Lib.hid (And.intro t6 gr6)
        have hF3 : w6.cell? ⟨xb, 0, none⟩ = some (.pointer (some ⟨t', 0, none⟩)) ∧ w6.cell? ⟨xb, 1, none⟩ = some (.pointer (some ⟨tw', 0, none⟩)) ∧ w6.cell? ⟨tw', 3, none⟩ = some (.int .i64 l0) ∧ w6.cell? ⟨tw', 0, none⟩ = some (.slice ra n0 rc) := ⟨k6.cell y0 nx, k6.cell y1 nx, k6.cell y3 nt, k6.cell ye nt⟩
        have G1 := Lib.hid g1
        have G2 := Lib.hid g2
        have K6 := Lib.hid k6
        clear g1 g2 k6 t6 gr6
        refine HK.out _ _ hF3 ?_
        clear HK K
        try simp only [Act.put, List.setIfInBounds_toArray, List.set_cons_zero, List.set_cons_succ]
        refine wpAnyG_one (i := 42) rfl (by kernel_rfl) (by kernel_rfl) (fun K hK => ?_)
        have HK := Lib.hid hK
        clear hK
        go_simp
        refine (rsight_any tw' w.heap.size R' m2 T' _ (RA.out.keeps K6.out (fun x hx hq => PP.out.2.2.2.2.sr x hq hx)) hL3 (by omega) (by have := hn0.out; omega)).mono ?_
        rintro r w7 ⟨ca2, cc2, ea2, ec2, rfl, g1, g2, b7⟩
        have k7 := Below.keeps b7 []
        obtain ⟨j0, j1, j3, je⟩ := id hF3
        have hF4 : w7.cell? ⟨xb, 0, none⟩ = some (.pointer (some ⟨t', 0, none⟩)) ∧ w7.cell? ⟨xb, 1, none⟩ = some (.pointer (some ⟨tw', 0, none⟩)) ∧ w7.cell? ⟨tw', 3, none⟩ = some (.int .i64 l0) ∧ w7.cell? ⟨tw', 0, none⟩ = some (.slice ra n0 rc) := ⟨k7.cell j0 (by simp), k7.cell j1 (by simp), k7.cell j3 (by simp), k7.cell je (by simp)⟩
        have G3 := Lib.hid g1
        have G4 := Lib.hid g2
        have K7 := Lib.hid k7
        clear g1 g2 b7 k7 j0 j1 j3 je
        refine HK.out _ _ hF4 ?_
        clear HK K
        try simp only [Act.put, List.setIfInBounds_toArray, List.set_cons_zero, List.set_cons_succ]
        refine wpAnyG_one (i := 43) rfl (by kernel_rfl) (by kernel_rfl) (fun K hK => ?_)
        have HK := Lib.hid hK
        clear hK
        go_simp
        refine (sight_same T' _ _ _ _ _ _ _ _ _ _ _ _ _ (G1.out.keeps K7.out (by simp)) G3.out (G2.out.keeps K7.out (by simp)) G4.out (by omega) (by have := hn0.out; omega)).mono ?_
        rintro r w8 ⟨rfl, k8⟩
        obtain ⟨j0, j1, j3, je⟩ := id hF4
        have hF5 : w8.cell? ⟨xb, 0, none⟩ = some (.pointer (some ⟨t', 0, none⟩)) ∧ w8.cell? ⟨xb, 1, none⟩ = some (.pointer (some ⟨tw', 0, none⟩)) ∧ w8.cell? ⟨tw', 3, none⟩ = some (.int .i64 l0) ∧ w8.cell? ⟨tw', 0, none⟩ = some (.slice ra n0 rc) := ⟨k8.cell j0 (by simp), k8.cell j1 (by simp), k8.cell j3 (by simp), k8.cell je (by simp)⟩
        have K8 := Lib.hid k8
        clear k8 j0 j1 j3 je
        refine HK.out _ _ hF5 ?_
        clear HK K
        try simp only [Act.put, List.setIfInBounds_toArray, List.set_cons_zero, List.set_cons_succ]
        refine wpAnyG_takeY (i := 44) (v := ?_) rfl (by kernel_rfl) (by decide +kernel) (by decide +kernel) (by decide +kernel) (fun _ _ _ h => h) (by kernel_rfl) ?_ (by assumption) ?_
        rotate_left
        · (intro wz; go_simp; with_reducible rfl)
        try simp only [Act.put, List.setIfInBounds_toArray, List.set_cons_zero, List.set_cons_succ]
        refine wpAnyG_takeY (i := 45) (v := ?_) rfl (by kernel_rfl) (by decide +kernel) (by decide +kernel) (by decide +kernel) (fun _ _ _ h => h) (by kernel_rfl) ?_ (by assumption) ?_
        rotate_left
        · (intro wz; go_simp; with_reducible rfl)
        try simp only [Act.put, List.setIfInBounds_toArray, List.set_cons_zero, List.set_cons_succ]
        refine wpAnyG_takeY (i := 46) (v := ?_) rfl (by kernel_rfl) (by decide +kernel) (by decide +kernel) (by decide +kernel) (fun _ _ _ h => h) (by kernel_rfl) ?_ (by assumption) ?_
        rotate_left
        · (intro wz; go_simp; with_reducible rfl)
        try simp only [Act.put, List.setIfInBounds_toArray, List.set_cons_zero, List.set_cons_succ]
        refine wpAnyG_done (by kernel_rfl) ?_ _
        go_simp
        go_wp2_with fail
        have K78 := Lib.hid (K7.out.trans K8.out)
        have PA := Lib.hid (two_pair0 PP.out.1 PP.out.2.2.1 PP.out.2.2.2.1 PP.out.2.2.2.2 (K6.out.mono (T := S' ++ mS m1) (fun x hx => by simp [hx])) (.inl T6.out.1) (PP.out.2.1.keeps K6.out (fun b hb hx => PP.out.2.2.2.2.off1 hb hx)) T6.out.2 (Keeps.refl _ _) (RA.out.keeps K6.out (fun x hx hq => PP.out.2.2.2.2.sr x hq hx)) (PP.out.2.2.1.keeps K6.out (fun b hb hx => by have := PP.out.2.2.2.2.a2 b hb; have := (PP.out.2.2.2.2.ft b (PP.out.2.2.2.2.fs b hx)).1; omega)) (Grew.refl _ _) (fun s hs => hs))
        go_roundw
        case rel => exact ⟨k + 1, by omega, by go_num, F' ++ S6 ++ R', c', T', so', PA.out.1.keeps K78.out (by simp), I9.out, (K9.out.then K6.out (fun x hx => .inl (TA.out.foot x hx).1)).trans (K78.out.mono (by simp))⟩
        case measure => simp [intOf]; omega
      · have d100 : decide ((n0 : Int) < 100) = false := by simp; omega
        have hi100 : ¬ (n0 : Int) < 100 := by omega
        refine wpAnyG_takeY (i := 31) (v := ?_) rfl (by kernel_rfl) (by decide +kernel) (by decide +kernel) (by decide +kernel) (fun _ _ _ h => h) (by kernel_rfl) ?_ (by assumption) ?_
        rotate_left
        · (intro wz; go_simp; with_reducible rfl)
        try simp only [Act.put, List.setIfInBounds_toArray, List.set_cons_zero, List.set_cons_succ]
        refine wpAnyG_takeY (i := 32) (v := ?_) rfl (by kernel_rfl) (by decide +kernel) (by decide +kernel) (by decide +kernel) (fun _ _ _ h => h) (by kernel_rfl) ?_ (by assumption) ?_
        rotate_left
        · (intro wz; go_simp; with_reducible rfl)
        try simp only [Act.put, List.setIfInBounds_toArray, List.set_cons_zero, List.set_cons_succ]
        refine wpAnyG_takeU (i := 33) rfl (by kernel_rfl) (by decide +kernel) (by decide +kernel) (by decide +kernel) (fun _ _ _ h => h) (by kernel_rfl) (by assumption) ?_
        try simp only [Act.put, List.setIfInBounds_toArray, List.set_cons_zero, List.set_cons_succ]
        refine wpAnyG_takeU (i := 34) rfl (by kernel_rfl) (by decide +kernel) (by decide +kernel) (by decide +kernel) (fun _ _ _ h => h) (by kernel_rfl) (by assumption) ?_
        try simp only [Act.put, List.setIfInBounds_toArray, List.set_cons_zero, List.set_cons_succ]
        refine wpAnyG_takeU (i := 35) rfl (by kernel_rfl) (by decide +kernel) (by decide +kernel) (by decide +kernel) (fun _ _ _ h => h) (by kernel_rfl) (by assumption) ?_
        try simp only [Act.put, List.setIfInBounds_toArray, List.set_cons_zero, List.set_cons_succ]
        refine wpAnyG_takeU (i := 36) rfl (by kernel_rfl) (by decide +kernel) (by decide +kernel) (by decide +kernel) (fun _ _ _ h => h) (by kernel_rfl) (by assumption) ?_
        try simp only [Act.put, List.setIfInBounds_toArray, List.set_cons_zero, List.set_cons_succ]
        refine wpAnyG_takeU (i := 37) rfl (by kernel_rfl) (by decide +kernel) (by decide +kernel) (by decide +kernel) (fun _ _ _ h => h) (by kernel_rfl) (by assumption) ?_
        try simp only [Act.put, List.setIfInBounds_toArray, List.set_cons_zero, List.set_cons_succ]
        refine wpAnyG_takeU (i := 38) rfl (by kernel_rfl) (by decide +kernel) (by decide +kernel) (by decide +kernel) (fun _ _ _ h => h) (by kernel_rfl) (by assumption) ?_
        try simp only [Act.put, List.setIfInBounds_toArray, List.set_cons_zero, List.set_cons_succ]
        refine wpAnyG_takeU (i := 39) rfl (by kernel_rfl) (by decide +kernel) (by decide +kernel) (by decide +kernel) (fun _ _ _ h => h) (by kernel_rfl) (by assumption) ?_
        try simp only [Act.put, List.setIfInBounds_toArray, List.set_cons_zero, List.set_cons_succ]
        refine wpAnyG_takeU (i := 40) rfl (by kernel_rfl) (by decide +kernel) (by decide +kernel) (by decide +kernel) (fun _ _ _ h => h) (by kernel_rfl) (by assumption) ?_
        try simp only [Act.put, List.setIfInBounds_toArray, List.set_cons_zero, List.set_cons_succ]
        refine wpAnyG_takeU (i := 41) rfl (by kernel_rfl) (by decide +kernel) (by decide +kernel) (by decide +kernel) (fun _ _ _ h => h) (by kernel_rfl) (by assumption) ?_
        try simp only [Act.put, List.setIfInBounds_toArray, List.set_cons_zero, List.set_cons_succ]
        refine wpAnyG_takeU (i := 42) rfl (by kernel_rfl) (by decide +kernel) (by decide +kernel) (by decide +kernel) (fun _ _ _ h => h) (by kernel_rfl) (by assumption) ?_
        try simp only [Act.put, List.setIfInBounds_toArray, List.set_cons_zero, List.set_cons_succ]
        refine wpAnyG_takeU (i := 43) rfl (by kernel_rfl) (by decide +kernel) (by decide +kernel) (by decide +kernel) (fun _ _ _ h => h) (by kernel_rfl) (by assumption) ?_
        try simp only [Act.put, List.setIfInBounds_toArray, List.set_cons_zero, List.set_cons_succ]
        refine wpAnyG_takeU (i := 44) rfl (by kernel_rfl) (by decide +kernel) (by decide +kernel) (by decide +kernel) (fun _ _ _ h => h) (by kernel_rfl) (by assumption) ?_
        try simp only [Act.put, List.setIfInBounds_toArray, List.set_cons_zero, List.set_cons_succ]
        refine wpAnyG_takeY (i := 45) (v := ?_) rfl (by kernel_rfl) (by decide +kernel) (by decide +kernel) (by decide +kernel) (fun _ _ _ h => h) (by kernel_rfl) ?_ (by assumption) ?_
        rotate_left
        · (intro wz; go_simp; with_reducible rfl)
        try simp only [Act.put, List.setIfInBounds_toArray, List.set_cons_zero, List.set_cons_succ]
        refine wpAnyG_takeY (i := 46) (v := ?_) rfl (by kernel_rfl) (by decide +kernel) (by decide +kernel) (by decide +kernel) (fun _ _ _ h => h) (by kernel_rfl) ?_ (by assumption) ?_
        rotate_left
        · (intro wz; go_simp; with_reducible rfl)
        try simp only [Act.put, List.setIfInBounds_toArray, List.set_cons_zero, List.set_cons_succ]
        refine wpAnyG_done (by kernel_rfl) ?_ _
        go_simp
        go_wp2_with fail
        go_roundw
        case rel => exact ⟨k + 1, by omega, by go_num, F', c', T', so', T9.out, I9.out, K9.out⟩
        case measure => simp [intOf]; omega
    · obtain rfl : k = ln := by omega
      have hge : ¬ (k : Int) < (k : Int) := by omega
      have I9 := HI
      have HK0 := HK
      obtain ⟨t', tw', S', R', sp', kp', h1, h2, h3, h4, h5, h6, h7⟩ := hT
      have TA := Lib.hid h2
      have RA := Lib.hid h3
      have PP := Lib.hid (And.intro h1 (And.intro h4 (And.intro h5 (And.intro h6 h7))))
      have nx := h7.sx
      have hL3 := hI.l3
      have hL12 := hI.l12
      have hek := hI.ek
      have y0 : wr.cell? ⟨xb, 0, none⟩ = some (.pointer (some ⟨t', 0, none⟩)) := cell_has h1 (i := 0) rfl
      have y1 : wr.cell? ⟨xb, 1, none⟩ = some (.pointer (some ⟨tw', 0, none⟩)) := cell_has h1 (i := 1) rfl
      clear h1 h2 h3 h4 h5 h6 h7 hI hK
      go_upto_region 11 with (fail)
      refine wp_regionG (fun w' => w'.cell? ⟨xb, 0, none⟩ = some (.pointer (some ⟨t', 0, none⟩)) ∧ w'.cell? ⟨xb, 1, none⟩ = some (.pointer (some ⟨tw', 0, none⟩))) 14 (by kernel_rfl) ⟨y0, y1⟩ (fun hF => ?_)
      refine wpAnyG_takeY (i := 0) (v := ?_) rfl (by kernel_rfl) (by decide +kernel) (by decide +kernel) (by decide +kernel) (fun _ _ _ h => h) (by kernel_rfl) ?_ (by assumption) ?_
      rotate_left
      · (intro wz; go_simp; with_reducible rfl)
      try simp only [Act.put, List.setIfInBounds_toArray, List.set_cons_zero, List.set_cons_succ]
      refine wpAnyG_takeY (i := 1) (v := ?_) rfl (by kernel_rfl) (by decide +kernel) (by decide +kernel) (by decide +kernel) (fun _ _ _ h => h) (by kernel_rfl) ?_ (by assumption) ?_
      rotate_left
      · (intro wz; go_simp; with_reducible rfl)
      try simp only [Act.put, List.setIfInBounds_toArray, List.set_cons_zero, List.set_cons_succ]
      refine wpAnyG_takeY (i := 2) (v := ?_) rfl (by kernel_rfl) (by decide +kernel) (by decide +kernel) (by decide +kernel) (fun _ _ _ h => h) (by kernel_rfl) ?_ (by assumption) ?_
      rotate_left
      · (intro wz; go_simp; with_reducible rfl)
      try simp only [Act.put, List.setIfInBounds_toArray, List.set_cons_zero, List.set_cons_succ]
      refine wpAnyG_takeY (i := 3) (v := ?_) rfl (by kernel_rfl) (by decide +kernel) (by decide +kernel) (by decide +kernel) (fun _ _ _ h => h) (by kernel_rfl) ?_ (by assumption) ?_
      rotate_left
      · (intro wz; go_simp; with_reducible rfl)
      try simp only [Act.put, List.setIfInBounds_toArray, List.set_cons_zero, List.set_cons_succ]
      refine wpAnyG_take (i := 4) (v := ?_) rfl (by kernel_rfl) (by decide +kernel) (by decide +kernel) (by decide +kernel) (by decide +kernel) (by rfl) (fun _ _ _ h => h) (by kernel_rfl) ?_ (by assumption) ?_
      rotate_left
      · (intro wz hSw; (try dsimp only at hSw); go_simp; with_reducible rfl)
      try simp only [Act.put, List.setIfInBounds_toArray, List.set_cons_zero, List.set_cons_succ]
      refine wpAnyG_takeY (i := 6) (v := ?_) rfl (by kernel_rfl) (by decide +kernel) (by decide +kernel) (by decide +kernel) (fun _ _ _ h => h) (by kernel_rfl) ?_ (by assumption) ?_
      rotate_left
      · (intro wz; go_simp; with_reducible rfl)
      try simp only [Act.put, List.setIfInBounds_toArray, List.set_cons_zero, List.set_cons_succ]
      refine wpAnyG_takeY (i := 7) (v := ?_) rfl (by kernel_rfl) (by decide +kernel) (by decide +kernel) (by decide +kernel) (fun _ _ _ h => h) (by kernel_rfl) ?_ (by assumption) ?_
      rotate_left
      · (intro wz; go_simp; with_reducible rfl)
      try simp only [Act.put, List.setIfInBounds_toArray, List.set_cons_zero, List.set_cons_succ]
      refine wpAnyG_takeY (i := 8) (v := ?_) rfl (by kernel_rfl) (by decide +kernel) (by decide +kernel) (by decide +kernel) (fun _ _ _ h => h) (by kernel_rfl) ?_ (by assumption) ?_
      rotate_left
      · (intro wz; go_simp; with_reducible rfl)
      try simp only [Act.put, List.setIfInBounds_toArray, List.set_cons_zero, List.set_cons_succ]
      refine wpAnyG_take (i := 9) (v := ?_) rfl (by kernel_rfl) (by decide +kernel) (by decide +kernel) (by decide +kernel) (by decide +kernel) (by rfl) (fun _ _ _ h => h) (by kernel_rfl) ?_ (by assumption) ?_
      rotate_left
      · (intro wz hSw; (try dsimp only at hSw); go_simp; with_reducible rfl)
      try simp only [Act.put, List.setIfInBounds_toArray, List.set_cons_zero, List.set_cons_succ]
      refine wpAnyG_one (i := 5) rfl (by kernel_rfl) (by kernel_rfl) (fun K hK => ?_)
      have HK := Lib.hid hK
      clear hK
      go_simp
      refine (sight_z t' w.heap.size S' m1 T _ (TA.out.keeps (Keeps.refl [] wr).drew (by simp)) (by omega) I9.out.ft (by omega)).mono ?_
      rintro r w6 ⟨ca, cc, ea, ec, S6, rfl, g1, g2, k6, t6, gr6⟩
      have T6 := Lib.hid (And.intro t6 gr6)
      have hF3 : w6.cell? ⟨xb, 0, none⟩ = some (.pointer (some ⟨t', 0, none⟩)) ∧ w6.cell? ⟨xb, 1, none⟩ = some (.pointer (some ⟨tw', 0, none⟩)) := ⟨k6.cell (w := wr.drew) y0 nx, k6.cell (w := wr.drew) y1 nx⟩
      have G1 := Lib.hid g1
      have G2 := Lib.hid g2
      have K6 := Lib.hid (((Keeps.refl S' wr).drew).trans k6)
      clear g1 g2 k6 t6 gr6
      refine HK.out _ _ hF3 ?_
      clear HK K
      try simp only [Act.put, List.setIfInBounds_toArray, List.set_cons_zero, List.set_cons_succ]
      refine wpAnyG_one (i := 10) rfl (by kernel_rfl) (by kernel_rfl) (fun K hK => ?_)
      have HK := Lib.hid hK
      clear hK
      go_simp
      refine (rsight_any tw' w.heap.size R' m2 T _ (RA.out.keeps K6.out (fun x hx hq => PP.out.2.2.2.2.sr x hq hx)) hL3 (by omega) (by omega)).mono ?_
      rintro r w7 ⟨ca2, cc2, ea2, ec2, rfl, g1, g2, b7⟩
      have k7 := Below.keeps b7 []
      obtain ⟨j0, j1⟩ := id hF3
      have hF4 : w7.cell? ⟨xb, 0, none⟩ = some (.pointer (some ⟨t', 0, none⟩)) ∧ w7.cell? ⟨xb, 1, none⟩ = some (.pointer (some ⟨tw', 0, none⟩)) := ⟨k7.cell j0 (by simp), k7.cell j1 (by simp)⟩
      have G3 := Lib.hid g1
      have G4 := Lib.hid g2
      have K7 := Lib.hid k7
      clear g1 g2 b7 k7 j0 j1
      refine HK.out _ _ hF4 ?_
      clear HK K
      try simp only [Act.put, List.setIfInBounds_toArray, List.set_cons_zero, List.set_cons_succ]
      refine wpAnyG_one (i := 11) rfl (by kernel_rfl) (by kernel_rfl) (fun K hK => ?_)
      have HK := Lib.hid hK
      clear hK
      go_simp
      refine (sight_same T _ _ _ _ _ _ _ _ _ _ _ _ _ (G1.out.keeps K7.out (by simp)) G3.out (G2.out.keeps K7.out (by simp)) G4.out (by omega) (by omega)).mono ?_
      rintro r w8 ⟨rfl, k8⟩
      obtain ⟨j0, j1⟩ := id hF4
      have hF5 : w8.cell? ⟨xb, 0, none⟩ = some (.pointer (some ⟨t', 0, none⟩)) ∧ w8.cell? ⟨xb, 1, none⟩ = some (.pointer (some ⟨tw', 0, none⟩)) := ⟨k8.cell j0 (by simp), k8.cell j1 (by simp)⟩
      have K8 := Lib.hid k8
      clear k8 j0 j1
      refine HK.out _ _ hF5 ?_
      clear HK K
      try simp only [Act.put, List.setIfInBounds_toArray, List.set_cons_zero, List.set_cons_succ]
      refine wpAnyG_takeY (i := 12) (v := ?_) rfl (by kernel_rfl) (by decide +kernel) (by decide +kernel) (by decide +kernel) (fun _ _ _ h => h) (by kernel_rfl) ?_ (by assumption) ?_
      rotate_left
      · (intro wz; go_simp; with_reducible rfl)
      try simp only [Act.put, List.setIfInBounds_toArray, List.set_cons_zero, List.set_cons_succ]
      refine wpAnyG_takeY (i := 13) (v := ?_) rfl (by kernel_rfl) (by decide +kernel) (by decide +kernel) (by decide +kernel) (fun _ _ _ h => h) (by kernel_rfl) ?_ (by assumption) ?_
      rotate_left
      · (intro wz; go_simp; with_reducible rfl)
      try simp only [Act.put, List.setIfInBounds_toArray, List.set_cons_zero, List.set_cons_succ]
      refine wpAnyG_done (by kernel_rfl) ?_ _
      go_simp
      go_wp2_with fail
      go_ret2
      have K78 := Lib.hid (K7.out.trans K8.out)
      have PA := Lib.hid (two_pair0 PP.out.1 PP.out.2.2.1 PP.out.2.2.2.1 PP.out.2.2.2.2 (K6.out.mono (T := S' ++ mS m1) (fun x hx => by simp [hx])) (.inl T6.out.1) (PP.out.2.1.keeps K6.out (fun b hb hx => PP.out.2.2.2.2.off1 hb hx)) (show Grew S' wr S6 from T6.out.2) (Keeps.refl _ _) (RA.out.keeps K6.out (fun x hx hq => PP.out.2.2.2.2.sr x hq hx)) (PP.out.2.2.1.keeps K6.out (fun b hb hx => by have := PP.out.2.2.2.2.a2 b hb; have := (PP.out.2.2.2.2.ft b (PP.out.2.2.2.2.fs b hx)).1; omega)) (Grew.refl _ _) (fun s hs => hs))
      exact ⟨xb, F ++ S6 ++ R', c, T, so, rfl, PA.out.1.keeps K78.out (by simp), I9.out.mono (by omega), (HK0.out.then K6.out (fun x hx => .inl (TA.out.foot x hx).1)).trans (K78.out.mono (by simp))⟩
end Go.Proofs.Ytajcbghhpjpmhaa
