/- Mark: the slots that can be reached from some (chapter 12). -/
import Derived.Test.YtompihlckpjbkaaMarkReach
import Derived.Deep.RegionHeld3
import Derived.Deep.DrawnRows
import Derived.Deep.LoopGhost
import Derived.Lib.SliceRun
namespace Go.Proofs.Ytompihlckpjbkaa
open Go.RowKit
set_option linter.unusedVariables false
attribute [local go_sem ↓] Go.wp_at_zero Go.wp_at_succ

theorem infoU : (Try.prog.info? 98).map (fun i => (i.zero, i.size, i.bytes)) = some (some (.int .u64 0), 1, 8) := by kernel_rfl
theorem make_words (w : World) (n : Nat) (x : Int) (hx : x = (n : Int)) (hn : n ≤ 1048576) : (Instr.makeSlice 82 (.int .i64 x) (.int .i64 x)).run Try.prog w = .ok (.slice (some ⟨w.heap.size, 0, none⟩) n n) (w.alloc (.cells (wordsA n (fun _ => 0)) 98)) := by
  subst hx
  obtain ⟨i0, hi, hz0, hz1, hz2⟩ := info_parts infoU
  have h := run_make (P := Try.prog) w 82 98 i0 (.int .u64 0) Try.underlying82 hi hz0 .i64 .i64 (n : Int) (n : Int) (by omega) (Int.le_refl _) (by rw [hz2]; omega) (by omega)
  rw [h, hz1]
  simp only [Int.toNat_natCast, Nat.mul_one]
  rw [show (Value.int .u64 0).cells = #[.int .u64 0] from rfl, made_words]
theorem keeps_setCells (b : Nat) : ∀ (vs : List Value) (o : Nat) (w : World), Keeps [b] w (w.setCells b o vs)
  | [], o, w => Keeps.refl _ _
  | v :: r, o, w => ((Keeps.refl [b] w).setCell (p := ⟨b, o, none⟩) (.inr (by simp)) v).trans (keeps_setCells b r (o + 1) _)
theorem zeroU (w : World) : (zeroValue 98).run Try.prog w = .ok (.int .u64 0) w := by kernel_rfl
theorem clear_words (w : World) (g n : Nat) (X : Nat → Nat) (hn : 0 < n) (hg : w.heap[g]? = some (.cells (wordsA n X) 98 (0, 0))) (ty : TypeId) : (Builtin.clear_ #[82] ty #[.slice (some ⟨g, 0, none⟩) n n]).run Try.prog w = .ok (.tuple #[]) (w.setCells g 0 (List.replicate n (.int .u64 0))) :=
  Lib.run_clear_slice (P := Try.prog) w 82 98 ty (.int .u64 0) Try.underlying82 zeroU rfl rfl g 0 n n hn (fun j hj => by rw [Nat.zero_add, cell_has hg (wordsA_get hj)]; rfl) (fun j _ => free_of_has hg _)
theorem leads_any (v : Value) (w : World) : Calls Try.prog 28 #[v] w fun e w' => e = .returned v ∧ w = w' := by
  go_enter Try.func28, Try.ntmps28
  go_wp2_with fail
  go_ret
  exact ⟨rfl, rfl⟩
theorem neq_leads (w : World) : (binOp .neq 58 (.func (.func 28) #[] #[]) .nilFunc).run Try.prog w = .ok (.bool true) w := by kernel_rfl
theorem neq_leads_nil (w : World) : (binOp .neq 58 .nilFunc .nilFunc).run Try.prog w = .ok (.bool false) w := by kernel_rfl

/-- What the taken slots lead to. -/
def LeadsAt (m : Nat) (V : Nat → Value) (T : Nat → Bool) (LL : Nat → List Int) (w : World) : Prop := ∀ i, i < m → T i = true → RowL w (V i) (LL i) ∧ (LL i).length ≤ 60
theorem LeadsAt.keeps {m : Nat} {V : Nat → Value} {T : Nat → Bool} {LL : Nat → List Int} {w w' : World} (h : LeadsAt m V T LL w) (k : Keeps [] w w') : LeadsAt m V T LL w' := fun i hi hT => ⟨(h i hi hT).1.keeps k, (h i hi hT).2⟩

theorem own_keeps' {E : TypeId} {lo size n c : Nat} {a : Option Addr} {xs : List Value} {w w' : World} {S : List Nat} (h : w.ownsRow lo E size (.slice a n c) n xs) (k : Keeps S w w') (hd : ∀ x, (Value.slice a n c).ownBlock = some x → x ∉ S) : w'.ownsRow lo E size (.slice a n c) n xs := by
  obtain ⟨h1, h2⟩ := h
  refine ⟨h1, ?_⟩
  rcases h2 with h2 | ⟨g, cap, cur, a1, a2, a3, a4⟩
  · exact .inl h2
  · refine .inr ⟨g, cap, cur, a1, a2, k.has a3 (hd g ?_), a4⟩
    simp at a1
    simp [a1.1, Value.ownBlock]
theorem cntT_false (m : Nat) : cntT (fun _ => false) m = 0 := by
  induction m with
  | zero => rfl
  | succ m ih => simp [cntT, ih]

/-- Behind Mark: the list of R. -/
def ListC (m : Nat) (R : Nat → Bool) (w : World) (e : Ending) (w' : World) : Prop :=
  ∃ a cap, e = .returned (.slice a (cntT R m) cap) ∧ w'.ownsRow w.heap.size 3 1 (.slice a (cntT R m) cap) (cntT R m) (intsL (idxL R m)) ∧ Keeps [] w w'

set_option maxRecDepth 100000 in
set_option maxHeartbeats 4000000 in
theorem mark_any (LV : Value) (LL' LL : Nat → List Int) (hLV : (LV = .func (.func 28) #[] #[] ∧ LL' = LL) ∨ (LV = .nilFunc ∧ LL' = fun _ => [])) (sb lo m : Nat) (S : List Nat) (V : Nat → Value) (T : Nat → Bool) (rs : List Int) (ra : Option Addr) (rc : Nat) (R : Nat → Bool) (hR : ∀ i, R i = true ↔ Rch m T LL' rs i)
    (w : World) (hst : SL.SlotSt sb lo S m V T w) (hm : m ≤ 200) (hL : LeadsAt m V T LL w) (hr : RowL w (.slice ra rs.length rc) rs) (hrs : rs.length ≤ 100000) :
    Calls Try.prog 27 #[.pointer (some ⟨sb, 0, none⟩), .slice ra rs.length rc, LV] w (ListC m R w) := by
  obtain ⟨j0, hi, hz0, hz1, hz2⟩ := info_parts infoI
  have HJ := Lib.hid (And.intro hi (And.intro hz0 (And.intro hz1 hz2)))
  clear hi hz0 hz1 hz2
  have HST := Lib.hid hst
  have HL := Lib.hid hL
  have HR := Lib.hid hr
  have HRR := Lib.hid hR
  have HLV := Lib.hid hLV
  have m0 : (0 : Int) ≤ (m : Int) := by omega
  have m1 : (m : Int) ≤ 200 := by omega
  obtain ⟨q, hq⟩ := ex_hid (m / 64)
  have eq : (m : Int) / 64 = (q : Int) := by rw [hq.out]; omega
  have q0 : (0 : Int) ≤ (q : Int) := by omega
  have q1 : (q : Int) ≤ 100 := by rw [hq.out]; omega
  have hmk := fun w => make_words w (q + 1) ((q : Int) + 1) (by omega) (by omega)
  have st0 := Lib.hid (hst.keeps ((Keeps.refl [] w).alloc (.cells #[.pointer (some ⟨sb, 0, none⟩)] 54)) (by simp))
  clear hst hL hr hR hLV
  go_enter Try.func27, Try.ntmps27
  go_wp2_with fail
  refine (SL.high_st _ _ _ _ _ _ _ st0.out).mono ?_
  rintro e w1 ⟨rfl, rfl⟩
  go_wp2_with fail
  have MS0 : MarkSt w sb (q + 1) (fun _ => false) 0 (fun _ => 0) ((((w.alloc (.cells #[.pointer (some ⟨sb, 0, none⟩)] 54)).alloc (.cells (wordsA (q + 1) (fun _ => 0)) 98)).alloc (.cells #[.slice (some ⟨w.heap.size + 1, 0, none⟩) (q + 1) (q + 1)] 82)).alloc (.cells #[.slice none 0 0] 22)) :=
    ⟨((((Keeps.refl _ _).alloc _).alloc _).alloc _).alloc _, has_alloc (has_alloc (has_alloc (has_new _ _) _) _) _, ⟨_, has_alloc (has_alloc (has_new' _ _ (by simp)) _) _, WordsOK.zero _⟩, has_alloc (has_new' _ _ (by simp)) _, none, 0, has_new' _ _ (by simp), ValRow.nil _ _ _ _⟩
  refine (reach_any w sb lo m (q + 1) S V T HST.out hm (by rw [hq.out]) rs ra rc HR.out hrs _ 0 _ (by simp) _ MS0).mono ?_
  rintro e w2 ⟨rfl, Sn2, n2, F2, hr2, ms2⟩
  have I2 := Lib.hid (MInv.start (LL := LL') hr2)
  have N2 := Lib.hid (show n2 ≤ cntT Sn2 m by have := hr2.cnt; have h0 : cntT (fun _ => false) m = 0 := cntT_false m; omega)
  have M2 := Lib.hid ms2
  clear hr2 ms2 MS0 st0
  go_wp2_with fail
  go_loopg [10] (2 * (m - cntT Sn2 m) + n2) (fun gk v wr => ∃ (Sn : Nat → Bool) (n : Nat) (F : Nat → Nat), gk = 2 * (m - cntT Sn m) + n ∧ n ≤ cntT Sn m ∧ MInv m T LL' rs Sn n F ∧ MarkSt w sb (q + 1) Sn n F wr)
  case atStart => exact ⟨Sn2, n2, F2, rfl, N2.out, I2.out, M2.out⟩
  case round =>
    obtain ⟨Sn, n, F, hgk, hn, hI, hM⟩ := hrel
    have HG := Lib.hid hgk
    have HN := Lib.hid hn
    have HI := Lib.hid hI
    have HM := Lib.hid hM
    obtain ⟨fa, fc, hk1, hk2⟩ := hM.bk
    have c1 := cell_has hk1 (i := 0) rfl
    have c2 := cell_has hM.bs (i := 0) rfl
    have f1 := free_of_has hk1 0
    have z1 := lt_of_block hk1
    have hcm := cntT_le Sn m
    have n9 : (n : Int) ≤ 200 := by omega
    have B1 := Lib.hid hk1
    have B2 := Lib.hid hk2
    clear hgk hn hI hM hk1 hk2 hcm
    by_cases hn0 : n = 0
    · subst hn0
      have hD := HI.out.done
      have hSR : ∀ i, Sn i = R i := fun i => by rw [Bool.eq_iff_iff, hD i, HRR.out i]
      have HSR := Lib.hid hSR
      have c0 := cell_has HM.out.bs (i := 0) rfl
      have st4 := Lib.hid (HST.out.keeps HM.out.kp (by simp))
      clear hD hSR
      go_wp2_with fail
      refine (SL.high_st _ _ _ _ _ _ _ st4.out).mono ?_
      rintro e w1 ⟨rfl, rfl⟩
      have MW := Lib.hid HM.out
      have hO : Hid (wr.ownsRow w.heap.size 3 1 (.slice none 0 0) 0 (intsL (idxL R 0))) := Lib.hid (World.ownsRow_nil _ _ _ _)
      obtain ⟨wo, rfl⟩ : ∃ wo : World, wo = wr := ⟨_, rfl⟩
      have hz1 : w.heap.size + 1 + 1 + 1 < wo.heap.size := z1
      go_wp2_with fail
      go_loopw [12, 51] (fun out i wr => ∃ (k : Nat) (a : Option Addr) (cap : Nat), k ≤ m ∧ i = .int .i64 k ∧ out = .slice a (cntT R k) cap ∧ wr.ownsRow wo.heap.size 3 1 (.slice a (cntT R k) cap) (cntT R k) (intsL (idxL R k)) ∧ Below wo.heap.size wo wr) (fun _ i _ => m - (intOf i).toNat)
      case atStart => exact ⟨0, none, 0, by omega, rfl, rfl, World.ownsRow_nil _ _ _ _, Below.refl _ _⟩
      case round =>
        obtain ⟨k, a, cap, hk, rfl, rfl, hO2, hkp⟩ := hrel
        have HO := Lib.hid hO2
        have HK := Lib.hid hkp
        have M5 := Lib.hid (MW.out.keeps (Below.keeps hkp []))
        have k0 : (0 : Int) ≤ (k : Int) := by omega
        clear hO2 hkp
        by_cases hlt : k < m
        · have hlt' : (k : Int) < (m : Int) := by omega
          have d2 := cell_has M5.out.bv (i := 0) rfl
          obtain ⟨X, hX1, hX2⟩ := M5.out.wd
          have Y1 := Lib.hid hX1
          have Y2 := Lib.hid hX2
          have hiw : k / 64 < q + 1 := by rw [hq.out]; omega
          have hk6 : k ≤ 1000000 := by omega
          have hcl := cntT_le R k
          clear hX1 hX2
          by_cases hT : R k = true
          · have HT := Lib.hid hT
            clear hT
            have q3 : cntT R k + 1 ≤ maxLen := by unfold maxLen; omega
            have q4 : (cntT R k + 1) * 8 ≤ 140737488355328 := by omega
            have q5 : wo.heap.size ≤ wr.heap.size + 1 := by have := HK.out.size; omega
            have G := Lib.hid (And.intro q3 (And.intro q4 q5))
            clear q3 q4 q5
            go_wp2_with fail
            refine (bhas_any _ (q + 1) Sn X k true (Lib.hid ((HSR.out k).trans HT.out)) _ Y1.out Y2.out hiw hk6).mono ?_
            rintro e w7 ⟨rfl, rfl⟩
            go_wp2_with (at_builtin; refine wpList_append_lies _ rfl _ _ 22 rfl wo.heap.size 3 j0 (.int .i64 0) 1 8 Try.underlying22 HJ.out.1 HJ.out.2.1 HJ.out.2.2.1 HJ.out.2.2.2 rfl (by decide) _ (cntT R k) (intsL (idxL R k)) rfl (HO.out.alloc _) ⟨wr.heap.size, 0, none⟩ 1 1 [_] rfl rfl (cell_one_new _ _ _) (by intro u hu; simp at hu; subst hu; rfl) (by decide) G.out.1 G.out.2.1 (by simpa using G.out.2.2) (wr.heap.size + 1) (by simp) ?_; intro g cap' w1 hown hgrow _ _; have K1 := Lib.hid (append_kept HO.out HK.out.size hgrow); have H1 := Lib.hid hown; clear hgrow hown)
            go_roundw
            case rel =>
              refine ⟨k + 1, some ⟨g, 0, none⟩, cap', by omega, by go_num, by simp [cntT, HT.out], ?_, HK.out.trans (K1.out.below (Nat.le_refl _) (by simp))⟩
              have := H1.out
              simp only [cntT, idxL, HT.out, if_true]
              simpa [intsL] using this
            case measure => simp [intOf]; omega
          · have hT' : R k = false := by simpa using hT
            have HT := Lib.hid hT'
            clear hT hT'
            go_wp2_with fail
            refine (bhas_any _ (q + 1) Sn X k false (Lib.hid ((HSR.out k).trans HT.out)) _ Y1.out Y2.out hiw hk6).mono ?_
            rintro e w7 ⟨rfl, rfl⟩
            go_wp2_with fail
            go_roundw
            case rel =>
              refine ⟨k + 1, a, cap, by omega, by go_num, by simp [cntT, HT.out], ?_, HK.out⟩
              have := HO.out
              simp only [cntT, idxL, HT.out]
              simpa using this
            case measure => simp [intOf]; omega
        · obtain rfl : k = m := by omega
          have hge : ¬ (k : Int) < (k : Int) := by omega
          have d2 := cell_has M5.out.bv (i := 0) rfl
          obtain ⟨X, hX1, hX2⟩ := M5.out.wd
          have Y1 := Lib.hid hX1
          have hcl := fun ty => clear_words wr (w.heap.size + 1) (q + 1) X (by omega) Y1.out ty
          clear hX1 hX2
          go_wp2_with fail
          go_ret
          have kc := keeps_setCells (w.heap.size + 1) (List.replicate (q + 1) (.int .u64 0)) 0 wr
          refine ⟨a, cap, rfl, ?_, M5.out.kp.then kc (by intro z hz; simp at hz; left; omega)⟩
          have hsz := MW.out.kp.size
          refine ownsRow_base (own_keeps' HO.out kc ?_) hsz
          intro z hz hz2
          simp at hz2
          have := (HO.out.lt z hz).1
          omega
    · obtain ⟨p, rfl⟩ : ∃ p, n = p + 1 := ⟨n - 1, by omega⟩
      obtain ⟨g, rfl⟩ := B2.out.shape (by omega)
      have c3 := B2.out.cell (k := p) (by omega)
      obtain ⟨y, hy⟩ := ex_hid (F p)
      rw [show numV F p = .int .i64 (y : Int) by rw [hy.out]; rfl] at c3
      have hSy : Sn y = true := by rw [hy.out]; exact HI.out.stk p (by omega)
      have hyr := (HI.out.sub y hSy).lt
      have HYR := Lib.hid hyr
      have HB : Hid (isB m T (y : Int) = true) := Lib.hid (by simp [isB, hyr.2]; exact hyr.1)
      obtain ⟨v, hv⟩ := ex_hid (V y)
      have st3 := Lib.hid (HST.out.keeps (HM.out.kp.drew) (by simp))
      have p0 : (0 : Int) ≤ (p : Int) := by omega
      have e5 : IntKind.i64.wrap (p : Int) = (p : Int) := IntWalk.i64_in _ (by omega)
      have e6 : (p : Int) < (p : Int) + 1 := by omega
      clear hyr hSy hn0
      go_wp2_with fail
      go_region_held3 (fun w' => w'.cell? ⟨w.heap.size, 0, none⟩ = some (.pointer (some ⟨sb, 0, none⟩)) ∧ w'.cell? ⟨w.heap.size + 1 + 1 + 1, 0, none⟩ = some (.slice (some ⟨g, 0, none⟩) (p + 1) fc) ∧ w'.cell? ⟨g, p, none⟩ = some (.int .i64 (y : Int))) (go_keep) (first | (go_at_call 54; refine (SL.get_st_in _ _ _ _ _ _ _ v _ st3.out HB.out (Lib.hid hv.out.symm)).mono ?_; rintro e w3 ⟨rfl, k3⟩; have a1 := k3.cell (w := wr.drew) c2 (by simp); have a2 := k3.cell (w := wr.drew) c1 (by simp); have a3 := k3.cell (w := wr.drew) c3 (by simp); have K3 := Lib.hid k3.undrew; clear k3))
      have M3 := Lib.hid (HM.out.keeps K3.out)
      have b1 := K3.out.has B1.out (by simp)
      have r1 := B2.out.keeps K3.out (by simp)
      have f3 := free_of_has b1 0
      have z3 := lt_of_block b1
      have hcap := r1.cap_le
      unfold maxLen at hcap
      obtain ⟨hcap1, hcap2⟩ := hcap
      have hcap3 : p ≤ fc := by omega
      have B3 := Lib.hid b1
      have R3 := Lib.hid r1
      have LV' := HL.out y HYR.out.1 HYR.out.2
      rw [← hv.out] at LV'
      obtain ⟨⟨la, lc, hve, hvr⟩, hl60⟩ := LV'
      have RL : RowL w v (LL y) := ⟨la, lc, hve, hvr⟩
      have HRL := Lib.hid RL
      subst hve
      have ms4 : Hid (MarkSt w sb (q + 1) Sn p F (w3.setCell ⟨w.heap.size + 1 + 1 + 1, 0, none⟩ (.slice (some ⟨g, 0, none⟩) p fc))) := by
        refine Lib.hid ?_
        obtain ⟨X, x1, x2⟩ := M3.out.wd
        have kz : Keeps [w.heap.size + 1 + 1 + 1] w3 (w3.setCell ⟨w.heap.size + 1 + 1 + 1, 0, none⟩ (.slice (some ⟨g, 0, none⟩) p fc)) := (Keeps.refl _ _).setCell (.inr (by simp)) _
        refine ⟨M3.out.kp.then kz (by intro z hz; simp at hz; left; omega), kz.has M3.out.bs (by simp <;> omega), ⟨X, kz.has x1 (by simp <;> omega), x2⟩, kz.has M3.out.bv (by simp <;> omega), _, fc, has_setCell B3.out 0 _, ?_⟩
        exact (R3.out.cut (by omega)).keeps kz (by intro z hz hz2; simp at hz2; have := (R3.out.blk_lt z hz).1; omega)
      clear b1 r1 RL hvr hcap1 hcap2
      rcases HLV.out with ⟨rfl, hLL⟩ | ⟨rfl, hLL⟩
      · have n1 := neq_leads
        have HLL := Lib.hid hLL
        clear hLL
        go_wp2_with fail
        refine (leads_any _ _).mono ?_
        rintro e w5 ⟨rfl, rfl⟩
        go_wp2_with fail
        refine (reach_any w sb lo m (q + 1) S V T HST.out hm (by rw [hq.out]) (LL y) la lc HRL.out (by omega) Sn p F (by have := HN.out; omega) _ ms4.out).mono ?_
        rintro e w6 ⟨rfl, Sn6, n6, F6, hr6, ms6⟩
        have R6 := Lib.hid hr6
        have M6 := Lib.hid ms6
        clear hr6 ms6
        go_wp2_with fail
        go_roundg (2 * (m - cntT Sn6 m) + n6)
        case measure => have h1 := HG.out; have h2 := R6.out.cnt; have h3 := R6.out.le; have h4 := cntT_le Sn6 m; have h5 := cntT_le Sn m; omega
        case rel => exact ⟨Sn6, n6, F6, rfl, by have h2 := R6.out.cnt; have h6 := HN.out; omega, HI.out.step (by rw [HLL.out, ← hy.out]; exact R6.out), M6.out⟩
      · have n1 := neq_leads_nil
        have HLL := Lib.hid hLL
        clear hLL
        go_wp2_with fail
        go_roundg (2 * (m - cntT Sn m) + p)
        case measure => have h1 := HG.out; omega
        case rel => exact ⟨Sn, p, F, rfl, by have h6 := HN.out; omega, HI.out.step (by rw [HLL.out]; exact Reached.refl m T Sn p F), ms4.out⟩
end Go.Proofs.Ytompihlckpjbkaa
