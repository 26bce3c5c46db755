/- The document's stroll: Next (chapter 9). Printed by mk_refm.py. -/
import Derived.Test.YtcakdmapnmneoaaGreatRefL
namespace Go.Proofs.YtcakdmapnmneoaaGreat
open Go.RowKit
set_option linter.unusedVariables false
set_option linter.unusedSimpArgs false

def Rst.takes (s : Rst) (x : Ent) : Bool := !s.begun || (if s.back = true then decide (x.birth < s.last) else decide (s.last < x.birth))
def Rst.pick (s : Rst) (l : List Ent) : Option Ent := if s.back = true then l.reverse.find? s.takes else l.find? s.takes
def rsE (d : Dic) (s : Rst) : Int := if s.over ≠ 0 then s.over else if liveN d.T.E ≠ s.len then 9 else if (s.pick (liveL d.T.E)).isSome = true then 0 else 10
def rsX (d : Dic) (s : Rst) : Ent := if s.over ≠ 0 then noE else if liveN d.T.E ≠ s.len then noE else (s.pick (liveL d.T.E)).getD noE
def rsN (d : Dic) (s : Rst) : Rst := if s.over ≠ 0 then s else if liveN d.T.E ≠ s.len then { s with over := 9 } else match s.pick (liveL d.T.E) with
  | some x => s.toldR x
  | none => { s with over := 10 }
theorem find_at {l : List Ent} {p : Ent → Bool} {m : Nat} {x : Ent} (h : l[m]? = some x) (hp : p x = true) (hn : ∀ (j : Nat) (y : Ent), j < m → l[j]? = some y → p y = false) : l.find? p = some x := by
  obtain ⟨h1, h2⟩ := List.getElem?_eq_some_iff.1 h
  rw [List.find?_eq_some_iff_append]
  refine ⟨hp, l.take m, l.drop (m + 1), ?_, ?_⟩
  · rw [← h2, ← List.drop_eq_getElem_cons h1, List.take_append_drop]
  · intro a ha
    obtain ⟨j, hj, e⟩ := List.getElem_of_mem ha
    have hj2 : j < m := by have := hj; rw [List.length_take] at this; omega
    have := hn j a hj2 (by rw [← e, List.getElem_take, List.getElem?_eq_getElem])
    simp [this]
theorem pick_fw {s : Rst} {l : List Ent} (hb : s.back = false) {m : Nat} {x : Ent} (h : l[m]? = some x) (hp : s.takes x = true) (hn : ∀ (j : Nat) (y : Ent), j < m → l[j]? = some y → s.takes y = false) : s.pick l = some x := by
  unfold Rst.pick; rw [if_neg (by rw [hb]; simp)]; exact find_at h hp hn
theorem pick_bk {s : Rst} {l : List Ent} (hb : s.back = true) {m : Nat} {x : Ent} (h : l[m]? = some x) (hp : s.takes x = true) (hn : ∀ (j : Nat) (y : Ent), m < j → l[j]? = some y → s.takes y = false) : s.pick l = some x := by
  unfold Rst.pick; rw [if_pos hb]
  obtain ⟨h1, h2⟩ := List.getElem?_eq_some_iff.1 h
  refine find_at (m := l.length - 1 - m) ?_ hp ?_
  · rw [List.getElem?_reverse (by omega), show l.length - 1 - (l.length - 1 - m) = m by omega]; exact h
  · intro j y hj hy
    rw [List.getElem?_reverse (by omega)] at hy
    exact hn _ y (by omega) hy
theorem pick_none {s : Rst} {l : List Ent} (hn : ∀ (j : Nat) (y : Ent), l[j]? = some y → s.takes y = false) : s.pick l = none := by
  have h : ∀ y, y ∈ l → s.takes y = false := fun y hy => by
    obtain ⟨j, hj, e⟩ := List.getElem_of_mem hy
    exact hn j y (by rw [← e, List.getElem?_eq_getElem])
  unfold Rst.pick
  split
  · rw [List.find?_eq_none]; intro y hy; rw [h y (List.mem_reverse.1 hy)]; simp
  · rw [List.find?_eq_none]; intro y hy; rw [h y hy]; simp
theorem rs_some {d : Dic} {s : Rst} {x : Ent} (ho : s.over = 0) (hs : liveN d.T.E = s.len) (h : s.pick (liveL d.T.E) = some x) : rsX d s = x ∧ rsE d s = 0 ∧ rsN d s = s.toldR x := by
  unfold rsX rsE rsN; simp [ho, hs, h]
theorem rs_none {d : Dic} {s : Rst} (ho : s.over = 0) (hs : liveN d.T.E = s.len) (h : s.pick (liveL d.T.E) = none) : rsX d s = noE ∧ rsE d s = 10 ∧ rsN d s = { s with over := 10 } := by
  unfold rsX rsE rsN; simp [ho, hs, h]
def RsP (b db : Nat) (d : Dic) (s : Rst) (w : World) (r : Ending) (w' : World) : Prop :=
  r = .returned (.tuple #[(rsX d s).agg, .int .i64 (rsE d s)]) ∧ w'.heap[b]? = some (rstO db (rsN d s)) ∧ Keeps [b] w w'
set_option maxRecDepth 100000 in
set_option maxHeartbeats 4000000 in
theorem rsnext_over (db t lo : Nat) (S : List Nat) (m : Option Nat) (d : Dic) (b : Nat) (s : Rst) (w : World) (HD : RDicAt db t lo S m d w) (H : w.heap[b]? = some (rstO db s)) (ho : s.over ≠ 0) :
    Calls Tryz.prog 28 #[.pointer (some ⟨b, 0, none⟩)] w (RsP b db d s w) := by
  obtain ⟨lr, hlr⟩ : ∃ lr, lr = w.heap.size := ⟨_, rfl⟩
  obtain ⟨WA, hWA⟩ : ∃ WA, w.alloc (.cells #[.bool false, .int .i64 0, .int .i64 0, .int .i64 0, .int .i64 0] 78) = WA := ⟨_, rfl⟩
  have kb : Keeps [] w WA := by rw [← hWA]; exact (Keeps.refl [] w).alloc _
  have KB := Lib.hid kb
  have BT := Lib.hid (show WA.heap[lr]? = some (entR noE) by rw [← hWA, hlr]; exact has_new _ _)
  have HWA := Lib.hid hWA
  have HLR := Lib.hid hlr
  have LB := Lib.hid (show b < lr by rw [hlr]; exact lt_of_block H)
  have HB := Lib.hid (kb.has H (by simp))
  have DA := Lib.hid (HD.keeps kb (by simp) (by simp))
  obtain ⟨c0, c1, c2, c3, c4, c5⟩ := rst_cells HB.out
  obtain ⟨e, he⟩ := ex_hid s.over
  rw [← he.out] at c5
  have de : (e != (0 : Int)) = true := by rw [he.out]; simpa using ho
  have de2 : (e == (0 : Int)) = false := by rw [he.out]; simpa using ho
  have HO := Lib.hid ho
  have b3 : WA.heap[lr]? = some (entR noE) := BT.out
  have B3 := Lib.hid b3
  unfold entR at b3
  have s0 : WA.cell? ⟨lr, 0, none⟩ = some (.bool noE.live) := cell_has b3 (i := 0) rfl
  have s1 : WA.cell? ⟨lr, 1, none⟩ = some (.int .i64 noE.hash) := cell_has b3 (i := 1) rfl
  have s2 : WA.cell? ⟨lr, 2, none⟩ = some (.int .i64 noE.key) := cell_has b3 (i := 2) rfl
  have s3 : WA.cell? ⟨lr, 3, none⟩ = some (.int .i64 noE.val) := cell_has b3 (i := 3) rfl
  have s4 : WA.cell? ⟨lr, 4, none⟩ = some (.int .i64 noE.birth) := cell_has b3 (i := 4) rfl
  have g0 := free_of_has b3 0
  have g1 := free_of_has b3 1
  have g2 := free_of_has b3 2
  have g3 := free_of_has b3 3
  have g4 := free_of_has b3 4
  clear b3
  have nbl : ¬ b = lr := by have := LB.out; omega
  have nlb : ¬ lr = b := by have := LB.out; omega
  clear hlr hWA kb H HD c0 c1 c2 c3 c4 ho
  go_enter Tryz.func28, Tryz.ntmps28
  go_upto_region 1 with (fail)
  rw [HWA.out, ← HLR.out]
  go_upto_region 2 with (fail)
  go_region_held3 (fun w' => w'.cell? ⟨b, 5, none⟩ = some (.int .i64 e)) (go_keep) (fail)
  go_wp2_with fail
  obtain ⟨q1, q2⟩ := entR_store noE noE B3.out
  have q9 := q1
  unfold entR at q9
  have rc1 := cell_of_has q9
  have hlr := HLR.out
  show bodyPost _ _ _ _ _ (((((WA.setCell ⟨lr, 0, none⟩ (.bool noE.live)).setCell ⟨lr, 1, none⟩ (.int .i64 noE.hash)).setCell ⟨lr, 2, none⟩ (.int .i64 noE.key)).setCell ⟨lr, 3, none⟩ (.int .i64 noE.val)).setCell ⟨lr, 4, none⟩ (.int .i64 noE.birth)).drew
  have f1 : rsX d s = noE := by unfold rsX; rw [if_pos HO.out]
  have f2 : rsE d s = e := by unfold rsE; rw [if_pos HO.out, he.out]
  have f3 : rsN d s = s := by unfold rsN; rw [if_pos HO.out]
  refine bodyPost_ret (v := .tuple #[noE.agg, .int .i64 e]) (by simp [results, Tryz.results28, go_sem, Ent.agg, rc1]) rfl ⟨by rw [f1, f2], ?_, ?_⟩
  · rw [f3]; exact has_drew (q2.has HB.out (by have := LB.out; simp; omega))
  · exact ((KB.out.mono (by simp)).then q2 (by intro z hz; simp at hz; left; omega)).drew
set_option maxRecDepth 100000 in
set_option maxHeartbeats 4000000 in
theorem rsnext_bk (db t lo : Nat) (S : List Nat) (m : Option Nat) (d : Dic) (b : Nat) (s : Rst) (w : World) (HD : RDicAt db t lo S m d w) (H : w.heap[b]? = some (rstO db s)) (ho : s.over = 0) (hs : liveN d.T.E = s.len) (hbk : s.back = true) (hl : d.T.E.length ≤ 1000) :
    Calls Tryz.prog 28 #[.pointer (some ⟨b, 0, none⟩)] w (RsP b db d s w) := by
  obtain ⟨lr, hlr⟩ : ∃ lr, lr = w.heap.size := ⟨_, rfl⟩
  obtain ⟨WA, hWA⟩ : ∃ WA, w.alloc (.cells #[.bool false, .int .i64 0, .int .i64 0, .int .i64 0, .int .i64 0] 78) = WA := ⟨_, rfl⟩
  have kb : Keeps [] w WA := by rw [← hWA]; exact (Keeps.refl [] w).alloc _
  have KB := Lib.hid kb
  have BT := Lib.hid (show WA.heap[lr]? = some (entR noE) by rw [← hWA, hlr]; exact has_new _ _)
  have HWA := Lib.hid hWA
  have HLR := Lib.hid hlr
  have LB := Lib.hid (show b < lr by rw [hlr]; exact lt_of_block H)
  have HB := Lib.hid (kb.has H (by simp))
  have DA := Lib.hid (HD.keeps kb (by simp) (by simp))
  obtain ⟨c0, c1, c2, c3, c4, c5⟩ := rst_cells HB.out
  rw [ho] at c5
  rw [hbk] at c2
  obtain ⟨n, hn⟩ := ex_hid (liveN d.T.E)
  rw [← hs, ← hn.out] at c1
  have nb : (n : Int) ≤ 1000 := by rw [hn.out]; have := liveN_le d.T.E; omega
  have HO := Lib.hid ho
  have HS := Lib.hid hs
  have HBK := Lib.hid hbk
  have hlen : (liveL d.T.E).length = n := by rw [liveL_len, hn.out]
  have HLN := Lib.hid hlen
  obtain ⟨ta, tc, tq, b1, b2, _⟩ := DA.out.t
  have RN := rall_any t lo d.T.L tc ta d.T.E _ _ _ _ _ _ WA.drew (has_drew b1) (EntRow.drew b2) (by omega)
  have RNH := Lib.hid RN
  have D0 := Lib.hid (DA.out.keeps (Keeps.refl [] WA).drew (by simp) (by simp))
  have y2 : WA.cell? ⟨db, 2, none⟩ = some (.pointer (some ⟨t, 0, none⟩)) := cell_has DA.out.b (i := 2) rfl
  have Y2 := Lib.hid y2
  clear hlr hWA kb H HD ho hs hbk hl hlen b1 b2 RN c2 c3 c4 y2
  go_enter Tryz.func28, Tryz.ntmps28
  go_upto_region 1 with (fail)
  rw [HWA.out, ← HLR.out]
  go_upto_region 3 with (fail)
  go_region_held3 (fun w' => w'.cell? ⟨b, 0, none⟩ = some (.pointer (some ⟨db, 0, none⟩)) ∧ w'.cell? ⟨b, 1, none⟩ = some (.int .i64 n)) (go_keep) (first | (go_at_call 41; refine (rlen8_any db t lo S m d _ D0.out).mono ?_; rintro r w1 ⟨rfl, rfl⟩; rw [← hn.out]))
  have y2 : WA.drew.cell? ⟨db, 2, none⟩ = some (.pointer (some ⟨t, 0, none⟩)) := Y2.out
  have c0d : WA.drew.cell? ⟨b, 0, none⟩ = some (.pointer (some ⟨db, 0, none⟩)) := c0
  go_wp2_with fail
  refine RNH.out.mono ?_
  rintro r w1 ⟨ra, rc, rfl, e1, k1⟩
  rw [← hn.out]
  have E1 := Lib.hid e1
  have K1 := Lib.hid ((Keeps.refl [] WA).drew.trans k1)
  have hsh : 0 < n → ∃ g, ra = some ⟨g, 0, none⟩ := fun h => e1.shape (by rw [HLN.out]; exact h)
  have HSH := Lib.hid hsh
  have B1 := Lib.hid (K1.out.has HB.out (by simp))
  have T1 := Lib.hid (K1.out.has BT.out (by simp))
  have c2 : w1.cell? ⟨b, 2, none⟩ = some (.bool s.back) := (rst_cells B1.out).2.2.1
  rw [HBK.out] at c2
  clear e1 k1 hsh c0 c1 c5 c0d y2
  go_wp2_with fail
  go_loopw [5] (fun i wr => ∃ k : Nat, k ≤ n ∧ i = .int .i64 ((n : Int) - 1 - k) ∧ (∀ (j : Nat) (y : Ent), n ≤ j + k → (liveL d.T.E)[j]? = some y → s.takes y = false) ∧ Keeps [] w1 wr) (fun i _ => (intOf i + 1).toNat)
  case atStart => exact ⟨0, by omega, by go_num, fun j y hj hy => by have := (List.getElem?_eq_some_iff.1 hy).1; rw [HLN.out] at this; omega, Keeps.refl _ _⟩
  case round =>
    obtain ⟨k, hk, rfl, hno, hkr⟩ := hrel
    have HNO := Lib.hid hno
    have KR0 := Lib.hid hkr
    clear hno
    by_cases hlt : k < n
    · obtain ⟨g, rfl⟩ := HSH.out (by omega)
      obtain ⟨p, hph⟩ := ex_hid (n - 1 - k)
      have hp1 := hph.out
      have hpi : (n : Int) - 1 - k = (p : Int) := by omega
      have hpn : (p : Int) < (n : Int) := by omega
      have p0 : (0 : Int) ≤ (p : Int) := by omega
      have hpn' : p < n := by omega
      rw [hpi]
      clear hp1 hpi
      have hpL : p < (liveL d.T.E).length := by rw [HLN.out]; exact hpn'
      obtain ⟨x, hx⟩ : ∃ x, (liveL d.T.E)[p]? = some x := ⟨_, List.getElem?_eq_getElem hpL⟩
      have HX := Lib.hid hx
      have er := E1.out.keeps hkr (by simp)
      have q0 : wr.cell? ⟨g, p * 5, none⟩ = some (.bool x.live) := er.cell hx 0 (by omega)
      have q1 : wr.cell? ⟨g, p * 5 + 1, none⟩ = some (.int .i64 x.hash) := er.cell hx 1 (by omega)
      have q2 : wr.cell? ⟨g, p * 5 + 2, none⟩ = some (.int .i64 x.key) := er.cell hx 2 (by omega)
      have q3 : wr.cell? ⟨g, p * 5 + 3, none⟩ = some (.int .i64 x.val) := er.cell hx 3 (by omega)
      have q4 : wr.cell? ⟨g, p * 5 + 4, none⟩ = some (.int .i64 x.birth) := er.cell hx 4 (by omega)
      obtain ⟨_, _, _, c3, c4, _⟩ := rst_cells (hkr.has B1.out (by simp))
      clear hpL hx er c2
      go_upto_region 11 with (fail)
      cases hbg : s.begun
      · rw [hbg] at c4
        have htk : s.takes x = true := by unfold Rst.takes; rw [hbg]; rfl
        clear hbg
        refine wp_regionG (fun w' => w'.cell? ⟨b, 4, none⟩ = some (.bool false) ∧ w'.cell? ⟨b, 3, none⟩ = some (.int .i64 s.last) ∧ w'.cell? ⟨g, p * 5 + 4, none⟩ = some (.int .i64 x.birth)) 17 (by kernel_rfl) ⟨c4, c3, q4⟩ (fun hF => ?_)
        refine wpAnyG_takeY (i := 0) (v := ?_) rfl (by kernel_rfl) (by decide +kernel) (by decide +kernel) (by decide +kernel) (fun _ _ _ h => h) (by kernel_rfl) ?_ (by assumption) ?_
        rotate_left
        · (intro wz; go_simp; with_reducible rfl)
        try simp only [Act.put, List.setIfInBounds_toArray, List.set_cons_zero, List.set_cons_succ]
        refine wpAnyG_takeY (i := 1) (v := ?_) rfl (by kernel_rfl) (by decide +kernel) (by decide +kernel) (by decide +kernel) (fun _ _ _ h => h) (by kernel_rfl) ?_ (by assumption) ?_
        rotate_left
        · (intro wz; go_simp; with_reducible rfl)
        try simp only [Act.put, List.setIfInBounds_toArray, List.set_cons_zero, List.set_cons_succ]
        refine wpAnyG_takeY (i := 2) (v := ?_) rfl (by kernel_rfl) (by decide +kernel) (by decide +kernel) (by decide +kernel) (fun _ _ _ h => h) (by kernel_rfl) ?_ (by assumption) ?_
        rotate_left
        · (intro wz; go_simp; with_reducible rfl)
        try simp only [Act.put, List.setIfInBounds_toArray, List.set_cons_zero, List.set_cons_succ]
        refine wpAnyG_take (i := 3) (v := ?_) rfl (by kernel_rfl) (by decide +kernel) (by decide +kernel) (by decide +kernel) (by decide +kernel) (by rfl) (fun _ _ _ h => h) (by kernel_rfl) ?_ (by assumption) ?_
        rotate_left
        · (intro wz hSw; (try dsimp only at hSw); go_simp; with_reducible rfl)
        try simp only [Act.put, List.setIfInBounds_toArray, List.set_cons_zero, List.set_cons_succ]
        refine wpAnyG_takeY (i := 4) (v := ?_) rfl (by kernel_rfl) (by decide +kernel) (by decide +kernel) (by decide +kernel) (fun _ _ _ h => h) (by kernel_rfl) ?_ (by assumption) ?_
        rotate_left
        · (intro wz; go_simp; with_reducible rfl)
        try simp only [Act.put, List.setIfInBounds_toArray, List.set_cons_zero, List.set_cons_succ]
        refine wpAnyG_takeY (i := 5) (v := ?_) rfl (by kernel_rfl) (by decide +kernel) (by decide +kernel) (by decide +kernel) (fun _ _ _ h => h) (by kernel_rfl) ?_ (by assumption) ?_
        rotate_left
        · (intro wz; go_simp; with_reducible rfl)
        try simp only [Act.put, List.setIfInBounds_toArray, List.set_cons_zero, List.set_cons_succ]
        refine wpAnyG_takeU (i := 6) rfl (by kernel_rfl) (by decide +kernel) (by decide +kernel) (by decide +kernel) (fun _ _ _ h => h) (by kernel_rfl) (by assumption) ?_
        try simp only [Act.put, List.setIfInBounds_toArray, List.set_cons_zero, List.set_cons_succ]
        refine wpAnyG_takeU (i := 7) rfl (by kernel_rfl) (by decide +kernel) (by decide +kernel) (by decide +kernel) (fun _ _ _ h => h) (by kernel_rfl) (by assumption) ?_
        try simp only [Act.put, List.setIfInBounds_toArray, List.set_cons_zero, List.set_cons_succ]
        refine wpAnyG_takeU (i := 8) rfl (by kernel_rfl) (by decide +kernel) (by decide +kernel) (by decide +kernel) (fun _ _ _ h => h) (by kernel_rfl) (by assumption) ?_
        try simp only [Act.put, List.setIfInBounds_toArray, List.set_cons_zero, List.set_cons_succ]
        refine wpAnyG_takeU (i := 9) rfl (by kernel_rfl) (by decide +kernel) (by decide +kernel) (by decide +kernel) (fun _ _ _ h => h) (by kernel_rfl) (by assumption) ?_
        try simp only [Act.put, List.setIfInBounds_toArray, List.set_cons_zero, List.set_cons_succ]
        refine wpAnyG_takeU (i := 10) rfl (by kernel_rfl) (by decide +kernel) (by decide +kernel) (by decide +kernel) (fun _ _ _ h => h) (by kernel_rfl) (by assumption) ?_
        try simp only [Act.put, List.setIfInBounds_toArray, List.set_cons_zero, List.set_cons_succ]
        refine wpAnyG_takeU (i := 11) rfl (by kernel_rfl) (by decide +kernel) (by decide +kernel) (by decide +kernel) (fun _ _ _ h => h) (by kernel_rfl) (by assumption) ?_
        try simp only [Act.put, List.setIfInBounds_toArray, List.set_cons_zero, List.set_cons_succ]
        refine wpAnyG_takeU (i := 12) rfl (by kernel_rfl) (by decide +kernel) (by decide +kernel) (by decide +kernel) (fun _ _ _ h => h) (by kernel_rfl) (by assumption) ?_
        try simp only [Act.put, List.setIfInBounds_toArray, List.set_cons_zero, List.set_cons_succ]
        refine wpAnyG_takeU (i := 13) rfl (by kernel_rfl) (by decide +kernel) (by decide +kernel) (by decide +kernel) (fun _ _ _ h => h) (by kernel_rfl) (by assumption) ?_
        try simp only [Act.put, List.setIfInBounds_toArray, List.set_cons_zero, List.set_cons_succ]
        refine wpAnyG_takeU (i := 14) rfl (by kernel_rfl) (by decide +kernel) (by decide +kernel) (by decide +kernel) (fun _ _ _ h => h) (by kernel_rfl) (by assumption) ?_
        try simp only [Act.put, List.setIfInBounds_toArray, List.set_cons_zero, List.set_cons_succ]
        refine wpAnyG_takeU (i := 15) rfl (by kernel_rfl) (by decide +kernel) (by decide +kernel) (by decide +kernel) (fun _ _ _ h => h) (by kernel_rfl) (by assumption) ?_
        try simp only [Act.put, List.setIfInBounds_toArray, List.set_cons_zero, List.set_cons_succ]
        refine wpAnyG_takeY (i := 16) (v := ?_) rfl (by kernel_rfl) (by decide +kernel) (by decide +kernel) (by decide +kernel) (fun _ _ _ h => h) (by kernel_rfl) ?_ (by assumption) ?_
        rotate_left
        · (intro wz; go_simp; with_reducible rfl)
        try simp only [Act.put, List.setIfInBounds_toArray, List.set_cons_zero, List.set_cons_succ]
        refine wpAnyG_done (by kernel_rfl) ?_ _
        go_simp
        have HTK := Lib.hid htk
        have KR := Lib.hid (Keeps.drew hkr)
        have BR := Lib.hid (has_drew (KR0.out.has B1.out (by simp)))
        have z0 : wr.drew.cell? ⟨g, p * 5, none⟩ = some (.bool x.live) := q0
        have z1 : wr.drew.cell? ⟨g, p * 5 + 1, none⟩ = some (.int .i64 x.hash) := q1
        have z2 : wr.drew.cell? ⟨g, p * 5 + 2, none⟩ = some (.int .i64 x.key) := q2
        have z3 : wr.drew.cell? ⟨g, p * 5 + 3, none⟩ = some (.int .i64 x.val) := q3
        have z4 : wr.drew.cell? ⟨g, p * 5 + 4, none⟩ = some (.int .i64 x.birth) := q4
        clear hkr hF htk c3 c4 q0 q1 q2 q3 q4
        go_wp2_with fail
        refine (rtells9_any b db s x _ BR.out).mono ?_
        rintro r w4 ⟨rfl, b4, k4⟩
        have B4 := Lib.hid b4
        have K4 := Lib.hid k4
        clear b4 k4 z0 z1 z2 z3 z4
        have b3 : w4.heap[lr]? = some (entR noE) := K4.out.has (KR.out.has T1.out (by simp)) (by have := LB.out; simp; omega)
        have B3 := Lib.hid b3
        unfold entR at b3
        have s0 : w4.cell? ⟨lr, 0, none⟩ = some (.bool noE.live) := cell_has b3 (i := 0) rfl
        have s1 : w4.cell? ⟨lr, 1, none⟩ = some (.int .i64 noE.hash) := cell_has b3 (i := 1) rfl
        have s2 : w4.cell? ⟨lr, 2, none⟩ = some (.int .i64 noE.key) := cell_has b3 (i := 2) rfl
        have s3 : w4.cell? ⟨lr, 3, none⟩ = some (.int .i64 noE.val) := cell_has b3 (i := 3) rfl
        have s4 : w4.cell? ⟨lr, 4, none⟩ = some (.int .i64 noE.birth) := cell_has b3 (i := 4) rfl
        have g0 := free_of_has b3 0
        have g1 := free_of_has b3 1
        have g2 := free_of_has b3 2
        have g3 := free_of_has b3 3
        have g4 := free_of_has b3 4
        clear b3
        simp only [Ent.agg]
        go_wp2_with fail
        obtain ⟨q1, q2⟩ := entR_store noE x B3.out
        have q9 := q1
        unfold entR at q9
        have rc1 := cell_of_has q9
        have hp : s.pick (liveL d.T.E) = some x := pick_bk HBK.out HX.out HTK.out (fun j y hj hy => HNO.out j y (by have := hph.out; omega) hy)
        obtain ⟨f1, f2, f3⟩ := rs_some HO.out HS.out hp
        have hlr := HLR.out
        refine bodyPost_ret (v := .tuple #[x.agg, .int .i64 0]) (by simp [results, Tryz.results28, go_sem, Ent.agg, rc1]) rfl ⟨by rw [f1, f2], ?_, ?_⟩
        · rw [f3]; exact q2.has B4.out (by have := LB.out; simp; omega)
        · exact (((KB.out.trans K1.out).trans KR.out).mono (by simp) |>.trans K4.out).then q2 (by intro z hz; simp at hz; left; omega)
      · rw [hbg] at c4
        by_cases hbl : x.birth < s.last
        · have htk : s.takes x = true := by unfold Rst.takes; rw [hbg, HBK.out]; simpa using hbl
          have dl : decide (x.birth < s.last) = true := by simpa using hbl
          clear hbg
          refine wp_regionG (fun w' => w'.cell? ⟨b, 4, none⟩ = some (.bool true) ∧ w'.cell? ⟨b, 3, none⟩ = some (.int .i64 s.last) ∧ w'.cell? ⟨g, p * 5 + 4, none⟩ = some (.int .i64 x.birth)) 17 (by kernel_rfl) ⟨c4, c3, q4⟩ (fun hF => ?_)
          refine wpAnyG_takeY (i := 0) (v := ?_) rfl (by kernel_rfl) (by decide +kernel) (by decide +kernel) (by decide +kernel) (fun _ _ _ h => h) (by kernel_rfl) ?_ (by assumption) ?_
          rotate_left
          · (intro wz; go_simp; with_reducible rfl)
          try simp only [Act.put, List.setIfInBounds_toArray, List.set_cons_zero, List.set_cons_succ]
          refine wpAnyG_takeY (i := 1) (v := ?_) rfl (by kernel_rfl) (by decide +kernel) (by decide +kernel) (by decide +kernel) (fun _ _ _ h => h) (by kernel_rfl) ?_ (by assumption) ?_
          rotate_left
          · (intro wz; go_simp; with_reducible rfl)
          try simp only [Act.put, List.setIfInBounds_toArray, List.set_cons_zero, List.set_cons_succ]
          refine wpAnyG_takeY (i := 2) (v := ?_) rfl (by kernel_rfl) (by decide +kernel) (by decide +kernel) (by decide +kernel) (fun _ _ _ h => h) (by kernel_rfl) ?_ (by assumption) ?_
          rotate_left
          · (intro wz; go_simp; with_reducible rfl)
          try simp only [Act.put, List.setIfInBounds_toArray, List.set_cons_zero, List.set_cons_succ]
          refine wpAnyG_take (i := 3) (v := ?_) rfl (by kernel_rfl) (by decide +kernel) (by decide +kernel) (by decide +kernel) (by decide +kernel) (by rfl) (fun _ _ _ h => h) (by kernel_rfl) ?_ (by assumption) ?_
          rotate_left
          · (intro wz hSw; (try dsimp only at hSw); go_simp; with_reducible rfl)
          try simp only [Act.put, List.setIfInBounds_toArray, List.set_cons_zero, List.set_cons_succ]
          refine wpAnyG_takeY (i := 4) (v := ?_) rfl (by kernel_rfl) (by decide +kernel) (by decide +kernel) (by decide +kernel) (fun _ _ _ h => h) (by kernel_rfl) ?_ (by assumption) ?_
          rotate_left
          · (intro wz; go_simp; with_reducible rfl)
          try simp only [Act.put, List.setIfInBounds_toArray, List.set_cons_zero, List.set_cons_succ]
          refine wpAnyG_takeY (i := 5) (v := ?_) rfl (by kernel_rfl) (by decide +kernel) (by decide +kernel) (by decide +kernel) (fun _ _ _ h => h) (by kernel_rfl) ?_ (by assumption) ?_
          rotate_left
          · (intro wz; go_simp; with_reducible rfl)
          try simp only [Act.put, List.setIfInBounds_toArray, List.set_cons_zero, List.set_cons_succ]
          refine wpAnyG_takeY (i := 6) (v := ?_) rfl (by kernel_rfl) (by decide +kernel) (by decide +kernel) (by decide +kernel) (fun _ _ _ h => h) (by kernel_rfl) ?_ (by assumption) ?_
          rotate_left
          · (intro wz; go_simp; with_reducible rfl)
          try simp only [Act.put, List.setIfInBounds_toArray, List.set_cons_zero, List.set_cons_succ]
          refine wpAnyG_takeY (i := 7) (v := ?_) rfl (by kernel_rfl) (by decide +kernel) (by decide +kernel) (by decide +kernel) (fun _ _ _ h => h) (by kernel_rfl) ?_ (by assumption) ?_
          rotate_left
          · (intro wz; go_simp; with_reducible rfl)
          try simp only [Act.put, List.setIfInBounds_toArray, List.set_cons_zero, List.set_cons_succ]
          refine wpAnyG_takeY (i := 8) (v := ?_) rfl (by kernel_rfl) (by decide +kernel) (by decide +kernel) (by decide +kernel) (fun _ _ _ h => h) (by kernel_rfl) ?_ (by assumption) ?_
          rotate_left
          · (intro wz; go_simp; with_reducible rfl)
          try simp only [Act.put, List.setIfInBounds_toArray, List.set_cons_zero, List.set_cons_succ]
          refine wpAnyG_takeY (i := 9) (v := ?_) rfl (by kernel_rfl) (by decide +kernel) (by decide +kernel) (by decide +kernel) (fun _ _ _ h => h) (by kernel_rfl) ?_ (by assumption) ?_
          rotate_left
          · (intro wz; go_simp; with_reducible rfl)
          try simp only [Act.put, List.setIfInBounds_toArray, List.set_cons_zero, List.set_cons_succ]
          refine wpAnyG_take (i := 10) (v := ?_) rfl (by kernel_rfl) (by decide +kernel) (by decide +kernel) (by decide +kernel) (by decide +kernel) (by rfl) (fun _ _ _ h => h) (by kernel_rfl) ?_ (by assumption) ?_
          rotate_left
          · (intro wz hSw; (try dsimp only at hSw); go_simp; with_reducible rfl)
          try simp only [Act.put, List.setIfInBounds_toArray, List.set_cons_zero, List.set_cons_succ]
          refine wpAnyG_takeY (i := 11) (v := ?_) rfl (by kernel_rfl) (by decide +kernel) (by decide +kernel) (by decide +kernel) (fun _ _ _ h => h) (by kernel_rfl) ?_ (by assumption) ?_
          rotate_left
          · (intro wz; go_simp; with_reducible rfl)
          try simp only [Act.put, List.setIfInBounds_toArray, List.set_cons_zero, List.set_cons_succ]
          refine wpAnyG_takeY (i := 12) (v := ?_) rfl (by kernel_rfl) (by decide +kernel) (by decide +kernel) (by decide +kernel) (fun _ _ _ h => h) (by kernel_rfl) ?_ (by assumption) ?_
          rotate_left
          · (intro wz; go_simp; with_reducible rfl)
          try simp only [Act.put, List.setIfInBounds_toArray, List.set_cons_zero, List.set_cons_succ]
          refine wpAnyG_takeY (i := 13) (v := ?_) rfl (by kernel_rfl) (by decide +kernel) (by decide +kernel) (by decide +kernel) (fun _ _ _ h => h) (by kernel_rfl) ?_ (by assumption) ?_
          rotate_left
          · (intro wz; go_simp; with_reducible rfl)
          try simp only [Act.put, List.setIfInBounds_toArray, List.set_cons_zero, List.set_cons_succ]
          refine wpAnyG_take (i := 14) (v := ?_) rfl (by kernel_rfl) (by decide +kernel) (by decide +kernel) (by decide +kernel) (by decide +kernel) (by rfl) (fun _ _ _ h => h) (by kernel_rfl) ?_ (by assumption) ?_
          rotate_left
          · (intro wz hSw; (try dsimp only at hSw); go_simp; with_reducible rfl)
          try simp only [Act.put, List.setIfInBounds_toArray, List.set_cons_zero, List.set_cons_succ]
          refine wpAnyG_takeY (i := 15) (v := ?_) rfl (by kernel_rfl) (by decide +kernel) (by decide +kernel) (by decide +kernel) (fun _ _ _ h => h) (by kernel_rfl) ?_ (by assumption) ?_
          rotate_left
          · (intro wz; go_simp; with_reducible rfl)
          try simp only [Act.put, List.setIfInBounds_toArray, List.set_cons_zero, List.set_cons_succ]
          refine wpAnyG_takeY (i := 16) (v := ?_) rfl (by kernel_rfl) (by decide +kernel) (by decide +kernel) (by decide +kernel) (fun _ _ _ h => h) (by kernel_rfl) ?_ (by assumption) ?_
          rotate_left
          · (intro wz; go_simp; with_reducible rfl)
          try simp only [Act.put, List.setIfInBounds_toArray, List.set_cons_zero, List.set_cons_succ]
          refine wpAnyG_done (by kernel_rfl) ?_ _
          go_simp
          try rw [dl]
          clear dl
          have HTK := Lib.hid htk
          have KR := Lib.hid (Keeps.drew hkr)
          have BR := Lib.hid (has_drew (KR0.out.has B1.out (by simp)))
          have z0 : wr.drew.cell? ⟨g, p * 5, none⟩ = some (.bool x.live) := q0
          have z1 : wr.drew.cell? ⟨g, p * 5 + 1, none⟩ = some (.int .i64 x.hash) := q1
          have z2 : wr.drew.cell? ⟨g, p * 5 + 2, none⟩ = some (.int .i64 x.key) := q2
          have z3 : wr.drew.cell? ⟨g, p * 5 + 3, none⟩ = some (.int .i64 x.val) := q3
          have z4 : wr.drew.cell? ⟨g, p * 5 + 4, none⟩ = some (.int .i64 x.birth) := q4
          clear hkr hF htk c3 c4 q0 q1 q2 q3 q4
          go_wp2_with fail
          refine (rtells9_any b db s x _ BR.out).mono ?_
          rintro r w4 ⟨rfl, b4, k4⟩
          have B4 := Lib.hid b4
          have K4 := Lib.hid k4
          clear b4 k4 z0 z1 z2 z3 z4
          have b3 : w4.heap[lr]? = some (entR noE) := K4.out.has (KR.out.has T1.out (by simp)) (by have := LB.out; simp; omega)
          have B3 := Lib.hid b3
          unfold entR at b3
          have s0 : w4.cell? ⟨lr, 0, none⟩ = some (.bool noE.live) := cell_has b3 (i := 0) rfl
          have s1 : w4.cell? ⟨lr, 1, none⟩ = some (.int .i64 noE.hash) := cell_has b3 (i := 1) rfl
          have s2 : w4.cell? ⟨lr, 2, none⟩ = some (.int .i64 noE.key) := cell_has b3 (i := 2) rfl
          have s3 : w4.cell? ⟨lr, 3, none⟩ = some (.int .i64 noE.val) := cell_has b3 (i := 3) rfl
          have s4 : w4.cell? ⟨lr, 4, none⟩ = some (.int .i64 noE.birth) := cell_has b3 (i := 4) rfl
          have g0 := free_of_has b3 0
          have g1 := free_of_has b3 1
          have g2 := free_of_has b3 2
          have g3 := free_of_has b3 3
          have g4 := free_of_has b3 4
          clear b3
          simp only [Ent.agg]
          go_wp2_with fail
          obtain ⟨q1, q2⟩ := entR_store noE x B3.out
          have q9 := q1
          unfold entR at q9
          have rc1 := cell_of_has q9
          have hp : s.pick (liveL d.T.E) = some x := pick_bk HBK.out HX.out HTK.out (fun j y hj hy => HNO.out j y (by have := hph.out; omega) hy)
          obtain ⟨f1, f2, f3⟩ := rs_some HO.out HS.out hp
          have hlr := HLR.out
          refine bodyPost_ret (v := .tuple #[x.agg, .int .i64 0]) (by simp [results, Tryz.results28, go_sem, Ent.agg, rc1]) rfl ⟨by rw [f1, f2], ?_, ?_⟩
          · rw [f3]; exact q2.has B4.out (by have := LB.out; simp; omega)
          · exact (((KB.out.trans K1.out).trans KR.out).mono (by simp) |>.trans K4.out).then q2 (by intro z hz; simp at hz; left; omega)
        · have htk : s.takes x = false := by unfold Rst.takes; rw [hbg, HBK.out]; simpa using hbl
          have dl : decide (x.birth < s.last) = false := by simpa using hbl
          clear hbg
          refine wp_regionG (fun w' => w'.cell? ⟨b, 4, none⟩ = some (.bool true) ∧ w'.cell? ⟨b, 3, none⟩ = some (.int .i64 s.last) ∧ w'.cell? ⟨g, p * 5 + 4, none⟩ = some (.int .i64 x.birth)) 17 (by kernel_rfl) ⟨c4, c3, q4⟩ (fun hF => ?_)
          refine wpAnyG_takeY (i := 0) (v := ?_) rfl (by kernel_rfl) (by decide +kernel) (by decide +kernel) (by decide +kernel) (fun _ _ _ h => h) (by kernel_rfl) ?_ (by assumption) ?_
          rotate_left
          · (intro wz; go_simp; with_reducible rfl)
          try simp only [Act.put, List.setIfInBounds_toArray, List.set_cons_zero, List.set_cons_succ]
          refine wpAnyG_takeY (i := 1) (v := ?_) rfl (by kernel_rfl) (by decide +kernel) (by decide +kernel) (by decide +kernel) (fun _ _ _ h => h) (by kernel_rfl) ?_ (by assumption) ?_
          rotate_left
          · (intro wz; go_simp; with_reducible rfl)
          try simp only [Act.put, List.setIfInBounds_toArray, List.set_cons_zero, List.set_cons_succ]
          refine wpAnyG_takeY (i := 2) (v := ?_) rfl (by kernel_rfl) (by decide +kernel) (by decide +kernel) (by decide +kernel) (fun _ _ _ h => h) (by kernel_rfl) ?_ (by assumption) ?_
          rotate_left
          · (intro wz; go_simp; with_reducible rfl)
          try simp only [Act.put, List.setIfInBounds_toArray, List.set_cons_zero, List.set_cons_succ]
          refine wpAnyG_take (i := 3) (v := ?_) rfl (by kernel_rfl) (by decide +kernel) (by decide +kernel) (by decide +kernel) (by decide +kernel) (by rfl) (fun _ _ _ h => h) (by kernel_rfl) ?_ (by assumption) ?_
          rotate_left
          · (intro wz hSw; (try dsimp only at hSw); go_simp; with_reducible rfl)
          try simp only [Act.put, List.setIfInBounds_toArray, List.set_cons_zero, List.set_cons_succ]
          refine wpAnyG_takeY (i := 4) (v := ?_) rfl (by kernel_rfl) (by decide +kernel) (by decide +kernel) (by decide +kernel) (fun _ _ _ h => h) (by kernel_rfl) ?_ (by assumption) ?_
          rotate_left
          · (intro wz; go_simp; with_reducible rfl)
          try simp only [Act.put, List.setIfInBounds_toArray, List.set_cons_zero, List.set_cons_succ]
          refine wpAnyG_takeY (i := 5) (v := ?_) rfl (by kernel_rfl) (by decide +kernel) (by decide +kernel) (by decide +kernel) (fun _ _ _ h => h) (by kernel_rfl) ?_ (by assumption) ?_
          rotate_left
          · (intro wz; go_simp; with_reducible rfl)
          try simp only [Act.put, List.setIfInBounds_toArray, List.set_cons_zero, List.set_cons_succ]
          refine wpAnyG_takeY (i := 6) (v := ?_) rfl (by kernel_rfl) (by decide +kernel) (by decide +kernel) (by decide +kernel) (fun _ _ _ h => h) (by kernel_rfl) ?_ (by assumption) ?_
          rotate_left
          · (intro wz; go_simp; with_reducible rfl)
          try simp only [Act.put, List.setIfInBounds_toArray, List.set_cons_zero, List.set_cons_succ]
          refine wpAnyG_takeY (i := 7) (v := ?_) rfl (by kernel_rfl) (by decide +kernel) (by decide +kernel) (by decide +kernel) (fun _ _ _ h => h) (by kernel_rfl) ?_ (by assumption) ?_
          rotate_left
          · (intro wz; go_simp; with_reducible rfl)
          try simp only [Act.put, List.setIfInBounds_toArray, List.set_cons_zero, List.set_cons_succ]
          refine wpAnyG_takeY (i := 8) (v := ?_) rfl (by kernel_rfl) (by decide +kernel) (by decide +kernel) (by decide +kernel) (fun _ _ _ h => h) (by kernel_rfl) ?_ (by assumption) ?_
          rotate_left
          · (intro wz; go_simp; with_reducible rfl)
          try simp only [Act.put, List.setIfInBounds_toArray, List.set_cons_zero, List.set_cons_succ]
          refine wpAnyG_takeY (i := 9) (v := ?_) rfl (by kernel_rfl) (by decide +kernel) (by decide +kernel) (by decide +kernel) (fun _ _ _ h => h) (by kernel_rfl) ?_ (by assumption) ?_
          rotate_left
          · (intro wz; go_simp; with_reducible rfl)
          try simp only [Act.put, List.setIfInBounds_toArray, List.set_cons_zero, List.set_cons_succ]
          refine wpAnyG_take (i := 10) (v := ?_) rfl (by kernel_rfl) (by decide +kernel) (by decide +kernel) (by decide +kernel) (by decide +kernel) (by rfl) (fun _ _ _ h => h) (by kernel_rfl) ?_ (by assumption) ?_
          rotate_left
          · (intro wz hSw; (try dsimp only at hSw); go_simp; with_reducible rfl)
          try simp only [Act.put, List.setIfInBounds_toArray, List.set_cons_zero, List.set_cons_succ]
          refine wpAnyG_takeY (i := 11) (v := ?_) rfl (by kernel_rfl) (by decide +kernel) (by decide +kernel) (by decide +kernel) (fun _ _ _ h => h) (by kernel_rfl) ?_ (by assumption) ?_
          rotate_left
          · (intro wz; go_simp; with_reducible rfl)
          try simp only [Act.put, List.setIfInBounds_toArray, List.set_cons_zero, List.set_cons_succ]
          refine wpAnyG_takeY (i := 12) (v := ?_) rfl (by kernel_rfl) (by decide +kernel) (by decide +kernel) (by decide +kernel) (fun _ _ _ h => h) (by kernel_rfl) ?_ (by assumption) ?_
          rotate_left
          · (intro wz; go_simp; with_reducible rfl)
          try simp only [Act.put, List.setIfInBounds_toArray, List.set_cons_zero, List.set_cons_succ]
          refine wpAnyG_takeY (i := 13) (v := ?_) rfl (by kernel_rfl) (by decide +kernel) (by decide +kernel) (by decide +kernel) (fun _ _ _ h => h) (by kernel_rfl) ?_ (by assumption) ?_
          rotate_left
          · (intro wz; go_simp; with_reducible rfl)
          try simp only [Act.put, List.setIfInBounds_toArray, List.set_cons_zero, List.set_cons_succ]
          refine wpAnyG_take (i := 14) (v := ?_) rfl (by kernel_rfl) (by decide +kernel) (by decide +kernel) (by decide +kernel) (by decide +kernel) (by rfl) (fun _ _ _ h => h) (by kernel_rfl) ?_ (by assumption) ?_
          rotate_left
          · (intro wz hSw; (try dsimp only at hSw); go_simp; with_reducible rfl)
          try simp only [Act.put, List.setIfInBounds_toArray, List.set_cons_zero, List.set_cons_succ]
          refine wpAnyG_takeY (i := 15) (v := ?_) rfl (by kernel_rfl) (by decide +kernel) (by decide +kernel) (by decide +kernel) (fun _ _ _ h => h) (by kernel_rfl) ?_ (by assumption) ?_
          rotate_left
          · (intro wz; go_simp; with_reducible rfl)
          try simp only [Act.put, List.setIfInBounds_toArray, List.set_cons_zero, List.set_cons_succ]
          refine wpAnyG_takeY (i := 16) (v := ?_) rfl (by kernel_rfl) (by decide +kernel) (by decide +kernel) (by decide +kernel) (fun _ _ _ h => h) (by kernel_rfl) ?_ (by assumption) ?_
          rotate_left
          · (intro wz; go_simp; with_reducible rfl)
          try simp only [Act.put, List.setIfInBounds_toArray, List.set_cons_zero, List.set_cons_succ]
          refine wpAnyG_done (by kernel_rfl) ?_ _
          go_simp
          try rw [dl]
          have HTK := Lib.hid htk
          have KR := Lib.hid (Keeps.drew hkr)
          clear dl hF htk c3 c4 q0 q1 q2 q3 q4 hkr hbl
          go_wp2_with fail
          go_roundw
          case rel =>
            have hph' := hph.out
            refine ⟨k + 1, by omega, by go_num, ?_, KR.out⟩
            intro j y hj hy
            by_cases hjp : j = p
            · subst hjp; rw [HX.out] at hy; cases hy; exact HTK.out
            · exact HNO.out j y (by omega) hy
          case measure => have := hph.out; simp [intOf] <;> omega
    · obtain rfl : k = n := by omega
      have hge : (k : Int) - 1 - k = -1 := by omega
      rw [hge]
      have d0 : decide ((0 : Int) ≤ (-1 : Int)) = false := rfl
      have KR := Lib.hid hkr
      have br := hkr.has B1.out (by simp)
      have c5 := (rst_cells br).2.2.2.2.2
      have f5 := free_of_has br 5
      have BR := Lib.hid br
      have SO := Lib.hid (rst_over br 10)
      clear br hkr c2
      have b3 : wr.heap[lr]? = some (entR noE) := KR.out.has T1.out (by simp)
      have B3 := Lib.hid b3
      unfold entR at b3
      have s0 : wr.cell? ⟨lr, 0, none⟩ = some (.bool noE.live) := cell_has b3 (i := 0) rfl
      have s1 : wr.cell? ⟨lr, 1, none⟩ = some (.int .i64 noE.hash) := cell_has b3 (i := 1) rfl
      have s2 : wr.cell? ⟨lr, 2, none⟩ = some (.int .i64 noE.key) := cell_has b3 (i := 2) rfl
      have s3 : wr.cell? ⟨lr, 3, none⟩ = some (.int .i64 noE.val) := cell_has b3 (i := 3) rfl
      have s4 : wr.cell? ⟨lr, 4, none⟩ = some (.int .i64 noE.birth) := cell_has b3 (i := 4) rfl
      have g0 := free_of_has b3 0
      have g1 := free_of_has b3 1
      have g2 := free_of_has b3 2
      have g3 := free_of_has b3 3
      have g4 := free_of_has b3 4
      clear b3
      have nbl : ¬ b = lr := by have := LB.out; omega
      have nlb : ¬ lr = b := by have := LB.out; omega
      go_wp2_with fail
      have B3s := SO.out.2.has B3.out (by have := LB.out; simp; omega)
      obtain ⟨q1, q2⟩ := entR_store noE noE B3s
      have q9 := q1
      unfold entR at q9
      have rc1 := cell_of_has q9
      have hp : s.pick (liveL d.T.E) = none := pick_none (fun j y hy => HNO.out j y (by omega) hy)
      obtain ⟨f1, f2, f3⟩ := rs_none HO.out HS.out hp
      have hlr := HLR.out
      show bodyPost _ _ _ _ _ (((((((wr.setCell ⟨b, 5, none⟩ (.int .i64 10)).setCell ⟨lr, 0, none⟩ (.bool noE.live)).setCell ⟨lr, 1, none⟩ (.int .i64 noE.hash)).setCell ⟨lr, 2, none⟩ (.int .i64 noE.key)).setCell ⟨lr, 3, none⟩ (.int .i64 noE.val)).setCell ⟨lr, 4, none⟩ (.int .i64 noE.birth)))
      refine bodyPost_ret (v := .tuple #[noE.agg, .int .i64 10]) (by simp [results, Tryz.results28, go_sem, Ent.agg, rc1]) rfl ⟨by rw [f1, f2], ?_, ?_⟩
      · rw [f3]; exact q2.has SO.out.1 (by have := LB.out; simp; omega)
      · exact ((((KB.out.trans K1.out).trans KR.out).mono (by simp)).trans SO.out.2).then q2 (by intro z hz; simp at hz; left; omega)
set_option maxRecDepth 100000 in
set_option maxHeartbeats 4000000 in
theorem rsnext_fw (db t lo : Nat) (S : List Nat) (m : Option Nat) (d : Dic) (b : Nat) (s : Rst) (w : World) (HD : RDicAt db t lo S m d w) (H : w.heap[b]? = some (rstO db s)) (ho : s.over = 0) (hs : liveN d.T.E = s.len) (hbk : s.back = false) (hl : d.T.E.length ≤ 1000) :
    Calls Tryz.prog 28 #[.pointer (some ⟨b, 0, none⟩)] w (RsP b db d s w) := by
  obtain ⟨lr, hlr⟩ : ∃ lr, lr = w.heap.size := ⟨_, rfl⟩
  obtain ⟨WA, hWA⟩ : ∃ WA, w.alloc (.cells #[.bool false, .int .i64 0, .int .i64 0, .int .i64 0, .int .i64 0] 78) = WA := ⟨_, rfl⟩
  have kb : Keeps [] w WA := by rw [← hWA]; exact (Keeps.refl [] w).alloc _
  have KB := Lib.hid kb
  have BT := Lib.hid (show WA.heap[lr]? = some (entR noE) by rw [← hWA, hlr]; exact has_new _ _)
  have HWA := Lib.hid hWA
  have HLR := Lib.hid hlr
  have LB := Lib.hid (show b < lr by rw [hlr]; exact lt_of_block H)
  have HB := Lib.hid (kb.has H (by simp))
  have DA := Lib.hid (HD.keeps kb (by simp) (by simp))
  obtain ⟨c0, c1, c2, c3, c4, c5⟩ := rst_cells HB.out
  rw [ho] at c5
  rw [hbk] at c2
  obtain ⟨n, hn⟩ := ex_hid (liveN d.T.E)
  rw [← hs, ← hn.out] at c1
  have nb : (n : Int) ≤ 1000 := by rw [hn.out]; have := liveN_le d.T.E; omega
  have HO := Lib.hid ho
  have HS := Lib.hid hs
  have HBK := Lib.hid hbk
  have hlen : (liveL d.T.E).length = n := by rw [liveL_len, hn.out]
  have HLN := Lib.hid hlen
  obtain ⟨ta, tc, tq, b1, b2, _⟩ := DA.out.t
  have RN := rall_any t lo d.T.L tc ta d.T.E _ _ _ _ _ _ WA.drew (has_drew b1) (EntRow.drew b2) (by omega)
  have RNH := Lib.hid RN
  have D0 := Lib.hid (DA.out.keeps (Keeps.refl [] WA).drew (by simp) (by simp))
  have y2 : WA.cell? ⟨db, 2, none⟩ = some (.pointer (some ⟨t, 0, none⟩)) := cell_has DA.out.b (i := 2) rfl
  have Y2 := Lib.hid y2
  clear hlr hWA kb H HD ho hs hbk hl hlen b1 b2 RN c2 c3 c4 y2
  go_enter Tryz.func28, Tryz.ntmps28
  go_upto_region 1 with (fail)
  rw [HWA.out, ← HLR.out]
  go_upto_region 3 with (fail)
  go_region_held3 (fun w' => w'.cell? ⟨b, 0, none⟩ = some (.pointer (some ⟨db, 0, none⟩)) ∧ w'.cell? ⟨b, 1, none⟩ = some (.int .i64 n)) (go_keep) (first | (go_at_call 41; refine (rlen8_any db t lo S m d _ D0.out).mono ?_; rintro r w1 ⟨rfl, rfl⟩; rw [← hn.out]))
  have y2 : WA.drew.cell? ⟨db, 2, none⟩ = some (.pointer (some ⟨t, 0, none⟩)) := Y2.out
  have c0d : WA.drew.cell? ⟨b, 0, none⟩ = some (.pointer (some ⟨db, 0, none⟩)) := c0
  go_wp2_with fail
  refine RNH.out.mono ?_
  rintro r w1 ⟨ra, rc, rfl, e1, k1⟩
  rw [← hn.out]
  have E1 := Lib.hid e1
  have K1 := Lib.hid ((Keeps.refl [] WA).drew.trans k1)
  have hsh : 0 < n → ∃ g, ra = some ⟨g, 0, none⟩ := fun h => e1.shape (by rw [HLN.out]; exact h)
  have HSH := Lib.hid hsh
  have B1 := Lib.hid (K1.out.has HB.out (by simp))
  have T1 := Lib.hid (K1.out.has BT.out (by simp))
  have c2 : w1.cell? ⟨b, 2, none⟩ = some (.bool s.back) := (rst_cells B1.out).2.2.1
  rw [HBK.out] at c2
  clear e1 k1 hsh c0 c1 c5 c0d y2
  go_wp2_with fail
  go_loopw [6] (fun i wr => ∃ k : Nat, k ≤ n ∧ i = .int .i64 k ∧ (∀ (j : Nat) (y : Ent), j < k → (liveL d.T.E)[j]? = some y → s.takes y = false) ∧ Keeps [] w1 wr) (fun i _ => n - (intOf i).toNat)
  case atStart => exact ⟨0, by omega, by go_num, fun j y hj hy => absurd hj (by omega), Keeps.refl _ _⟩
  case round =>
    obtain ⟨k, hk, rfl, hno, hkr⟩ := hrel
    have HNO := Lib.hid hno
    have KR0 := Lib.hid hkr
    clear hno
    by_cases hlt : k < n
    · obtain ⟨g, rfl⟩ := HSH.out (by omega)
      obtain ⟨p, rfl⟩ : ∃ p, p = k := ⟨_, rfl⟩
      have hpn : (p : Int) < (n : Int) := by omega
      have p0 : (0 : Int) ≤ (p : Int) := by omega
      have hpn' : p < n := hlt
      have hpL : p < (liveL d.T.E).length := by rw [HLN.out]; exact hpn'
      obtain ⟨x, hx⟩ : ∃ x, (liveL d.T.E)[p]? = some x := ⟨_, List.getElem?_eq_getElem hpL⟩
      have HX := Lib.hid hx
      have er := E1.out.keeps hkr (by simp)
      have q0 : wr.cell? ⟨g, p * 5, none⟩ = some (.bool x.live) := er.cell hx 0 (by omega)
      have q1 : wr.cell? ⟨g, p * 5 + 1, none⟩ = some (.int .i64 x.hash) := er.cell hx 1 (by omega)
      have q2 : wr.cell? ⟨g, p * 5 + 2, none⟩ = some (.int .i64 x.key) := er.cell hx 2 (by omega)
      have q3 : wr.cell? ⟨g, p * 5 + 3, none⟩ = some (.int .i64 x.val) := er.cell hx 3 (by omega)
      have q4 : wr.cell? ⟨g, p * 5 + 4, none⟩ = some (.int .i64 x.birth) := er.cell hx 4 (by omega)
      obtain ⟨_, _, _, c3, c4, _⟩ := rst_cells (hkr.has B1.out (by simp))
      clear hpL hx er c2
      go_upto_region 16 with (fail)
      cases hbg : s.begun
      · rw [hbg] at c4
        have htk : s.takes x = true := by unfold Rst.takes; rw [hbg]; rfl
        clear hbg
        refine wp_regionG (fun w' => w'.cell? ⟨b, 4, none⟩ = some (.bool false) ∧ w'.cell? ⟨b, 3, none⟩ = some (.int .i64 s.last) ∧ w'.cell? ⟨g, p * 5 + 4, none⟩ = some (.int .i64 x.birth)) 17 (by kernel_rfl) ⟨c4, c3, q4⟩ (fun hF => ?_)
        refine wpAnyG_takeY (i := 0) (v := ?_) rfl (by kernel_rfl) (by decide +kernel) (by decide +kernel) (by decide +kernel) (fun _ _ _ h => h) (by kernel_rfl) ?_ (by assumption) ?_
        rotate_left
        · (intro wz; go_simp; with_reducible rfl)
        try simp only [Act.put, List.setIfInBounds_toArray, List.set_cons_zero, List.set_cons_succ]
        refine wpAnyG_takeY (i := 1) (v := ?_) rfl (by kernel_rfl) (by decide +kernel) (by decide +kernel) (by decide +kernel) (fun _ _ _ h => h) (by kernel_rfl) ?_ (by assumption) ?_
        rotate_left
        · (intro wz; go_simp; with_reducible rfl)
        try simp only [Act.put, List.setIfInBounds_toArray, List.set_cons_zero, List.set_cons_succ]
        refine wpAnyG_takeY (i := 2) (v := ?_) rfl (by kernel_rfl) (by decide +kernel) (by decide +kernel) (by decide +kernel) (fun _ _ _ h => h) (by kernel_rfl) ?_ (by assumption) ?_
        rotate_left
        · (intro wz; go_simp; with_reducible rfl)
        try simp only [Act.put, List.setIfInBounds_toArray, List.set_cons_zero, List.set_cons_succ]
        refine wpAnyG_take (i := 3) (v := ?_) rfl (by kernel_rfl) (by decide +kernel) (by decide +kernel) (by decide +kernel) (by decide +kernel) (by rfl) (fun _ _ _ h => h) (by kernel_rfl) ?_ (by assumption) ?_
        rotate_left
        · (intro wz hSw; (try dsimp only at hSw); go_simp; with_reducible rfl)
        try simp only [Act.put, List.setIfInBounds_toArray, List.set_cons_zero, List.set_cons_succ]
        refine wpAnyG_takeY (i := 4) (v := ?_) rfl (by kernel_rfl) (by decide +kernel) (by decide +kernel) (by decide +kernel) (fun _ _ _ h => h) (by kernel_rfl) ?_ (by assumption) ?_
        rotate_left
        · (intro wz; go_simp; with_reducible rfl)
        try simp only [Act.put, List.setIfInBounds_toArray, List.set_cons_zero, List.set_cons_succ]
        refine wpAnyG_takeY (i := 5) (v := ?_) rfl (by kernel_rfl) (by decide +kernel) (by decide +kernel) (by decide +kernel) (fun _ _ _ h => h) (by kernel_rfl) ?_ (by assumption) ?_
        rotate_left
        · (intro wz; go_simp; with_reducible rfl)
        try simp only [Act.put, List.setIfInBounds_toArray, List.set_cons_zero, List.set_cons_succ]
        refine wpAnyG_takeU (i := 6) rfl (by kernel_rfl) (by decide +kernel) (by decide +kernel) (by decide +kernel) (fun _ _ _ h => h) (by kernel_rfl) (by assumption) ?_
        try simp only [Act.put, List.setIfInBounds_toArray, List.set_cons_zero, List.set_cons_succ]
        refine wpAnyG_takeU (i := 7) rfl (by kernel_rfl) (by decide +kernel) (by decide +kernel) (by decide +kernel) (fun _ _ _ h => h) (by kernel_rfl) (by assumption) ?_
        try simp only [Act.put, List.setIfInBounds_toArray, List.set_cons_zero, List.set_cons_succ]
        refine wpAnyG_takeU (i := 8) rfl (by kernel_rfl) (by decide +kernel) (by decide +kernel) (by decide +kernel) (fun _ _ _ h => h) (by kernel_rfl) (by assumption) ?_
        try simp only [Act.put, List.setIfInBounds_toArray, List.set_cons_zero, List.set_cons_succ]
        refine wpAnyG_takeU (i := 9) rfl (by kernel_rfl) (by decide +kernel) (by decide +kernel) (by decide +kernel) (fun _ _ _ h => h) (by kernel_rfl) (by assumption) ?_
        try simp only [Act.put, List.setIfInBounds_toArray, List.set_cons_zero, List.set_cons_succ]
        refine wpAnyG_takeU (i := 10) rfl (by kernel_rfl) (by decide +kernel) (by decide +kernel) (by decide +kernel) (fun _ _ _ h => h) (by kernel_rfl) (by assumption) ?_
        try simp only [Act.put, List.setIfInBounds_toArray, List.set_cons_zero, List.set_cons_succ]
        refine wpAnyG_takeU (i := 11) rfl (by kernel_rfl) (by decide +kernel) (by decide +kernel) (by decide +kernel) (fun _ _ _ h => h) (by kernel_rfl) (by assumption) ?_
        try simp only [Act.put, List.setIfInBounds_toArray, List.set_cons_zero, List.set_cons_succ]
        refine wpAnyG_takeU (i := 12) rfl (by kernel_rfl) (by decide +kernel) (by decide +kernel) (by decide +kernel) (fun _ _ _ h => h) (by kernel_rfl) (by assumption) ?_
        try simp only [Act.put, List.setIfInBounds_toArray, List.set_cons_zero, List.set_cons_succ]
        refine wpAnyG_takeU (i := 13) rfl (by kernel_rfl) (by decide +kernel) (by decide +kernel) (by decide +kernel) (fun _ _ _ h => h) (by kernel_rfl) (by assumption) ?_
        try simp only [Act.put, List.setIfInBounds_toArray, List.set_cons_zero, List.set_cons_succ]
        refine wpAnyG_takeU (i := 14) rfl (by kernel_rfl) (by decide +kernel) (by decide +kernel) (by decide +kernel) (fun _ _ _ h => h) (by kernel_rfl) (by assumption) ?_
        try simp only [Act.put, List.setIfInBounds_toArray, List.set_cons_zero, List.set_cons_succ]
        refine wpAnyG_takeU (i := 15) rfl (by kernel_rfl) (by decide +kernel) (by decide +kernel) (by decide +kernel) (fun _ _ _ h => h) (by kernel_rfl) (by assumption) ?_
        try simp only [Act.put, List.setIfInBounds_toArray, List.set_cons_zero, List.set_cons_succ]
        refine wpAnyG_takeY (i := 16) (v := ?_) rfl (by kernel_rfl) (by decide +kernel) (by decide +kernel) (by decide +kernel) (fun _ _ _ h => h) (by kernel_rfl) ?_ (by assumption) ?_
        rotate_left
        · (intro wz; go_simp; with_reducible rfl)
        try simp only [Act.put, List.setIfInBounds_toArray, List.set_cons_zero, List.set_cons_succ]
        refine wpAnyG_done (by kernel_rfl) ?_ _
        go_simp
        have HTK := Lib.hid htk
        have KR := Lib.hid (Keeps.drew hkr)
        have BR := Lib.hid (has_drew (KR0.out.has B1.out (by simp)))
        have z0 : wr.drew.cell? ⟨g, p * 5, none⟩ = some (.bool x.live) := q0
        have z1 : wr.drew.cell? ⟨g, p * 5 + 1, none⟩ = some (.int .i64 x.hash) := q1
        have z2 : wr.drew.cell? ⟨g, p * 5 + 2, none⟩ = some (.int .i64 x.key) := q2
        have z3 : wr.drew.cell? ⟨g, p * 5 + 3, none⟩ = some (.int .i64 x.val) := q3
        have z4 : wr.drew.cell? ⟨g, p * 5 + 4, none⟩ = some (.int .i64 x.birth) := q4
        clear hkr hF htk c3 c4 q0 q1 q2 q3 q4
        go_wp2_with fail
        refine (rtells9_any b db s x _ BR.out).mono ?_
        rintro r w4 ⟨rfl, b4, k4⟩
        have B4 := Lib.hid b4
        have K4 := Lib.hid k4
        clear b4 k4 z0 z1 z2 z3 z4
        have b3 : w4.heap[lr]? = some (entR noE) := K4.out.has (KR.out.has T1.out (by simp)) (by have := LB.out; simp; omega)
        have B3 := Lib.hid b3
        unfold entR at b3
        have s0 : w4.cell? ⟨lr, 0, none⟩ = some (.bool noE.live) := cell_has b3 (i := 0) rfl
        have s1 : w4.cell? ⟨lr, 1, none⟩ = some (.int .i64 noE.hash) := cell_has b3 (i := 1) rfl
        have s2 : w4.cell? ⟨lr, 2, none⟩ = some (.int .i64 noE.key) := cell_has b3 (i := 2) rfl
        have s3 : w4.cell? ⟨lr, 3, none⟩ = some (.int .i64 noE.val) := cell_has b3 (i := 3) rfl
        have s4 : w4.cell? ⟨lr, 4, none⟩ = some (.int .i64 noE.birth) := cell_has b3 (i := 4) rfl
        have g0 := free_of_has b3 0
        have g1 := free_of_has b3 1
        have g2 := free_of_has b3 2
        have g3 := free_of_has b3 3
        have g4 := free_of_has b3 4
        clear b3
        simp only [Ent.agg]
        go_wp2_with fail
        obtain ⟨q1, q2⟩ := entR_store noE x B3.out
        have q9 := q1
        unfold entR at q9
        have rc1 := cell_of_has q9
        have hp : s.pick (liveL d.T.E) = some x := pick_fw HBK.out HX.out HTK.out (fun j y hj hy => HNO.out j y (by omega) hy)
        obtain ⟨f1, f2, f3⟩ := rs_some HO.out HS.out hp
        have hlr := HLR.out
        refine bodyPost_ret (v := .tuple #[x.agg, .int .i64 0]) (by simp [results, Tryz.results28, go_sem, Ent.agg, rc1]) rfl ⟨by rw [f1, f2], ?_, ?_⟩
        · rw [f3]; exact q2.has B4.out (by have := LB.out; simp; omega)
        · exact (((KB.out.trans K1.out).trans KR.out).mono (by simp) |>.trans K4.out).then q2 (by intro z hz; simp at hz; left; omega)
      · rw [hbg] at c4
        by_cases hbl : s.last < x.birth
        · have htk : s.takes x = true := by unfold Rst.takes; rw [hbg, HBK.out]; simpa using hbl
          have dl : decide (s.last < x.birth) = true := by simpa using hbl
          clear hbg
          refine wp_regionG (fun w' => w'.cell? ⟨b, 4, none⟩ = some (.bool true) ∧ w'.cell? ⟨b, 3, none⟩ = some (.int .i64 s.last) ∧ w'.cell? ⟨g, p * 5 + 4, none⟩ = some (.int .i64 x.birth)) 17 (by kernel_rfl) ⟨c4, c3, q4⟩ (fun hF => ?_)
          refine wpAnyG_takeY (i := 0) (v := ?_) rfl (by kernel_rfl) (by decide +kernel) (by decide +kernel) (by decide +kernel) (fun _ _ _ h => h) (by kernel_rfl) ?_ (by assumption) ?_
          rotate_left
          · (intro wz; go_simp; with_reducible rfl)
          try simp only [Act.put, List.setIfInBounds_toArray, List.set_cons_zero, List.set_cons_succ]
          refine wpAnyG_takeY (i := 1) (v := ?_) rfl (by kernel_rfl) (by decide +kernel) (by decide +kernel) (by decide +kernel) (fun _ _ _ h => h) (by kernel_rfl) ?_ (by assumption) ?_
          rotate_left
          · (intro wz; go_simp; with_reducible rfl)
          try simp only [Act.put, List.setIfInBounds_toArray, List.set_cons_zero, List.set_cons_succ]
          refine wpAnyG_takeY (i := 2) (v := ?_) rfl (by kernel_rfl) (by decide +kernel) (by decide +kernel) (by decide +kernel) (fun _ _ _ h => h) (by kernel_rfl) ?_ (by assumption) ?_
          rotate_left
          · (intro wz; go_simp; with_reducible rfl)
          try simp only [Act.put, List.setIfInBounds_toArray, List.set_cons_zero, List.set_cons_succ]
          refine wpAnyG_take (i := 3) (v := ?_) rfl (by kernel_rfl) (by decide +kernel) (by decide +kernel) (by decide +kernel) (by decide +kernel) (by rfl) (fun _ _ _ h => h) (by kernel_rfl) ?_ (by assumption) ?_
          rotate_left
          · (intro wz hSw; (try dsimp only at hSw); go_simp; with_reducible rfl)
          try simp only [Act.put, List.setIfInBounds_toArray, List.set_cons_zero, List.set_cons_succ]
          refine wpAnyG_takeY (i := 4) (v := ?_) rfl (by kernel_rfl) (by decide +kernel) (by decide +kernel) (by decide +kernel) (fun _ _ _ h => h) (by kernel_rfl) ?_ (by assumption) ?_
          rotate_left
          · (intro wz; go_simp; with_reducible rfl)
          try simp only [Act.put, List.setIfInBounds_toArray, List.set_cons_zero, List.set_cons_succ]
          refine wpAnyG_takeY (i := 5) (v := ?_) rfl (by kernel_rfl) (by decide +kernel) (by decide +kernel) (by decide +kernel) (fun _ _ _ h => h) (by kernel_rfl) ?_ (by assumption) ?_
          rotate_left
          · (intro wz; go_simp; with_reducible rfl)
          try simp only [Act.put, List.setIfInBounds_toArray, List.set_cons_zero, List.set_cons_succ]
          refine wpAnyG_takeY (i := 6) (v := ?_) rfl (by kernel_rfl) (by decide +kernel) (by decide +kernel) (by decide +kernel) (fun _ _ _ h => h) (by kernel_rfl) ?_ (by assumption) ?_
          rotate_left
          · (intro wz; go_simp; with_reducible rfl)
          try simp only [Act.put, List.setIfInBounds_toArray, List.set_cons_zero, List.set_cons_succ]
          refine wpAnyG_takeY (i := 7) (v := ?_) rfl (by kernel_rfl) (by decide +kernel) (by decide +kernel) (by decide +kernel) (fun _ _ _ h => h) (by kernel_rfl) ?_ (by assumption) ?_
          rotate_left
          · (intro wz; go_simp; with_reducible rfl)
          try simp only [Act.put, List.setIfInBounds_toArray, List.set_cons_zero, List.set_cons_succ]
          refine wpAnyG_takeY (i := 8) (v := ?_) rfl (by kernel_rfl) (by decide +kernel) (by decide +kernel) (by decide +kernel) (fun _ _ _ h => h) (by kernel_rfl) ?_ (by assumption) ?_
          rotate_left
          · (intro wz; go_simp; with_reducible rfl)
          try simp only [Act.put, List.setIfInBounds_toArray, List.set_cons_zero, List.set_cons_succ]
          refine wpAnyG_takeY (i := 9) (v := ?_) rfl (by kernel_rfl) (by decide +kernel) (by decide +kernel) (by decide +kernel) (fun _ _ _ h => h) (by kernel_rfl) ?_ (by assumption) ?_
          rotate_left
          · (intro wz; go_simp; with_reducible rfl)
          try simp only [Act.put, List.setIfInBounds_toArray, List.set_cons_zero, List.set_cons_succ]
          refine wpAnyG_take (i := 10) (v := ?_) rfl (by kernel_rfl) (by decide +kernel) (by decide +kernel) (by decide +kernel) (by decide +kernel) (by rfl) (fun _ _ _ h => h) (by kernel_rfl) ?_ (by assumption) ?_
          rotate_left
          · (intro wz hSw; (try dsimp only at hSw); go_simp; with_reducible rfl)
          try simp only [Act.put, List.setIfInBounds_toArray, List.set_cons_zero, List.set_cons_succ]
          refine wpAnyG_takeY (i := 11) (v := ?_) rfl (by kernel_rfl) (by decide +kernel) (by decide +kernel) (by decide +kernel) (fun _ _ _ h => h) (by kernel_rfl) ?_ (by assumption) ?_
          rotate_left
          · (intro wz; go_simp; with_reducible rfl)
          try simp only [Act.put, List.setIfInBounds_toArray, List.set_cons_zero, List.set_cons_succ]
          refine wpAnyG_takeY (i := 12) (v := ?_) rfl (by kernel_rfl) (by decide +kernel) (by decide +kernel) (by decide +kernel) (fun _ _ _ h => h) (by kernel_rfl) ?_ (by assumption) ?_
          rotate_left
          · (intro wz; go_simp; with_reducible rfl)
          try simp only [Act.put, List.setIfInBounds_toArray, List.set_cons_zero, List.set_cons_succ]
          refine wpAnyG_takeY (i := 13) (v := ?_) rfl (by kernel_rfl) (by decide +kernel) (by decide +kernel) (by decide +kernel) (fun _ _ _ h => h) (by kernel_rfl) ?_ (by assumption) ?_
          rotate_left
          · (intro wz; go_simp; with_reducible rfl)
          try simp only [Act.put, List.setIfInBounds_toArray, List.set_cons_zero, List.set_cons_succ]
          refine wpAnyG_take (i := 14) (v := ?_) rfl (by kernel_rfl) (by decide +kernel) (by decide +kernel) (by decide +kernel) (by decide +kernel) (by rfl) (fun _ _ _ h => h) (by kernel_rfl) ?_ (by assumption) ?_
          rotate_left
          · (intro wz hSw; (try dsimp only at hSw); go_simp; with_reducible rfl)
          try simp only [Act.put, List.setIfInBounds_toArray, List.set_cons_zero, List.set_cons_succ]
          refine wpAnyG_takeY (i := 15) (v := ?_) rfl (by kernel_rfl) (by decide +kernel) (by decide +kernel) (by decide +kernel) (fun _ _ _ h => h) (by kernel_rfl) ?_ (by assumption) ?_
          rotate_left
          · (intro wz; go_simp; with_reducible rfl)
          try simp only [Act.put, List.setIfInBounds_toArray, List.set_cons_zero, List.set_cons_succ]
          refine wpAnyG_takeY (i := 16) (v := ?_) rfl (by kernel_rfl) (by decide +kernel) (by decide +kernel) (by decide +kernel) (fun _ _ _ h => h) (by kernel_rfl) ?_ (by assumption) ?_
          rotate_left
          · (intro wz; go_simp; with_reducible rfl)
          try simp only [Act.put, List.setIfInBounds_toArray, List.set_cons_zero, List.set_cons_succ]
          refine wpAnyG_done (by kernel_rfl) ?_ _
          go_simp
          try rw [dl]
          clear dl
          have HTK := Lib.hid htk
          have KR := Lib.hid (Keeps.drew hkr)
          have BR := Lib.hid (has_drew (KR0.out.has B1.out (by simp)))
          have z0 : wr.drew.cell? ⟨g, p * 5, none⟩ = some (.bool x.live) := q0
          have z1 : wr.drew.cell? ⟨g, p * 5 + 1, none⟩ = some (.int .i64 x.hash) := q1
          have z2 : wr.drew.cell? ⟨g, p * 5 + 2, none⟩ = some (.int .i64 x.key) := q2
          have z3 : wr.drew.cell? ⟨g, p * 5 + 3, none⟩ = some (.int .i64 x.val) := q3
          have z4 : wr.drew.cell? ⟨g, p * 5 + 4, none⟩ = some (.int .i64 x.birth) := q4
          clear hkr hF htk c3 c4 q0 q1 q2 q3 q4
          go_wp2_with fail
          refine (rtells9_any b db s x _ BR.out).mono ?_
          rintro r w4 ⟨rfl, b4, k4⟩
          have B4 := Lib.hid b4
          have K4 := Lib.hid k4
          clear b4 k4 z0 z1 z2 z3 z4
          have b3 : w4.heap[lr]? = some (entR noE) := K4.out.has (KR.out.has T1.out (by simp)) (by have := LB.out; simp; omega)
          have B3 := Lib.hid b3
          unfold entR at b3
          have s0 : w4.cell? ⟨lr, 0, none⟩ = some (.bool noE.live) := cell_has b3 (i := 0) rfl
          have s1 : w4.cell? ⟨lr, 1, none⟩ = some (.int .i64 noE.hash) := cell_has b3 (i := 1) rfl
          have s2 : w4.cell? ⟨lr, 2, none⟩ = some (.int .i64 noE.key) := cell_has b3 (i := 2) rfl
          have s3 : w4.cell? ⟨lr, 3, none⟩ = some (.int .i64 noE.val) := cell_has b3 (i := 3) rfl
          have s4 : w4.cell? ⟨lr, 4, none⟩ = some (.int .i64 noE.birth) := cell_has b3 (i := 4) rfl
          have g0 := free_of_has b3 0
          have g1 := free_of_has b3 1
          have g2 := free_of_has b3 2
          have g3 := free_of_has b3 3
          have g4 := free_of_has b3 4
          clear b3
          simp only [Ent.agg]
          go_wp2_with fail
          obtain ⟨q1, q2⟩ := entR_store noE x B3.out
          have q9 := q1
          unfold entR at q9
          have rc1 := cell_of_has q9
          have hp : s.pick (liveL d.T.E) = some x := pick_fw HBK.out HX.out HTK.out (fun j y hj hy => HNO.out j y (by omega) hy)
          obtain ⟨f1, f2, f3⟩ := rs_some HO.out HS.out hp
          have hlr := HLR.out
          refine bodyPost_ret (v := .tuple #[x.agg, .int .i64 0]) (by simp [results, Tryz.results28, go_sem, Ent.agg, rc1]) rfl ⟨by rw [f1, f2], ?_, ?_⟩
          · rw [f3]; exact q2.has B4.out (by have := LB.out; simp; omega)
          · exact (((KB.out.trans K1.out).trans KR.out).mono (by simp) |>.trans K4.out).then q2 (by intro z hz; simp at hz; left; omega)
        · have htk : s.takes x = false := by unfold Rst.takes; rw [hbg, HBK.out]; simpa using hbl
          have dl : decide (s.last < x.birth) = false := by simpa using hbl
          clear hbg
          refine wp_regionG (fun w' => w'.cell? ⟨b, 4, none⟩ = some (.bool true) ∧ w'.cell? ⟨b, 3, none⟩ = some (.int .i64 s.last) ∧ w'.cell? ⟨g, p * 5 + 4, none⟩ = some (.int .i64 x.birth)) 17 (by kernel_rfl) ⟨c4, c3, q4⟩ (fun hF => ?_)
          refine wpAnyG_takeY (i := 0) (v := ?_) rfl (by kernel_rfl) (by decide +kernel) (by decide +kernel) (by decide +kernel) (fun _ _ _ h => h) (by kernel_rfl) ?_ (by assumption) ?_
          rotate_left
          · (intro wz; go_simp; with_reducible rfl)
          try simp only [Act.put, List.setIfInBounds_toArray, List.set_cons_zero, List.set_cons_succ]
          refine wpAnyG_takeY (i := 1) (v := ?_) rfl (by kernel_rfl) (by decide +kernel) (by decide +kernel) (by decide +kernel) (fun _ _ _ h => h) (by kernel_rfl) ?_ (by assumption) ?_
          rotate_left
          · (intro wz; go_simp; with_reducible rfl)
          try simp only [Act.put, List.setIfInBounds_toArray, List.set_cons_zero, List.set_cons_succ]
          refine wpAnyG_takeY (i := 2) (v := ?_) rfl (by kernel_rfl) (by decide +kernel) (by decide +kernel) (by decide +kernel) (fun _ _ _ h => h) (by kernel_rfl) ?_ (by assumption) ?_
          rotate_left
          · (intro wz; go_simp; with_reducible rfl)
          try simp only [Act.put, List.setIfInBounds_toArray, List.set_cons_zero, List.set_cons_succ]
          refine wpAnyG_take (i := 3) (v := ?_) rfl (by kernel_rfl) (by decide +kernel) (by decide +kernel) (by decide +kernel) (by decide +kernel) (by rfl) (fun _ _ _ h => h) (by kernel_rfl) ?_ (by assumption) ?_
          rotate_left
          · (intro wz hSw; (try dsimp only at hSw); go_simp; with_reducible rfl)
          try simp only [Act.put, List.setIfInBounds_toArray, List.set_cons_zero, List.set_cons_succ]
          refine wpAnyG_takeY (i := 4) (v := ?_) rfl (by kernel_rfl) (by decide +kernel) (by decide +kernel) (by decide +kernel) (fun _ _ _ h => h) (by kernel_rfl) ?_ (by assumption) ?_
          rotate_left
          · (intro wz; go_simp; with_reducible rfl)
          try simp only [Act.put, List.setIfInBounds_toArray, List.set_cons_zero, List.set_cons_succ]
          refine wpAnyG_takeY (i := 5) (v := ?_) rfl (by kernel_rfl) (by decide +kernel) (by decide +kernel) (by decide +kernel) (fun _ _ _ h => h) (by kernel_rfl) ?_ (by assumption) ?_
          rotate_left
          · (intro wz; go_simp; with_reducible rfl)
          try simp only [Act.put, List.setIfInBounds_toArray, List.set_cons_zero, List.set_cons_succ]
          refine wpAnyG_takeY (i := 6) (v := ?_) rfl (by kernel_rfl) (by decide +kernel) (by decide +kernel) (by decide +kernel) (fun _ _ _ h => h) (by kernel_rfl) ?_ (by assumption) ?_
          rotate_left
          · (intro wz; go_simp; with_reducible rfl)
          try simp only [Act.put, List.setIfInBounds_toArray, List.set_cons_zero, List.set_cons_succ]
          refine wpAnyG_takeY (i := 7) (v := ?_) rfl (by kernel_rfl) (by decide +kernel) (by decide +kernel) (by decide +kernel) (fun _ _ _ h => h) (by kernel_rfl) ?_ (by assumption) ?_
          rotate_left
          · (intro wz; go_simp; with_reducible rfl)
          try simp only [Act.put, List.setIfInBounds_toArray, List.set_cons_zero, List.set_cons_succ]
          refine wpAnyG_takeY (i := 8) (v := ?_) rfl (by kernel_rfl) (by decide +kernel) (by decide +kernel) (by decide +kernel) (fun _ _ _ h => h) (by kernel_rfl) ?_ (by assumption) ?_
          rotate_left
          · (intro wz; go_simp; with_reducible rfl)
          try simp only [Act.put, List.setIfInBounds_toArray, List.set_cons_zero, List.set_cons_succ]
          refine wpAnyG_takeY (i := 9) (v := ?_) rfl (by kernel_rfl) (by decide +kernel) (by decide +kernel) (by decide +kernel) (fun _ _ _ h => h) (by kernel_rfl) ?_ (by assumption) ?_
          rotate_left
          · (intro wz; go_simp; with_reducible rfl)
          try simp only [Act.put, List.setIfInBounds_toArray, List.set_cons_zero, List.set_cons_succ]
          refine wpAnyG_take (i := 10) (v := ?_) rfl (by kernel_rfl) (by decide +kernel) (by decide +kernel) (by decide +kernel) (by decide +kernel) (by rfl) (fun _ _ _ h => h) (by kernel_rfl) ?_ (by assumption) ?_
          rotate_left
          · (intro wz hSw; (try dsimp only at hSw); go_simp; with_reducible rfl)
          try simp only [Act.put, List.setIfInBounds_toArray, List.set_cons_zero, List.set_cons_succ]
          refine wpAnyG_takeY (i := 11) (v := ?_) rfl (by kernel_rfl) (by decide +kernel) (by decide +kernel) (by decide +kernel) (fun _ _ _ h => h) (by kernel_rfl) ?_ (by assumption) ?_
          rotate_left
          · (intro wz; go_simp; with_reducible rfl)
          try simp only [Act.put, List.setIfInBounds_toArray, List.set_cons_zero, List.set_cons_succ]
          refine wpAnyG_takeY (i := 12) (v := ?_) rfl (by kernel_rfl) (by decide +kernel) (by decide +kernel) (by decide +kernel) (fun _ _ _ h => h) (by kernel_rfl) ?_ (by assumption) ?_
          rotate_left
          · (intro wz; go_simp; with_reducible rfl)
          try simp only [Act.put, List.setIfInBounds_toArray, List.set_cons_zero, List.set_cons_succ]
          refine wpAnyG_takeY (i := 13) (v := ?_) rfl (by kernel_rfl) (by decide +kernel) (by decide +kernel) (by decide +kernel) (fun _ _ _ h => h) (by kernel_rfl) ?_ (by assumption) ?_
          rotate_left
          · (intro wz; go_simp; with_reducible rfl)
          try simp only [Act.put, List.setIfInBounds_toArray, List.set_cons_zero, List.set_cons_succ]
          refine wpAnyG_take (i := 14) (v := ?_) rfl (by kernel_rfl) (by decide +kernel) (by decide +kernel) (by decide +kernel) (by decide +kernel) (by rfl) (fun _ _ _ h => h) (by kernel_rfl) ?_ (by assumption) ?_
          rotate_left
          · (intro wz hSw; (try dsimp only at hSw); go_simp; with_reducible rfl)
          try simp only [Act.put, List.setIfInBounds_toArray, List.set_cons_zero, List.set_cons_succ]
          refine wpAnyG_takeY (i := 15) (v := ?_) rfl (by kernel_rfl) (by decide +kernel) (by decide +kernel) (by decide +kernel) (fun _ _ _ h => h) (by kernel_rfl) ?_ (by assumption) ?_
          rotate_left
          · (intro wz; go_simp; with_reducible rfl)
          try simp only [Act.put, List.setIfInBounds_toArray, List.set_cons_zero, List.set_cons_succ]
          refine wpAnyG_takeY (i := 16) (v := ?_) rfl (by kernel_rfl) (by decide +kernel) (by decide +kernel) (by decide +kernel) (fun _ _ _ h => h) (by kernel_rfl) ?_ (by assumption) ?_
          rotate_left
          · (intro wz; go_simp; with_reducible rfl)
          try simp only [Act.put, List.setIfInBounds_toArray, List.set_cons_zero, List.set_cons_succ]
          refine wpAnyG_done (by kernel_rfl) ?_ _
          go_simp
          try rw [dl]
          have HTK := Lib.hid htk
          have KR := Lib.hid (Keeps.drew hkr)
          clear dl hF htk c3 c4 q0 q1 q2 q3 q4 hkr hbl
          go_wp2_with fail
          go_roundw
          case rel =>
            have hph' := hlt
            refine ⟨p + 1, by omega, by go_num, ?_, KR.out⟩
            intro j y hj hy
            by_cases hjp : j = p
            · subst hjp; rw [HX.out] at hy; cases hy; exact HTK.out
            · exact HNO.out j y (by omega) hy
          case measure => simp [intOf] <;> omega
    · obtain rfl : k = n := by omega
      have hge : ¬ (k : Int) < (k : Int) := by omega
      have KR := Lib.hid hkr
      have br := hkr.has B1.out (by simp)
      have c5 := (rst_cells br).2.2.2.2.2
      have f5 := free_of_has br 5
      have BR := Lib.hid br
      have SO := Lib.hid (rst_over br 10)
      clear br hkr c2
      have b3 : wr.heap[lr]? = some (entR noE) := KR.out.has T1.out (by simp)
      have B3 := Lib.hid b3
      unfold entR at b3
      have s0 : wr.cell? ⟨lr, 0, none⟩ = some (.bool noE.live) := cell_has b3 (i := 0) rfl
      have s1 : wr.cell? ⟨lr, 1, none⟩ = some (.int .i64 noE.hash) := cell_has b3 (i := 1) rfl
      have s2 : wr.cell? ⟨lr, 2, none⟩ = some (.int .i64 noE.key) := cell_has b3 (i := 2) rfl
      have s3 : wr.cell? ⟨lr, 3, none⟩ = some (.int .i64 noE.val) := cell_has b3 (i := 3) rfl
      have s4 : wr.cell? ⟨lr, 4, none⟩ = some (.int .i64 noE.birth) := cell_has b3 (i := 4) rfl
      have g0 := free_of_has b3 0
      have g1 := free_of_has b3 1
      have g2 := free_of_has b3 2
      have g3 := free_of_has b3 3
      have g4 := free_of_has b3 4
      clear b3
      have nbl : ¬ b = lr := by have := LB.out; omega
      have nlb : ¬ lr = b := by have := LB.out; omega
      go_wp2_with fail
      have B3s := SO.out.2.has B3.out (by have := LB.out; simp; omega)
      obtain ⟨q1, q2⟩ := entR_store noE noE B3s
      have q9 := q1
      unfold entR at q9
      have rc1 := cell_of_has q9
      have hp : s.pick (liveL d.T.E) = none := pick_none (fun j y hy => HNO.out j y (by have := (List.getElem?_eq_some_iff.1 hy).1; rw [HLN.out] at this; exact this) hy)
      obtain ⟨f1, f2, f3⟩ := rs_none HO.out HS.out hp
      have hlr := HLR.out
      show bodyPost _ _ _ _ _ (((((((wr.setCell ⟨b, 5, none⟩ (.int .i64 10)).setCell ⟨lr, 0, none⟩ (.bool noE.live)).setCell ⟨lr, 1, none⟩ (.int .i64 noE.hash)).setCell ⟨lr, 2, none⟩ (.int .i64 noE.key)).setCell ⟨lr, 3, none⟩ (.int .i64 noE.val)).setCell ⟨lr, 4, none⟩ (.int .i64 noE.birth)))
      refine bodyPost_ret (v := .tuple #[noE.agg, .int .i64 10]) (by simp [results, Tryz.results28, go_sem, Ent.agg, rc1]) rfl ⟨by rw [f1, f2], ?_, ?_⟩
      · rw [f3]; exact q2.has SO.out.1 (by have := LB.out; simp; omega)
      · exact ((((KB.out.trans K1.out).trans KR.out).mono (by simp)).trans SO.out.2).then q2 (by intro z hz; simp at hz; left; omega)
set_option maxRecDepth 100000 in
set_option maxHeartbeats 4000000 in
theorem rsnext_size (db t lo : Nat) (S : List Nat) (m : Option Nat) (d : Dic) (b : Nat) (s : Rst) (w : World) (HD : RDicAt db t lo S m d w) (H : w.heap[b]? = some (rstO db s)) (ho : s.over = 0) (hs : liveN d.T.E ≠ s.len) :
    Calls Tryz.prog 28 #[.pointer (some ⟨b, 0, none⟩)] w (RsP b db d s w) := by
  obtain ⟨lr, hlr⟩ : ∃ lr, lr = w.heap.size := ⟨_, rfl⟩
  obtain ⟨WA, hWA⟩ : ∃ WA, w.alloc (.cells #[.bool false, .int .i64 0, .int .i64 0, .int .i64 0, .int .i64 0] 78) = WA := ⟨_, rfl⟩
  have kb : Keeps [] w WA := by rw [← hWA]; exact (Keeps.refl [] w).alloc _
  have KB := Lib.hid kb
  have BT := Lib.hid (show WA.heap[lr]? = some (entR noE) by rw [← hWA, hlr]; exact has_new _ _)
  have HWA := Lib.hid hWA
  have HLR := Lib.hid hlr
  have LB := Lib.hid (show b < lr by rw [hlr]; exact lt_of_block H)
  have HB := Lib.hid (kb.has H (by simp))
  have DA := Lib.hid (HD.keeps kb (by simp) (by simp))
  obtain ⟨c0, c1, c2, c3, c4, c5⟩ := rst_cells HB.out
  rw [ho] at c5
  have HO := Lib.hid ho
  have HS := Lib.hid hs
  have D0 := Lib.hid (DA.out.keeps (Keeps.refl [] WA).drew (by simp) (by simp))
  obtain ⟨ln, hln⟩ := ex_hid s.len
  rw [← hln.out] at c1
  obtain ⟨n, hn⟩ := ex_hid (liveN d.T.E)
  have dn : ((n : Int) != (ln : Int)) = true := by rw [hn.out, hln.out]; simp; omega
  have dn2 : ((n : Int) == (ln : Int)) = false := by rw [hn.out, hln.out]; simp; omega
  have f5 := free_of_has HB.out 5
  have SO := Lib.hid (rst_over HB.out 9)
  have b3 : WA.heap[lr]? = some (entR noE) := BT.out
  have B3 := Lib.hid b3
  unfold entR at b3
  have s0 : WA.cell? ⟨lr, 0, none⟩ = some (.bool noE.live) := cell_has b3 (i := 0) rfl
  have s1 : WA.cell? ⟨lr, 1, none⟩ = some (.int .i64 noE.hash) := cell_has b3 (i := 1) rfl
  have s2 : WA.cell? ⟨lr, 2, none⟩ = some (.int .i64 noE.key) := cell_has b3 (i := 2) rfl
  have s3 : WA.cell? ⟨lr, 3, none⟩ = some (.int .i64 noE.val) := cell_has b3 (i := 3) rfl
  have s4 : WA.cell? ⟨lr, 4, none⟩ = some (.int .i64 noE.birth) := cell_has b3 (i := 4) rfl
  have g0 := free_of_has b3 0
  have g1 := free_of_has b3 1
  have g2 := free_of_has b3 2
  have g3 := free_of_has b3 3
  have g4 := free_of_has b3 4
  clear b3
  have nbl : ¬ b = lr := by have := LB.out; omega
  have nlb : ¬ lr = b := by have := LB.out; omega
  clear hlr hWA kb H HD c2 c3 c4 ho hs
  go_enter Tryz.func28, Tryz.ntmps28
  go_upto_region 1 with (fail)
  rw [HWA.out, ← HLR.out]
  go_upto_region 3 with (fail)
  go_region_held3 (fun w' => w'.cell? ⟨b, 0, none⟩ = some (.pointer (some ⟨db, 0, none⟩)) ∧ w'.cell? ⟨b, 1, none⟩ = some (.int .i64 ln)) (go_keep) (first | (go_at_call 41; refine (rlen8_any db t lo S m d _ D0.out).mono ?_; rintro r w1 ⟨rfl, rfl⟩; rw [← hn.out]))
  have c5d : WA.drew.cell? ⟨b, 5, none⟩ = some (.int .i64 0) := c5
  have f5d : WA.drew.frozen? ⟨b, 5, none⟩ = false := f5
  go_wp2_with fail
  have B3s := SO.out.2.has B3.out (by have := LB.out; simp; omega)
  obtain ⟨q1, q2⟩ := entR_store noE noE B3s
  have q9 := q1
  unfold entR at q9
  have rc1 := cell_of_has q9
  have hlr := HLR.out
  have f1 : rsX d s = noE := by unfold rsX; rw [if_neg (by simp [HO.out]), if_pos HS.out]
  have f2 : rsE d s = 9 := by unfold rsE; rw [if_neg (by simp [HO.out]), if_pos HS.out]
  have f3 : rsN d s = { s with over := 9 } := by unfold rsN; rw [if_neg (by simp [HO.out]), if_pos HS.out]
  show bodyPost _ _ _ _ _ (((((((WA.setCell ⟨b, 5, none⟩ (.int .i64 9)).setCell ⟨lr, 0, none⟩ (.bool noE.live)).setCell ⟨lr, 1, none⟩ (.int .i64 noE.hash)).setCell ⟨lr, 2, none⟩ (.int .i64 noE.key)).setCell ⟨lr, 3, none⟩ (.int .i64 noE.val)).setCell ⟨lr, 4, none⟩ (.int .i64 noE.birth)).drew)
  refine bodyPost_ret (v := .tuple #[noE.agg, .int .i64 9]) (by simp [results, Tryz.results28, go_sem, Ent.agg, rc1]) rfl ⟨by rw [f1, f2], ?_, ?_⟩
  · rw [f3]; exact has_drew (q2.has SO.out.1 (by have := LB.out; simp; omega))
  · exact (((KB.out.mono (by simp)).trans SO.out.2).then q2 (by intro z hz; simp at hz; left; omega)).drew
theorem rsnext_any (db t lo : Nat) (S : List Nat) (m : Option Nat) (d : Dic) (b : Nat) (s : Rst) (w : World) (HD : RDicAt db t lo S m d w) (H : w.heap[b]? = some (rstO db s)) (hl : d.T.E.length ≤ 1000) :
    Calls Tryz.prog 28 #[.pointer (some ⟨b, 0, none⟩)] w (RsP b db d s w) := by
  by_cases ho : s.over = 0
  · by_cases hs : liveN d.T.E = s.len
    · cases hb : s.back
      · exact rsnext_fw db t lo S m d b s w HD H ho hs hb hl
      · exact rsnext_bk db t lo S m d b s w HD H ho hs hb hl
    · exact rsnext_size db t lo S m d b s w HD H ho hs
  · exact rsnext_over db t lo S m d b s w HD H ho
end Go.Proofs.YtcakdmapnmneoaaGreat
