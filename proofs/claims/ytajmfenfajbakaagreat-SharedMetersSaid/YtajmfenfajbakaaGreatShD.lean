/- A name is given a number (chapter 10). -/
import Derived.Test.YtajmfenfajbakaaGreatShC
import Derived.WideKeyEntry
namespace Go.Proofs.YtajmfenfajbakaaGreat
open Go.RowKit
set_option linter.unusedVariables false
set_option linter.unusedSimpArgs false

def numMid (N : List ByteArray) (s : ByteArray) : Obj := .map (numL0 0 N ++ [(⟨.string s, .int .i64 0, N.length⟩ : MapEntry)]).toArray (N.length + 1)
def setB (w : World) (b : Nat) (o : Obj) : World := { w with heap := w.heap.setIfInBounds b o }
theorem setB_has {w : World} {b : Nat} {o x : Obj} (h : w.heap[b]? = some x) : (setB w b o).heap[b]? = some o := by
  have hlt := lt_of_block h
  unfold setB; simp [Array.getElem?_setIfInBounds, hlt]
theorem setB_keeps (w : World) (b : Nat) (o : Obj) : Keeps [b] w (setB w b o) := ⟨rfl, rfl, rfl, by unfold setB; simp, fun k hk hn => by
  unfold setB; show (w.heap.setIfInBounds b o)[k]? = _
  rw [Array.getElem?_setIfInBounds, if_neg (by simp at hn; omega)]⟩
theorem setB_two (w : World) (b : Nat) (o o' : Obj) : setB (setB w b o) b o' = setB w b o' := by
  unfold setB; simp
theorem run_num_entry (N : List ByteArray) (s : ByteArray) (b : Nat) (w : World) (hb : w.heap[b]? = some (numO N)) (hs : numOf N s = none) :
    (Instr.mapEntry 94 (.map (some b)) (.string s)).run Tryz.prog w = .ok (.tuple #[.int .i64 0, .int .i64 (N.length : Nat)]) (setB w b (numMid N s)) := by
  unfold numO at hb
  have hk := Tryz.underlying9
  have hc : ∀ e : Bool, (Instr.checkKey e 10000 9 (.string s)).run Tryz.prog w = .ok () w := fun e => MapKept.run_checkKey (k := .string s) hk (by simp [MapKept.IsKey]) _ 9999
  have hf := find_num s N 0 0
  unfold numOf at hs
  rw [hs] at hf
  have hf2 : Instr.findNow .string (.string s) (numL0 0 N).toArray.toList 0 = some none := by simpa using hf
  have hz : (zeroValue 3).run Tryz.prog w = .ok (.int .i64 0) w := by kernel_rfl
  simp [Instr.mapEntry, run_underlying Tryz.underlying94, MapKept.run_getObj_map hb, hc, MapKept.run_findKey hk hf2, MapKept.run_setObj_map _ hb, Result.andThen, hz, numMid, setB, goInt]
theorem numL0_born (i : Nat) (l : List ByteArray) : (numL0 i l).map (·.born) = List.range' i l.length := by
  induction l generalizing i with
  | nil => rfl
  | cons s l ih => simp [numL0, numE, ih, List.range'_succ]
theorem run_num_store (N : List ByteArray) (s : ByteArray) (b : Nat) (w : World) (hb : w.heap[b]? = some (numMid N s)) :
    (Instr.entryStore 94 (.map (some b)) (.int .i64 (N.length : Nat)) (.int .i64 (N.length : Nat))).run Tryz.prog w = .ok () (setB w b (numO (N ++ [s]))) := by
  unfold numMid at hb
  have hn : ((numL0 0 N ++ [(⟨.string s, .int .i64 0, N.length⟩ : MapEntry)]).map (·.born)).Nodup := by
    rw [List.map_append, numL0_born]
    have e : List.range' 0 N.length ++ [N.length] = List.range' 0 (N.length + 1) := by rw [List.range'_concat]; simp
    show (List.range' 0 N.length ++ [N.length]).Nodup
    rw [e]; exact List.nodup_range'
  have hi := Go.WideElems.findIdx_born hn (j := N.length) (e0 := ⟨.string s, .int .i64 0, N.length⟩) (by rw [List.getElem?_append_right (by rw [numL0_len]; exact Nat.le_refl _), numL0_len]; simp)
  have hi2 : (numL0 0 N ++ [(⟨.string s, .int .i64 0, N.length⟩ : MapEntry)]).toArray.findIdx? (fun e => (e.born : Int) == ((N.length : Nat) : Int)) = some N.length := by
    rw [Go.WideElems.findIdx_arr]; exact hi
  have hm : (numL0 0 N ++ [(⟨.string s, .int .i64 0, N.length⟩ : MapEntry)]).toArray.modify N.length (fun e => { e with val := .int .i64 (N.length : Nat) }) = (numL0 0 (N ++ [s])).toArray := by
    rw [numL0_app]
    apply Array.ext'
    simp only [Array.toList_modify]
    have := Go.WideElems.modify_last (fun e : MapEntry => { e with val := Value.int .i64 (N.length : Nat) }) ⟨.string s, .int .i64 0, N.length⟩ (numL0 0 N)
    rw [numL0_len] at this
    rw [this]
    simp [numE]
  have e1 : numO (N ++ [s]) = .map (numL0 0 (N ++ [s])).toArray (N.length + 1) := by unfold numO; simp
  rw [e1, ← hm]
  simp [Instr.entryStore, MapKept.run_getObj_map hb, asInt, asIntOf, hi2, MapKept.run_setObj_map _ hb, Result.andThen, setB]
theorem infoStr : (Tryz.prog.info? 9).map (fun i => (i.zero, i.size, i.bytes)) = some (some (.string .empty), 1, 16) := by kernel_rfl
/-- A text is appended to a row of texts. -/
theorem str_app (lo : Nat) (a : Option Addr) (c m : Nat) (V : Nat → Value) (s : ByteArray) (W : World) (B : Nat) (h : ValRow 9 lo a m c V W) (hB : W.heap[B]? = some (.cells #[.string s] 9 (0, 0))) (hm : m ≤ 1000000) (hlo : lo ≤ W.heap.size) :
    ∃ g cap w', (Builtin.append_ #[51, 51] 51 #[.slice a m c, .slice (some ⟨B, 0, none⟩) 1 1]).run Tryz.prog W = .ok (.slice (some ⟨g, 0, none⟩) (m + 1) cap) w' ∧ ValRow 9 lo (some ⟨g, 0, none⟩) (m + 1) cap (putV V m (.string s)) w' ∧ Keeps (blk a) W w' ∧ (g ∈ blk a ∨ g = W.heap.size) ∧ g < w'.heap.size := by
  obtain ⟨j0, hi, hz0, hz1, hz2⟩ := info_parts infoStr
  obtain ⟨g, cap, w', r1, r2, r3, r4, r5⟩ := run_append_lies (P := Tryz.prog) W 51 51 lo 9 j0 (.string .empty) 1 16 Tryz.underlying51 hi hz0 hz1 hz2 rfl (by decide) _ m (valR m V) h ⟨B, 0, none⟩ 1 1 [.string s] rfl
    (fun j u hj => by
      have hlt : j < 1 := by have := (List.getElem?_eq_some_iff.1 hj).1; simpa using this
      obtain rfl : j = 0 := by omega
      rw [show (⟨B, 0, none⟩ : Addr).add 0 = ⟨B, 0, none⟩ by unfold Addr.add; split <;> simp_all, cell_of_has hB]
      simpa using hj) (by intro u hu; simp at hu; subst hu; rfl) (by decide) (by unfold maxLen; omega) (by omega) hlo _ rfl
  refine ⟨g, cap, w', r1, ValRow.of_append r2, ?_, ?_, r5⟩
  · exact ⟨r3.os, r3.tape, r3.output, r3.size, fun k hk hn => r3.block k hk (fun e => hn (blk_own a _ _ k e.symm))⟩
  · rcases r4 with r4 | r4
    · exact .inl (blk_own a _ _ g r4)
    · exact .inr r4
theorem strV_push (N : List ByteArray) (s : ByteArray) : ∀ k, k < N.length + 1 → putV (strV N) N.length (.string s) k = strV (N ++ [s]) k := by
  intro k hk
  unfold putV strV
  by_cases e : k = N.length
  · subst e; simp [List.getD]
  · have : k < N.length := by omega
    simp [e, List.getD, List.getElem?_append_left, this]
def giveI (N : List ByteArray) (s : ByteArray) : Nat := match numOf N s with | some i => i | none => N.length
def giveN (N : List ByteArray) (s : ByteArray) : List ByteArray := match numOf N s with | some _ => N | none => N ++ [s]
def GiveP (fb t mb lo : Nat) (a : Option Addr) (ST : List Nat) (m : Option Nat) (f : Fam) (s : ByteArray) (w : World) (r : Ending) (w' : World) : Prop :=
  ∃ a', r = .returned (.int .i64 (giveI f.N s : Nat)) ∧ FamAt fb t mb lo a' ST m { f with N := giveN f.N s } w' ∧ Keeps (fb :: mb :: blk a) w w' ∧ (∀ z, z ∈ blk a' → z ∈ blk a ∨ w.heap.size ≤ z)
set_option maxRecDepth 100000 in
set_option maxHeartbeats 4000000 in
theorem give_any (fb t mb lo : Nat) (a : Option Addr) (ST : List Nat) (m : Option Nat) (f : Fam) (s : ByteArray) (w : World) (H : FamAt fb t mb lo a ST m f w) (hN : f.N.length ≤ 100000) :
    Calls Tryz.prog 89 #[.pointer (some ⟨fb, 0, none⟩), .string s] w (GiveP fb t mb lo a ST m f s w) := by
  have NU := fnum_any fb t mb lo a ST m f s w H
  have HF := Lib.hid H
  obtain ⟨c, h1, h2⟩ := H.b
  have H1 := Lib.hid h1
  have H2 := Lib.hid h2
  unfold numI at NU
  cases hq : numOf f.N s with
  | some k =>
    have HQ := Lib.hid hq
    rw [hq] at NU
    simp only at NU
    have k0 : ¬ (k : Int) < 0 := by omega
    clear hq H h1 h2
    go_enter Tryz.func89, Tryz.ntmps89
    go_wp2_with fail
    refine NU.mono ?_
    rintro r w1 ⟨rfl, rfl⟩
    go_wp2_with fail
    go_ret
    exact ⟨a, by unfold giveI; rw [HQ.out]; rfl, by unfold giveN; rw [HQ.out]; exact HF.out, Keeps.refl _ _, fun z hz => .inl hz⟩
  | none =>
    have HQ := Lib.hid hq
    rw [hq] at NU
    simp only at NU
    obtain ⟨n, hn⟩ := ex_hid f.N.length
    rw [← hn.out] at h1 h2 hN
    have c5 : w.cell? ⟨fb, 5, none⟩ = some (.map (some mb)) := cell_has h1 (i := 5) rfl
    have c4 : w.cell? ⟨fb, 4, none⟩ = some (.slice a n c) := cell_has h1 (i := 4) rfl
    have D1 := Lib.hid (show fb ∉ blk a ∧ mb ∉ blk a ∧ fb ≠ mb from by
      have d1 := H.d1
      have d2 := H.d2
      simp only [List.mem_cons, List.mem_append, not_or] at d1 d2
      exact ⟨d1.2.1, d2.1, d1.1⟩)
    have LO := Lib.hid (show lo ≤ w.heap.size from by have := H.l.1; have := lt_of_block h1; omega)
    obtain ⟨g, cap, W2, run2, v2, k2, g2, l2⟩ := str_app lo a c n (strV f.N) s (w.drew.alloc (.cells #[.string s] 9)) w.heap.size ((h2.drew).keeps ((Keeps.refl [] w.drew).alloc _) (by simp)) (has_new _ _) (by omega) (by have := LO.out; simp; omega)
    have RUN := Lib.hid run2
    have k02 : Keeps (blk a) w W2 := ((Keeps.refl (blk a) w).drew.alloc _).trans k2
    have b2 := k02.has H1.out D1.out.1
    rw [← hn.out] at b2
    have t4 : W2.cell? ⟨fb, 4, none⟩ = some (.slice a n c) := cell_has b2 (i := 4) rfl
    have t5 : W2.cell? ⟨fb, 5, none⟩ = some (.map (some mb)) := cell_has b2 (i := 5) rfl
    have f4 := free_of_has b2 4
    obtain ⟨Y3, hY3⟩ : ∃ Y3, Y3 = W2.setCell ⟨fb, 4, none⟩ (.slice (some ⟨g, 0, none⟩) (n + 1) cap) := ⟨_, rfl⟩
    have k23 : Keeps [fb] W2 Y3 := by rw [hY3]; exact (Keeps.refl [fb] W2).setCell (p := ⟨fb, 4, none⟩) (.inr (by simp)) _
    have b3 : Y3.heap[fb]? = some (famO f.most f.pairs (mV m) t (.slice (some ⟨g, 0, none⟩) (n + 1) cap) mb) := by
      unfold famO at b2 ⊢
      have h0 := has_setCell b2 4 (.slice (some ⟨g, 0, none⟩) (n + 1) cap)
      rw [hY3]; simpa using h0
    have m3 : Y3.heap[mb]? = some (numO f.N) := k23.has (k02.has H.n D1.out.2.1) (by simp; exact fun e => D1.out.2.2 e.symm)
    have hme := run_num_entry f.N s mb Y3 m3 hq
    have hes := run_num_store f.N s mb (setB Y3 mb (numMid f.N s)) (setB_has m3)
    rw [setB_two] at hes
    rw [← hn.out] at hme hes
    have HY3 := Lib.hid hY3
    have HME := Lib.hid hme
    have HES := Lib.hid hes
    have FIN := Lib.hid (And.intro v2 (And.intro k02 (And.intro k23 (And.intro b3 (And.intro m3 (And.intro g2 l2))))))
    clear hq H h1 h2 run2 v2 k2 g2 l2 k02 b2 hY3 k23 b3 m3 hme hes
    go_enter Tryz.func89, Tryz.ntmps89
    go_wp2_with fail
    refine NU.mono ?_
    rintro r w1 ⟨rfl, rfl⟩
    clear NU
    go_upto_region 4 with (fail)
    refine wp_regionD (fun w' => w'.cell? ⟨fb, 5, none⟩ = some (.map (some mb)) ∧ w'.cell? ⟨fb, 4, none⟩ = some (.slice a n c)) [16] (by kernel_rfl) ⟨c5, c4⟩ (fun hF => ?_)
    refine wpAnyD_takeY (i := 0) (v := ?_) rfl (by kernel_rfl) (by decide +kernel) (by decide +kernel) (by decide +kernel) (fun _ _ _ h => h) (by kernel_rfl) ?_ (by assumption) ?_
    rotate_left
    · (intro wz; go_simp; with_reducible rfl)
    try simp only [Act.put, List.setIfInBounds_toArray, List.set_cons_zero, List.set_cons_succ]
    refine wpAnyD_takeY (i := 1) (v := ?_) rfl (by kernel_rfl) (by decide +kernel) (by decide +kernel) (by decide +kernel) (fun _ _ _ h => h) (by kernel_rfl) ?_ (by assumption) ?_
    rotate_left
    · (intro wz; go_simp; with_reducible rfl)
    try simp only [Act.put, List.setIfInBounds_toArray, List.set_cons_zero, List.set_cons_succ]
    refine wpAnyD_takeY (i := 2) (v := ?_) rfl (by kernel_rfl) (by decide +kernel) (by decide +kernel) (by decide +kernel) (fun _ _ _ h => h) (by kernel_rfl) ?_ (by assumption) ?_
    rotate_left
    · (intro wz; go_simp; with_reducible rfl)
    try simp only [Act.put, List.setIfInBounds_toArray, List.set_cons_zero, List.set_cons_succ]
    refine wpAnyD_takeY (i := 3) (v := ?_) rfl (by kernel_rfl) (by decide +kernel) (by decide +kernel) (by decide +kernel) (fun _ _ _ h => h) (by kernel_rfl) ?_ (by assumption) ?_
    rotate_left
    · (intro wz; go_simp; with_reducible rfl)
    try simp only [Act.put, List.setIfInBounds_toArray, List.set_cons_zero, List.set_cons_succ]
    refine wpAnyD_take (i := 4) (v := ?_) rfl (by kernel_rfl) (by decide +kernel) (by decide +kernel) (by decide +kernel) (by decide +kernel) (by decide +kernel) (fun _ _ _ h => h) (by kernel_rfl) ?_ (by assumption) ?_
    rotate_left
    · (intro wz hSw; (try dsimp only at hSw); go_simp; with_reducible rfl)
    try simp only [Act.put, List.setIfInBounds_toArray, List.set_cons_zero, List.set_cons_succ]
    refine wpAnyD_takeY (i := 5) (v := ?_) rfl (by kernel_rfl) (by decide +kernel) (by decide +kernel) (by decide +kernel) (fun _ _ _ h => h) (by kernel_rfl) ?_ (by assumption) ?_
    rotate_left
    · (intro wz; go_simp; with_reducible rfl)
    try simp only [Act.put, List.setIfInBounds_toArray, List.set_cons_zero, List.set_cons_succ]
    refine wpAnyD_takeY (i := 6) (v := ?_) rfl (by kernel_rfl) (by decide +kernel) (by decide +kernel) (by decide +kernel) (fun _ _ _ h => h) (by kernel_rfl) ?_ (by assumption) ?_
    rotate_left
    · (intro wz; go_simp; with_reducible rfl)
    try simp only [Act.put, List.setIfInBounds_toArray, List.set_cons_zero, List.set_cons_succ]
    refine wpAnyD_takeY (i := 7) (v := ?_) rfl (by kernel_rfl) (by decide +kernel) (by decide +kernel) (by decide +kernel) (fun _ _ _ h => h) (by kernel_rfl) ?_ (by assumption) ?_
    rotate_left
    · (intro wz; go_simp; with_reducible rfl)
    try simp only [Act.put, List.setIfInBounds_toArray, List.set_cons_zero, List.set_cons_succ]
    refine wpAnyD_takeY (i := 8) (v := ?_) rfl (by kernel_rfl) (by decide +kernel) (by decide +kernel) (by decide +kernel) (fun _ _ _ h => h) (by kernel_rfl) ?_ (by assumption) ?_
    rotate_left
    · (intro wz; go_simp; with_reducible rfl)
    try simp only [Act.put, List.setIfInBounds_toArray, List.set_cons_zero, List.set_cons_succ]
    refine wpAnyD_take (i := 9) (v := ?_) rfl (by kernel_rfl) (by decide +kernel) (by decide +kernel) (by decide +kernel) (by decide +kernel) (by decide +kernel) (fun _ _ _ h => h) (by kernel_rfl) ?_ (by assumption) ?_
    rotate_left
    · (intro wz hSw; (try dsimp only at hSw); go_simp; with_reducible rfl)
    try simp only [Act.put, List.setIfInBounds_toArray, List.set_cons_zero, List.set_cons_succ]
    refine wpAnyD_takeY (i := 10) (v := ?_) rfl (by kernel_rfl) (by decide +kernel) (by decide +kernel) (by decide +kernel) (fun _ _ _ h => h) (by kernel_rfl) ?_ (by assumption) ?_
    rotate_left
    · (intro wz; go_simp; with_reducible rfl)
    try simp only [Act.put, List.setIfInBounds_toArray, List.set_cons_zero, List.set_cons_succ]
    refine wpAnyD_takeY (i := 13) (v := ?_) rfl (by kernel_rfl) (by decide +kernel) (by decide +kernel) (by decide +kernel) (fun _ _ _ h => h) (by kernel_rfl) ?_ (by assumption) ?_
    rotate_left
    · (intro wz; go_simp; with_reducible rfl)
    try simp only [Act.put, List.setIfInBounds_toArray, List.set_cons_zero, List.set_cons_succ]
    refine wpAnyD_one (i := 11) rfl (by kernel_rfl) (by rfl) (fun K hK => ?_)
    have HK := Lib.hid hK
    clear hK
    go_simp
    refine HK.out _ _ ⟨cell_alloc hF.1 _, cell_alloc hF.2 _⟩ ?_
    clear HK K hF
    refine wpAnyD_one (i := 12) rfl (by kernel_rfl) (by rfl) (fun K hK => ?_)
    have HK := Lib.hid hK
    clear hK
    refine wp_append_run (.tmp 25) (.tmp 27) 51 rfl _ _ rfl rfl _ _ RUN.out ?_
    have hF2 := And.intro t5 t4
    refine HK.out _ _ hF2 ?_
    clear HK K RUN
    try simp only [Act.put, List.setIfInBounds_toArray, List.set_cons_zero, List.set_cons_succ]
    refine wpAnyD_takeY (i := 14) (v := ?_) rfl (by kernel_rfl) (by decide +kernel) (by decide +kernel) (by decide +kernel) (fun _ _ _ h => h) (by kernel_rfl) ?_ (by assumption) ?_
    rotate_left
    · (intro wz; go_simp; with_reducible rfl)
    try simp only [Act.put, List.setIfInBounds_toArray, List.set_cons_zero, List.set_cons_succ]
    refine wpAnyD_takeY (i := 15) (v := ?_) rfl (by kernel_rfl) (by decide +kernel) (by decide +kernel) (by decide +kernel) (fun _ _ _ h => h) (by kernel_rfl) ?_ (by assumption) ?_
    rotate_left
    · (intro wz; go_simp; with_reducible rfl)
    try simp only [Act.put, List.setIfInBounds_toArray, List.set_cons_zero, List.set_cons_succ]
    refine wpAnyD_oneZ (i := 16) rfl (by kernel_rfl) (by decide +kernel) (by rfl) (fun K hK => ?_)
    have HK := Lib.hid hK
    clear hK
    go_simp
    rw [← HY3.out]
    refine HK.out _ _ ?_
    clear HK K hF2 c5 c4 t4 t5 f4
    try simp only [Act.put, List.setIfInBounds_toArray, List.set_cons_zero, List.set_cons_succ]
    have hme := HME.out
    refine wpAnyD_oneZ (i := 17) rfl (by kernel_rfl) (by decide +kernel) (by rfl) (fun K hK => ?_)
    have HK := Lib.hid hK
    clear hK
    go_simp
    refine HK.out _ _ ?_
    clear HK K hme
    try simp only [Act.put, List.setIfInBounds_toArray, List.set_cons_zero, List.set_cons_succ]
    refine wpAnyD_oneZ (i := 18) rfl (by kernel_rfl) (by decide +kernel) (by rfl) (fun K hK => ?_)
    have HK := Lib.hid hK
    clear hK
    go_simp
    refine HK.out _ _ ?_
    clear HK K
    try simp only [Act.put, List.setIfInBounds_toArray, List.set_cons_zero, List.set_cons_succ]
    have hes := HES.out
    refine wpAnyD_oneZ (i := 19) rfl (by kernel_rfl) (by decide +kernel) (by rfl) (fun K hK => ?_)
    have HK := Lib.hid hK
    clear hK
    go_simp
    refine HK.out _ _ ?_
    clear HK K hes
    try simp only [Act.put, List.setIfInBounds_toArray, List.set_cons_zero, List.set_cons_succ]
    refine wpAnyD_done (by kernel_rfl) ?_ _
    go_simp
    go_wp2_with fail
    go_ret
    obtain ⟨v2, k02, k23, b3, m3, g2, l2⟩ := FIN.out
    have k35 := setB_keeps Y3 mb (numO (f.N ++ [s]))
    have H := HF.out
    have hfb := lt_of_block H1.out
    have hmb := lt_of_block H.n
    have gw : g ∈ blk a ∨ w.heap.size ≤ g := by
      rcases g2 with h | h
      · exact .inl h
      · right; rw [h]; simp
    have gfb : g ≠ fb := fun e => by
      rcases gw with h | h
      · rw [e] at h; exact D1.out.1 h
      · omega
    have gmb : g ≠ mb := fun e => by
      rcases gw with h | h
      · rw [e] at h; exact D1.out.2.1 h
      · omega
    have kk : Keeps (fb :: mb :: blk a) w (setB Y3 mb (numO (f.N ++ [s]))) := ((k02.mono (fun x hx => List.mem_cons_of_mem _ (List.mem_cons_of_mem _ hx))).trans (k23.mono (by simp))).trans (k35.mono (by simp))
    have d1 := H.d1
    have d2 := H.d2
    have d3 := H.d3
    simp only [List.mem_cons, List.mem_append, not_or] at d1 d2
    have e1 : (f.N ++ [s]).length = n + 1 := by simp [hn.out]
    refine ⟨some ⟨g, 0, none⟩, by unfold giveI; rw [HQ.out, ← hn.out]; rfl, ?_, kk, fun z hz => by simp only [blk, List.mem_singleton] at hz; subst hz; exact gw⟩
    have eN : giveN f.N s = f.N ++ [s] := by unfold giveN; rw [HQ.out]
    rw [eN]
    refine ⟨⟨cap, ?_, ?_⟩, H.k.keeps kk (fun z hz hy => ?_), setB_has m3, ?_, ?_, fun z hz hy => ?_, H.l⟩
    · show _ = some (famO f.most f.pairs (mV m) t (.slice (some ⟨g, 0, none⟩) (f.N ++ [s]).length cap) mb)
      rw [e1]; exact k35.has b3 (by simp; exact D1.out.2.2)
    · show ValRow 9 lo (some ⟨g, 0, none⟩) (f.N ++ [s]).length cap (strV (f.N ++ [s])) _
      rw [e1]
      refine ((v2.keeps k23 (fun x hx hy => by simp [blk] at hx hy; subst hx; exact gfb hy)).keeps k35 (fun x hx hy => by simp [blk] at hx hy; subst hx; exact gmb hy)).congr (fun j hj => ?_)
      rw [hn.out]; exact strV_push f.N s j (by rw [← hn.out]; exact hj)
    · simp only [List.mem_cons] at hy
      rcases hy with rfl | rfl | hy
      · exact d1.2.2 hz
      · exact d2.2 hz
      · exact d3 z hy hz
    · simp only [blk, List.mem_cons, List.mem_append, not_or, List.not_mem_nil, not_false_eq_true, and_true]
      exact ⟨d1.1, fun e => gfb e.symm, d1.2.2⟩
    · simp only [blk, List.mem_cons, List.mem_append, not_or, List.not_mem_nil, not_false_eq_true, and_true]
      exact ⟨fun e => gmb e.symm, d2.2⟩
    · simp only [blk, List.mem_singleton] at hz; subst hz
      rcases gw with h | h
      · exact d3 _ h hy
      · have := (H.k.foot _ hy).2; omega
end Go.Proofs.YtajmfenfajbakaaGreat
