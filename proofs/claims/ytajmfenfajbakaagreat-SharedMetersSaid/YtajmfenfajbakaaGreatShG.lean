/- A name more behind the row of a shared namespace (chapter 10). Printed by mk_radd.py. -/
import Derived.Test.YtajmfenfajbakaaGreatShF
namespace Go.Proofs.YtajmfenfajbakaaGreat
open Go.RowKit
set_option linter.unusedVariables false
set_option linter.unusedSimpArgs false

theorem int_app10 (lo : Nat) (a : Option Addr) (c m : Nat) (V : Nat → Value) (x : Int) (W : World) (B : Nat) (h : ValRow 3 lo a m c V W) (hB : W.heap[B]? = some (.cells #[.int .i64 x] 3 (0, 0))) (hm : m ≤ 1000000) (hlo : lo ≤ W.heap.size) :
    ∃ g cap w', (Builtin.append_ #[60, 60] 60 #[.slice a m c, .slice (some ⟨B, 0, none⟩) 1 1]).run Tryz.prog W = .ok (.slice (some ⟨g, 0, none⟩) (m + 1) cap) w' ∧ ValRow 3 lo (some ⟨g, 0, none⟩) (m + 1) cap (putV V m (.int .i64 x)) w' ∧ Keeps (blk a) W w' ∧ (g ∈ blk a ∨ g = W.heap.size) ∧ g < w'.heap.size := by
  obtain ⟨j0, hi, hz0, hz1, hz2⟩ := info_parts info64
  obtain ⟨g, cap, w', r1, r2, r3, r4, r5⟩ := run_append_lies (P := Tryz.prog) W 60 60 lo 3 j0 (.int .i64 0) 1 8 Tryz.underlying60 hi hz0 hz1 hz2 rfl (by decide) _ m (valR m V) h ⟨B, 0, none⟩ 1 1 [.int .i64 x] rfl
    (fun j u hj => by
      have hlt : j < 1 := by have := (List.getElem?_eq_some_iff.1 hj).1; simpa using this
      obtain rfl : j = 0 := by omega
      rw [show (⟨B, 0, none⟩ : Addr).add 0 = ⟨B, 0, none⟩ by unfold Addr.add; split <;> simp_all, cell_of_has hB]
      simpa using hj) (by intro u hu; simp at hu; subst hu; rfl) (by decide) (by unfold maxLen; omega) (by omega) hlo _ rfl
  refine ⟨g, cap, w', r1, ValRow.of_append r2, ?_, ?_, r5⟩
  · exact ⟨r3.os, r3.tape, r3.output, r3.size, fun k hk hn => r3.block k hk (fun e => hn (blk_own a _ _ k e.symm))⟩
  · rcases r4 with r4 | r4
    · exact .inl (blk_own a _ _ g r4)
    · exact .inr r4
theorem intL_push (vs : List Int) (v : Int) : ∀ k, k < vs.length + 1 → putV (intL vs) vs.length (.int .i64 v) k = intL (vs ++ [v]) k := by
  intro k hk
  unfold putV intL
  by_cases e : k = vs.length
  · subst e; simp [List.getD]
  · have : k < vs.length := by omega
    simp [e, List.getD, List.getElem?_append_left, this]
/-- What becomes of the family when a name is laid behind the row; none: it can't be kept so. -/
def rowAdd (f : Fam) (n : Nat) (s : ByteArray) (c : C4) : Option (Fam × C4) :=
  if n < liveN f.K.E then (if (atE (entE f.K.E (n : Int))).key = numI f.N s then some (f, c) else none)
  else if f.most ≤ (n : Int) then none else some ({ f with N := giveN f.N s, K := f.K.add (txtH s) (giveI f.N s : Nat) 0 }, if f.K.E.length = f.K.room then c.tab else c)
/-- Behind row.add. -/
def RowAddP (fb t mb lo : Nat) (a : Option Addr) (ST : List Nat) (m : Option Nat) (f : Fam) (rb lor : Nat) (ar : Option Addr) (vs : List Int) (s : ByteArray) (v : Int) (c : C4) (w : World) (r : Ending) (w' : World) : Prop :=
  (rowAdd f vs.length s c = none ∧ r = .returned (.bool false) ∧ Keeps [] w w') ∨
  ∃ f' c' a' ST' ar', rowAdd f vs.length s c = some (f', c') ∧ r = .returned (.bool true) ∧ FamAt fb t mb lo a' ST' m f' w' ∧ RowAt rb lor ar' (vs ++ [v]) w' ∧ MtrAt m c'.val w' ∧ Keeps (famS fb mb a ST ++ (rb :: blk ar) ++ mS m) w w' ∧ Grew (famS fb mb a ST) w (famS fb mb a' ST') ∧ Grew (rb :: blk ar) w (rb :: blk ar') ∧ (∀ z, z ∈ famS fb mb a' ST' → z ∉ rb :: blk ar')
set_option maxRecDepth 100000 in
set_option maxHeartbeats 4000000 in
theorem radd_same (k : Nat) (hk : k ≤ 1000) (fb t mb lo : Nat) (a : Option Addr) (ST : List Nat) (m : Option Nat) (f : Fam) (rb lor : Nat) (ar : Option Addr) (vs : List Int) (c : C4) (s : ByteArray) (v : Int) (w : World) (H : FamAt fb t mb lo a ST m f w) (HR : RowAt rb lor ar vs w) (hM : MtrAt m c w) (hm : ∀ b, m = some b → b < lo) (hmr : ∀ b, m = some b → b ∉ rb :: blk ar) (hd : ∀ z, z ∈ famS fb mb a ST → z ∉ rb :: blk ar) (hI : TInv k f.K) (hs : s.size ≤ 1000000) (hN : f.N.length ≤ 100000) (hv : vs.length ≤ 100000) (hlt : vs.length < liveN f.K.E) (hkey : (atE (entE f.K.E (vs.length : Int))).key = numI f.N s) :
    Calls Tryz.prog 134 #[.pointer (some ⟨rb, 0, none⟩), .pointer (some ⟨fb, 0, none⟩), .string s, .int .i64 v] w (RowAddP fb t mb lo a ST m f rb lor ar vs s v c w) := by
  have HF := Lib.hid H
  have HRR := Lib.hid HR
  have HM := Lib.hid hM
  have HMM := Lib.hid hm
  have HMR := Lib.hid hmr
  have HD := Lib.hid hd
  have HI := Lib.hid hI
  obtain ⟨c9, h1, _⟩ := H.b
  obtain ⟨cr, r1, _⟩ := HR.b
  have e0 : w.cell? ⟨fb, 0, none⟩ = some (.int .i64 f.most) := cell_has h1 (i := 0) rfl
  have e3 : w.cell? ⟨fb, 3, none⟩ = some (.pointer (some ⟨t, 0, none⟩)) := cell_has h1 (i := 3) rfl
  have y0 : w.cell? ⟨rb, 0, none⟩ = some (.slice ar vs.length cr) := cell_has r1 (i := 0) rfl
  have LEN := len_any t lo ST (mV m) f.K w H.k
  obtain ⟨n, hn⟩ := ex_hid vs.length
  obtain ⟨ln, hln⟩ := ex_hid (liveN f.K.E)
  obtain ⟨mo, hmo⟩ := ex_hid f.most
  rw [← hmo.out] at e0
  rw [← hn.out] at y0 hv
  rw [← hln.out] at LEN
  rw [← hn.out] at hkey hlt
  rw [← hln.out] at hlt
  have RA5 := Lib.hid (show rowAdd f vs.length s c = some (f, c) from by unfold rowAdd; rw [← hn.out, ← hln.out, if_pos hlt, if_pos hkey])
  have KEY := Lib.hid hkey
  clear H HR hM hm hmr hd hI h1 r1
  clear hkey
  have n0 : (0 : Int) ≤ (n : Int) := by omega
  have hgt : (n : Int) < (ln : Int) := by omega
  have hgb : decide ((n : Int) < (ln : Int)) = true := by simp; omega
  obtain ⟨ta, tc, tcb, tcr, g1, g2, _⟩ := HF.out.k
  have AT := at_any t lo tc ta f.K.E _ _ _ _ _ _ (n : Int) w g1 g2 (by have := HI.out.ek; omega)
  obtain ⟨x, hx⟩ := ex_hid (atE (entE f.K.E (n : Int)))
  rw [← hx.out] at AT
  unfold Ent.agg at AT
  have NU := fun (W : World) (h : FamAt fb t mb lo a ST m f W) => fnum_any fb t mb lo a ST m f s W h
  obtain ⟨nu, hnu⟩ := ex_hid (numI f.N s)
  rw [← hnu.out] at NU
  have NU := Lib.hid NU
  clear g1 g2
  go_enter Tryz.func134, Tryz.ntmps134
  go_wp2_with fail
  refine LEN.mono ?_
  rintro r w1 ⟨rfl, rfl⟩
  go_wp2_with fail
  refine AT.mono ?_
  rintro r w1 ⟨rfl, b1⟩
  have k1 := Below.keeps b1 []
  have K1 := Lib.hid k1
  clear b1 k1 AT LEN
  go_upto_region 5 with (fail)
  refine wp_gen (fun V => V.heap[w1.heap.size]? = some (.cells #[.bool x.live, .int .i64 x.hash, .int .i64 x.key, .int .i64 x.val, .int .i64 x.birth] 99 (0, 0)) ∧ Keeps [] w1 V) ⟨has_new _ _, (Keeps.refl [] w1).alloc _⟩ ?_
  rintro w2 ⟨b2, k2⟩
  have K2 := Lib.hid (K1.out.trans k2)
  have y2 : w2.cell? ⟨w1.heap.size, 2, none⟩ = some (.int .i64 x.key) := cell_has b2 (i := 2) rfl
  obtain ⟨xk, hxk⟩ := ex_hid x.key
  rw [← hxk.out] at y2
  clear b2 k2 e0 e3 y0
  go_region_held3 (fun w' => w'.cell? ⟨w1.heap.size, 2, none⟩ = some (.int .i64 xk)) (go_keep)
    (first | (go_at_call 106; refine (NU.out _ ((HF.out.keeps K2.out (by simp)).keeps (Keeps.refl [] w2).drew (by simp))).mono ?_; rintro r w3 ⟨rfl, rfl⟩))
  have hq : (xk != nu) = false := by have := KEY.out; rw [← hx.out, ← hxk.out, ← hnu.out] at this; simp [this]
  obtain ⟨W5, hW5⟩ : ∃ W5, W5 = w2.drew := ⟨_, rfl⟩
  rw [← hW5]
  have KW5 := Lib.hid (show Keeps (famS fb mb a ST ++ mS m) w W5 from by rw [hW5]; exact (K2.out.mono (by simp)).drew)
  have k0 : Keeps [] w W5 := by rw [hW5]; exact K2.out.drew
  have R5 := Lib.hid (HRR.out.keeps k0 (by simp))
  have F5 := Lib.hid (HF.out.keeps k0 (by simp))
  have M5 := Lib.hid (HM.out.keeps k0 (by simp))
  have D5 := Lib.hid HD.out
  have G5 := Lib.hid (Grew.refl (famS fb mb a ST) w)
  clear y2 hW5 k0
  go_upto_region 9 with (fail)
  obtain ⟨cr5, r5, q5⟩ := R5.out.b
  rw [← hn.out] at r5 q5
  obtain ⟨g, cap, W6, run6, v6, k6, g6, l6⟩ := int_app10 lor ar cr5 n (intL vs) v (W5.alloc (.cells #[.int .i64 v] 3)) W5.heap.size (q5.keeps ((Keeps.refl [] W5).alloc _) (by simp)) (has_new _ _) (by omega) (by have := (R5.out.foot rb (by simp)); simp; omega)
  have RUN := Lib.hid run6
  have k56 : Keeps (blk ar) W5 W6 := ((Keeps.refl (blk ar) W5).alloc _).trans k6
  have b6 := k56.has r5 R5.out.d
  have y5 : W5.cell? ⟨rb, 0, none⟩ = some (.slice ar n cr5) := cell_has r5 (i := 0) rfl
  have y6 : W6.cell? ⟨rb, 0, none⟩ = some (.slice ar n cr5) := cell_has b6 (i := 0) rfl
  have z6 := free_of_has b6 0
  have B6 := Lib.hid b6
  have K56 := Lib.hid k56
  have FIN := Lib.hid (And.intro v6 (And.intro g6 l6))
  clear r5 q5 run6 v6 k6 g6 l6 k56 b6
  go_upto_region 10 with (at_builtin; refine wpList_append_run rfl _ _ 60 rfl _ _ rfl rfl _ _ RUN.out ?_)
  refine wp_gen (fun V => V.heap[rb]? = some (rowWO (.slice (some ⟨g, 0, none⟩) (n + 1) cap)) ∧ Keeps [rb] W6 V) ⟨(by have h0 := has_setCell B6.out 0 (.slice (some ⟨g, 0, none⟩) (n + 1) cap); unfold rowWO at h0 ⊢; simpa using h0), (Keeps.refl [rb] W6).setCell (p := ⟨rb, 0, none⟩) (.inr (by simp)) _⟩ ?_
  rintro W7 ⟨b7, k7⟩
  have K57 := Lib.hid (show Keeps (rb :: blk ar) W5 W7 from (K56.out.mono (fun x hx => List.mem_cons_of_mem _ hx)).trans (k7.mono (by simp)))
  have B7 := Lib.hid b7
  have K67 := Lib.hid k7
  have F7 := Lib.hid (F5.out.keeps K57.out (fun z hz => D5.out z hz))
  have M7 := M5.out.keeps K57.out HMR.out
  obtain ⟨c99, h7, _⟩ := F7.out.b
  have x7 : W7.cell? ⟨fb, 2, none⟩ = some (mV m) := cell_has h7 (i := 2) rfl
  clear b7 k7 y5 y6 z6 h7
  obtain ⟨mp, hmp⟩ : ∃ p : Option Addr, Hid (mV m = .pointer p) := ⟨_, Lib.hid rfl⟩
  have CH := mcharge_any m c W7 M7
  rw [hmp.out] at x7 CH
  clear M7
  go_wp2_with fail
  refine CH.mono ?_
  rintro r W8 ⟨rfl, k8, m8⟩
  have K8 := Lib.hid k8
  have M8 := Lib.hid m8
  clear k8 m8 CH x7
  go_wp2_with fail
  go_ret
  obtain ⟨v6, g6, l6⟩ := FIN.out
  have gr : g ≠ rb := fun e => by
    have hrb := R5.out.foot rb (by simp)
    rcases g6 with h | h
    · rw [e] at h; exact R5.out.d h
    · simp at h; omega
  have NM7 : ∀ z, z ∈ mS m → (∀ b, m = some b → b ≠ z) → False := fun z hz hq => by
    cases hmm : m with
    | none => rw [hmm] at hz; simp [mS] at hz
    | some b => rw [hmm] at hz; simp [mS] at hz; exact hq b hmm hz.symm
  have fm : ∀ z, z ∈ famS fb mb a ST → z ∉ mS m := fun z hz hy => NM7 z hy (fun b hb e => by
    have h8 := HMM.out b hb
    have h9 := (F5.out.foot z hz).1
    omega)
  have rm : ∀ z, z ∈ rb :: blk ar → z ∉ mS m := fun z hz hy => NM7 z hy (fun b hb e => HMR.out b hb (e ▸ hz))
  have gm : g ∉ mS m := fun hy => by
    rcases g6 with h | h
    · exact rm g (List.mem_cons_of_mem _ h) hy
    · refine NM7 g hy (fun b hb e => ?_)
      have h8 := lt_of_block (HM.out b hb)
      have h9 := KW5.out.size
      simp at h; omega
  refine .inr ⟨f, c, a, ST, some ⟨g, 0, none⟩, RA5.out, rfl, F7.out.keeps K8.out fm, ⟨⟨cap, ?_, ?_⟩, by simp [blk]; exact fun e => gr e.symm, HRR.out.l⟩, M8.out, ?_, G5.out, ?_, ?_⟩
  · have e1 : (vs ++ [v]).length = n + 1 := by simp [hn.out]
    rw [e1]; exact K8.out.has B7.out (rm rb (by simp))
  · have e1 : (vs ++ [v]).length = n + 1 := by simp [hn.out]
    rw [e1]
    refine ((v6.keeps K67.out (fun x hx hy => by simp [blk] at hx hy; subst hx; exact gr hy)).keeps K8.out (fun x hx hy => by simp only [blk, List.mem_singleton] at hx; subst hx; exact gm hy)).congr (fun j hj => ?_)
    rw [hn.out]; exact intL_push vs v j (by rw [← hn.out]; exact hj)
  · refine ((KW5.out.mono ?_).then K57.out (fun z hz => .inr ?_)).then K8.out (fun z hz => .inr ?_)
    · intro z hz; simp only [List.mem_append] at hz ⊢; rcases hz with h | h <;> simp [h]
    · exact List.mem_append_left _ (List.mem_append_right _ hz)
    · exact List.mem_append_right _ hz
  · intro z hz
    simp only [blk, List.mem_cons, List.mem_singleton, List.not_mem_nil, or_false] at hz
    rcases hz with rfl | rfl
    · left; simp
    · rcases g6 with h | h
      · left; simp [h]
      · right; have := KW5.out.size; simp at h; omega
  · intro z hz hy
    have zl := (F5.out.foot z hz).2
    simp only [blk, List.mem_cons, List.mem_singleton, List.not_mem_nil, or_false] at hy
    rcases hy with rfl | rfl
    · exact D5.out _ hz (by simp)
    · rcases g6 with h | h
      · exact D5.out _ hz (List.mem_cons_of_mem _ h)
      · simp at h; omega
set_option maxRecDepth 100000 in
theorem radd_other (k : Nat) (hk : k ≤ 1000) (fb t mb lo : Nat) (a : Option Addr) (ST : List Nat) (m : Option Nat) (f : Fam) (rb lor : Nat) (ar : Option Addr) (vs : List Int) (c : C4) (s : ByteArray) (v : Int) (w : World) (H : FamAt fb t mb lo a ST m f w) (HR : RowAt rb lor ar vs w) (hM : MtrAt m c w) (hm : ∀ b, m = some b → b < lo) (hmr : ∀ b, m = some b → b ∉ rb :: blk ar) (hd : ∀ z, z ∈ famS fb mb a ST → z ∉ rb :: blk ar) (hI : TInv k f.K) (hs : s.size ≤ 1000000) (hN : f.N.length ≤ 100000) (hv : vs.length ≤ 100000) (hlt : vs.length < liveN f.K.E) (hkey : (atE (entE f.K.E (vs.length : Int))).key ≠ numI f.N s) :
    Calls Tryz.prog 134 #[.pointer (some ⟨rb, 0, none⟩), .pointer (some ⟨fb, 0, none⟩), .string s, .int .i64 v] w (RowAddP fb t mb lo a ST m f rb lor ar vs s v c w) := by
  have HF := Lib.hid H
  have HRR := Lib.hid HR
  have HM := Lib.hid hM
  have HMM := Lib.hid hm
  have HMR := Lib.hid hmr
  have HD := Lib.hid hd
  have HI := Lib.hid hI
  obtain ⟨c9, h1, _⟩ := H.b
  obtain ⟨cr, r1, _⟩ := HR.b
  have e0 : w.cell? ⟨fb, 0, none⟩ = some (.int .i64 f.most) := cell_has h1 (i := 0) rfl
  have e3 : w.cell? ⟨fb, 3, none⟩ = some (.pointer (some ⟨t, 0, none⟩)) := cell_has h1 (i := 3) rfl
  have y0 : w.cell? ⟨rb, 0, none⟩ = some (.slice ar vs.length cr) := cell_has r1 (i := 0) rfl
  have LEN := len_any t lo ST (mV m) f.K w H.k
  obtain ⟨n, hn⟩ := ex_hid vs.length
  obtain ⟨ln, hln⟩ := ex_hid (liveN f.K.E)
  obtain ⟨mo, hmo⟩ := ex_hid f.most
  rw [← hmo.out] at e0
  rw [← hn.out] at y0 hv
  rw [← hln.out] at LEN
  rw [← hn.out] at hkey hlt
  rw [← hln.out] at hlt
  have RA5 := Lib.hid (show rowAdd f vs.length s c = none from by unfold rowAdd; rw [← hn.out, ← hln.out, if_pos hlt, if_neg hkey])
  have KEY := Lib.hid hkey
  clear H HR hM hm hmr hd hI h1 r1
  clear hkey
  have n0 : (0 : Int) ≤ (n : Int) := by omega
  have hgt : (n : Int) < (ln : Int) := by omega
  have hgb : decide ((n : Int) < (ln : Int)) = true := by simp; omega
  obtain ⟨ta, tc, tcb, tcr, g1, g2, _⟩ := HF.out.k
  have AT := at_any t lo tc ta f.K.E _ _ _ _ _ _ (n : Int) w g1 g2 (by have := HI.out.ek; omega)
  obtain ⟨x, hx⟩ := ex_hid (atE (entE f.K.E (n : Int)))
  rw [← hx.out] at AT
  unfold Ent.agg at AT
  have NU := fun (W : World) (h : FamAt fb t mb lo a ST m f W) => fnum_any fb t mb lo a ST m f s W h
  obtain ⟨nu, hnu⟩ := ex_hid (numI f.N s)
  rw [← hnu.out] at NU
  have NU := Lib.hid NU
  clear g1 g2
  go_enter Tryz.func134, Tryz.ntmps134
  go_wp2_with fail
  refine LEN.mono ?_
  rintro r w1 ⟨rfl, rfl⟩
  go_wp2_with fail
  refine AT.mono ?_
  rintro r w1 ⟨rfl, b1⟩
  have k1 := Below.keeps b1 []
  have K1 := Lib.hid k1
  clear b1 k1 AT LEN
  go_upto_region 5 with (fail)
  refine wp_gen (fun V => V.heap[w1.heap.size]? = some (.cells #[.bool x.live, .int .i64 x.hash, .int .i64 x.key, .int .i64 x.val, .int .i64 x.birth] 99 (0, 0)) ∧ Keeps [] w1 V) ⟨has_new _ _, (Keeps.refl [] w1).alloc _⟩ ?_
  rintro w2 ⟨b2, k2⟩
  have K2 := Lib.hid (K1.out.trans k2)
  have y2 : w2.cell? ⟨w1.heap.size, 2, none⟩ = some (.int .i64 x.key) := cell_has b2 (i := 2) rfl
  obtain ⟨xk, hxk⟩ := ex_hid x.key
  rw [← hxk.out] at y2
  clear b2 k2 e0 e3 y0
  go_region_held3 (fun w' => w'.cell? ⟨w1.heap.size, 2, none⟩ = some (.int .i64 xk)) (go_keep)
    (first | (go_at_call 106; refine (NU.out _ ((HF.out.keeps K2.out (by simp)).keeps (Keeps.refl [] w2).drew (by simp))).mono ?_; rintro r w3 ⟨rfl, rfl⟩))
  have hq : (xk != nu) = true := by have := KEY.out; rw [← hx.out, ← hxk.out, ← hnu.out] at this; simpa using this
  go_wp2_with fail
  go_ret
  exact .inl ⟨RA5.out, rfl, K2.out.drew⟩
set_option maxRecDepth 100000 in
theorem radd_full (k : Nat) (hk : k ≤ 1000) (fb t mb lo : Nat) (a : Option Addr) (ST : List Nat) (m : Option Nat) (f : Fam) (rb lor : Nat) (ar : Option Addr) (vs : List Int) (c : C4) (s : ByteArray) (v : Int) (w : World) (H : FamAt fb t mb lo a ST m f w) (HR : RowAt rb lor ar vs w) (hM : MtrAt m c w) (hm : ∀ b, m = some b → b < lo) (hmr : ∀ b, m = some b → b ∉ rb :: blk ar) (hd : ∀ z, z ∈ famS fb mb a ST → z ∉ rb :: blk ar) (hI : TInv k f.K) (hs : s.size ≤ 1000000) (hN : f.N.length ≤ 100000) (hv : vs.length ≤ 100000) (hlt : liveN f.K.E ≤ vs.length) (hmost : f.most ≤ (vs.length : Int)) :
    Calls Tryz.prog 134 #[.pointer (some ⟨rb, 0, none⟩), .pointer (some ⟨fb, 0, none⟩), .string s, .int .i64 v] w (RowAddP fb t mb lo a ST m f rb lor ar vs s v c w) := by
  have HF := Lib.hid H
  have HRR := Lib.hid HR
  have HM := Lib.hid hM
  have HMM := Lib.hid hm
  have HMR := Lib.hid hmr
  have HD := Lib.hid hd
  have HI := Lib.hid hI
  obtain ⟨c9, h1, _⟩ := H.b
  obtain ⟨cr, r1, _⟩ := HR.b
  have e0 : w.cell? ⟨fb, 0, none⟩ = some (.int .i64 f.most) := cell_has h1 (i := 0) rfl
  have e3 : w.cell? ⟨fb, 3, none⟩ = some (.pointer (some ⟨t, 0, none⟩)) := cell_has h1 (i := 3) rfl
  have y0 : w.cell? ⟨rb, 0, none⟩ = some (.slice ar vs.length cr) := cell_has r1 (i := 0) rfl
  have LEN := len_any t lo ST (mV m) f.K w H.k
  obtain ⟨n, hn⟩ := ex_hid vs.length
  obtain ⟨ln, hln⟩ := ex_hid (liveN f.K.E)
  obtain ⟨mo, hmo⟩ := ex_hid f.most
  rw [← hmo.out] at e0
  rw [← hn.out] at y0 hv
  rw [← hln.out] at LEN
  rw [← hn.out] at hmost hlt
  rw [← hln.out] at hlt
  have RA5 := Lib.hid (show rowAdd f vs.length s c = none from by unfold rowAdd; rw [← hn.out, ← hln.out, if_neg (by omega), if_pos hmost])
  rw [← hmo.out] at hmost
  have hgb : decide ((n : Int) < (ln : Int)) = false := by simp; omega
  have hgt : ¬ (n : Int) < (ln : Int) := by omega
  have hmb : decide (mo ≤ (n : Int)) = true := by simpa using hmost
  clear H HR hM hm hmr hd hI h1 r1
  go_enter Tryz.func134, Tryz.ntmps134
  go_wp2_with fail
  refine LEN.mono ?_
  rintro r w1 ⟨rfl, rfl⟩
  go_wp2_with fail
  go_ret
  exact .inl ⟨RA5.out, rfl, Keeps.refl _ _⟩
end Go.Proofs.YtajmfenfajbakaaGreat
