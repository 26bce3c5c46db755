/- A new name is laid behind the row of a shared namespace (chapter 10). -/
import Derived.Test.YtajmfenfajbakaaGreatShG
namespace Go.Proofs.YtajmfenfajbakaaGreat
open Go.RowKit
set_option linter.unusedVariables false
set_option linter.unusedSimpArgs false

set_option maxRecDepth 100000 in
set_option maxHeartbeats 8000000 in
theorem radd_new (k : Nat) (hk : k ≤ 1000) (fb t mb lo : Nat) (a : Option Addr) (ST : List Nat) (m : Option Nat) (f : Fam) (rb lor : Nat) (ar : Option Addr) (vs : List Int) (c : C4) (s : ByteArray) (v : Int) (w : World) (H : FamAt fb t mb lo a ST m f w) (HR : RowAt rb lor ar vs w) (hM : MtrAt m c w) (hm : ∀ b, m = some b → b < lo) (hmr : ∀ b, m = some b → b ∉ rb :: blk ar) (hd : ∀ z, z ∈ famS fb mb a ST → z ∉ rb :: blk ar) (hI : TInv k f.K) (hs : s.size ≤ 1000000) (hN : f.N.length ≤ 100000) (hv : vs.length ≤ 100000) (hlt : liveN f.K.E ≤ vs.length) (hmost : ¬ f.most ≤ (vs.length : Int)) :
    Calls Tryz.prog 134 #[.pointer (some ⟨rb, 0, none⟩), .pointer (some ⟨fb, 0, none⟩), .string s, .int .i64 v] w (RowAddP fb t mb lo a ST m f rb lor ar vs s v c w) := by
  have HF := Lib.hid H
  have HRR := Lib.hid HR
  have HM := Lib.hid hM
  have HMM := Lib.hid hm
  have HMR := Lib.hid hmr
  have HD := Lib.hid hd
  have HI := Lib.hid hI
  obtain ⟨c9, h1, _⟩ := H.b
  obtain ⟨cr, r1, _⟩ := HR.b
  have e0 : w.cell? ⟨fb, 0, none⟩ = some (.int .i64 f.most) := cell_has h1 (i := 0) rfl
  have e3 : w.cell? ⟨fb, 3, none⟩ = some (.pointer (some ⟨t, 0, none⟩)) := cell_has h1 (i := 3) rfl
  have y0 : w.cell? ⟨rb, 0, none⟩ = some (.slice ar vs.length cr) := cell_has r1 (i := 0) rfl
  have LEN := len_any t lo ST (mV m) f.K w H.k
  obtain ⟨n, hn⟩ := ex_hid vs.length
  obtain ⟨ln, hln⟩ := ex_hid (liveN f.K.E)
  obtain ⟨mo, hmo⟩ := ex_hid f.most
  rw [← hmo.out] at e0
  rw [← hn.out] at y0 hv
  rw [← hln.out] at LEN
  rw [← hn.out] at hmost hlt
  rw [← hln.out] at hlt
  obtain ⟨C5, hC5⟩ : ∃ C5, C5 = if f.K.E.length = f.K.room then c.tab else c := ⟨_, rfl⟩
  have RA5 := Lib.hid (show rowAdd f vs.length s c = some ({ f with N := giveN f.N s, K := f.K.add (txtH s) (giveI f.N s : Nat) 0 }, C5) from by unfold rowAdd; rw [← hn.out, ← hln.out, if_neg (by omega), if_neg hmost, hC5])
  rw [← hmo.out] at hmost
  have hgb : decide ((n : Int) < (ln : Int)) = false := by simp; omega
  have hgt : ¬ (n : Int) < (ln : Int) := by omega
  have hmb : decide (mo ≤ (n : Int)) = false := by simpa using hmost
  have TX := fun W => text_any s W hs
  obtain ⟨hh, hhh⟩ := ex_hid (txtH s)
  rw [← hhh.out] at TX
  have TXH := Lib.hid TX
  have NMM := Lib.hid (show ∀ z, lo ≤ z → z ∉ mS m from fun z hz hy => by
    cases hmm : m with
    | none => rw [hmm] at hy; simp [mS] at hy
    | some b => rw [hmm] at hy; simp [mS] at hy; have := hm b hmm; omega)
  have GV := Lib.hid (fun (W : World) (h : FamAt fb t mb lo a ST m f W) => give_any fb t mb lo a ST m f s W h hN)
  have HC5 := Lib.hid hC5
  clear H HR hM hm hmr hd hI h1 r1
  clear TX hC5
  go_enter Tryz.func134, Tryz.ntmps134
  go_wp2_with fail
  refine LEN.mono ?_
  rintro r w1 ⟨rfl, rfl⟩
  clear LEN
  go_upto_region 2 with (fail)
  have e3d := e3
  clear e0 y0
  go_region_held3 (fun w' => w'.cell? ⟨fb, 3, none⟩ = some (.pointer (some ⟨t, 0, none⟩))) (go_keep)
    (first
      | (go_at_call 88; refine (TXH.out _).mono ?_; rintro r w2 ⟨rfl, k2⟩; have K2 := Lib.hid (show Keeps [] w w2 from (Keeps.refl [] w).drew.trans k2); have p3 := k2.cell (w := w.drew) e3 (by simp); clear k2)
      | (go_at_call 89; refine (GV.out w2 (HF.out.keeps K2.out (by simp))).mono ?_; rintro r w3 ⟨a3, rfl, f3, k3, g3⟩; have F3 := Lib.hid f3; have K3 := Lib.hid k3; have G3 := Lib.hid g3; have q3 : w3.cell? ⟨fb, 3, none⟩ = some (.pointer (some ⟨t, 0, none⟩)) := (by obtain ⟨c88, h88, _⟩ := F3.out.b; exact cell_has h88 (i := 3) rfl); clear f3 k3 g3)
      | (go_at_call 87; refine (add10_tab k hk t lo ST m c f.K w3 F3.out.k ((HM.out.keeps K2.out (by simp)).keeps K3.out (fun b hb hx => by have h8 := HMM.out b hb; have h9 := (HF.out.foot b (by unfold famS; simp only [List.mem_cons, List.mem_append] at hx ⊢; rcases hx with h | h | h <;> simp [h])).1; omega)) HMM.out HI.out hh (giveI f.N s : Nat) 0).mono ?_; rintro r W5 ⟨S4, rfl, t4, m4, k4, g4⟩; have T4 := Lib.hid t4; have M4 := Lib.hid m4; have K4 := Lib.hid k4; have G4 := Lib.hid g4; have s3 : W5.cell? ⟨fb, 3, none⟩ = some (.pointer (some ⟨t, 0, none⟩)) := (by refine K4.out.cell q3 (fun hx => ?_); simp only [List.mem_append] at hx; have hd1 := F3.out.d1; simp only [List.mem_cons, List.mem_append, not_or] at hd1; rcases hx with h | h; exact hd1.2.2 h; exact NMM.out fb (by have := (HF.out.foot fb (by unfold famS; simp)).1; exact this) h); clear t4 m4 k4 g4))
  have fo := HF.out.foot
  have ro := HRR.out.foot
  have d1 := F3.out.d1
  have d2 := F3.out.d2
  have d3 := F3.out.d3
  simp only [List.mem_cons, List.mem_append, not_or] at d1 d2
  have z2 := K2.out.size
  have z3 := K3.out.size
  have fbm : fb ∉ mS m := NMM.out fb F3.out.l.1
  have mbm : mb ∉ mS m := NMM.out mb F3.out.l.2
  have fbl : fb < w.heap.size := (fo fb (by unfold famS; simp)).2
  have mbl : mb < w.heap.size := (fo mb (by unfold famS; simp)).2
  have s4n : ∀ z, z ∈ S4 → z ∈ ST ∨ w3.heap.size ≤ z := G4.out
  have a3n : ∀ z, z ∈ blk a3 → z ∈ blk a ∨ w2.heap.size ≤ z := G3.out
  have a3l : ∀ z, z ∈ blk a3 → lo ≤ z ∧ z < w3.heap.size := fun z hz => F3.out.foot z (by unfold famS; simp [hz])
  have fb4 : fb ∉ S4 := fun h => by
    rcases s4n _ h with h | h
    · exact d1.2.2 h
    · omega
  have mb4 : mb ∉ S4 := fun h => by
    rcases s4n _ h with h | h
    · exact d2.2 h
    · omega
  have k4x : ∀ z, z ∉ ST → z ∉ mS m → z ∉ ST ++ mS m := fun z h1 h2 hx => by
    rcases List.mem_append.1 hx with h | h
    · exact h1 h
    · exact h2 h
  have F5 : Hid (FamAt fb t mb lo a3 S4 m { f with N := giveN f.N s, K := f.K.add (txtH s) (giveI f.N s : Nat) 0 } W5) := Lib.hid (by
    obtain ⟨c7, q7, p7⟩ := F3.out.b
    refine ⟨⟨c7, K4.out.has q7 (k4x _ d1.2.2 fbm), p7.keeps K4.out (fun z hz => k4x z (d3 z hz) (NMM.out z (a3l z hz).1))⟩, ?_, K4.out.has F3.out.n (k4x _ d2.2 mbm), ?_, ?_, fun z hz hy => ?_, F3.out.l⟩
    · have h9 := T4.out
      rw [hhh.out] at h9
      exact h9
    · simp only [List.mem_cons, List.mem_append, not_or]; exact ⟨d1.1, d1.2.1, fb4⟩
    · simp only [List.mem_append, not_or]; exact ⟨d2.1, mb4⟩
    · rcases s4n _ hy with h | h
      · exact d3 z hz h
      · have := (a3l z hz).2; omega)
  have GF : Grew (famS fb mb a ST) w (famS fb mb a3 S4) := fun z hz => by
    unfold famS at hz ⊢
    simp only [List.mem_cons, List.mem_append] at hz ⊢
    rcases hz with h | h | h | h
    · left; simp [h]
    · left; simp [h]
    · rcases a3n z h with h | h
      · left; simp [h]
      · right; omega
    · rcases s4n z h with h | h
      · left; simp [h]
      · right; omega
  have G5 := Lib.hid GF
  have D5 := Lib.hid (show ∀ z, z ∈ famS fb mb a3 S4 → z ∉ rb :: blk ar from fun z hz hy => by
    rcases GF z hz with h | h
    · exact HD.out z h hy
    · have := (ro z hy).2; omega)
  have KW5 := Lib.hid (show Keeps (famS fb mb a ST ++ mS m) w W5 from ((K2.out.mono (by simp)).trans (K3.out.mono (fun z hz => by unfold famS; simp only [List.mem_cons, List.mem_append] at hz ⊢; rcases hz with h | h | h <;> simp [h]))).trans (K4.out.mono (fun z hz => by unfold famS; simp only [List.mem_cons, List.mem_append] at hz ⊢; rcases hz with h | h <;> simp [h])))
  have R5 := Lib.hid (HRR.out.keeps KW5.out (fun z hz hy => by
    rcases List.mem_append.1 hy with h | h
    · exact HD.out z h hz
    · cases hmm : m with
      | none => rw [hmm] at h; simp [mS] at h
      | some b => rw [hmm] at h; simp [mS] at h; exact HMR.out b hmm (h ▸ hz)))
  have M5 := Lib.hid (show MtrAt m C5 W5 from by rw [HC5.out]; exact M4.out)
  clear fo ro d1 d2 d3 z2 z3 fbm mbm fbl mbl s4n a3n a3l fb4 mb4 k4x GF p3 q3 s3 e3 e3d
  go_upto_region 9 with (fail)
  obtain ⟨cr5, r5, q5⟩ := R5.out.b
  rw [← hn.out] at r5 q5
  obtain ⟨g, cap, W6, run6, v6, k6, g6, l6⟩ := int_app10 lor ar cr5 n (intL vs) v (W5.alloc (.cells #[.int .i64 v] 3)) W5.heap.size (q5.keeps ((Keeps.refl [] W5).alloc _) (by simp)) (has_new _ _) (by omega) (by have := (R5.out.foot rb (by simp)); simp; omega)
  have RUN := Lib.hid run6
  have k56 : Keeps (blk ar) W5 W6 := ((Keeps.refl (blk ar) W5).alloc _).trans k6
  have b6 := k56.has r5 R5.out.d
  have y5 : W5.cell? ⟨rb, 0, none⟩ = some (.slice ar n cr5) := cell_has r5 (i := 0) rfl
  have y6 : W6.cell? ⟨rb, 0, none⟩ = some (.slice ar n cr5) := cell_has b6 (i := 0) rfl
  have z6 := free_of_has b6 0
  have B6 := Lib.hid b6
  have K56 := Lib.hid k56
  have FIN := Lib.hid (And.intro v6 (And.intro g6 l6))
  clear r5 q5 run6 v6 k6 g6 l6 k56 b6
  go_upto_region 10 with (at_builtin; refine wpList_append_run rfl _ _ 60 rfl _ _ rfl rfl _ _ RUN.out ?_)
  refine wp_gen (fun V => V.heap[rb]? = some (rowWO (.slice (some ⟨g, 0, none⟩) (n + 1) cap)) ∧ Keeps [rb] W6 V) ⟨(by have h0 := has_setCell B6.out 0 (.slice (some ⟨g, 0, none⟩) (n + 1) cap); unfold rowWO at h0 ⊢; simpa using h0), (Keeps.refl [rb] W6).setCell (p := ⟨rb, 0, none⟩) (.inr (by simp)) _⟩ ?_
  rintro W7 ⟨b7, k7⟩
  have K57 := Lib.hid (show Keeps (rb :: blk ar) W5 W7 from (K56.out.mono (fun x hx => List.mem_cons_of_mem _ hx)).trans (k7.mono (by simp)))
  have B7 := Lib.hid b7
  have K67 := Lib.hid k7
  have F7 := Lib.hid (F5.out.keeps K57.out (fun z hz => D5.out z hz))
  have M7 := M5.out.keeps K57.out HMR.out
  obtain ⟨c99, h7, _⟩ := F7.out.b
  have x7 : W7.cell? ⟨fb, 2, none⟩ = some (mV m) := cell_has h7 (i := 2) rfl
  clear b7 k7 y5 y6 z6 h7
  obtain ⟨mp, hmp⟩ : ∃ p : Option Addr, Hid (mV m = .pointer p) := ⟨_, Lib.hid rfl⟩
  have CH := mcharge_any m C5 W7 M7
  rw [hmp.out] at x7 CH
  clear M7
  go_wp2_with fail
  refine CH.mono ?_
  rintro r W8 ⟨rfl, k8, m8⟩
  have K8 := Lib.hid k8
  have M8 := Lib.hid m8
  clear k8 m8 CH x7
  go_wp2_with fail
  go_ret
  obtain ⟨v6, g6, l6⟩ := FIN.out
  have gr : g ≠ rb := fun e => by
    have hrb := R5.out.foot rb (by simp)
    rcases g6 with h | h
    · rw [e] at h; exact R5.out.d h
    · simp at h; omega
  have NM7 : ∀ z, z ∈ mS m → (∀ b, m = some b → b ≠ z) → False := fun z hz hq => by
    cases hmm : m with
    | none => rw [hmm] at hz; simp [mS] at hz
    | some b => rw [hmm] at hz; simp [mS] at hz; exact hq b hmm hz.symm
  have fm : ∀ z, z ∈ famS fb mb a3 S4 → z ∉ mS m := fun z hz hy => NM7 z hy (fun b hb e => by
    have h8 := HMM.out b hb
    have h9 := (F5.out.foot z hz).1
    omega)
  have rm : ∀ z, z ∈ rb :: blk ar → z ∉ mS m := fun z hz hy => NM7 z hy (fun b hb e => HMR.out b hb (e ▸ hz))
  have gm : g ∉ mS m := fun hy => by
    rcases g6 with h | h
    · exact rm g (List.mem_cons_of_mem _ h) hy
    · refine NM7 g hy (fun b hb e => ?_)
      have h8 := lt_of_block (HM.out b hb)
      have h9 := KW5.out.size
      simp at h; omega
  refine .inr ⟨_, C5, a3, S4, some ⟨g, 0, none⟩, RA5.out, rfl, F7.out.keeps K8.out fm, ⟨⟨cap, ?_, ?_⟩, by simp [blk]; exact fun e => gr e.symm, HRR.out.l⟩, M8.out, ?_, G5.out, ?_, ?_⟩
  · have e1 : (vs ++ [v]).length = n + 1 := by simp [hn.out]
    rw [e1]; exact K8.out.has B7.out (rm rb (by simp))
  · have e1 : (vs ++ [v]).length = n + 1 := by simp [hn.out]
    rw [e1]
    refine ((v6.keeps K67.out (fun x hx hy => by simp [blk] at hx hy; subst hx; exact gr hy)).keeps K8.out (fun x hx hy => by simp only [blk, List.mem_singleton] at hx; subst hx; exact gm hy)).congr (fun j hj => ?_)
    rw [hn.out]; exact intL_push vs v j (by rw [← hn.out]; exact hj)
  · refine ((KW5.out.mono ?_).then K57.out (fun z hz => .inr ?_)).then K8.out (fun z hz => .inr ?_)
    · intro z hz; simp only [List.mem_append] at hz ⊢; rcases hz with h | h <;> simp [h]
    · exact List.mem_append_left _ (List.mem_append_right _ hz)
    · exact List.mem_append_right _ hz
  · intro z hz
    simp only [blk, List.mem_cons, List.mem_singleton, List.not_mem_nil, or_false] at hz
    rcases hz with rfl | rfl
    · left; simp
    · rcases g6 with h | h
      · left; simp [h]
      · right; have := KW5.out.size; simp at h; omega
  · intro z hz hy
    have zl := (F5.out.foot z hz).2
    simp only [blk, List.mem_cons, List.mem_singleton, List.not_mem_nil, or_false] at hy
    rcases hy with rfl | rfl
    · exact D5.out _ hz (by simp)
    · rcases g6 with h | h
      · exact D5.out _ hz (List.mem_cons_of_mem _ h)
      · simp at h; omega
end Go.Proofs.YtajmfenfajbakaaGreat
