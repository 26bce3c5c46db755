/- A stroll goes on to its next pair, or ends (chapter 9). -/
import Derived.Test.YtcakdmapnmneoaaStrE
namespace Go.Proofs.Ytcakdmapnmneoaa
open Go.RowKit
set_option linter.unusedVariables false
set_option linter.unusedSimpArgs false

/-- It has seen its dictionary: its own block alone is turned. -/
theorem str_seen {lo b : Nat} {F F' : List Nat} {s s' : Str} {W W' : World} (h : StrAt lo b F s W) {a : Option Addr} {c : Nat} (hb : W'.heap[b]? = some (strO (dpV s'.dp) s'.size s'.ver (.slice a s'.prs.length c) s'.broken (nextF s'.back (b + 2) (b + 4) (b + 3)) (passF (b + 2) (b + 3)))) (ht : s'.told = s.told) (hl : s'.last = s.last) (he : EntRow lo a c s'.prs W') (k : Keeps [b] W W') (h1 : ∀ x, x ∈ F → x ∈ F') (h2 : ∀ x, x ∈ blk a → x ∈ F') (h3 : ∀ x, x ∈ F' → lo ≤ x ∧ x < W'.heap.size) : StrAt lo b F' s' W' := by
  obtain ⟨_, h4, h5, h6, h7, h8, h9⟩ := h
  exact ⟨⟨a, c, hb, he, h2⟩, k.has h4 (by simp), by rw [ht]; exact k.has h5 (by simp), by rw [hl]; exact k.has h6 (by simp), k.has h7 (by simp), fun i hi => h1 _ (h8 i hi), h3⟩
/-- It has told a pair. -/
theorem str_told {lo b : Nat} {F : List Nat} {s : Str} {W W' : World} (h : StrAt lo b F s W) (last : Int) (h1 : W'.heap[b + 2]? = some (.cells #[.bool true] 4 (0, 0))) (h2 : W'.heap[b + 3]? = some (.cells #[.int .i64 last] 3 (0, 0))) (k : Keeps [b + 2, b + 3] W W') : StrAt lo b F { s with told := true, last := last } W' := by
  obtain ⟨⟨a, c, g1, g2, g3⟩, h4, h5, h6, h7, h8, h9⟩ := h
  refine ⟨⟨a, c, k.has g1 (by simp), g2.keeps k (fun x hx hq => ?_), g3⟩, k.has h4 (by simp), h1, h2, k.has h7 (by simp), h8, fun x hx => by have := h9 x hx; have := k.size; omega⟩
  simp at hq
  rcases hq with rfl | rfl
  · exact g2.notin h5 (by decide) hx
  · exact g2.notin h6 (by decide) hx
set_option maxRecDepth 100000 in
set_option maxHeartbeats 4000000 in
theorem snext_goes (db t lo2 lo b : Nat) (S F : List Nat) (mv : Value) (d : Dic) (s : Str) (w : World) (HD : DicAt db t lo2 S mv d w) (HS : StrAt lo b F s w) (hd : s.dp = some db) (hnb : s.broken = false) (hsz : liveN d.T.E = s.size) (hl : d.T.E.length ≤ 1000) (hv : d.ver ≤ 1000000)
    (hap : db ∉ F ∧ ∀ x, x ∈ S → x ∉ F) (hu : Ups (s.seen d).prs) (hz : (s.seen d).prs.length ≤ 1000000) (l0 : 0 ≤ s.last) (l1 : s.last ≤ 1000000) :
    Calls Try.prog 24 #[.pointer (some ⟨b, 0, none⟩)] w (StrNP lo b F d s w) := by
  have HD0 := Lib.hid HD
  have HS0 := Lib.hid HS
  have HAP := Lib.hid hap
  have HU := Lib.hid hu
  have HZ := Lib.hid hz
  have L0 := Lib.hid l0
  have L1 := Lib.hid l1
  have HL := Lib.hid hl
  have HV := Lib.hid hv
  have HNB := Lib.hid hnb
  have HSZ := Lib.hid hsz
  obtain ⟨lr, hlr⟩ : ∃ lr, lr = w.heap.size := ⟨_, rfl⟩
  have HLR := Lib.hid hlr
  obtain ⟨WA, hWA⟩ : ∃ WA, w.alloc (.cells #[.bool false, .int .i64 0, .int .i64 0, .int .i64 0, .int .i64 0] 36) = WA := ⟨_, rfl⟩
  have kb : Keeps [] w WA := by rw [← hWA]; exact (Keeps.refl [] w).alloc _
  have KB := Lib.hid kb
  have BR := Lib.hid (show WA.heap[lr]? = some (ent9 noE) by rw [← hWA, hlr]; exact has_new _ _)
  have HWA := Lib.hid hWA
  have SA := Lib.hid (HS.keeps kb (by simp))
  have DA := Lib.hid (HD.keeps kb (by simp) (by simp))
  have lb : lo ≤ b ∧ b < lr := by have := HS.lo _ (HS.five 0 (by omega)); omega
  have LB := Lib.hid lb
  obtain ⟨a, c, h1, he, hin⟩ := SA.out.row
  have HE := Lib.hid he
  have HIN := Lib.hid hin
  have E0 := Lib.hid (show dpV s.dp = .pointer (some ⟨db, 0, none⟩) by rw [hd]; rfl)
  rw [E0.out, hnb] at h1
  obtain ⟨c0, c1, c2, c3, c4, _, _⟩ := str_cells h1
  have f4 := free_of_has h1 4
  have H1 := Lib.hid h1
  obtain ⟨ln, hln⟩ := ex_hid (liveN d.T.E)
  rw [← hsz, ← hln.out] at c1
  clear HD HS hlr hWA kb lb h1 he hin hd hnb hsz hl hv hap hu hz l0 l1 c2 c3
  go_enter Try.func24, Try.ntmps24
  go_upto_region 1 with (fail)
  rw [HWA.out, ← HLR.out]
  go_upto_region 3 with (fail)
  refine wp_regionG (fun w' => w'.cell? ⟨b, 4, none⟩ = some (.bool false) ∧ w'.cell? ⟨b, 0, none⟩ = some (.pointer (some ⟨db, 0, none⟩)) ∧ w'.cell? ⟨b, 1, none⟩ = some (.int .i64 ln)) 19 (by kernel_rfl) ⟨c4, c0, c1⟩ (fun hF => ?_)
  refine wpAnyG_takeY (i := 0) (v := ?_) rfl (by kernel_rfl) (by decide +kernel) (by decide +kernel) (by decide +kernel) (fun _ _ _ h => h) (by kernel_rfl) ?_ (by assumption) ?_
  rotate_left
  · (intro wz; go_simp; with_reducible rfl)
  try simp only [Act.put, List.setIfInBounds_toArray, List.set_cons_zero, List.set_cons_succ]
  refine wpAnyG_takeY (i := 1) (v := ?_) rfl (by kernel_rfl) (by decide +kernel) (by decide +kernel) (by decide +kernel) (fun _ _ _ h => h) (by kernel_rfl) ?_ (by assumption) ?_
  rotate_left
  · (intro wz; go_simp; with_reducible rfl)
  try simp only [Act.put, List.setIfInBounds_toArray, List.set_cons_zero, List.set_cons_succ]
  refine wpAnyG_takeY (i := 2) (v := ?_) rfl (by kernel_rfl) (by decide +kernel) (by decide +kernel) (by decide +kernel) (fun _ _ _ h => h) (by kernel_rfl) ?_ (by assumption) ?_
  rotate_left
  · (intro wz; go_simp; with_reducible rfl)
  try simp only [Act.put, List.setIfInBounds_toArray, List.set_cons_zero, List.set_cons_succ]
  refine wpAnyG_takeY (i := 3) (v := ?_) rfl (by kernel_rfl) (by decide +kernel) (by decide +kernel) (by decide +kernel) (fun _ _ _ h => h) (by kernel_rfl) ?_ (by assumption) ?_
  rotate_left
  · (intro wz; go_simp; with_reducible rfl)
  try simp only [Act.put, List.setIfInBounds_toArray, List.set_cons_zero, List.set_cons_succ]
  refine wpAnyG_take (i := 4) (v := ?_) rfl (by kernel_rfl) (by decide +kernel) (by decide +kernel) (by decide +kernel) (by decide +kernel) (by rfl) (fun _ _ _ h => h) (by kernel_rfl) ?_ (by assumption) ?_
  rotate_left
  · (intro wz hSw; (try dsimp only at hSw); go_simp; with_reducible rfl)
  try simp only [Act.put, List.setIfInBounds_toArray, List.set_cons_zero, List.set_cons_succ]
  refine wpAnyG_takeY (i := 5) (v := ?_) rfl (by kernel_rfl) (by decide +kernel) (by decide +kernel) (by decide +kernel) (fun _ _ _ h => h) (by kernel_rfl) ?_ (by assumption) ?_
  rotate_left
  · (intro wz; go_simp; with_reducible rfl)
  try simp only [Act.put, List.setIfInBounds_toArray, List.set_cons_zero, List.set_cons_succ]
  refine wpAnyG_takeY (i := 6) (v := ?_) rfl (by kernel_rfl) (by decide +kernel) (by decide +kernel) (by decide +kernel) (fun _ _ _ h => h) (by kernel_rfl) ?_ (by assumption) ?_
  rotate_left
  · (intro wz; go_simp; with_reducible rfl)
  try simp only [Act.put, List.setIfInBounds_toArray, List.set_cons_zero, List.set_cons_succ]
  refine wpAnyG_takeY (i := 7) (v := ?_) rfl (by kernel_rfl) (by decide +kernel) (by decide +kernel) (by decide +kernel) (fun _ _ _ h => h) (by kernel_rfl) ?_ (by assumption) ?_
  rotate_left
  · (intro wz; go_simp; with_reducible rfl)
  try simp only [Act.put, List.setIfInBounds_toArray, List.set_cons_zero, List.set_cons_succ]
  refine wpAnyG_takeY (i := 8) (v := ?_) rfl (by kernel_rfl) (by decide +kernel) (by decide +kernel) (by decide +kernel) (fun _ _ _ h => h) (by kernel_rfl) ?_ (by assumption) ?_
  rotate_left
  · (intro wz; go_simp; with_reducible rfl)
  try simp only [Act.put, List.setIfInBounds_toArray, List.set_cons_zero, List.set_cons_succ]
  refine wpAnyG_take (i := 9) (v := ?_) rfl (by kernel_rfl) (by decide +kernel) (by decide +kernel) (by decide +kernel) (by decide +kernel) (by rfl) (fun _ _ _ h => h) (by kernel_rfl) ?_ (by assumption) ?_
  rotate_left
  · (intro wz hSw; (try dsimp only at hSw); go_simp; with_reducible rfl)
  try simp only [Act.put, List.setIfInBounds_toArray, List.set_cons_zero, List.set_cons_succ]
  refine wpAnyG_takeY (i := 11) (v := ?_) rfl (by kernel_rfl) (by decide +kernel) (by decide +kernel) (by decide +kernel) (fun _ _ _ h => h) (by kernel_rfl) ?_ (by assumption) ?_
  rotate_left
  · (intro wz; go_simp; with_reducible rfl)
  try simp only [Act.put, List.setIfInBounds_toArray, List.set_cons_zero, List.set_cons_succ]
  refine wpAnyG_takeY (i := 12) (v := ?_) rfl (by kernel_rfl) (by decide +kernel) (by decide +kernel) (by decide +kernel) (fun _ _ _ h => h) (by kernel_rfl) ?_ (by assumption) ?_
  rotate_left
  · (intro wz; go_simp; with_reducible rfl)
  try simp only [Act.put, List.setIfInBounds_toArray, List.set_cons_zero, List.set_cons_succ]
  refine wpAnyG_takeY (i := 13) (v := ?_) rfl (by kernel_rfl) (by decide +kernel) (by decide +kernel) (by decide +kernel) (fun _ _ _ h => h) (by kernel_rfl) ?_ (by assumption) ?_
  rotate_left
  · (intro wz; go_simp; with_reducible rfl)
  try simp only [Act.put, List.setIfInBounds_toArray, List.set_cons_zero, List.set_cons_succ]
  refine wpAnyG_take (i := 14) (v := ?_) rfl (by kernel_rfl) (by decide +kernel) (by decide +kernel) (by decide +kernel) (by decide +kernel) (by rfl) (fun _ _ _ h => h) (by kernel_rfl) ?_ (by assumption) ?_
  rotate_left
  · (intro wz hSw; (try dsimp only at hSw); go_simp; with_reducible rfl)
  try simp only [Act.put, List.setIfInBounds_toArray, List.set_cons_zero, List.set_cons_succ]
  refine wpAnyG_one (i := 10) rfl (by kernel_rfl) (by kernel_rfl) (fun K hK => ?_)
  have HK := Lib.hid hK
  clear hK
  go_simp
  refine (dlen_any db t lo2 S mv d WA.drew (DA.out.keeps (Keeps.refl [] WA).drew (by simp) (by simp))).mono ?_
  rintro r w2 ⟨rfl, rfl⟩
  rw [← hln.out]
  refine HK.out _ _ hF ?_
  clear HK K
  try simp only [Act.put, List.setIfInBounds_toArray, List.set_cons_zero, List.set_cons_succ]
  refine wpAnyG_takeY (i := 15) (v := ?_) rfl (by kernel_rfl) (by decide +kernel) (by decide +kernel) (by decide +kernel) (fun _ _ _ h => h) (by kernel_rfl) ?_ (by assumption) ?_
  rotate_left
  · (intro wz; go_simp; with_reducible rfl)
  try simp only [Act.put, List.setIfInBounds_toArray, List.set_cons_zero, List.set_cons_succ]
  refine wpAnyG_takeY (i := 16) (v := ?_) rfl (by kernel_rfl) (by decide +kernel) (by decide +kernel) (by decide +kernel) (fun _ _ _ h => h) (by kernel_rfl) ?_ (by assumption) ?_
  rotate_left
  · (intro wz; go_simp; with_reducible rfl)
  try simp only [Act.put, List.setIfInBounds_toArray, List.set_cons_zero, List.set_cons_succ]
  refine wpAnyG_takeY (i := 17) (v := ?_) rfl (by kernel_rfl) (by decide +kernel) (by decide +kernel) (by decide +kernel) (fun _ _ _ h => h) (by kernel_rfl) ?_ (by assumption) ?_
  rotate_left
  · (intro wz; go_simp; with_reducible rfl)
  try simp only [Act.put, List.setIfInBounds_toArray, List.set_cons_zero, List.set_cons_succ]
  refine wpAnyG_takeY (i := 18) (v := ?_) rfl (by kernel_rfl) (by decide +kernel) (by decide +kernel) (by decide +kernel) (fun _ _ _ h => h) (by kernel_rfl) ?_ (by assumption) ?_
  rotate_left
  · (intro wz; go_simp; with_reducible rfl)
  try simp only [Act.put, List.setIfInBounds_toArray, List.set_cons_zero, List.set_cons_succ]
  refine wpAnyG_last rfl (by kernel_rfl) (by rfl) (by rfl) (fun K hK => ?_)
  have HK := Lib.hid hK
  clear hK
  go_simp
  refine HK.out _ _ ?_
  clear HK K hF
  refine wpAnyG_done (by kernel_rfl) ?_ _
  go_simp
  go_upto_region 4 with (fail)
  refine wp_gen (fun V => V.heap[b]? = some (strO (.pointer (some ⟨db, 0, none⟩)) s.size s.ver (.slice a s.prs.length c) false (nextF s.back (b + 2) (b + 4) (b + 3)) (passF (b + 2) (b + 3))) ∧ Keeps [b] WA V) ?_ ?_
  · exact ⟨(str_set4 (W := WA.drew) H1.out false).1, ((Keeps.refl [b] WA).drew).trans (str_set4 (W := WA.drew) H1.out false).2⟩
  rintro W3 ⟨b3, k3⟩
  have nb : ∀ x, x ∈ F → x ∉ [lr] := fun x hx hq => by simp at hq; have := (HS0.out.lo x hx).2; have := HLR.out; omega
  have NB := Lib.hid nb
  have B3 := Lib.hid b3
  have K3 := Lib.hid k3
  have D3 := Lib.hid (DA.out.keeps k3 (by simp; rintro rfl; exact HAP.out.1 (HS0.out.five 0 (by omega))) (fun x hx hq => by simp at hq; subst hq; exact HAP.out.2 _ hx (HS0.out.five 0 (by omega))))
  obtain ⟨y0, y1, y2, y3, y4, _, _⟩ := str_cells b3
  clear c0 c1 c4 f4 nb b3 k3
  go_upto_region 6 with (fail)
  obtain ⟨sv, hsv⟩ := ex_hid s.ver
  obtain ⟨vr, hvr⟩ := ex_hid d.ver
  rw [← hsv.out] at y2
  go_upto_if 50 with (go_at_call 17; refine (dver8_any db t lo2 S mv d W3 D3.out HV.out).mono ?_; rintro r w4 ⟨rfl, rfl⟩; rw [← hvr.out])
  go_cut [] from 50 to 62 (fun wx => ∃ F5, StrAt lo b F5 (s.seen d) wx ∧ Grew F w F5 ∧ lr ∉ F5 ∧ (∀ x, x ∈ F → x ∈ F5) ∧ Keeps [b] WA wx)
  case first =>
    by_cases hve : d.ver = s.ver
    · have hne : ((vr : Int) != (sv : Int)) = false := by rw [hvr.out, hsv.out, hve]; simp
      have HVE := Lib.hid hve
      clear hve
      go_wp2_with fail
      go_meet
      refine ⟨F, ?_, Grew.refl _ _, fun h => NB.out _ h (by simp), fun x h => h, K3.out⟩
      have e9 : s.seen d = { s with broken := false } := by unfold Str.seen; rw [if_pos HVE.out.symm, HVE.out]
      rw [e9]
      refine str_seen SA.out (a := a) (c := c) (by rw [E0.out]; exact B3.out) rfl rfl (HE.out.keeps K3.out (fun x hx hq => ?_)) K3.out (fun x h => h) HIN.out (fun x hx => by have := SA.out.lo x hx; have := K3.out.size; omega)
      simp at hq; subst hq
      exact HE.out.notin H1.out (by decide) hx
    · have hne : ((vr : Int) != (sv : Int)) = true := by rw [hvr.out, hsv.out]; simp; omega
      have HVE := Lib.hid hve
      clear hve
      have f2 := free_of_has B3.out 2
      have f3 := free_of_has B3.out 3
      go_wp2_with fail
      refine (pairs_any db t lo2 S mv d W3 D3.out HL.out).mono ?_
      rintro r w4 ⟨a5, q5, rfl, e4, k4⟩
      have b4 := k4.has B3.out (by simp)
      have g2 := free_of_has b4 2
      have g3 := free_of_has b4 3
      have BB := Lib.hid b4
      have EE := Lib.hid e4
      have KK := Lib.hid k4
      obtain ⟨y0', y1', y2', y3', y4', _, _⟩ := str_cells b4
      clear y0 y1 y2 y3 y4 f2 f3 b4 e4 k4
      go_wp2_with fail
      go_meet
      have S9 := str_set23 (W := w4) BB.out vr (.slice a5 (liveN d.T.E) q5)
      have kk : Keeps [b] WA ((w4.setCell ⟨b, 2, none⟩ (.int .i64 vr)).setCell ⟨b, 3, none⟩ (.slice a5 (liveN d.T.E) q5)) := (K3.out.trans (KK.out.mono (by simp))).trans S9.2
      have z3 := K3.out.size
      have za : WA.heap.size = lr + 1 := by rw [← HWA.out, HLR.out]; simp
      have hblk : ∀ x, x ∈ blk a5 → lr + 1 ≤ x ∧ x < w4.heap.size := fun x hx => by have := EE.out.blk_lt x hx; omega
      have lbb := LB.out
      refine ⟨F ++ blk a5, ?_, fun x hx => ?_, fun h => ?_, fun x h => List.mem_append_left _ h, kk⟩
      · have e9 : s.seen d = { s with broken := false, ver := d.ver, prs := liveL d.T.E } := by unfold Str.seen; rw [if_neg (fun h => HVE.out h.symm)]
        rw [e9]
        refine str_seen SA.out (a := a5) (c := q5) ?_ rfl rfl ?_ kk (fun x h => List.mem_append_left _ h) (fun x h => List.mem_append_right _ h) (fun x hx => ?_)
        · rw [E0.out]
          show _ = some (strO _ s.size d.ver (.slice a5 (liveL d.T.E).length q5) false _ _)
          rw [liveL_len, ← hvr.out]
          exact S9.1
        · show EntRow lo a5 q5 (liveL d.T.E) _
          refine (EE.out.lift (fun x hx => by have := hblk x hx; omega)).keeps S9.2 (fun x hx hq => ?_)
          simp at hq; have := hblk x hx; omega
        · rw [List.mem_append] at hx
          have z9 := S9.2.size
          have z4 := KK.out.size
          rcases hx with hx | hx
          · have := HS0.out.lo x hx; have := HLR.out; omega
          · have := hblk x hx; omega
      · rw [List.mem_append] at hx
        rcases hx with hx | hx
        · exact .inl hx
        · have := hblk x hx; have := HLR.out; right; omega
      · rw [List.mem_append] at h
        rcases h with h | h
        · exact NB.out _ h (by simp)
        · have := hblk _ h; omega
  case rest =>
    obtain ⟨F5, s5, g5, n5, i5, k5⟩ := hcut
    have S5 := Lib.hid s5
    have G5 := Lib.hid g5
    have N5 := Lib.hid n5
    have K5 := Lib.hid k5
    have I5 := Lib.hid i5
    clear s5 g5 n5 i5 k5 y0 y1 y2 y3 y4
    obtain ⟨W5, hW5⟩ : ∃ x, x = wc := ⟨_, rfl⟩
    subst hW5
    obtain ⟨pl, hpl⟩ := ex_hid (s.seen d).place
    obtain ⟨n, hn⟩ := ex_hid (s.seen d).prs.length
    obtain ⟨a5, q5, g1, g2, g3⟩ := S5.out.row
    rw [show dpV (s.seen d).dp = .pointer (some ⟨db, 0, none⟩) from E0.out, ← hn.out] at g1
    have GE := Lib.hid g2
    have GB := Lib.hid g1
    obtain ⟨x0, x1, x2, x3, x4, x5, x6⟩ := str_cells g1
    have PC := splace_any lo b F5 (s.seen d) W5.drew (S5.out.keeps (Keeps.refl [] W5).drew (by simp)) HU.out HZ.out L0.out L1.out
    rw [← hn.out, ← hpl.out] at PC
    clear g1 g2 g3 x0 x1 x2 x4 x6
    go_upto_region 9 with (fail)
    go_cut [5] from 63 to 72 (fun y wx => y = .int .i64 pl ∧ Keeps [] W5 wx)
    case first =>
      unfold nextF at x5
      cases hbk : (s.seen d).back
      all_goals
        rw [hbk] at x5 PC
        simp only [Bool.false_eq_true, if_true, if_false] at x5 PC
        clear hbk
      · refine wp_regionG (fun w' => w'.cell? ⟨b, 5, none⟩ = some (.func (.func 52) #[] #[.pointer (some ⟨b + 2, 0, none⟩), .pointer (some ⟨b + 4, 0, none⟩), .pointer (some ⟨b + 3, 0, none⟩)]) ∧ w'.cell? ⟨b, 3, none⟩ = some (.slice a5 n q5)) 10 (by kernel_rfl) ⟨x5, x3⟩ (fun hF => ?_)
        refine wpAnyG_takeY (i := 0) (v := ?_) rfl (by kernel_rfl) (by decide +kernel) (by decide +kernel) (by decide +kernel) (fun _ _ _ h => h) (by kernel_rfl) ?_ (by assumption) ?_
        rotate_left
        · (intro wz; go_simp; with_reducible rfl)
        try simp only [Act.put, List.setIfInBounds_toArray, List.set_cons_zero, List.set_cons_succ]
        refine wpAnyG_takeY (i := 1) (v := ?_) rfl (by kernel_rfl) (by decide +kernel) (by decide +kernel) (by decide +kernel) (fun _ _ _ h => h) (by kernel_rfl) ?_ (by assumption) ?_
        rotate_left
        · (intro wz; go_simp; with_reducible rfl)
        try simp only [Act.put, List.setIfInBounds_toArray, List.set_cons_zero, List.set_cons_succ]
        refine wpAnyG_takeY (i := 2) (v := ?_) rfl (by kernel_rfl) (by decide +kernel) (by decide +kernel) (by decide +kernel) (fun _ _ _ h => h) (by kernel_rfl) ?_ (by assumption) ?_
        rotate_left
        · (intro wz; go_simp; with_reducible rfl)
        try simp only [Act.put, List.setIfInBounds_toArray, List.set_cons_zero, List.set_cons_succ]
        refine wpAnyG_take (i := 3) (v := ?_) rfl (by kernel_rfl) (by decide +kernel) (by decide +kernel) (by decide +kernel) (by decide +kernel) (by rfl) (fun _ _ _ h => h) (by kernel_rfl) ?_ (by assumption) ?_
        rotate_left
        · (intro wz hSw; (try dsimp only at hSw); go_simp; with_reducible rfl)
        try simp only [Act.put, List.setIfInBounds_toArray, List.set_cons_zero, List.set_cons_succ]
        refine wpAnyG_takeY (i := 4) (v := ?_) rfl (by kernel_rfl) (by decide +kernel) (by decide +kernel) (by decide +kernel) (fun _ _ _ h => h) (by kernel_rfl) ?_ (by assumption) ?_
        rotate_left
        · (intro wz; go_simp; with_reducible rfl)
        try simp only [Act.put, List.setIfInBounds_toArray, List.set_cons_zero, List.set_cons_succ]
        refine wpAnyG_takeY (i := 5) (v := ?_) rfl (by kernel_rfl) (by decide +kernel) (by decide +kernel) (by decide +kernel) (fun _ _ _ h => h) (by kernel_rfl) ?_ (by assumption) ?_
        rotate_left
        · (intro wz; go_simp; with_reducible rfl)
        try simp only [Act.put, List.setIfInBounds_toArray, List.set_cons_zero, List.set_cons_succ]
        refine wpAnyG_takeY (i := 6) (v := ?_) rfl (by kernel_rfl) (by decide +kernel) (by decide +kernel) (by decide +kernel) (fun _ _ _ h => h) (by kernel_rfl) ?_ (by assumption) ?_
        rotate_left
        · (intro wz; go_simp; with_reducible rfl)
        try simp only [Act.put, List.setIfInBounds_toArray, List.set_cons_zero, List.set_cons_succ]
        refine wpAnyG_take (i := 7) (v := ?_) rfl (by kernel_rfl) (by decide +kernel) (by decide +kernel) (by decide +kernel) (by decide +kernel) (by rfl) (fun _ _ _ h => h) (by kernel_rfl) ?_ (by assumption) ?_
        rotate_left
        · (intro wz hSw; (try dsimp only at hSw); go_simp; with_reducible rfl)
        try simp only [Act.put, List.setIfInBounds_toArray, List.set_cons_zero, List.set_cons_succ]
        refine wpAnyG_takeY (i := 8) (v := ?_) rfl (by kernel_rfl) (by decide +kernel) (by decide +kernel) (by decide +kernel) (fun _ _ _ h => h) (by kernel_rfl) ?_ (by assumption) ?_
        rotate_left
        · (intro wz; go_simp; with_reducible rfl)
        try simp only [Act.put, List.setIfInBounds_toArray, List.set_cons_zero, List.set_cons_succ]
        refine wpAnyG_one (i := 9) rfl (by kernel_rfl) (by kernel_rfl) (fun K hK => ?_)
        have HK := Lib.hid hK
        clear hK
        go_simp
        refine PC.mono ?_
        rintro r w6 ⟨rfl, k6⟩
        have x5' := k6.cell (w := W5.drew) x5 (by simp)
        have x3' := k6.cell (w := W5.drew) x3 (by simp)
        refine HK.out _ _ ⟨x5', x3'⟩ ?_
        clear HK K hF
        try simp only [Act.put, List.setIfInBounds_toArray, List.set_cons_zero, List.set_cons_succ]
        refine wpAnyG_last rfl (by kernel_rfl) (by rfl) (by rfl) (fun K hK => ?_)
        have HK := Lib.hid hK
        clear hK
        go_simp
        refine HK.out _ _ ?_
        clear HK K
        refine wpAnyG_done (by kernel_rfl) ?_ _
        go_simp
        try go_wp2_with fail
        go_meet
        exact ⟨rfl, (Keeps.refl [] W5).drew.trans k6⟩
      · refine wp_regionG (fun w' => w'.cell? ⟨b, 5, none⟩ = some (.func (.func 53) #[] #[.pointer (some ⟨b + 2, 0, none⟩), .pointer (some ⟨b + 4, 0, none⟩), .pointer (some ⟨b + 3, 0, none⟩)]) ∧ w'.cell? ⟨b, 3, none⟩ = some (.slice a5 n q5)) 10 (by kernel_rfl) ⟨x5, x3⟩ (fun hF => ?_)
        refine wpAnyG_takeY (i := 0) (v := ?_) rfl (by kernel_rfl) (by decide +kernel) (by decide +kernel) (by decide +kernel) (fun _ _ _ h => h) (by kernel_rfl) ?_ (by assumption) ?_
        rotate_left
        · (intro wz; go_simp; with_reducible rfl)
        try simp only [Act.put, List.setIfInBounds_toArray, List.set_cons_zero, List.set_cons_succ]
        refine wpAnyG_takeY (i := 1) (v := ?_) rfl (by kernel_rfl) (by decide +kernel) (by decide +kernel) (by decide +kernel) (fun _ _ _ h => h) (by kernel_rfl) ?_ (by assumption) ?_
        rotate_left
        · (intro wz; go_simp; with_reducible rfl)
        try simp only [Act.put, List.setIfInBounds_toArray, List.set_cons_zero, List.set_cons_succ]
        refine wpAnyG_takeY (i := 2) (v := ?_) rfl (by kernel_rfl) (by decide +kernel) (by decide +kernel) (by decide +kernel) (fun _ _ _ h => h) (by kernel_rfl) ?_ (by assumption) ?_
        rotate_left
        · (intro wz; go_simp; with_reducible rfl)
        try simp only [Act.put, List.setIfInBounds_toArray, List.set_cons_zero, List.set_cons_succ]
        refine wpAnyG_take (i := 3) (v := ?_) rfl (by kernel_rfl) (by decide +kernel) (by decide +kernel) (by decide +kernel) (by decide +kernel) (by rfl) (fun _ _ _ h => h) (by kernel_rfl) ?_ (by assumption) ?_
        rotate_left
        · (intro wz hSw; (try dsimp only at hSw); go_simp; with_reducible rfl)
        try simp only [Act.put, List.setIfInBounds_toArray, List.set_cons_zero, List.set_cons_succ]
        refine wpAnyG_takeY (i := 4) (v := ?_) rfl (by kernel_rfl) (by decide +kernel) (by decide +kernel) (by decide +kernel) (fun _ _ _ h => h) (by kernel_rfl) ?_ (by assumption) ?_
        rotate_left
        · (intro wz; go_simp; with_reducible rfl)
        try simp only [Act.put, List.setIfInBounds_toArray, List.set_cons_zero, List.set_cons_succ]
        refine wpAnyG_takeY (i := 5) (v := ?_) rfl (by kernel_rfl) (by decide +kernel) (by decide +kernel) (by decide +kernel) (fun _ _ _ h => h) (by kernel_rfl) ?_ (by assumption) ?_
        rotate_left
        · (intro wz; go_simp; with_reducible rfl)
        try simp only [Act.put, List.setIfInBounds_toArray, List.set_cons_zero, List.set_cons_succ]
        refine wpAnyG_takeY (i := 6) (v := ?_) rfl (by kernel_rfl) (by decide +kernel) (by decide +kernel) (by decide +kernel) (fun _ _ _ h => h) (by kernel_rfl) ?_ (by assumption) ?_
        rotate_left
        · (intro wz; go_simp; with_reducible rfl)
        try simp only [Act.put, List.setIfInBounds_toArray, List.set_cons_zero, List.set_cons_succ]
        refine wpAnyG_take (i := 7) (v := ?_) rfl (by kernel_rfl) (by decide +kernel) (by decide +kernel) (by decide +kernel) (by decide +kernel) (by rfl) (fun _ _ _ h => h) (by kernel_rfl) ?_ (by assumption) ?_
        rotate_left
        · (intro wz hSw; (try dsimp only at hSw); go_simp; with_reducible rfl)
        try simp only [Act.put, List.setIfInBounds_toArray, List.set_cons_zero, List.set_cons_succ]
        refine wpAnyG_takeY (i := 8) (v := ?_) rfl (by kernel_rfl) (by decide +kernel) (by decide +kernel) (by decide +kernel) (fun _ _ _ h => h) (by kernel_rfl) ?_ (by assumption) ?_
        rotate_left
        · (intro wz; go_simp; with_reducible rfl)
        try simp only [Act.put, List.setIfInBounds_toArray, List.set_cons_zero, List.set_cons_succ]
        refine wpAnyG_one (i := 9) rfl (by kernel_rfl) (by kernel_rfl) (fun K hK => ?_)
        have HK := Lib.hid hK
        clear hK
        go_simp
        refine PC.mono ?_
        rintro r w6 ⟨rfl, k6⟩
        have x5' := k6.cell (w := W5.drew) x5 (by simp)
        have x3' := k6.cell (w := W5.drew) x3 (by simp)
        refine HK.out _ _ ⟨x5', x3'⟩ ?_
        clear HK K hF
        try simp only [Act.put, List.setIfInBounds_toArray, List.set_cons_zero, List.set_cons_succ]
        refine wpAnyG_last rfl (by kernel_rfl) (by rfl) (by rfl) (fun K hK => ?_)
        have HK := Lib.hid hK
        clear hK
        go_simp
        refine HK.out _ _ ?_
        clear HK K
        refine wpAnyG_done (by kernel_rfl) ?_ _
        go_simp
        try go_wp2_with fail
        go_meet
        exact ⟨rfl, (Keeps.refl [] W5).drew.trans k6⟩
    case rest =>
      obtain ⟨rfl, k6⟩ := hcut
      obtain ⟨W6, hW6⟩ : ∃ x, x = wc := ⟨_, rfl⟩
      subst hW6
      have S6 := Lib.hid (S5.out.keeps k6 (by simp))
      have K6 := Lib.hid (K5.out.trans (k6.mono (by simp)))
      have gb := k6.has GB.out (by simp)
      have GB6 := Lib.hid gb
      have GE6 := Lib.hid (GE.out.keeps k6 (by simp))
      obtain ⟨x0, x1, x2, x3, x4, x5, x6⟩ := str_cells gb
      have f0 := free_of_has gb 0
      have HOUT := Lib.hid (show (s.seen d).out (s.seen d).prs (s.seen d).place = (decide (pl < 0) || decide ((n : Int) ≤ pl)) by rw [hpl.out, hn.out]; rfl)
      have BR6 := Lib.hid ((K6.out).has BR.out (by simp; have := LB.out; omega))
      have HGO := Lib.hid (show ¬ (s.broken = true ∨ liveN d.T.E ≠ s.size) by rw [HNB.out, HSZ.out]; simp)
      clear k6 gb PC
      by_cases ho : (s.seen d).out (s.seen d).prs (s.seen d).place = true
      · have HO := Lib.hid ho
        have fin : ∀ W9 W10 : World, W9.heap[b]? = some (strO (.pointer none) s.size (s.seen d).ver (.slice a5 n q5) false (nextF (s.seen d).back (b + 2) (b + 4) (b + 3)) (passF (b + 2) (b + 3))) → Keeps [b] W6 W9 → Keeps [lr] W9 W10 → StrNP lo b F d s w (.returned (.tuple #[noE.agg, .int .i64 10])) W10 := fun W9 W10 h9 k9 k10 => by
          have hlr := HLR.out
          refine ⟨F5, ?_, ?_, G5.out, ?_⟩
          · unfold strX strE; rw [if_neg HGO.out, if_neg HGO.out, if_pos HO.out, if_pos HO.out]
          · unfold strN; rw [if_neg HGO.out, if_pos HO.out]
            refine StrAt.keeps (W := W9) ?_ k10 (fun x hx hq => by simp at hq; subst hq; exact N5.out hx)
            refine str_seen S6.out (s' := { s.seen d with dp := none }) (a := a5) (c := q5) (by rw [← hn.out]; exact h9) rfl rfl (GE6.out.keeps k9 (fun x hx hq => ?_)) k9 (fun x h => h) (fun x hx => ?_) (fun x hx => by have := S6.out.lo x hx; have := k9.size; omega)
            · simp at hq; subst hq; exact GE6.out.notin GB6.out (by decide) hx
            · obtain ⟨a', c', r1, r2, r3⟩ := S6.out.row
              rw [GB6.out] at r1
              unfold strO at r1
              simp at r1
              exact r3 x (by rw [← r1.2.1]; exact hx)
          · exact (((((KB.out.mono (by simp) : Keeps [b] w WA).trans K6.out).trans k9).then k10 (fun x hx => by simp at hx; left; omega)).mono (by simp) : Keeps [b, b + 2, b + 3] w W10)
        have FIN := Lib.hid fin
        clear fin
        rw [HOUT.out] at ho
        have hq : decide (pl < 0) = true ∨ (decide (pl < 0) = false ∧ decide ((n : Int) ≤ pl) = true) := by
          cases h1 : decide (pl < 0)
          · rw [h1] at ho; right; exact ⟨rfl, by simpa using ho⟩
          · exact .inl rfl
        clear ho
        rcases hq with q1 | ⟨q1, q2⟩
        all_goals
          go_upto_region 12 with (fail)
          refine wp_gen (fun V => V.heap[b]? = some (strO (.pointer none) s.size (s.seen d).ver (.slice a5 n q5) false (nextF (s.seen d).back (b + 2) (b + 4) (b + 3)) (passF (b + 2) (b + 3))) ∧ Keeps [b] W6 V) ⟨(str_set0 GB6.out _).1, (str_set0 GB6.out _).2⟩ ?_
          rintro W7 ⟨b7, k7⟩
          have r7 := k7.has BR6.out (by simp; have := LB.out; omega)
          obtain ⟨t0, t1, t2, t3, t4⟩ := ent9_cells r7
          obtain ⟨v0, v1, v2, v3, v4⟩ := ent9_free r7
          have G1 := Lib.hid (fun W10 => FIN.out W7 W10 b7 k7)
          have R7 := Lib.hid r7
          clear b7 k7 r7 x0 x1 x2 x3 x4 x5 x6 f0
          go_wp2_with fail
          obtain ⟨v1, v2⟩ := ent9_store noE noE R7.out
          have rc := cell_of_has v1
          simp only [noE] at rc
          exact bodyPost_ret (v := .tuple #[noE.agg, .int .i64 10]) (by simp [results, Try.results24, go_sem, Ent.agg, noE, rc]) rfl (G1.out _ v2)
      · have HO := Lib.hid ho
        rw [HOUT.out] at ho
        have h1 : ¬ pl < 0 ∧ ¬ (n : Int) ≤ pl := by simpa using ho
        obtain ⟨m, rfl⟩ : ∃ m : Nat, pl = (m : Int) := ⟨pl.toNat, by omega⟩
        have hm : m < n := by omega
        obtain ⟨x, hx⟩ : ∃ x, (s.seen d).prs[m]? = some x := ⟨_, List.getElem?_eq_getElem (by rw [← hn.out]; exact hm)⟩
        obtain ⟨g, rfl⟩ := GE6.out.shape (by rw [← hn.out]; omega)
        have HX := Lib.hid hx
        have p4 : W6.cell? ⟨g, m * 5 + 4, none⟩ = some (.int .i64 x.birth) := GE6.out.cell hx 4 (by omega)
        have q1 : decide ((m : Int) < 0) = false := by simp
        have q2 : decide ((n : Int) ≤ (m : Int)) = false := by simp; omega
        have q3 : (0 : Int) ≤ (m : Int) := by omega
        have q4 : (m : Int) < (n : Int) := by omega
        clear ho h1 hx x0 x1 x2 x4 x5 f0
        unfold passF at x6
        go_upto_region 13 with (fail)
        go_region_held3 (fun w' => w'.cell? ⟨b, 6, none⟩ = some (.func (.func 48) #[] #[.pointer (some ⟨b + 2, 0, none⟩), .pointer (some ⟨b + 3, 0, none⟩)]) ∧ w'.cell? ⟨b, 3, none⟩ = some (.slice (some ⟨g, 0, none⟩) n q5) ∧ w'.cell? ⟨g, m * 5 + 4, none⟩ = some (.int .i64 x.birth)) (go_keep)
          (first
            | (go_at_call 48; refine (spass_any (b + 2) (b + 3) (s.seen d).told (s.seen d).last x.birth W6.drew S6.out.told S6.out.last (by omega)).mono ?_; rintro r w7 ⟨rfl, g1, g2, k7⟩; have j6 := k7.cell (w := W6.drew) x6 (by simp); have j3 := k7.cell (w := W6.drew) x3 (by simp); have hgn : g ≠ b + 2 ∧ g ≠ b + 3 := ⟨fun e => GE6.out.notin S6.out.told (by decide) (by simp [blk, e]), fun e => GE6.out.notin S6.out.last (by decide) (by simp [blk, e])⟩; have j4 := k7.cell (w := W6.drew) p4 (by simp; exact hgn)))
        have k67 : Keeps [b + 2, b + 3] W6 w7 := (Keeps.refl _ W6).drew.trans k7
        have S7 := Lib.hid (str_told S6.out x.birth g1 g2 k67)
        have K67 := Lib.hid k67
        have e7 := GE6.out.keeps k67 (fun y hy hq => by simp [blk] at hy; subst hy; simp at hq; rcases hq with h | h; exact hgn.1 h; exact hgn.2 h)
        have p0 : w7.cell? ⟨g, m * 5, none⟩ = some (.bool x.live) := e7.cell HX.out 0 (by omega)
        have p1 : w7.cell? ⟨g, m * 5 + 1, none⟩ = some (.int .i64 x.hash) := e7.cell HX.out 1 (by omega)
        have p2 : w7.cell? ⟨g, m * 5 + 2, none⟩ = some (.int .i64 x.key) := e7.cell HX.out 2 (by omega)
        have p3 : w7.cell? ⟨g, m * 5 + 3, none⟩ = some (.int .i64 x.val) := e7.cell HX.out 3 (by omega)
        have r7 := k67.has BR6.out (by simp; exact ⟨fun e => N5.out (e ▸ S6.out.five 2 (by omega)), fun e => N5.out (e ▸ S6.out.five 3 (by omega))⟩)
        obtain ⟨t0, t1, t2, t3, t4⟩ := ent9_cells r7
        obtain ⟨v0, v1, v2, v3, v4⟩ := ent9_free r7
        have R7 := Lib.hid r7
        have EX := Lib.hid (show x = (s.seen d).prs.getD m noE by simp [List.getD, HX.out])
        have fin : ∀ W10 : World, Keeps [lr] w7 W10 → StrNP lo b F d s w (.returned (.tuple #[x.agg, .int .i64 0])) W10 := fun W10 k10 => by
          have hlr := HLR.out
          have em : (s.seen d).place.toNat = m := by rw [← hpl.out]; rfl
          refine ⟨F5, ?_, ?_, G5.out, ?_⟩
          · unfold strX strE; rw [if_neg HGO.out, if_neg HGO.out, if_neg HO.out, if_neg HO.out, em, ← EX.out]
          · unfold strN; rw [if_neg HGO.out, if_neg HO.out, em, ← EX.out]
            exact S7.out.keeps k10 (fun y hy hq => by simp at hq; subst hq; exact N5.out hy)
          · exact (((((KB.out.mono (by simp) : Keeps [b, b + 2, b + 3] w WA).trans (K6.out.mono (by simp))).trans (K67.out.mono (by simp))).then k10 (fun x hx => by simp at hx; left; omega)).mono (by simp) : Keeps [b, b + 2, b + 3] w W10)
        have FIN := Lib.hid fin
        clear fin k67 e7 r7 g1 g2 k7 j6 p4 hgn
        obtain ⟨z0, z1, z2, z3, z4⟩ := x
        simp only at p0 p1 p2 p3 j4 t0 t1 t2 t3 t4
        go_wp2_with fail
        obtain ⟨v1, v2⟩ := ent9_store noE ⟨z0, z1, z2, z3, z4⟩ R7.out
        have rc := cell_of_has v1
        simp only at rc
        exact bodyPost_ret (v := .tuple #[(⟨z0, z1, z2, z3, z4⟩ : Ent).agg, .int .i64 0]) (by simp [results, Try.results24, go_sem, Ent.agg, rc]) rfl (FIN.out _ v2)
end Go.Proofs.Ytcakdmapnmneoaa
