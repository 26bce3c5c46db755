/- A machine's Step on both sides: chapter 8's Two.step. -/
import Derived.Test.YtcakdmapnmneoaaGreatPrC
import Derived.Test.YtcakdmapnmneoaaGreatRefH
namespace Go.Proofs.YtcakdmapnmneoaaGreat
open Go.RowKit
set_option linter.unusedVariables false
set_option linter.unusedSimpArgs false

def Tag.own : Tag → Bool
  | .free => false
  | _ => true
theorem Tag.own_side {t : Tag} (h : t.own = false) (s : Bool) : t.side s = false := by cases t <;> simp_all [Tag.own, Tag.side]
theorem Tag.own_free {t : Tag} (h : t.own = false) : t = .free := by cases t <;> simp_all [Tag.own]
theorem Mv.free_has {p : Tag → Bool} {o o' : Nat → Tag} {W W' : World} (h : Mv p o W o' W') (hp : p .free = false) {z : Nat} {x : Obj} (hz : o z = .free) (hx : W.heap[z]? = some x) : W'.heap[z]? = some x ∧ o' z = .free :=
  ⟨(h.blk z (lt_of_block hx) (by rw [hz]; exact hp)).trans hx, (h.old z (lt_of_block hx)).trans hz⟩
theorem Mv.thenK {p : Tag → Bool} {o o' : Nat → Tag} {W W' W'' : World} {S : List Nat} (h : Mv p o W o' W') (k : Keeps S W' W'') (hS : ∀ z, z ∈ S → W.heap.size ≤ z ∨ p (o' z) = true) : Mv p o W o' W'' :=
  ⟨k.os.trans h.os, k.tape.trans h.tape, k.output.trans h.output, Nat.le_trans h.size k.size, h.old, fun z hz hp => (k.block z (Nat.lt_of_lt_of_le hz h.size) (fun hx => by
    rcases hS z hx with h1 | h1
    · omega
    · rw [h.old z hz, hp] at h1; cases h1)).trans (h.blk z hz hp)⟩
/-- The state behind a call that changes none of the Twos themselves. -/
def GoesOn (B : Nat) (m1 m2 : Option Nat) (N Z : Nat) (o : Nat → Tag) (T : List Tw8) (w w' : World) : Prop :=
  ∃ c o' D E M L, J8 B m1 m2 c N Z o' T D E M L w' ∧ Mv Tag.own o w o' w'
def Step8P (B : Nat) (m1 m2 : Option Nat) (N Z : Nat) (o : Nat → Tag) (T : List Tw8) (w : World) (r : Ending) (w' : World) : Prop :=
  ∃ tn : Trn, r = .returned (.tuple #[tn.agg, .bool true]) ∧ GoesOn B m1 m2 N Z o T w w'
theorem SP.pre {σ : Side} {m : Option Nat} {c : C4} {K Z : Nat} {o : Nat → Tag} {D : List PD} {M : List PM} {W : World} (h : SP σ m c K Z o D M W) {j : Nat} {y : PM} {x : PD} (hy : M[j]? = some y) (hx : D[y.i]? = some x) :
    y.mb ∉ x.S ∧ y.mb ≠ x.db ∧ y.mb ∉ mS m ∧ (y.q.st ≠ 0 → y.sb ∉ x.S ∧ y.sb ≠ y.mb ∧ y.sb ≠ x.db ∧ y.sb ∉ mS m) := by
  obtain ⟨x0, hx0, m1, m2, m3, m4, m5, m6⟩ := h.mc j y hy
  rw [hx] at hx0; cases hx0
  obtain ⟨d1, d2, d3, d4⟩ := h.dc _ x hx
  have nS : ∀ z, o z ≠ .dic σ.tag y.i → z ∉ x.S ∧ z ≠ x.db := fun z hz => ⟨fun hq => hz (d3 z (by simp [hq])), fun hq => hz (by rw [hq]; exact d3 _ (by simp))⟩
  have nM : ∀ z, o z ≠ .met σ.tag → z ∉ mS m := fun z hz hq => by
    cases hm : m with
    | none => rw [hm] at hq; simp [mS] at hq
    | some b => rw [hm] at hq; simp [mS] at hq; subst hq; exact hz (h.mt _ hm)
  refine ⟨(nS _ (by rw [m4]; simp)).1, (nS _ (by rw [m4]; simp)).2, nM _ (by rw [m4]; simp), fun hs => ⟨(nS _ (by rw [m5 hs]; simp)).1, fun e => ?_, (nS _ (by rw [m5 hs]; simp)).2, nM _ (by rw [m5 hs]; simp)⟩⟩
  have := m5 hs
  rw [e, m4] at this
  simp at this
theorem G8.cells {B : Nat} {m1 m2 : Option Nat} {c1 c2 : C4} {K1 K2 Z1 Z2 : Nat} {o : Nat → Tag} {T : List Tw8} {D E : List PD} {M L : List PM} {W : World} (h : G8 B m1 m2 c1 c2 K1 K2 Z1 Z2 o T D E M L W) {k : Nat} {u : Tw8} (hk : T[k]? = some u) {g g' : Nat} (ha : u.a = some ⟨g, 0, none⟩) (ha' : u.a' = some ⟨g', 0, none⟩) {p : Nat} {it : Mr8} (hit : u.ms[p]? = some it) :
    W.cell? ⟨u.xb, 2, none⟩ = some (.slice (some ⟨g, 0, none⟩) u.ms.length u.c) ∧ W.cell? ⟨u.xb, 3, none⟩ = some (.slice (some ⟨g', 0, none⟩) u.ms.length u.c') ∧ W.cell? ⟨g, p, none⟩ = some (.pointer (some ⟨it.mb, 0, none⟩)) ∧ W.cell? ⟨g', p, none⟩ = some (.pointer (some ⟨it.rb, 0, none⟩)) := by
  have t := h.tw k u hk
  obtain ⟨x, y, _, _, hb⟩ := t.row
  have hp := (List.getElem?_eq_some_iff.1 hit).1
  have pa := t.pa
  have pb := t.pb
  rw [ha] at pa hb
  rw [ha'] at pb hb
  have q1 := pa.cell hp
  have q2 := pb.cell hp
  rw [ptr8_at hit] at q1 q2
  unfold two8O at hb
  exact ⟨cell_has hb (i := 2) rfl, cell_has hb (i := 3) rfl, q1, q2⟩
set_option maxRecDepth 100000 in
set_option maxHeartbeats 8000000 in
theorem step8_any {B : Nat} {m1 m2 : Option Nat} {c : C4} {N Z : Nat} {o : Nat → Tag} {T : List Tw8} {D E : List PD} {M L : List PM} {w : World} (H : J8 B m1 m2 c N Z o T D E M L w) (hN : N ≤ 900) (hZ : Z ≤ 900000) {k : Nat} {u : Tw8} (hk : T[k]? = some u) (p : Nat) (hp : p < u.ms.length) :
    Calls Tryz.prog 36 #[.pointer (some ⟨u.xb, 0, none⟩), .int .i64 p] w (Step8P B m1 m2 N (Z + 1) o T w) := by
  obtain ⟨lr, hlr⟩ : ∃ lr, lr = w.heap.size := ⟨_, rfl⟩
  obtain ⟨WA, hWA⟩ : ∃ WA, w.alloc (.cells #[.int .i64 0, .int .i64 0, .bool false, .int .i64 0, .int .i64 0] 75) = WA := ⟨_, rfl⟩
  have kb : Keeps [] w WA := by rw [← hWA]; exact (Keeps.refl [] w).alloc _
  have bs : WA.heap[lr]? = some (trnO noTrn) := by rw [← hWA, hlr]; exact has_new _ _
  have G0 := Lib.hid (H.g.kept kb (by simp))
  have OL := Lib.hid (show o lr = .free from H.g.fr lr (by omega))
  have V0 := Lib.hid (show Mv Tag.own o w o WA from Mv.of_keeps kb (by simp))
  have M80 := Lib.hid H.m80
  have ALK := Lib.hid H.a
  have NS := Lib.hid (And.intro H.n H.t)
  have tw := H.g.tw k u hk
  obtain ⟨g, ha⟩ := tw.pa.shape (by omega)
  obtain ⟨g', ha'⟩ := tw.pb.shape (by omega)
  obtain ⟨it, hit⟩ : ∃ it, u.ms[p]? = some it := ⟨_, List.getElem?_eq_getElem hp⟩
  obtain ⟨y, y2, hy, hym, hy2, hym2⟩ := tw.mem it (List.mem_of_getElem? hit)
  obtain ⟨x, hx, _⟩ := H.g.p.mc _ _ hy
  obtain ⟨e, he, _⟩ := H.g.r.mc _ _ hy2
  obtain ⟨eq1, eq2⟩ := H.a.m hy hy2
  have ed := H.a.d hx (by rw [← eq2]; exact he)
  have CELLS := Lib.hid (fun (c1 c2 : C4) (K1 K2 Z1 Z2 : Nat) (o : Nat → Tag) (D E : List PD) (M L : List PM) (W : World) (h : G8 B m1 m2 c1 c2 K1 K2 Z1 Z2 o T D E M L W) => h.cells hk ha ha' hit)
  obtain ⟨n, hn⟩ := ex_hid u.ms.length
  obtain ⟨x2, x3, z2, z3⟩ := CELLS.out _ _ _ _ _ _ _ _ _ _ _ _ G0.out
  rw [← hn.out] at x2 hp
  rw [← hym] at z2
  have HY := Lib.hid (And.intro hy (And.intro hy2 (And.intro hx he)))
  have HE := Lib.hid (And.intro eq1 (And.intro eq2 ed))
  have HYM := Lib.hid (And.intro hym hym2)
  have pn : (p : Int) < (n : Int) := by omega
  have p0 : (0 : Int) ≤ (p : Int) := by omega
  have BS := Lib.hid bs
  have HWA := Lib.hid hWA
  have HLR := Lib.hid hlr
  have HK := Lib.hid hk
  have HA := Lib.hid (And.intro ha ha')
  clear H hk hlr hWA kb bs tw hit hy hy2 hx he eq1 eq2 ed hym hym2 x3 z3 ha ha'
  go_enter Tryz.func36, Tryz.ntmps36
  go_upto_region 1 with (fail)
  rw [HWA.out, ← HLR.out]
  go_wp2_with fail
  obtain ⟨d1, d2, d3, d4⟩ := G0.out.p.dc _ _ HY.out.2.2.1
  obtain ⟨xx, hxx, q1, q2, q3, q4, q5, q6⟩ := G0.out.p.mc _ _ HY.out.1
  rw [HY.out.2.2.1] at hxx; cases hxx
  obtain ⟨r1, r2, r3, r4⟩ := G0.out.p.pre HY.out.1 HY.out.2.2.1
  have EN := endN_le M
  have M80' := M80.out
  refine (step_any (N + endN M) (by omega) y.mb y.sb x.db x.t x.lo x.S m1 c x.d y.q WA d1 G0.out.p.ct d4 q1 r1 r2 r3 r4 d2 q2 (by omega)).mono ?_
  clear d1 d2 d3 d4 q1 q2 q3 q4 q5 q6 r1 r2 r3 r4
  rintro r w1 ⟨S1, sb1, rfl, a1, a2, a3, k1, g1, l1, n1⟩
  obtain ⟨o1, p1, v1, f1, u1⟩ := G0.out.p.step G0.out.fr HY.out.1 HY.out.2.2.1 (by omega) a1 a2 a3 k1 g1 l1 (fun hs => ⟨(n1 hs).1, (n1 hs).2.2.1⟩)
  have G1 := Lib.hid (G0.out.gop p1 v1 f1 u1 (HeadD.set HY.out.2.2.1 rfl) (HeadM.set HY.out.1 rfl))
  have V1 := Lib.hid v1
  have F1 := Lib.hid f1
  have B1 := Lib.hid (v1.free_has rfl OL.out BS.out)
  have TT := Lib.hid (show trnO (stepM x.d y.q).turn = trnO (stepM x.d y.q).turn from rfl)
  obtain ⟨tn, htn⟩ := ex_hid (stepM x.d y.q).turn
  rw [← htn.out]
  clear EN M80' a1 a2 a3 k1 g1 l1 n1 p1 v1 f1 u1 x2 z2 TT
  simp only [Trn.agg]
  go_upto_region 2 with (fail)
  refine wp_gen (fun V => V.heap[w1.heap.size]? = some (trnO tn) ∧ Keeps [] w1 V) ⟨has_new _ _, (Keeps.refl [] w1).alloc _⟩ ?_
  rintro w2 ⟨b2, k2⟩
  obtain ⟨t6, ht6⟩ := ex_hid w1.heap.size
  rw [← ht6.out] at b2 ⊢
  have G2 := Lib.hid (G1.out.kept k2 (by simp))
  have V2 := Lib.hid (show Mv Tag.own o1 w1 o1 w2 from Mv.of_keeps k2 (by simp))
  have B2 := Lib.hid (show w2.heap[lr]? = some (trnO noTrn) from k2.has B1.out.1 (by simp))
  have T6 := Lib.hid b2
  have O6 := Lib.hid (show o1 t6 = .free from F1.out t6 (by rw [ht6.out]; exact Nat.le_refl _))
  have N6 := Lib.hid (show t6 ≠ lr from fun e9 => by have := lt_of_block B1.out.1; rw [← e9, ht6.out] at this; omega)
  obtain ⟨x2, x3, z2, z3⟩ := CELLS.out _ _ _ _ _ _ _ _ _ _ _ _ G2.out
  rw [← hn.out] at x3
  rw [← HYM.out.2] at z3
  clear x2 z2 b2 k2
  go_wp2_with fail
  obtain ⟨d1, d2, d3, d4⟩ := G2.out.r.dc _ _ HY.out.2.2.2
  obtain ⟨xx, hxx, q1, q2, q3, q4, q5, q6⟩ := G2.out.r.mc _ _ HY.out.2.1
  rw [HY.out.2.2.2] at hxx; cases hxx
  obtain ⟨r1, r2, r3, r4⟩ := G2.out.r.pre HY.out.2.1 HY.out.2.2.2
  have EN := endN_le L
  have M80' : L.length ≤ 80 := by rw [← ALK.out.len.2]; exact M80.out
  refine (rstep_any (N + endN L) (by omega) y2.mb y2.sb e.db e.t e.lo e.S m2 c e.d y2.q w2 d1 G2.out.r.ct d4 q1 r1 r2 q6 r4 d2 q2 (by omega)).mono ?_
  clear d1 d2 d3 d4 q1 q2 q3 q4 q5 q6 r1 r2 r3 r4
  rintro r w3 ⟨S3, sb3, rfl, a1, a2, a3, k1, g1, l1, n1⟩
  obtain ⟨o3, p3, v3, f3, u3⟩ := G2.out.r.step G2.out.fr HY.out.2.1 HY.out.2.2.2 (by omega) a1 a2 a3 k1 g1 l1 (fun hs => ⟨(n1 hs).1, (n1 hs).2.2⟩)
  have G3 := Lib.hid (G2.out.gor p3 v3 f3 u3 (HeadD.set HY.out.2.2.2 rfl) (HeadM.set HY.out.2.1 rfl))
  have V3 := Lib.hid v3
  have F3 := Lib.hid f3
  have B3 := Lib.hid (v3.free_has rfl B1.out.2 B2.out)
  have T63 := Lib.hid (v3.free_has rfl O6.out T6.out)
  have et : (stepM e.d y2.q).turn = tn := by rw [HE.out.1, HE.out.2.2, htn.out]
  rw [et]
  clear EN M80' a1 a2 a3 k1 g1 l1 n1 p3 v3 f3 u3 x3 z3 et
  simp only [Trn.agg]
  go_upto_region 3 with (fail)
  refine wp_gen (fun V => V.heap[w3.heap.size]? = some (trnO tn) ∧ Keeps [] w3 V) ⟨has_new _ _, (Keeps.refl [] w3).alloc _⟩ ?_
  rintro w4 ⟨b4, k4⟩
  obtain ⟨t7, ht7⟩ := ex_hid w3.heap.size
  rw [← ht7.out] at b4 ⊢
  have G4 := Lib.hid (G3.out.kept k4.drew (by simp))
  have V4 := Lib.hid (show Mv Tag.own o3 w3 o3 w4.drew from Mv.of_keeps k4.drew (by simp))
  have B4 := Lib.hid (show w4.heap[lr]? = some (trnO noTrn) from k4.has B3.out.1 (by simp))
  have O4 := Lib.hid B3.out.2
  have T7 : w4.drew.heap[t7]? = some (trnO tn) := b4
  have T64 : w4.drew.heap[t6]? = some (trnO tn) := k4.has T63.out.1 (by simp)
  have N7 := Lib.hid (show t7 ≠ lr from fun e9 => by have := lt_of_block B3.out.1; rw [← e9, ht7.out] at this; omega)
  obtain ⟨x2, x3, z2, z3⟩ := CELLS.out _ _ _ _ _ _ _ _ _ _ _ _ G4.out
  rw [← hn.out] at x2 x3
  rw [← HYM.out.1] at z2
  rw [← HYM.out.2] at z3
  obtain ⟨s0, s1, s2, s3, s4⟩ := trn_cells T64
  obtain ⟨v0, v1, v2, v3, v4⟩ := trn_cells T7
  obtain ⟨xp, hxp, mp, _, _, _, _, _⟩ := G4.out.p.mc _ _ (get_set HY.out.1)
  obtain ⟨xr, hxr, mr, _, _, orr, _, _⟩ := G4.out.r.mc _ _ (get_set HY.out.2.1)
  have SC1 := scan_any _ _ _ _ _ _ mp
  have SC2 := scans_any _ _ _ _ _ _ mp
  have SC3 := rscan8_any _ _ _ _ _ _ mr
  obtain ⟨at_, same, mb9, _⟩ := mr
  obtain ⟨_, _, _, _, _, _, _, _, _, _, _, _, _, _, _, _, y16⟩ := rm_cells mb9
  have eM : stepM e.d y2.q = stepM x.d y.q := by rw [HE.out.1, HE.out.2.2]
  simp only [eM] at SC3 y16
  obtain ⟨sn, hsn⟩ := ex_hid (scanN (stepM x.d y.q))
  obtain ⟨sc, hsc⟩ := ex_hid (stepM x.d y.q).scans
  rw [← hsn.out] at SC1 SC3
  rw [← hsc.out] at SC2 y16
  have SC1 := Lib.hid SC1
  have SC2 := Lib.hid SC2
  have SC3 := Lib.hid SC3
  have heq := fun w => eql_trn tn tn w
  simp only [Trn.agg, decide_true] at heq
  obtain ⟨i0, i1, i2, i3, i4⟩ := trn_cells B4.out
  obtain ⟨j0, j1, j2, j3, j4⟩ := trn_free B4.out
  have NXB := Lib.hid (show u.xb ≠ lr ∧ g ≠ lr ∧ g' ≠ lr ∧ y2.mb ≠ lr from by
    have t := G4.out.tw k u HK.out
    have ol := O4.out
    refine ⟨fun h => ?_, fun h => ?_, fun h => ?_, fun h => ?_⟩
    · have h9 := t.ox; rw [h, ol] at h9; cases h9
    · have h9 := t.oa g (by rw [HA.out.1]; simp [blk]); rw [h, ol] at h9; cases h9
    · have h9 := t.ob g' (by rw [HA.out.2]; simp [blk]); rw [h, ol] at h9; cases h9
    · have h9 : o3 y2.mb = .mac sideR.tag it.j := orr; rw [h, ol] at h9; cases h9)
  clear b4 k4 mb9 mp eM hxp hxr T64 T7
  refine wp_regionG (fun w' => (w'.cell? ⟨t6, 0, none⟩ = some (.int .i64 tn.kind) ∧ w'.cell? ⟨t6, 1, none⟩ = some (.int .i64 tn.key) ∧ w'.cell? ⟨t6, 2, none⟩ = some (.bool tn.found) ∧ w'.cell? ⟨t6, 3, none⟩ = some (.int .i64 tn.val) ∧ w'.cell? ⟨t6, 4, none⟩ = some (.int .i64 tn.ent)) ∧
    (w'.cell? ⟨t7, 0, none⟩ = some (.int .i64 tn.kind) ∧ w'.cell? ⟨t7, 1, none⟩ = some (.int .i64 tn.key) ∧ w'.cell? ⟨t7, 2, none⟩ = some (.bool tn.found) ∧ w'.cell? ⟨t7, 3, none⟩ = some (.int .i64 tn.val) ∧ w'.cell? ⟨t7, 4, none⟩ = some (.int .i64 tn.ent)) ∧
    w'.cell? ⟨u.xb, 2, none⟩ = some (.slice (some ⟨g, 0, none⟩) n u.c) ∧ w'.cell? ⟨u.xb, 3, none⟩ = some (.slice (some ⟨g', 0, none⟩) n u.c') ∧ w'.cell? ⟨g, p, none⟩ = some (.pointer (some ⟨y.mb, 0, none⟩)) ∧ w'.cell? ⟨g', p, none⟩ = some (.pointer (some ⟨y2.mb, 0, none⟩)) ∧ w'.cell? ⟨y2.mb, 16, none⟩ = some (.int .i64 sc)) 46 (by kernel_rfl) ⟨⟨s0, s1, s2, s3, s4⟩, ⟨v0, v1, v2, v3, v4⟩, x2, x3, z2, z3, y16⟩ (fun hF => ?_)
  refine wpAnyG_take (i := 0) (v := ?_) rfl (by kernel_rfl) (by decide +kernel) (by decide +kernel) (by decide +kernel) (by decide +kernel) (by rfl) (fun _ _ _ h => h) (by kernel_rfl) ?_ (by assumption) ?_
  rotate_left
  · (intro wz hSw; (try dsimp only at hSw); go_simp; with_reducible rfl)
  try simp only [Act.put, List.setIfInBounds_toArray, List.set_cons_zero, List.set_cons_succ]
  refine wpAnyG_take (i := 1) (v := ?_) rfl (by kernel_rfl) (by decide +kernel) (by decide +kernel) (by decide +kernel) (by decide +kernel) (by rfl) (fun _ _ _ h => h) (by kernel_rfl) ?_ (by assumption) ?_
  rotate_left
  · (intro wz hSw; (try dsimp only at hSw); go_simp; with_reducible rfl)
  try simp only [Act.put, List.setIfInBounds_toArray, List.set_cons_zero, List.set_cons_succ]
  refine wpAnyG_take (i := 2) (v := ?_) rfl (by kernel_rfl) (by decide +kernel) (by decide +kernel) (by decide +kernel) (by decide +kernel) (by rfl) (fun _ _ _ h => h) (by kernel_rfl) ?_ (by assumption) ?_
  rotate_left
  · (intro wz hSw; (try dsimp only at hSw); go_simp; with_reducible rfl)
  try simp only [Act.put, List.setIfInBounds_toArray, List.set_cons_zero, List.set_cons_succ]
  refine wpAnyG_take (i := 3) (v := ?_) rfl (by kernel_rfl) (by decide +kernel) (by decide +kernel) (by decide +kernel) (by decide +kernel) (by rfl) (fun _ _ _ h => h) (by kernel_rfl) ?_ (by assumption) ?_
  rotate_left
  · (intro wz hSw; (try dsimp only at hSw); go_simp; with_reducible rfl)
  try simp only [Act.put, List.setIfInBounds_toArray, List.set_cons_zero, List.set_cons_succ]
  refine wpAnyG_takeY (i := 4) (v := ?_) rfl (by kernel_rfl) (by decide +kernel) (by decide +kernel) (by decide +kernel) (fun _ _ _ h => h) (by kernel_rfl) ?_ (by assumption) ?_
  rotate_left
  · (intro wz; go_simp; with_reducible rfl)
  try simp only [Act.put, List.setIfInBounds_toArray, List.set_cons_zero, List.set_cons_succ]
  refine wpAnyG_takeY (i := 5) (v := ?_) rfl (by kernel_rfl) (by decide +kernel) (by decide +kernel) (by decide +kernel) (fun _ _ _ h => h) (by kernel_rfl) ?_ (by assumption) ?_
  rotate_left
  · (intro wz; go_simp; with_reducible rfl)
  try simp only [Act.put, List.setIfInBounds_toArray, List.set_cons_zero, List.set_cons_succ]
  refine wpAnyG_takeY (i := 6) (v := ?_) rfl (by kernel_rfl) (by decide +kernel) (by decide +kernel) (by decide +kernel) (fun _ _ _ h => h) (by kernel_rfl) ?_ (by assumption) ?_
  rotate_left
  · (intro wz; go_simp; with_reducible rfl)
  try simp only [Act.put, List.setIfInBounds_toArray, List.set_cons_zero, List.set_cons_succ]
  refine wpAnyG_takeY (i := 7) (v := ?_) rfl (by kernel_rfl) (by decide +kernel) (by decide +kernel) (by decide +kernel) (fun _ _ _ h => h) (by kernel_rfl) ?_ (by assumption) ?_
  rotate_left
  · (intro wz; go_simp; with_reducible rfl)
  try simp only [Act.put, List.setIfInBounds_toArray, List.set_cons_zero, List.set_cons_succ]
  refine wpAnyG_take (i := 8) (v := ?_) rfl (by kernel_rfl) (by decide +kernel) (by decide +kernel) (by decide +kernel) (by decide +kernel) (by rfl) (fun _ _ _ h => h) (by kernel_rfl) ?_ (by assumption) ?_
  rotate_left
  · (intro wz hSw; (try dsimp only at hSw); go_simp; with_reducible rfl)
  try simp only [Act.put, List.setIfInBounds_toArray, List.set_cons_zero, List.set_cons_succ]
  refine wpAnyG_takeY (i := 9) (v := ?_) rfl (by kernel_rfl) (by decide +kernel) (by decide +kernel) (by decide +kernel) (fun _ _ _ h => h) (by kernel_rfl) ?_ (by assumption) ?_
  rotate_left
  · (intro wz; go_simp; with_reducible rfl)
  try simp only [Act.put, List.setIfInBounds_toArray, List.set_cons_zero, List.set_cons_succ]
  refine wpAnyG_takeY (i := 10) (v := ?_) rfl (by kernel_rfl) (by decide +kernel) (by decide +kernel) (by decide +kernel) (fun _ _ _ h => h) (by kernel_rfl) ?_ (by assumption) ?_
  rotate_left
  · (intro wz; go_simp; with_reducible rfl)
  try simp only [Act.put, List.setIfInBounds_toArray, List.set_cons_zero, List.set_cons_succ]
  refine wpAnyG_take (i := 11) (v := ?_) rfl (by kernel_rfl) (by decide +kernel) (by decide +kernel) (by decide +kernel) (by decide +kernel) (by rfl) (fun _ _ _ h => h) (by kernel_rfl) ?_ (by assumption) ?_
  rotate_left
  · (intro wz hSw; (try dsimp only at hSw); go_simp; with_reducible rfl)
  try simp only [Act.put, List.setIfInBounds_toArray, List.set_cons_zero, List.set_cons_succ]
  refine wpAnyG_takeY (i := 13) (v := ?_) rfl (by kernel_rfl) (by decide +kernel) (by decide +kernel) (by decide +kernel) (fun _ _ _ h => h) (by kernel_rfl) ?_ (by assumption) ?_
  rotate_left
  · (intro wz; go_simp; with_reducible rfl)
  try simp only [Act.put, List.setIfInBounds_toArray, List.set_cons_zero, List.set_cons_succ]
  refine wpAnyG_takeY (i := 14) (v := ?_) rfl (by kernel_rfl) (by decide +kernel) (by decide +kernel) (by decide +kernel) (fun _ _ _ h => h) (by kernel_rfl) ?_ (by assumption) ?_
  rotate_left
  · (intro wz; go_simp; with_reducible rfl)
  try simp only [Act.put, List.setIfInBounds_toArray, List.set_cons_zero, List.set_cons_succ]
  refine wpAnyG_takeY (i := 15) (v := ?_) rfl (by kernel_rfl) (by decide +kernel) (by decide +kernel) (by decide +kernel) (fun _ _ _ h => h) (by kernel_rfl) ?_ (by assumption) ?_
  rotate_left
  · (intro wz; go_simp; with_reducible rfl)
  try simp only [Act.put, List.setIfInBounds_toArray, List.set_cons_zero, List.set_cons_succ]
  refine wpAnyG_take (i := 16) (v := ?_) rfl (by kernel_rfl) (by decide +kernel) (by decide +kernel) (by decide +kernel) (by decide +kernel) (by rfl) (fun _ _ _ h => h) (by kernel_rfl) ?_ (by assumption) ?_
  rotate_left
  · (intro wz hSw; (try dsimp only at hSw); go_simp; with_reducible rfl)
  try simp only [Act.put, List.setIfInBounds_toArray, List.set_cons_zero, List.set_cons_succ]
  refine wpAnyG_takeY (i := 17) (v := ?_) rfl (by kernel_rfl) (by decide +kernel) (by decide +kernel) (by decide +kernel) (fun _ _ _ h => h) (by kernel_rfl) ?_ (by assumption) ?_
  rotate_left
  · (intro wz; go_simp; with_reducible rfl)
  try simp only [Act.put, List.setIfInBounds_toArray, List.set_cons_zero, List.set_cons_succ]
  refine wpAnyG_takeY (i := 18) (v := ?_) rfl (by kernel_rfl) (by decide +kernel) (by decide +kernel) (by decide +kernel) (fun _ _ _ h => h) (by kernel_rfl) ?_ (by assumption) ?_
  rotate_left
  · (intro wz; go_simp; with_reducible rfl)
  try simp only [Act.put, List.setIfInBounds_toArray, List.set_cons_zero, List.set_cons_succ]
  refine wpAnyG_take (i := 19) (v := ?_) rfl (by kernel_rfl) (by decide +kernel) (by decide +kernel) (by decide +kernel) (by decide +kernel) (by rfl) (fun _ _ _ h => h) (by kernel_rfl) ?_ (by assumption) ?_
  rotate_left
  · (intro wz hSw; (try dsimp only at hSw); go_simp; with_reducible rfl)
  try simp only [Act.put, List.setIfInBounds_toArray, List.set_cons_zero, List.set_cons_succ]
  refine wpAnyG_one (i := 12) rfl (by kernel_rfl) (by kernel_rfl) (fun K hK => ?_)
  have HK := Lib.hid hK
  clear hK
  go_simp
  refine SC1.out.mono ?_
  rintro r w5 ⟨rfl, rfl⟩
  refine HK.out _ _ hF ?_
  clear HK K
  try simp only [Act.put, List.setIfInBounds_toArray, List.set_cons_zero, List.set_cons_succ]
  refine wpAnyG_one (i := 20) rfl (by kernel_rfl) (by kernel_rfl) (fun K hK => ?_)
  have HK := Lib.hid hK
  clear hK
  go_simp
  refine SC3.out.mono ?_
  rintro r w5 ⟨rfl, rfl⟩
  refine HK.out _ _ hF ?_
  clear HK K
  try simp only [Act.put, List.setIfInBounds_toArray, List.set_cons_zero, List.set_cons_succ]
  refine wpAnyG_takeY (i := 21) (v := ?_) rfl (by kernel_rfl) (by decide +kernel) (by decide +kernel) (by decide +kernel) (fun _ _ _ h => h) (by kernel_rfl) ?_ (by assumption) ?_
  rotate_left
  · (intro wz; go_simp; with_reducible rfl)
  try simp only [Act.put, List.setIfInBounds_toArray, List.set_cons_zero, List.set_cons_succ]
  refine wpAnyG_takeY (i := 22) (v := ?_) rfl (by kernel_rfl) (by decide +kernel) (by decide +kernel) (by decide +kernel) (fun _ _ _ h => h) (by kernel_rfl) ?_ (by assumption) ?_
  rotate_left
  · (intro wz; go_simp; with_reducible rfl)
  try simp only [Act.put, List.setIfInBounds_toArray, List.set_cons_zero, List.set_cons_succ]
  refine wpAnyG_takeY (i := 23) (v := ?_) rfl (by kernel_rfl) (by decide +kernel) (by decide +kernel) (by decide +kernel) (fun _ _ _ h => h) (by kernel_rfl) ?_ (by assumption) ?_
  rotate_left
  · (intro wz; go_simp; with_reducible rfl)
  try simp only [Act.put, List.setIfInBounds_toArray, List.set_cons_zero, List.set_cons_succ]
  refine wpAnyG_takeY (i := 24) (v := ?_) rfl (by kernel_rfl) (by decide +kernel) (by decide +kernel) (by decide +kernel) (fun _ _ _ h => h) (by kernel_rfl) ?_ (by assumption) ?_
  rotate_left
  · (intro wz; go_simp; with_reducible rfl)
  try simp only [Act.put, List.setIfInBounds_toArray, List.set_cons_zero, List.set_cons_succ]
  refine wpAnyG_takeY (i := 25) (v := ?_) rfl (by kernel_rfl) (by decide +kernel) (by decide +kernel) (by decide +kernel) (fun _ _ _ h => h) (by kernel_rfl) ?_ (by assumption) ?_
  rotate_left
  · (intro wz; go_simp; with_reducible rfl)
  try simp only [Act.put, List.setIfInBounds_toArray, List.set_cons_zero, List.set_cons_succ]
  refine wpAnyG_takeY (i := 26) (v := ?_) rfl (by kernel_rfl) (by decide +kernel) (by decide +kernel) (by decide +kernel) (fun _ _ _ h => h) (by kernel_rfl) ?_ (by assumption) ?_
  rotate_left
  · (intro wz; go_simp; with_reducible rfl)
  try simp only [Act.put, List.setIfInBounds_toArray, List.set_cons_zero, List.set_cons_succ]
  refine wpAnyG_take (i := 27) (v := ?_) rfl (by kernel_rfl) (by decide +kernel) (by decide +kernel) (by decide +kernel) (by decide +kernel) (by rfl) (fun _ _ _ h => h) (by kernel_rfl) ?_ (by assumption) ?_
  rotate_left
  · (intro wz hSw; (try dsimp only at hSw); go_simp; with_reducible rfl)
  try simp only [Act.put, List.setIfInBounds_toArray, List.set_cons_zero, List.set_cons_succ]
  refine wpAnyG_takeY (i := 28) (v := ?_) rfl (by kernel_rfl) (by decide +kernel) (by decide +kernel) (by decide +kernel) (fun _ _ _ h => h) (by kernel_rfl) ?_ (by assumption) ?_
  rotate_left
  · (intro wz; go_simp; with_reducible rfl)
  try simp only [Act.put, List.setIfInBounds_toArray, List.set_cons_zero, List.set_cons_succ]
  refine wpAnyG_takeY (i := 29) (v := ?_) rfl (by kernel_rfl) (by decide +kernel) (by decide +kernel) (by decide +kernel) (fun _ _ _ h => h) (by kernel_rfl) ?_ (by assumption) ?_
  rotate_left
  · (intro wz; go_simp; with_reducible rfl)
  try simp only [Act.put, List.setIfInBounds_toArray, List.set_cons_zero, List.set_cons_succ]
  refine wpAnyG_take (i := 30) (v := ?_) rfl (by kernel_rfl) (by decide +kernel) (by decide +kernel) (by decide +kernel) (by decide +kernel) (by rfl) (fun _ _ _ h => h) (by kernel_rfl) ?_ (by assumption) ?_
  rotate_left
  · (intro wz hSw; (try dsimp only at hSw); go_simp; with_reducible rfl)
  try simp only [Act.put, List.setIfInBounds_toArray, List.set_cons_zero, List.set_cons_succ]
  refine wpAnyG_takeY (i := 32) (v := ?_) rfl (by kernel_rfl) (by decide +kernel) (by decide +kernel) (by decide +kernel) (fun _ _ _ h => h) (by kernel_rfl) ?_ (by assumption) ?_
  rotate_left
  · (intro wz; go_simp; with_reducible rfl)
  try simp only [Act.put, List.setIfInBounds_toArray, List.set_cons_zero, List.set_cons_succ]
  refine wpAnyG_takeY (i := 33) (v := ?_) rfl (by kernel_rfl) (by decide +kernel) (by decide +kernel) (by decide +kernel) (fun _ _ _ h => h) (by kernel_rfl) ?_ (by assumption) ?_
  rotate_left
  · (intro wz; go_simp; with_reducible rfl)
  try simp only [Act.put, List.setIfInBounds_toArray, List.set_cons_zero, List.set_cons_succ]
  refine wpAnyG_takeY (i := 34) (v := ?_) rfl (by kernel_rfl) (by decide +kernel) (by decide +kernel) (by decide +kernel) (fun _ _ _ h => h) (by kernel_rfl) ?_ (by assumption) ?_
  rotate_left
  · (intro wz; go_simp; with_reducible rfl)
  try simp only [Act.put, List.setIfInBounds_toArray, List.set_cons_zero, List.set_cons_succ]
  refine wpAnyG_take (i := 35) (v := ?_) rfl (by kernel_rfl) (by decide +kernel) (by decide +kernel) (by decide +kernel) (by decide +kernel) (by rfl) (fun _ _ _ h => h) (by kernel_rfl) ?_ (by assumption) ?_
  rotate_left
  · (intro wz hSw; (try dsimp only at hSw); go_simp; with_reducible rfl)
  try simp only [Act.put, List.setIfInBounds_toArray, List.set_cons_zero, List.set_cons_succ]
  refine wpAnyG_takeY (i := 36) (v := ?_) rfl (by kernel_rfl) (by decide +kernel) (by decide +kernel) (by decide +kernel) (fun _ _ _ h => h) (by kernel_rfl) ?_ (by assumption) ?_
  rotate_left
  · (intro wz; go_simp; with_reducible rfl)
  try simp only [Act.put, List.setIfInBounds_toArray, List.set_cons_zero, List.set_cons_succ]
  refine wpAnyG_takeY (i := 37) (v := ?_) rfl (by kernel_rfl) (by decide +kernel) (by decide +kernel) (by decide +kernel) (fun _ _ _ h => h) (by kernel_rfl) ?_ (by assumption) ?_
  rotate_left
  · (intro wz; go_simp; with_reducible rfl)
  try simp only [Act.put, List.setIfInBounds_toArray, List.set_cons_zero, List.set_cons_succ]
  refine wpAnyG_take (i := 38) (v := ?_) rfl (by kernel_rfl) (by decide +kernel) (by decide +kernel) (by decide +kernel) (by decide +kernel) (by rfl) (fun _ _ _ h => h) (by kernel_rfl) ?_ (by assumption) ?_
  rotate_left
  · (intro wz hSw; (try dsimp only at hSw); go_simp; with_reducible rfl)
  try simp only [Act.put, List.setIfInBounds_toArray, List.set_cons_zero, List.set_cons_succ]
  refine wpAnyG_takeY (i := 39) (v := ?_) rfl (by kernel_rfl) (by decide +kernel) (by decide +kernel) (by decide +kernel) (fun _ _ _ h => h) (by kernel_rfl) ?_ (by assumption) ?_
  rotate_left
  · (intro wz; go_simp; with_reducible rfl)
  try simp only [Act.put, List.setIfInBounds_toArray, List.set_cons_zero, List.set_cons_succ]
  refine wpAnyG_takeY (i := 40) (v := ?_) rfl (by kernel_rfl) (by decide +kernel) (by decide +kernel) (by decide +kernel) (fun _ _ _ h => h) (by kernel_rfl) ?_ (by assumption) ?_
  rotate_left
  · (intro wz; go_simp; with_reducible rfl)
  try simp only [Act.put, List.setIfInBounds_toArray, List.set_cons_zero, List.set_cons_succ]
  refine wpAnyG_take (i := 41) (v := ?_) rfl (by kernel_rfl) (by decide +kernel) (by decide +kernel) (by decide +kernel) (by decide +kernel) (by rfl) (fun _ _ _ h => h) (by kernel_rfl) ?_ (by assumption) ?_
  rotate_left
  · (intro wz hSw; (try dsimp only at hSw); go_simp; with_reducible rfl)
  try simp only [Act.put, List.setIfInBounds_toArray, List.set_cons_zero, List.set_cons_succ]
  refine wpAnyG_one (i := 31) rfl (by kernel_rfl) (by kernel_rfl) (fun K hK => ?_)
  have HK := Lib.hid hK
  clear hK
  go_simp
  refine SC2.out.mono ?_
  rintro r w5 ⟨rfl, rfl⟩
  refine HK.out _ _ hF ?_
  clear HK K
  try simp only [Act.put, List.setIfInBounds_toArray, List.set_cons_zero, List.set_cons_succ]
  refine wpAnyG_takeY (i := 42) (v := ?_) rfl (by kernel_rfl) (by decide +kernel) (by decide +kernel) (by decide +kernel) (fun _ _ _ h => h) (by kernel_rfl) ?_ (by assumption) ?_
  rotate_left
  · (intro wz; go_simp; with_reducible rfl)
  try simp only [Act.put, List.setIfInBounds_toArray, List.set_cons_zero, List.set_cons_succ]
  refine wpAnyG_takeY (i := 43) (v := ?_) rfl (by kernel_rfl) (by decide +kernel) (by decide +kernel) (by decide +kernel) (fun _ _ _ h => h) (by kernel_rfl) ?_ (by assumption) ?_
  rotate_left
  · (intro wz; go_simp; with_reducible rfl)
  try simp only [Act.put, List.setIfInBounds_toArray, List.set_cons_zero, List.set_cons_succ]
  have ts := trn_store noTrn tn B4.out
  obtain ⟨Y0, hY0⟩ : ∃ Y0, Y0 = (((((w4.setCell ⟨lr, 0, none⟩ (.int .i64 tn.kind)).setCell ⟨lr, 1, none⟩ (.int .i64 tn.key)).setCell ⟨lr, 2, none⟩ (.bool tn.found)).setCell ⟨lr, 3, none⟩ (.int .i64 tn.val)).setCell ⟨lr, 4, none⟩ (.int .i64 tn.ent)) := ⟨_, rfl⟩
  rw [← hY0] at ts
  have HY0 := Lib.hid hY0
  clear hY0
  have cK := fun (b i : Nat) (v : Value) (hb : b ≠ lr) (h : w4.cell? ⟨b, i, none⟩ = some v) => (show Y0.drew.cell? ⟨b, i, none⟩ = some v from ts.2.cell h (by simp; exact hb))
  have hF2 := And.intro (And.intro (cK _ _ _ N6.out hF.1.1) (And.intro (cK _ _ _ N6.out hF.1.2.1) (And.intro (cK _ _ _ N6.out hF.1.2.2.1) (And.intro (cK _ _ _ N6.out hF.1.2.2.2.1) (cK _ _ _ N6.out hF.1.2.2.2.2)))))
    (And.intro (And.intro (cK _ _ _ N7.out hF.2.1.1) (And.intro (cK _ _ _ N7.out hF.2.1.2.1) (And.intro (cK _ _ _ N7.out hF.2.1.2.2.1) (And.intro (cK _ _ _ N7.out hF.2.1.2.2.2.1) (cK _ _ _ N7.out hF.2.1.2.2.2.2)))))
    (And.intro (cK _ _ _ NXB.out.1 hF.2.2.1) (And.intro (cK _ _ _ NXB.out.1 hF.2.2.2.1) (And.intro (cK _ _ _ NXB.out.2.1 hF.2.2.2.2.1) (And.intro (cK _ _ _ NXB.out.2.2.1 hF.2.2.2.2.2.1) (cK _ _ _ NXB.out.2.2.2 hF.2.2.2.2.2.2))))))
  have TS := Lib.hid ts
  clear ts cK
  refine wpAnyG_one (i := 44) rfl (by kernel_rfl) (by kernel_rfl) (fun K hK => ?_)
  have HK := Lib.hid hK
  clear hK
  go_simp
  rw [← HY0.out]
  refine HK.out _ _ hF2 ?_
  clear HK K hF i0 i1 i2 i3 i4 j0 j1 j2 j3 j4 heq
  try simp only [Act.put, List.setIfInBounds_toArray, List.set_cons_zero, List.set_cons_succ]
  refine wpAnyG_takeY (i := 45) (v := ?_) rfl (by kernel_rfl) (by decide +kernel) (by decide +kernel) (by decide +kernel) (fun _ _ _ h => h) (by kernel_rfl) ?_ (by assumption) ?_
  rotate_left
  · (intro wz; go_simp; with_reducible rfl)
  try simp only [Act.put, List.setIfInBounds_toArray, List.set_cons_zero, List.set_cons_succ]
  refine wpAnyG_done (by kernel_rfl) ?_ _
  go_simp
  clear hF2
  go_wp2_with fail
  have rc := cell_of_has TS.out.1
  refine bodyPost_ret (v := .tuple #[tn.agg, .bool true]) (by simp [results, Tryz.results36, go_sem, Trn.agg, rc]) rfl ⟨tn, rfl, ?_⟩
  have k9 : Keeps [lr] w4.drew Y0.drew := ⟨TS.out.2.os, TS.out.2.tape, TS.out.2.output, TS.out.2.size, TS.out.2.block⟩
  have G9 := G4.out.kept k9 (by simp; exact O4.out)
  have ec : stepC e.d y2.q c = stepC x.d y.q c := by rw [HE.out.1, HE.out.2.2]
  rw [ec] at G9
  refine ⟨_, o3, _, _, _, _, ⟨G9, ?_, ?_, NS.out.2⟩, ?_⟩
  · rw [HE.out.2.1]
    exact (ALK.out.setD (by show stepD e.d y2.q = stepD x.d y.q; rw [HE.out.1, HE.out.2.2])).setM ⟨by show stepM e.d y2.q = stepM x.d y.q; rw [HE.out.1, HE.out.2.2], by first | rfl | exact HE.out.2.1⟩
  · rw [List.length_set]; exact NS.out.1
  · exact ((((V0.out.trans (V1.out.mono (fun t ht => Tag.own_side ht true))).trans V2.out).trans (V3.out.mono (fun t ht => Tag.own_side ht false))).trans V4.out).thenK k9 (by simp only [List.mem_singleton]; rintro z rfl; exact .inl (by rw [HLR.out]; exact Nat.le_refl _))
end Go.Proofs.YtcakdmapnmneoaaGreat
