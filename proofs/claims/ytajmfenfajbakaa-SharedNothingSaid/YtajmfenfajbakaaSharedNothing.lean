/- A namespace that is none does nothing (chapter 10, SharedNothing): the walk. -/
import Derived.Test.YtajmfenfajbakaaShNl2
import Derived.Test.YtajmfenfajbakaaShU
namespace Go.Proofs.Ytajmfenfajbakaa
open Go.RowKit
set_option linter.unusedVariables false
set_option linter.unusedSimpArgs false

theorem step_cells10 {w : World} {a : Option Addr} {len : Nat} {F : Nat → Int} {N : Nat → ByteArray} (h : FldRow (fun j => [2].contains j) 4 w a len F N) {i : Nat} (hi : i < len) :
    ∃ b off, a = some ⟨b, off, none⟩ ∧ ∀ W, Keeps [] w W → W.cell? ⟨b, off + i * 4, none⟩ = some (.int .i64 (F (i * 4))) ∧ W.cell? ⟨b, off + i * 4 + 1, none⟩ = some (.int .i64 (F (i * 4 + 1))) ∧ W.cell? ⟨b, off + i * 4 + 2, none⟩ = some (.string (N (i * 4 + 2))) ∧ W.cell? ⟨b, off + i * 4 + 3, none⟩ = some (.int .i64 (F (i * 4 + 3))) := by
  rcases h with h | ⟨b, off, h1, _, _, hc⟩
  · omega
  · refine ⟨b, off, h1, fun W k => ?_⟩
    have e0 := hc (i * 4) (by omega)
    have e1 := hc (i * 4 + 1) (by omega)
    have e2 := hc (i * 4 + 2) (by omega)
    have e3 := hc (i * 4 + 3) (by omega)
    have m0 : (i * 4) % 4 = 0 := by omega
    have m1 : (i * 4 + 1) % 4 = 1 := by omega
    have m2 : (i * 4 + 2) % 4 = 2 := by omega
    have m3 : (i * 4 + 3) % 4 = 3 := by omega
    unfold fldV at e0 e1 e2 e3
    rw [m0] at e0
    rw [m1] at e1
    rw [m2] at e2
    rw [m3] at e3
    rw [Nat.add_assoc, Nat.add_assoc, Nat.add_assoc]
    exact ⟨k.cell e0 (by simp), k.cell e1 (by simp), k.cell e2 (by simp), k.cell e3 (by simp)⟩
def stepO10 (k s : Int) (n : ByteArray) (v : Int) : Obj := .cells #[.int .i64 k, .int .i64 s, .string n, .int .i64 v] 67 (0, 0)
def zspO : Obj := .cells #[.pointer none, .nilIface, .int .u64 0] 83 (0, 0)
def arrO (sp : Nat) : Obj := .cells #[.pointer none, .pointer (some ⟨sp, 0, none⟩)] 39 (0, 0)
/-- What the made namespace is, between two rounds. -/
def NthI (zb t mb sb rb sp ab bs : Nat) (w0 W : World) : Prop :=
  ∃ a ST ar c, SRow zb t mb zb a ST none ⟨0, 0, newT, []⟩ sb rb ar [] 0 c W ∧ W.heap[sp]? = some zspO ∧ W.heap[ab]? = some (arrO sp) ∧ Keeps [] w0 W ∧ (∀ z, z ∈ spFeet zb mb a ST none sb rb ar → z = zb ∨ bs ≤ z) ∧ bs ≤ W.heap.size ∧ sp < bs ∧ ab < bs ∧ sp ≠ zb ∧ ab ≠ zb ∧ w0.heap.size ≤ zb
theorem NthI.quiet {zb t mb sb rb sp ab bs : Nat} {w0 W W' : World} (h : NthI zb t mb sb rb sp ab bs w0 W) (k : Keeps [] W W') : NthI zb t mb sb rb sp ab bs w0 W' := by
  obtain ⟨a, ST, ar, c, h1, h2, h3, h4, h5, h6, h7⟩ := h
  exact ⟨a, ST, ar, c, h1.quiet k, k.has h2 (by simp), k.has h3 (by simp), h4.trans k, h5, Nat.le_trans h6 k.size, h7⟩
theorem NthI.old {zb t mb sb rb sp ab bs : Nat} {w0 W : World} (h : NthI zb t mb sb rb sp ab bs w0 W) : Keeps [] w0 W := by
  obtain ⟨a, ST, ar, c, h1, h2, h3, h4, h5, h6, h7⟩ := h
  exact h4
theorem NthI.cells {zb t mb sb rb sp ab bs : Nat} {w0 W : World} (h : NthI zb t mb sb rb sp ab bs w0 W) : W.heap[sp]? = some zspO ∧ W.heap[ab]? = some (arrO sp) := by
  obtain ⟨a, ST, ar, c, h1, h2, h3, h4, h5, h6, h7⟩ := h
  exact ⟨h2, h3⟩
theorem nth_set {zb t mb sb rb sp ab bs : Nat} {w0 W : World} (h : NthI zb t mb sb rb sp ab bs w0 W) (s : ByteArray) (v : Int) (hs : s.size ≤ 1000000) :
    Calls Try.prog 11 #[.pointer (some ⟨sb, 0, none⟩), .string s, .int .i64 v] W fun r w' => r = .returned (.int .i64 6) ∧ NthI zb t mb sb rb sp ab bs w0 w' := by
  obtain ⟨a, ST, ar, c, h1, h2, h3, h4, h5, h6, h7, h8, h9, h10, h11⟩ := h
  have hno : ¬ 0 ≤ rowFindI [] (seekR newT (numI [] s) (txtH s) c).1 := by unfold rowFindI; split <;> rename_i hq <;> simp at hq ⊢; omega
  refine (sset_full 0 (by omega) zb t mb zb a ST none ⟨0, 0, newT, []⟩ sb rb ar [] 0 c s v W h1 TInv.new hs (by omega) hno (by simp)).mono ?_
  rintro r w' ⟨e, f', vs', c', a', ST', ar', he, rfl, g1, g2, g3, g4⟩
  have hr : rowSet ⟨0, 0, newT, []⟩ [] c s v = some (6, ⟨0, 0, newT, []⟩, [], (seekR newT (numI [] s) (txtH s) c).2) := by unfold rowSet; rw [if_neg hno, if_pos (by simp)]
  rw [hr] at he
  simp only [Option.some.injEq, Prod.mk.injEq] at he
  obtain ⟨rfl, rfl, rfl, rfl⟩ := he
  have hz := g2.size
  refine ⟨rfl, a', ST', ar', _, g1, g2.has h2 (fun hx => ?_), g2.has h3 (fun hx => ?_), h4.then g2 (fun z hz => .inl ?_), fun z hz => ?_, by omega, h7, h8, h9, h10, h11⟩
  · rcases h5 _ hx with h | h <;> omega
  · rcases h5 _ hx with h | h <;> omega
  · have := h1.low z hz
    simp [mS] at this; omega
  · unfold spFeet at hz h5
    simp only [List.mem_append, List.mem_cons, mS, List.not_mem_nil, or_false] at hz h5
    rcases hz with h | h | h | h
    · exact h5 z (.inl h)
    · rcases g3 z h with h | h
      · exact h5 z (.inr (.inl h))
      · right; omega
    · exact h5 z (.inr (.inr (.inl h)))
    · rcases g4 z (List.mem_cons_of_mem _ h) with h | h
      · exact h5 z (.inr (.inr (List.mem_cons.1 h)))
      · right; omega
theorem nth_len {zb t mb sb rb sp ab bs : Nat} {w0 W : World} (h : NthI zb t mb sb rb sp ab bs w0 W) :
    Calls Try.prog 16 #[.pointer (some ⟨sb, 0, none⟩)] W fun r w' => r = .returned (.int .i64 0) ∧ W = w' := by
  obtain ⟨a, ST, ar, c, h1, _⟩ := h
  exact slen_row sb zb rb zb ar [] (0 : Nat) W h1.s h1.R
set_option maxRecDepth 100000 in
set_option maxHeartbeats 8000000 in
theorem sharedNothing_walk (a0 : Option Addr) (n0 c0 : Nat) (F : Nat → Int) (N : Nat → ByteArray) (w : World) (h0 : FldRow (fun j => [2].contains j) 4 w a0 n0 F N) :
    Calls Try.prog 6 #[.slice a0 n0 c0] w fun e w' => e = .returned (.bool true) ∧ Below w.heap.size w w' := by
  have H0 := Lib.hid h0
  have MU := much10_any a0 n0 c0 F N w h0
  have SG := fsight_nil
  have SZ := sight10_zero
  unfold noSight at SG SZ
  have SG := Lib.hid SG
  have SZ := Lib.hid SZ
  clear h0
  go_enter Try.func6, Try.ntmps6
  go_wp2_with fail
  refine MU.mono ?_
  rintro r w1 ⟨rfl, (rfl | ⟨rfl, hlen, hsz⟩)⟩
  · clear MU
    go_wp2_with fail
    refine (awake10 w).mono ?_
    rintro r w1 ⟨rfl, k1⟩
    have K1 := Lib.hid k1
    clear k1
    go_wp2_with fail
    go_ret
    exact ⟨rfl, K1.out.below (Nat.le_refl _) (by simp)⟩
  · have HZ := Lib.hid hsz
    clear MU hsz
    go_upto_region 7 with (fail)
    refine wp_gen (fun V => V.heap[w.heap.size]? = some zeroF ∧ V.heap[w.heap.size + 1]? = some zspO ∧ V.heap[w.heap.size + 1 + 1]? = some (arrO (w.heap.size + 1)) ∧ Keeps [] w V) ⟨has_alloc (has_alloc (has_new _ _) _) _, has_alloc (has_new' _ _ (by simp)) _, has_new' _ _ (by simp), (((Keeps.refl [] w).alloc _).alloc _).alloc _⟩ ?_
    rintro w2 ⟨b1, b2, b3, k2⟩
    obtain ⟨zb, hzb⟩ := ex_hid w.heap.size
    rw [← hzb.out] at b1 b2 b3 ⊢
    obtain ⟨sp, hsp⟩ := ex_hid (zb + 1)
    rw [← hsp.out] at b2 b3 ⊢
    obtain ⟨ab, hab⟩ := ex_hid (sp + 1)
    rw [← hab.out] at b3 ⊢
    have B1 := Lib.hid b1
    have B2 := Lib.hid b2
    have B3 := Lib.hid b3
    have K2 := Lib.hid k2
    clear b1 b2 b3 k2
    go_wp2_with fail
    refine (fmake_nil _).mono ?_
    rintro r w3 ⟨rfl, k3⟩
    have K3 := Lib.hid (K2.out.trans k3)
    have K3b := Lib.hid k3
    clear k3
    go_wp2_with fail
    refine (names_nil _).mono ?_
    rintro r w4 ⟨rfl, k4⟩
    have K4 := Lib.hid (K3.out.trans k4)
    have K4b := Lib.hid (K3b.out.trans k4)
    clear k4
    go_wp2_with fail
    refine (SG.out _).mono ?_
    rintro r w5 ⟨rfl, k5⟩
    have K5 := Lib.hid (K4.out.trans k5)
    have K5b := Lib.hid (K4b.out.trans k5)
    clear k5
    go_wp2_with fail
    refine (SZ.out _).mono ?_
    rintro r w6 ⟨rfl, k6⟩
    have K6 := Lib.hid (K5.out.trans k6)
    have K6b := Lib.hid (K5b.out.trans k6)
    clear k6 K3 K4 K5 K3b K4b K5b
    go_wp2_with fail
    refine (fmake_zero zb w6 (K6b.out.has B1.out (by simp))).mono ?_
    rintro r w7 ⟨t, mb, ST, sb, rb, rfl, s7, k7, n7⟩
    have hb3 := lt_of_block B3.out
    have hb6 := K6b.out.size
    have I7 : Hid (NthI zb t mb sb rb sp ab w6.heap.size w w7) := Lib.hid ⟨none, ST, none, _, s7, k7.has (K6b.out.has B2.out (by simp)) (by simp; have := hsp.out; omega), k7.has (K6b.out.has B3.out (by simp)) (by simp; have := hsp.out; have := hab.out; omega), K6.out.then k7 (fun z hz => .inl (by simp at hz; have := hzb.out; omega)), n7, k7.size, by have := hab.out; omega, by omega, by have := hsp.out; omega, by have := hsp.out; have := hab.out; omega, by have := hzb.out; omega⟩
    have NM := names_any 0 (by omega) zb t mb zb none ST none ⟨0, 0, newT, []⟩ [] w7 s7.F (FamOk.new 0 0)
    unfold Names10 at NM
    simp only [List.length_nil] at NM
    obtain ⟨bs, hbs⟩ := ex_hid w6.heap.size
    rw [← hbs.out] at I7
    clear s7 k7 n7 hb3 hb6
    go_wp2_with fail
    refine NM.mono ?_
    rintro r w8 ⟨lo8, a8, c8, hlo8, rfl, v8, k8⟩
    have I8 := Lib.hid (I7.out.quiet k8)
    clear NM hlo8 v8 k8 I7
    go_wp2_with fail
    go_loopw [8] (fun z8 wr => ∃ i : Nat, i ≤ n0 ∧ z8 = .int .i64 i ∧ Hid (NthI zb t mb sb rb sp ab bs w wr)) (fun z8 _ => n0 - (intOf z8).toNat)
    case atStart => exact ⟨0, Nat.zero_le _, rfl, I8⟩
    case round =>
      clear I8
      obtain ⟨i, hi, rfl, I⟩ := hrel
      by_cases hlt : i < n0
      · have i1 : (i : Int) < (n0 : Int) := by omega
        have i0 : (0 : Int) ≤ (i : Int) := by omega
        obtain ⟨b, off, rfl, hc⟩ := step_cells10 H0.out hlt
        obtain ⟨x0, x1, x2, x3⟩ := hc wr I.out.old
        have ZS := Lib.hid (HZ.out i hlt)
        obtain ⟨kd, hkd⟩ := ex_hid (F (i * 4))
        obtain ⟨ss, hss⟩ := ex_hid (F (i * 4 + 1))
        obtain ⟨s, hs⟩ := ex_hid (N (i * 4 + 2))
        obtain ⟨v, hv⟩ := ex_hid (F (i * 4 + 3))
        rw [← hkd.out] at x0
        rw [← hss.out] at x1
        rw [← hs.out] at x2 ZS
        rw [← hv.out] at x3
        clear hc
        go_upto_region 16 with (fail)
        refine wp_gen (fun V => V.heap[wr.heap.size]? = some (stepO10 kd ss s v) ∧ Keeps [] wr V) ⟨has_new _ _, (Keeps.refl [] wr).alloc _⟩ ?_
        rintro w9 ⟨b9, k9⟩
        have I9 := Lib.hid (And.intro (I.out.quiet k9) b9)
        obtain ⟨X, hX⟩ := ex_hid wr.heap.size
        rw [← hX.out] at I9 ⊢
        clear x0 x1 x2 x3 b9 k9 I
        go_wp2_with fail
        go_loopw [10] (fun z10 wr => (z10 = .int .i64 0 ∨ z10 = .int .i64 1 ∨ z10 = .int .i64 2) ∧ Hid (NthI zb t mb sb rb sp ab bs w wr ∧ wr.heap[X]? = some (stepO10 kd ss s v))) (fun z10 _ => 2 - (intOf z10).toNat)
        case atStart => exact ⟨.inl rfl, I9⟩
        case round =>
          clear I9
          obtain ⟨hz, J⟩ := hrel
          have q2 : wr.cell? ⟨X, 2, none⟩ = some (.string s) := cell_has J.out.2 (i := 2) rfl
          have q3 : wr.cell? ⟨X, 3, none⟩ = some (.int .i64 v) := cell_has J.out.2 (i := 3) rfl
          have K0 := Lib.hid ((Keeps.refl [] wr).drew)
          rcases hz with rfl | rfl | rfl
          · have q0 : wr.cell? ⟨ab, 0, none⟩ = some (.pointer none) := cell_has J.out.1.cells.2 (i := 0) rfl
            have SSG := ssight_nil
            unfold noSight at SSG
            have SSG := Lib.hid SSG
            go_upto_region 19 with (fail)
            go_region_held3 (fun w' => w'.cell? ⟨ab, 0, none⟩ = some (.pointer none) ∧ w'.cell? ⟨X, 2, none⟩ = some (.string s)) (go_keep)
              (first | (go_at_call 26; refine (sget_nil s _).mono ?_; rintro r v1 ⟨rfl, k1⟩; have K1 := Lib.hid (K0.out.trans k1); have p1 := K1.out.cell q0 (by simp); have p1a := K1.out.cell q2 (by simp); have p1b := K1.out.cell q3 (by simp); clear k1))
            go_upto_region 20 with (fail)
            simp only [List.append_eq, List.cons_append, List.nil_append]
            have K1d := Lib.hid K1.out.drew
            go_region_held3 (fun w' => w'.cell? ⟨ab, 0, none⟩ = some (.pointer none) ∧ w'.cell? ⟨X, 2, none⟩ = some (.string s) ∧ w'.cell? ⟨X, 3, none⟩ = some (.int .i64 v)) (go_keep)
              (first
                | (go_at_call 11; refine (sset_nil s v _).mono ?_; rintro r v2 ⟨rfl, k2⟩; have K2 := Lib.hid (K1d.out.trans k2); have p2 := K2.out.cell q0 (by simp); have p2a := K2.out.cell q2 (by simp); have p2b := K2.out.cell q3 (by simp); clear k2)
                | (go_at_call 24; refine (sdel_nil s _).mono ?_; rintro r v3 ⟨rfl, k3⟩; have K3 := Lib.hid (K2.out.trans k3); have p3 := K3.out.cell q0 (by simp); have p3a := K3.out.cell q2 (by simp); have p3b := K3.out.cell q3 (by simp); clear k3)
                | (go_at_call 16; refine (slen_nil _).mono ?_; rintro r v4 ⟨rfl, k4⟩; have K4 := Lib.hid (K3.out.trans k4); have p4 := K4.out.cell q0 (by simp); have p4a := K4.out.cell q2 (by simp); have p4b := K4.out.cell q3 (by simp); clear k4)
                | (go_at_call 17; refine (spairs_nil _).mono ?_; rintro r v5 ⟨rfl, k5⟩; have K5 := Lib.hid (K4.out.trans k5); have p5 := K5.out.cell q0 (by simp); have p5a := K5.out.cell q2 (by simp); have p5b := K5.out.cell q3 (by simp); clear k5)
                | (go_at_call 25; refine (sver_nil _).mono ?_; rintro r v6 ⟨rfl, k6⟩; have K6 := Lib.hid (K5.out.trans k6); have p6 := K6.out.cell q0 (by simp); have p6a := K6.out.cell q2 (by simp); have p6b := K6.out.cell q3 (by simp); clear k6)
                | (go_at_call 12; refine (sshared_nil _).mono ?_; rintro r v7 ⟨rfl, k7⟩; have K7 := Lib.hid (K6.out.trans k7); have p7 := K7.out.cell q0 (by simp); have p7a := K7.out.cell q2 (by simp); have p7b := K7.out.cell q3 (by simp); clear k7)
                | (go_at_call 27; refine (SSG.out _).mono ?_; rintro r v8 ⟨rfl, k8⟩; have K8 := Lib.hid (K7.out.trans k8); have p8 := K8.out.cell q0 (by simp); have p8a := K8.out.cell q2 (by simp); have p8b := K8.out.cell q3 (by simp); clear k8)
                | (go_at_call 20; refine (SZ.out _).mono ?_; rintro r v9 ⟨rfl, k9⟩; have K9 := Lib.hid (K8.out.trans k9); have p9 := K9.out.cell q0 (by simp); have p9a := K9.out.cell q2 (by simp); have p9b := K9.out.cell q3 (by simp); clear k9))
            have I9 := Lib.hid (And.intro (J.out.1.quiet K9.out) (K9.out.has J.out.2 (by simp)))
            clear J K0 K1 K2 K3 K4 K5 K6 K7 K8 q0 q2 q3
            go_wp2_with fail
            go_roundw
            case rel => exact ⟨.inr (.inl (by go_num)), I9⟩
            case measure => simp [intOf]
          · have q0 : wr.cell? ⟨ab, 1, none⟩ = some (.pointer (some ⟨sp, 0, none⟩)) := cell_has J.out.1.cells.2 (i := 1) rfl
            have z0 : wr.cell? ⟨sp, 0, none⟩ = some (.pointer none) := cell_has J.out.1.cells.1 (i := 0) rfl
            have z2 : wr.cell? ⟨sp, 2, none⟩ = some (.int .u64 0) := cell_has J.out.1.cells.1 (i := 2) rfl
            have SSG := ssight_zero sp
            unfold noSight at SSG
            have SSG := Lib.hid SSG
            go_upto_region 19 with (fail)
            go_region_held3 (fun w' => w'.cell? ⟨ab, 1, none⟩ = some (.pointer (some ⟨sp, 0, none⟩)) ∧ w'.cell? ⟨X, 2, none⟩ = some (.string s)) (go_keep)
              (first | (go_at_call 26; refine (sget_zero sp s _ (K0.out.cell z0 (by simp))).mono ?_; rintro r v1 ⟨rfl, k1⟩; have K1 := Lib.hid (K0.out.trans k1); have p1 := K1.out.cell q0 (by simp); have p1a := K1.out.cell q2 (by simp); have p1b := K1.out.cell q3 (by simp); clear k1))
            go_upto_region 20 with (fail)
            simp only [List.append_eq, List.cons_append, List.nil_append]
            have K1d := Lib.hid K1.out.drew
            go_region_held3 (fun w' => w'.cell? ⟨ab, 1, none⟩ = some (.pointer (some ⟨sp, 0, none⟩)) ∧ w'.cell? ⟨X, 2, none⟩ = some (.string s) ∧ w'.cell? ⟨X, 3, none⟩ = some (.int .i64 v)) (go_keep)
              (first
                | (go_at_call 11; refine (sset_zero sp s v _ (K1d.out.cell z0 (by simp))).mono ?_; rintro r v2 ⟨rfl, k2⟩; have K2 := Lib.hid (K1d.out.trans k2); have p2 := K2.out.cell q0 (by simp); have p2a := K2.out.cell q2 (by simp); have p2b := K2.out.cell q3 (by simp); clear k2)
                | (go_at_call 24; refine (sdel_zero sp s _ (K2.out.cell z0 (by simp))).mono ?_; rintro r v3 ⟨rfl, k3⟩; have K3 := Lib.hid (K2.out.trans k3); have p3 := K3.out.cell q0 (by simp); have p3a := K3.out.cell q2 (by simp); have p3b := K3.out.cell q3 (by simp); clear k3)
                | (go_at_call 16; refine (slen_zero sp _ (K3.out.cell z0 (by simp))).mono ?_; rintro r v4 ⟨rfl, k4⟩; have K4 := Lib.hid (K3.out.trans k4); have p4 := K4.out.cell q0 (by simp); have p4a := K4.out.cell q2 (by simp); have p4b := K4.out.cell q3 (by simp); clear k4)
                | (go_at_call 17; refine (spairs_zero sp _ (K4.out.cell z0 (by simp))).mono ?_; rintro r v5 ⟨rfl, k5⟩; have K5 := Lib.hid (K4.out.trans k5); have p5 := K5.out.cell q0 (by simp); have p5a := K5.out.cell q2 (by simp); have p5b := K5.out.cell q3 (by simp); clear k5)
                | (go_at_call 25; refine (sver_zero sp _ (K5.out.cell z2 (by simp))).mono ?_; rintro r v6 ⟨rfl, k6⟩; have K6 := Lib.hid (K5.out.trans k6); have p6 := K6.out.cell q0 (by simp); have p6a := K6.out.cell q2 (by simp); have p6b := K6.out.cell q3 (by simp); clear k6)
                | (go_at_call 12; refine (sshared_zero sp _ (K6.out.cell z0 (by simp))).mono ?_; rintro r v7 ⟨rfl, k7⟩; have K7 := Lib.hid (K6.out.trans k7); have p7 := K7.out.cell q0 (by simp); have p7a := K7.out.cell q2 (by simp); have p7b := K7.out.cell q3 (by simp); clear k7)
                | (go_at_call 27; refine (SSG.out _ (K7.out.cell z0 (by simp))).mono ?_; rintro r v8 ⟨rfl, k8⟩; have K8 := Lib.hid (K7.out.trans k8); have p8 := K8.out.cell q0 (by simp); have p8a := K8.out.cell q2 (by simp); have p8b := K8.out.cell q3 (by simp); clear k8)
                | (go_at_call 20; refine (SZ.out _).mono ?_; rintro r v9 ⟨rfl, k9⟩; have K9 := Lib.hid (K8.out.trans k9); have p9 := K9.out.cell q0 (by simp); have p9a := K9.out.cell q2 (by simp); have p9b := K9.out.cell q3 (by simp); clear k9))
            have I9 := Lib.hid (And.intro (J.out.1.quiet K9.out) (K9.out.has J.out.2 (by simp)))
            clear J K0 K1 K2 K3 K4 K5 K6 K7 K8 q0 q2 q3 z0 z2
            go_wp2_with fail
            go_roundw
            case rel => exact ⟨.inr (.inr (by go_num)), I9⟩
            case measure => simp [intOf]
          · go_wp2_with fail
            refine (nth_set J.out.1 s v (by have := ZS.out; omega)).mono ?_
            rintro r v1 ⟨rfl, n1⟩
            have N1 := Lib.hid n1
            clear n1 q2 q3 J
            go_wp2_with fail
            refine (nth_len N1.out).mono ?_
            rintro r v2 ⟨rfl, rfl⟩
            go_wp2_with fail
            go_roundw
            case rel => exact ⟨i + 1, by omega, by go_num, N1⟩
            case measure => simp [intOf]; omega
      · obtain rfl : i = n0 := by omega
        have hge : ¬ (i : Int) < (i : Int) := by omega
        go_wp2_with fail
        refine (awake10 _).mono ?_
        rintro r w1 ⟨rfl, k1⟩
        have K1 := Lib.hid k1
        clear k1
        go_wp2_with fail
        go_ret
        exact ⟨rfl, (I.out.old.trans K1.out).below (Nat.le_refl _) (by simp)⟩
end Go.Proofs.Ytajmfenfajbakaa
