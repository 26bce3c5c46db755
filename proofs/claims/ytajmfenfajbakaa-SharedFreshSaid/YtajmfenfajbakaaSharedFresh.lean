/- A new namespace that is given names in the common order (chapter 10, SharedFresh): the walk. -/
import Derived.Test.YtajmfenfajbakaaShFh
namespace Go.Proofs.Ytajmfenfajbakaa
open Go.RowKit
set_option linter.unusedVariables false
set_option linter.unusedSimpArgs false

theorem gone10 {w w' : World} (h : Keeps [] w w') : Below w.heap.size w w' := h.below (Nat.le_refl _) (by simp)
theorem wrap_in10 {n : Int} (h0 : 0 ≤ n) (h1 : n ≤ 1000000) : wrap64 n = n := IntWalk.wrap64_in n (by omega)
theorem rem10 (an k nL : Nat) (h : k < nL) (hn : nL ≤ 60) : an % (k + 1) < k + 1 ∧ an % (k + 1) < nL ∧ (0 : Int) ≤ (an : Int) % ((k : Int) + 1) ∧ (an : Int) % ((k : Int) + 1) < (nL : Int) := by
  have h1 : an % (k + 1) < k + 1 := Nat.mod_lt _ (Nat.succ_pos k)
  have h2 : (an : Int) % ((k : Int) + 1) = ((an % (k + 1) : Nat) : Int) := by rw [Int.natCast_emod]; rfl
  rw [h2]
  generalize an % (k + 1) = d at h1
  exact ⟨h1, by omega, by omega, by omega⟩
theorem cnt10 {cv k q mo nL : Nat} (h : cv ≤ 60 * q) (hq : ¬ 20 < q) (hk : k < mo) (hmo : mo ≤ nL) (hn : nL ≤ 60) : wrap64 (((cv + k : Nat) : Int) + 1) = ((cv + (k + 1) : Nat) : Int) := by
  rw [wrap_in10 (by omega) (by omega)]; omega
theorem cnt10b {cv k q mo nL : Nat} (h : cv ≤ 60 * q) (hq : ¬ 20 < q) (hk : k ≤ mo) (hmo : mo ≤ nL) (hn : nL ≤ 60) : wrap64 ((cv : Int) + (k : Int)) = ((cv + k : Nat) : Int) := by
  rw [wrap_in10 (by omega) (by omega)]; omega
theorem cnt10z {cv q : Nat} (h : cv ≤ 60 * q) (hq : ¬ 20 < q) : wrap64 (cv : Int) = (cv : Int) := by
  rw [wrap_in10 (by omega) (by omega)]
theorem nz10 (k : Nat) : (((k + 1 : Nat) : Int) == 0) = false := by
  have : ¬ ((k + 1 : Nat) : Int) = 0 := by omega
  simpa using this
theorem row_cell10 {w : World} {a : Option Addr} {len : Nat} {C : Nat → Int} (h : IntRow .i64 1 w a len C) {i : Nat} (hi : i < len) : ∃ b off, a = some ⟨b, off, none⟩ ∧ ∀ W, Keeps [] w W → W.cell? ⟨b, off + i, none⟩ = some (.int .i64 (C i)) := by
  rcases h with h | ⟨b, off, h1, h2, _, h4⟩
  · omega
  · exact ⟨b, off, h1, fun W k => k.cell (h4 i (by omega)).1 (by simp)⟩
theorem str_cell10 {w : World} {a : Option Addr} {len : Nat} {N : Nat → ByteArray} (h : StrRow w a len N) {i : Nat} (hi : i < len) : ∃ b off, a = some ⟨b, off, none⟩ ∧ ∀ W, Keeps [] w W → W.cell? ⟨b, off + i, none⟩ = some (.string (N i)) := by
  rcases h with h | ⟨b, off, h1, h2, _, h4⟩
  · omega
  · exact ⟨b, off, h1, fun W k => k.cell (h4 i hi) (by simp)⟩
theorem valrow_shape10 {ty : TypeId} {lo : Nat} {a : Option Addr} {m c : Nat} {V : Nat → Value} {W : World} (h : ValRow ty lo a m c V W) : (a = none ∧ m = 0 ∧ c = 0) ∨ ∃ g, a = some ⟨g, 0, none⟩ := by
  rcases h.2 with ⟨h1, h2⟩ | ⟨g, cap, cur, h1, _⟩
  · simp at h1; exact .inl ⟨h1.1, h1.2.1, h1.2.2⟩
  · simp at h1; exact .inr ⟨g, h1.1⟩
theorem FrF.old {x : FrL} {L : List ByteArray} {mo : Nat} {c : C4} {w w3 W : World} (h : FrF x L mo c w3 W) (k : Keeps [] w w3) (hb : w.heap.size ≤ x.B) : Keeps [] w W ∧ Keeps [x.B] w3 W := by
  obtain ⟨a, ST, f, h1, h2, h3, h4, h5, h6, h7, h9, h10, h11⟩ := h
  exact ⟨k.then h9 (fun z hz => by simp at hz; subst hz; exact .inl hb), h9⟩
theorem FrS.le {x : FrL} {L : List ByteArray} {mo : Nat} {c : C4} {sb rb k ver : Nat} {w3 W : World} (h : FrS x L mo c sb rb k ver w3 W) : k ≤ mo ∧ mo ≤ L.length := by
  obtain ⟨a, ST, f, ar, vs, h1, h2, h3, h4, h5, h6, h7, h8, h9, h10, h11⟩ := h
  exact ⟨h8, h6⟩
set_option maxRecDepth 100000 in
set_option maxHeartbeats 8000000 in
theorem sharedFresh_walk (a0 : Option Addr) (n0 c0 : Nat) (N : Nat → ByteArray) (a1 : Option Addr) (n1 c1 : Nat) (C : Nat → Int) (a2 : Option Addr) (n2 c2 : Nat) (A : Nat → Int) (nn : Int) (w : World) (h0 : StrRow w a0 n0 N) (h1 : IntRow .i64 1 w a1 n1 C) (h2 : IntRow .i64 1 w a2 n2 A) :
    Calls Try.prog 3 #[.slice a0 n0 c0, .slice a1 n1 c1, .slice a2 n2 c2, .int .i64 nn] w fun e w' => e = .returned (.bool true) ∧ Below w.heap.size w w' := by
  have H0 := Lib.hid h0
  have H1 := Lib.hid h1
  have H2 := Lib.hid h2
  clear h0 h1 h2
  by_cases e0 : 60 < n0
  · have b0 : decide ((60 : Int) < (n0 : Int)) = true := by simp; omega
    go_enter Try.func3, Try.ntmps3
    go_wp2_with fail
    refine (awake10 w).mono ?_
    rintro r w1 ⟨rfl, k1⟩
    have K1 := Lib.hid k1
    clear k1
    go_wp2_with fail
    go_ret
    exact ⟨rfl, gone10 K1.out⟩
  have b0 : decide ((60 : Int) < (n0 : Int)) = false := by simp; omega
  by_cases e1 : 20 < n1
  · have b1 : decide ((20 : Int) < (n1 : Int)) = true := by simp; omega
    go_enter Try.func3, Try.ntmps3
    go_wp2_with fail
    refine (awake10 w).mono ?_
    rintro r w1 ⟨rfl, k1⟩
    have K1 := Lib.hid k1
    clear k1
    go_wp2_with fail
    go_ret
    exact ⟨rfl, gone10 K1.out⟩
  have b1 : decide ((20 : Int) < (n1 : Int)) = false := by simp; omega
  by_cases e2 : 60 < n2
  · have b2 : decide ((60 : Int) < (n2 : Int)) = true := by simp; omega
    go_enter Try.func3, Try.ntmps3
    go_wp2_with fail
    refine (awake10 w).mono ?_
    rintro r w1 ⟨rfl, k1⟩
    have K1 := Lib.hid k1
    clear k1
    go_wp2_with fail
    go_ret
    exact ⟨rfl, gone10 K1.out⟩
  have b2 : decide ((60 : Int) < (n2 : Int)) = false := by simp; omega
  go_enter Try.func3, Try.ntmps3
  go_wp2_with fail
  go_loopw [9] (fun z9 wr => ∃ i : Nat, i ≤ n0 ∧ z9 = .int .i64 i ∧ w = wr ∧ Hid (∀ j, j < i → (N j).size ≤ 200)) (fun z9 _ => n0 - (intOf z9).toNat)
  case atStart => exact ⟨0, Nat.zero_le _, rfl, rfl, Lib.hid (fun j hj => absurd hj (by omega))⟩
  case round =>
    obtain ⟨i, hi, rfl, rfl, HZ⟩ := hrel
    by_cases hlt : i < n0
    · have i1 : (i : Int) < (n0 : Int) := by omega
      have i0 : (0 : Int) ≤ (i : Int) := by omega
      obtain ⟨b, off, rfl, hc⟩ := str_cell10 H0.out hlt
      have x1 := hc w (Keeps.refl _ _)
      clear hc
      obtain ⟨s, hs⟩ := ex_hid (N i)
      rw [← hs.out] at x1
      by_cases hz : 200 < s.size
      · have bz : decide ((200 : Int) < (s.size : Int)) = true := by simp; omega
        go_wp2_with fail
        refine (awake10 w).mono ?_
        rintro r w1 ⟨rfl, k1⟩
        have K1 := Lib.hid k1
        clear k1
        go_wp2_with fail
        go_ret
        exact ⟨rfl, gone10 K1.out⟩
      · have bz : decide ((200 : Int) < (s.size : Int)) = false := by simp; omega
        go_wp2_with fail
        go_roundw
        case rel =>
          refine ⟨i + 1, by omega, by go_num, trivial, Lib.hid (fun j hj => ?_)⟩
          rcases Nat.lt_or_ge j i with h | h
          · exact HZ.out j h
          · obtain rfl : j = i := by omega
            rw [← hs.out]; omega
        case measure => simp [intOf]; omega
    obtain rfl : i = n0 := by omega
    go_wp2_with fail
    refine (unlike_any a0 i c0 N w H0.out (by omega)).mono ?_
    rintro r wU ⟨aL, cL, rfl, vL, kL⟩
    obtain ⟨L, hL⟩ := ex_hid (uniqN N i)
    rw [← hL.out] at vL ⊢
    have LL := Lib.hid (show L.length ≤ 60 from by rw [hL.out]; have := uniqN_len N i; omega)
    have LN := Lib.hid (show L.Nodup from by rw [hL.out]; exact uniqN_nodup N i)
    have LZ := Lib.hid (show ∀ (j : Nat) (s : ByteArray), L[j]? = some s → s.size ≤ 200 from fun j s hj => by
      rw [hL.out] at hj
      obtain ⟨q, h1, h2⟩ := uniqN_mem (List.mem_of_getElem? hj)
      rw [h2]; exact HZ.out q h1)
    have VL := Lib.hid vL
    have KL := Lib.hid kL
    clear vL kL HZ hL
    obtain ⟨nL, hnL⟩ := ex_hid L.length
    rw [← hnL.out]
    have nLb : nL ≤ 60 := by have := LL.out; have := hnL.out; omega
    go_wp2_with fail
    refine (fnew_any nL 1000 (some wU.heap.size) ⟨0, 0, 0, 0⟩ (wU.alloc (mtr ⟨0, 0, 0, 0⟩)) (fun b hb => by cases hb; exact has_new _ _) (by omega) (by omega) (by omega) (by omega)).mono ?_
    rintro r w3 ⟨fb, t, mb, ST, rfl, f3, m3, k3⟩
    obtain ⟨wm, hwm⟩ := ex_hid (wU.alloc (mtr ⟨0, 0, 0, 0⟩))
    obtain ⟨x, hx⟩ : ∃ x : FrL, Hid (x = ⟨fb, t, mb, wm.heap.size, wU.heap.size⟩) := ⟨_, Lib.hid rfl⟩
    have hxf : fb = x.fb := by rw [hx.out]
    have hxB : wU.heap.size = x.B := by rw [hx.out]
    have F3 : Hid (FrF x L 0 (⟨0, 0, 0, 0⟩ : C4).tab wm w3) := Lib.hid (by
      rw [hx.out]
      rw [← hwm.out] at f3 k3
      exact ⟨none, ST, _, f3, by simpa using FamOk.new nL 1000, by show (nL : Int) = _; rw [hnL.out], rfl, Nat.le_refl _, Nat.zero_le _, m3, by simpa [mS] using k3, rfl, by show wU.heap.size < wm.heap.size; rw [hwm.out]; simp⟩)
    have KM := Lib.hid (show Keeps [] w wm from by rw [hwm.out]; exact KL.out.alloc _)
    have VM := Lib.hid (show ValRow 9 w.heap.size aL L.length cL (strV L) wm from by rw [hwm.out]; exact VL.out.keeps ((Keeps.refl [] wU).alloc _) (by simp))
    have VB := Lib.hid (show x.B ∉ blk aL from fun h => by have := (VL.out.blk_lt _ h).2; omega)
    have XB := Lib.hid (show w.heap.size ≤ x.B from by rw [← hxB]; exact KL.out.size)
    rw [hxf, hxB]
    clear f3 m3 k3 hxf hxB VL KL hx hwm
    have LC := Lib.hid (show ∀ j, j < nL → ∃ g, aL = some ⟨g, 0, none⟩ ∧ ∀ W, Keeps [x.B] wm W → W.cell? ⟨g, j, none⟩ = some (.string (L.getD j .empty)) from fun j hj => by
      obtain ⟨g, hg⟩ := VM.out.shape (by rw [← hnL.out]; omega)
      refine ⟨g, hg, fun W k => ?_⟩
      have h9 := VM.out.keeps k (fun z hz hy => by simp at hy; subst hy; exact VB.out hz)
      rw [hg] at h9
      exact h9.cell (by rw [← hnL.out]; exact hj))
    go_wp2_with fail
    go_loopw [14, 15] (fun z14 z15 wr => ∃ (q mo cv : Nat) (c : C4), q ≤ n1 ∧ z15 = .int .i64 q ∧ z14 = .int .i64 mo ∧ mo ≤ nL ∧ Hid (FrF x L mo c wm wr ∧ c.c = (cv : Int) ∧ cv ≤ 60 * q ∧ c.d = 0)) (fun _ z15 _ => n1 - (intOf z15).toNat)
    case atStart => exact ⟨0, 0, 0, _, Nat.zero_le _, rfl, rfl, Nat.zero_le _, Lib.hid ⟨F3.out, rfl, Nat.zero_le _, rfl⟩⟩
    case round =>
      obtain ⟨q, mo, cv, c, hq, rfl, rfl, hmo, I⟩ := hrel
      by_cases hqn : q < n1
      · have q1 : (q : Int) < (n1 : Int) := by omega
        have q0 : (0 : Int) ≤ (q : Int) := by omega
        obtain ⟨bc, oc, rfl, hc⟩ := row_cell10 H1.out hqn
        have HC := Lib.hid hc
        clear hc
        go_wp2_with fail
        refine (fr_make x L mo c wm wr I.out.1).mono ?_
        rintro r w4 ⟨sb, rb, rfl, s4⟩
        have S4 := Lib.hid s4
        have I4 := Lib.hid I.out.2
        clear s4 I
        obtain ⟨cq, hcq⟩ := ex_hid (C q)
        rw [← hcq.out] at HC
        go_wp2_with fail
        go_loopw [14, 17] (fun z14 z17 wr => ∃ (k mo cv ver : Nat) (c : C4), k ≤ nL ∧ z17 = .int .i64 k ∧ z14 = .int .i64 mo ∧ mo ≤ nL ∧ Hid (FrS x L mo c sb rb k ver wm wr ∧ c.c = (cv : Int) ∧ cv ≤ 60 * q + k ∧ c.d = 0 ∧ ver ≤ 2 * k)) (fun _ z17 _ => nL - (intOf z17).toNat)
        case atStart => exact ⟨0, mo, cv, 0, c, Nat.zero_le _, rfl, rfl, hmo, Lib.hid ⟨S4.out, I4.out.1, by have := I4.out.2.1; omega, I4.out.2.2, Nat.zero_le _⟩⟩
        case round =>
          clear S4 I4 hmo
          obtain ⟨k, mo, cv, ver, c, hk, rfl, rfl, hmo, J⟩ := hrel
          have OLD := Lib.hid (J.out.1.fam.old KM.out XB.out)
          have x1 := HC.out wr OLD.out.1
          have LE := Lib.hid J.out.1.le
          by_cases hk1 : (k : Int) < cq
          · have bk1 : decide ((k : Int) < cq) = true := by simpa using hk1
            by_cases hk2 : k < nL
            · have k1 : (k : Int) < (nL : Int) := by omega
              have k0 : (0 : Int) ≤ (k : Int) := by omega
              obtain ⟨gL, rfl, hLc⟩ := LC.out k hk2
              have x2 := hLc wr OLD.out.2
              have HLC := Lib.hid hLc
              clear hLc
              obtain ⟨s, hs⟩ := ex_hid (L.getD k .empty)
              rw [← hs.out] at x2
              have HS := Lib.hid (show L[k]? = some s from by rw [hs.out]; exact getD_at10 (by rw [← hnL.out]; exact hk2))
              have SZ := LZ.out k s HS.out
              go_wp2_with fail
              have J2 := J.out.2
              refine (fr_next x L mo c sb rb k ver q s wm wr J.out.1 LN.out LL.out HS.out SZ (by omega)).mono ?_
              rintro r w5 ⟨rfl, c5, ch5, _, s5⟩
              have C5 : Hid (c5.c = ((cv + 1 : Nat) : Int) ∧ c5.d = 0) := Lib.hid ⟨by rw [ch5.1, J2.1, wrap_in10 (by omega) (by omega)]; omega, by rw [ch5.2]; exact J2.2.2.1⟩
              have hw : wrap64 ((k : Int) + 1) = ((k + 1 : Nat) : Int) := by rw [wrap_in10 (by omega) (by omega)]; omega
              obtain ⟨ln1, ln2⟩ := LE.out
              rw [← hnL.out] at ln2
              have cvb := J2.2.1
              have verb := J2.2.2.2
              clear ch5 J2 J x1 x2
              by_cases hkm : k < mo
              · rw [if_pos hkm] at s5
                have S5 := Lib.hid s5
                have bk5 : decide ((mo : Int) < ((k + 1 : Nat) : Int)) = false := by simp; omega
                clear s5
                by_cases hk3 : k < n2
                · have k3 : (k : Int) < (n2 : Int) := by omega
                  have bk3 : decide ((k : Int) < (n2 : Int)) = true := by simpa using k3
                  obtain ⟨ba, oa, rfl, ha⟩ := row_cell10 H2.out hk3
                  have OLD5 := Lib.hid (S5.out.fam.old KM.out XB.out)
                  have x3 := ha w5 OLD5.out.1
                  clear ha
                  obtain ⟨ak, hak⟩ := ex_hid (A k)
                  rw [← hak.out] at x3
                  by_cases hk4 : (0 : Int) ≤ ak
                  · have bk4 : decide ((0 : Int) ≤ ak) = true := by simpa using hk4
                    obtain ⟨an, rfl⟩ : ∃ an : Nat, ak = (an : Int) := ⟨ak.toNat, by omega⟩
                    have RM := Lib.hid (rem10 an k nL hk2 nLb)
                    have x4 : w5.cell? ⟨gL, an % (k + 1), none⟩ = some (.string (L.getD (an % (k + 1)) .empty)) := (VM.out.keeps OLD5.out.2 (fun z hz hy => by simp at hy; subst hy; exact VB.out hz)).cell (by rw [← hnL.out]; exact RM.out.2.1)
                    obtain ⟨s2, hs2⟩ := ex_hid (L.getD (an % (k + 1)) .empty)
                    rw [← hs2.out] at x4
                    have HS2 := Lib.hid (show L[an % (k + 1)]? = some s2 from by rw [hs2.out]; exact getD_at10 (by rw [← hnL.out]; exact RM.out.2.1))
                    have SZ2 := LZ.out _ s2 HS2.out
                    have ver6 : ver + 1 ≤ 1000 := by omega
                    have kz := nz10 k
                    obtain ⟨_, _, gA, gB⟩ := RM.out
                    go_wp2_with fail
                    clear gA gB
                    refine (fr_anew x L mo c5 sb rb (k + 1) (ver + 1) 7 (an % (k + 1)) s2 wm w5 S5.out LL.out RM.out.1 HS2.out SZ2 ver6).mono ?_
                    rintro r w6 ⟨rfl, c6, al6, s6⟩
                    clear x4
                    have S6 := Lib.hid s6
                    have AL := Lib.hid al6
                    clear s6 al6
                    go_wp2_with fail
                    go_roundw
                    case rel => exact ⟨k + 1, mo, cv + 1, ver + 2, c6, by omega, by go_num, by go_num, by omega, Lib.hid ⟨S6.out, by rw [AL.out.2.1]; exact C5.out.1, by omega, by rw [AL.out.2.2]; exact C5.out.2, by omega⟩⟩
                    case measure => simp [intOf]; omega
                  · have bk4 : decide ((0 : Int) ≤ ak) = false := by simpa using hk4
                    go_wp2_with fail
                    go_roundw
                    case rel => exact ⟨k + 1, mo, cv + 1, ver + 1, c5, by omega, by go_num, by go_num, by omega, Lib.hid ⟨S5.out, C5.out.1, by omega, C5.out.2, by omega⟩⟩
                    case measure => simp [intOf]; omega
                · have bk3 : decide ((k : Int) < (n2 : Int)) = false := by simp; omega
                  go_wp2_with fail
                  go_roundw
                  case rel => exact ⟨k + 1, mo, cv + 1, ver + 1, c5, by omega, by go_num, by go_num, by omega, Lib.hid ⟨S5.out, C5.out.1, by omega, C5.out.2, by omega⟩⟩
                  case measure => simp [intOf]; omega
              · rw [if_neg hkm] at s5
                have S5 := Lib.hid s5
                have bk5 : decide ((mo : Int) < ((k + 1 : Nat) : Int)) = true := by simp; omega
                clear s5
                by_cases hk3 : k < n2
                · have k3 : (k : Int) < (n2 : Int) := by omega
                  have bk3 : decide ((k : Int) < (n2 : Int)) = true := by simpa using k3
                  obtain ⟨ba, oa, rfl, ha⟩ := row_cell10 H2.out hk3
                  have OLD5 := Lib.hid (S5.out.fam.old KM.out XB.out)
                  have x3 := ha w5 OLD5.out.1
                  clear ha
                  obtain ⟨ak, hak⟩ := ex_hid (A k)
                  rw [← hak.out] at x3
                  by_cases hk4 : (0 : Int) ≤ ak
                  · have bk4 : decide ((0 : Int) ≤ ak) = true := by simpa using hk4
                    obtain ⟨an, rfl⟩ : ∃ an : Nat, ak = (an : Int) := ⟨ak.toNat, by omega⟩
                    have RM := Lib.hid (rem10 an k nL hk2 nLb)
                    have x4 : w5.cell? ⟨gL, an % (k + 1), none⟩ = some (.string (L.getD (an % (k + 1)) .empty)) := (VM.out.keeps OLD5.out.2 (fun z hz hy => by simp at hy; subst hy; exact VB.out hz)).cell (by rw [← hnL.out]; exact RM.out.2.1)
                    obtain ⟨s2, hs2⟩ := ex_hid (L.getD (an % (k + 1)) .empty)
                    rw [← hs2.out] at x4
                    have HS2 := Lib.hid (show L[an % (k + 1)]? = some s2 from by rw [hs2.out]; exact getD_at10 (by rw [← hnL.out]; exact RM.out.2.1))
                    have SZ2 := LZ.out _ s2 HS2.out
                    have ver6 : ver + 1 ≤ 1000 := by omega
                    have kz := nz10 k
                    obtain ⟨_, _, gA, gB⟩ := RM.out
                    go_wp2_with fail
                    clear gA gB
                    refine (fr_anew x L (k + 1) c5 sb rb (k + 1) (ver + 1) 7 (an % (k + 1)) s2 wm w5 S5.out LL.out RM.out.1 HS2.out SZ2 ver6).mono ?_
                    rintro r w6 ⟨rfl, c6, al6, s6⟩
                    clear x4
                    have S6 := Lib.hid s6
                    have AL := Lib.hid al6
                    clear s6 al6
                    go_wp2_with fail
                    go_roundw
                    case rel => exact ⟨k + 1, (k + 1), cv + 1, ver + 2, c6, by omega, by go_num, by go_num, by omega, Lib.hid ⟨S6.out, by rw [AL.out.2.1]; exact C5.out.1, by omega, by rw [AL.out.2.2]; exact C5.out.2, by omega⟩⟩
                    case measure => simp [intOf]; omega
                  · have bk4 : decide ((0 : Int) ≤ ak) = false := by simpa using hk4
                    go_wp2_with fail
                    go_roundw
                    case rel => exact ⟨k + 1, (k + 1), cv + 1, ver + 1, c5, by omega, by go_num, by go_num, by omega, Lib.hid ⟨S5.out, C5.out.1, by omega, C5.out.2, by omega⟩⟩
                    case measure => simp [intOf]; omega
                · have bk3 : decide ((k : Int) < (n2 : Int)) = false := by simp; omega
                  go_wp2_with fail
                  go_roundw
                  case rel => exact ⟨k + 1, (k + 1), cv + 1, ver + 1, c5, by omega, by go_num, by go_num, by omega, Lib.hid ⟨S5.out, C5.out.1, by omega, C5.out.2, by omega⟩⟩
                  case measure => simp [intOf]; omega
            · have bk2 : decide ((k : Int) < (nL : Int)) = false := by simp; omega
              go_wp2_with fail
              refine (fr_shared x L mo c sb rb k ver wm wr J.out.1).mono ?_
              rintro r w5 ⟨rfl, rfl⟩
              go_wp2_with fail
              go_roundw
              case rel => exact ⟨q + 1, mo, cv, c, by omega, by go_num, rfl, hmo, Lib.hid ⟨J.out.1.fam, J.out.2.1, by have := J.out.2.2.1; omega, J.out.2.2.2.1⟩⟩
              case measure => simp [intOf]; omega
          · have bk1 : decide ((k : Int) < cq) = false := by simp; omega
            go_wp2_with fail
            refine (fr_shared x L mo c sb rb k ver wm wr J.out.1).mono ?_
            rintro r w5 ⟨rfl, rfl⟩
            go_wp2_with fail
            go_roundw
            case rel => exact ⟨q + 1, mo, cv, c, by omega, by go_num, rfl, hmo, Lib.hid ⟨J.out.1.fam, J.out.2.1, by have := J.out.2.2.1; omega, J.out.2.2.2.1⟩⟩
            case measure => simp [intOf]; omega
      · obtain rfl : q = n1 := by omega
        have MB := Lib.hid (fr_met I.out.1)
        obtain ⟨rb0, cb0, hd0, cc0⟩ : ∃ (ca cb : Int), c.d = 0 ∧ c.c = (cv : Int) := ⟨0, 0, I.out.2.2.2, I.out.2.1⟩
        go_wp2_with fail
        refine (read_any x.B c wr MB.out).mono ?_
        rintro r w4 ⟨rfl, b4⟩
        have K4 := Lib.hid (Below.keeps b4 [])
        clear b4
        rw [hd0]
        have F4 := Lib.hid (I.out.1.quiet K4.out)
        have I4 := Lib.hid I.out.2
        clear I MB
        go_upto_region 32 with (fail)
        refine wp_gen (fun V => V.heap[w4.heap.size]? = some (.cells #[.int .i64 c.a, .int .i64 c.b, .int .i64 (cv : Int), .int .i64 0] 43 (0, 0)) ∧ Keeps [] w4 V) ⟨has_new _ _, (Keeps.refl [] w4).alloc _⟩ ?_
        rintro w5 ⟨b5, k5⟩
        have B5 := Lib.hid b5
        have F5 := Lib.hid (F4.out.quiet k5)
        have K45 := Lib.hid k5
        have y3 : w5.cell? ⟨w4.heap.size, 3, none⟩ = some (.int .i64 0) := cell_has b5 (i := 3) rfl
        clear b5 k5
        have mo0 : (0 : Int) ≤ (mo : Int) := by omega
        have TK := Lib.hid (show (L.take mo).length = mo from by rw [List.length_take, ← hnL.out]; omega)
        have NM := Lib.hid (fun (W : World) (h : FrF x L mo c wm W) => (show Calls Try.prog 15 #[.pointer (some ⟨x.fb, 0, none⟩)] W (fun r w' => ∃ lo a c, W.heap.size ≤ lo ∧ r = .returned (.slice a mo c) ∧ ValRow 9 lo a mo c (strV (L.take mo)) w' ∧ Keeps [] W w') from by
          have h9 := fr_names x L mo c wm W h LL.out
          unfold Names10 at h9
          rw [TK.out] at h9
          exact h9))
        have VT := Lib.hid (fun (g : Nat) (hg : aL = some ⟨g, 0, none⟩) (W : World) (kW : Keeps [x.B] wm W) => (show ValRow 9 w.heap.size (some ⟨g, 0, none⟩) (L.take mo).length cL (strV (L.take mo)) W from by
          have h9 := VM.out.keeps kW (fun z hz hy => by simp at hy; subst hy; exact VB.out hz)
          rw [hg] at h9
          refine (h9.cut (by rw [TK.out, ← hnL.out]; exact hmo)).congr (fun j hj => ?_)
          rw [TK.out] at hj
          unfold strV; simp only [List.getD]; rw [List.getElem?_take_of_lt hj]))
        have CAP := Lib.hid VM.out.cap_le
        have mo1 : (mo : Int) ≤ (cL : Int) := by have := CAP.out.1; have := hnL.out; omega
        rcases valrow_shape10 VM.out with ⟨rfl, hz, hc0⟩ | ⟨gL, rfl⟩
        · obtain rfl : nL = 0 := by have := hnL.out; omega
          obtain rfl : mo = 0 := by omega
          subst hc0
          have VT0 := Lib.hid (fun (W : World) => (show ValRow 9 w.heap.size none (L.take 0).length 0 (strV (L.take 0)) W from ValRow.nil _ _ _ _))
          clear VT
          rw [show ((0 : Nat) : Int) = 0 from rfl]
          go_region_held3 (fun w' => w'.cell? ⟨w4.heap.size, 3, none⟩ = some (.int .i64 0)) (go_keep)
            (first
              | (go_at_call 15; refine (NM.out _ (F5.out.quiet (Keeps.refl [] w5).drew)).mono ?_; rintro r w6 ⟨lo6, a6, c6, hlo6, rfl, v6, k6⟩; have V6 := Lib.hid v6; have K6 := Lib.hid ((Keeps.refl [] w5).drew.trans k6); have y6 := k6.cell (w := w5.drew) y3 (by simp); clear v6 k6 hlo6)
              | (go_at_call 14; have hNC := names_cmp lo6 w.heap.size a6 _ c6 0 (L.take 0) (L.take 0) _ (by rw [TK.out]; exact V6.out) (VT0.out _) (by rw [TK.out]; omega); rw [TK.out] at hNC; refine hNC.mono ?_; rintro r w7 ⟨rfl, k7⟩; have K7 := Lib.hid (K6.out.trans k7); have y7 := k7.cell y6 (by simp); clear k7 hNC))
          have F7 := Lib.hid (F5.out.quiet K7.out)
          have b7 := K7.out.has B5.out (by simp)
          have B7 := Lib.hid b7
          clear b7 y3 y6 y7 NM CAP VT0
          go_wp2_with fail
          refine (frh_make x L 0 c wm w4 w7 w4.heap.size _ F4.out (K45.out.trans K7.out) (Nat.le_refl _) B7.out).mono ?_
          rintro r w8 ⟨sb, rb, rfl, s8⟩
          have S8 := Lib.hid s8
          have I5 := Lib.hid I4.out.2.1
          have CD := Lib.hid (And.intro cc0 hd0)
          obtain ⟨h8, hh8⟩ := ex_hid w4.heap.size
          rw [← hh8.out] at S8 ⊢
          clear s8 I4 K6 F7 B7 cc0 hd0
          go_wp2_with fail
          go_loopw [20, 21] (fun z20 z21 wr => z20 = .int .i64 0 ∧ z21 = .int .i64 0 ∧ Hid (FrH x L 0 c sb rb 0 0 wm h8 (.cells #[.int .i64 c.a, .int .i64 c.b, .int .i64 (cv : Int), .int .i64 0] 43 (0, 0)) wr)) (fun _ _ _ => 0)
          case atStart => exact ⟨rfl, rfl, S8⟩
          case round =>
            obtain ⟨rfl, rfl, J⟩ := hrel
            clear S8
            by_cases hk1 : (0 : Int) < nn
            · have bk1 : decide ((0 : Int) < nn) = true := by simpa using hk1
              have MB := Lib.hid (fr_met J.out.to.fam)
              have HB := Lib.hid J.out.has
              go_wp2_with fail
              refine (read_any x.B c wr MB.out).mono ?_
              rintro r w11 ⟨rfl, b11⟩
              have K11 := Lib.hid (Below.keeps b11 [])
              clear b11
              rw [CD.out.1, CD.out.2]
              have S11 := Lib.hid (J.out.to.quiet K11.out)
              have H11 := Lib.hid (K11.out.has HB.out (by simp))
              clear J MB HB
              go_upto_region 45 with (fail)
              refine wp_gen (fun V => V.heap[w11.heap.size]? = some (.cells #[.int .i64 c.a, .int .i64 c.b, .int .i64 (cv : Int), .int .i64 0] 43 (0, 0)) ∧ Keeps [] w11 V) ⟨has_new _ _, (Keeps.refl [] w11).alloc _⟩ ?_
              rintro w12 ⟨b12, k12⟩
              have h12 := k12.has H11.out (by simp)
              have S12 := Lib.hid (S11.out.quiet k12)
              have K12 := Lib.hid k12
              have p0 : w12.cell? ⟨w11.heap.size, 0, none⟩ = some (.int .i64 c.a) := cell_has b12 (i := 0) rfl
              have p2 : w12.cell? ⟨w11.heap.size, 2, none⟩ = some (.int .i64 (cv : Int)) := cell_has b12 (i := 2) rfl
              have p3 : w12.cell? ⟨w11.heap.size, 3, none⟩ = some (.int .i64 0) := cell_has b12 (i := 3) rfl
              have q0 : w12.cell? ⟨h8, 0, none⟩ = some (.int .i64 c.a) := cell_has h12 (i := 0) rfl
              have q2 : w12.cell? ⟨h8, 2, none⟩ = some (.int .i64 (cv : Int)) := cell_has h12 (i := 2) rfl
              have hwv : wrap64 (cv : Int) = (cv : Int) := cnt10z I5.out e1
              clear b12 k12 h12
              go_wp2_with fail
              refine (fr_shared x L 0 c sb rb 0 0 wm w12 S12.out).mono ?_
              rintro r w13 ⟨rfl, rfl⟩
              have LN0 := fr_len x L 0 c sb rb 0 0 wm w12 S12.out
              rw [show ((0 : Nat) : Int) = 0 from rfl] at LN0
              go_wp2_with fail
              refine LN0.mono ?_
              rintro r w13 ⟨rfl, rfl⟩
              clear LN0
              go_wp2_with fail
              refine (awake10 w12).mono ?_
              rintro r w14 ⟨rfl, k14⟩
              have K14 := Lib.hid k14
              clear k14 p0 p2 p3 q0 q2
              go_wp2_with fail
              go_ret
              exact ⟨rfl, gone10 (((S12.out.fam.old KM.out XB.out).1).trans K14.out)⟩
            · have bk1 : decide ((0 : Int) < nn) = false := by simpa using hk1
              have MB := Lib.hid (fr_met J.out.to.fam)
              have HB := Lib.hid J.out.has
              go_wp2_with fail
              refine (read_any x.B c wr MB.out).mono ?_
              rintro r w11 ⟨rfl, b11⟩
              have K11 := Lib.hid (Below.keeps b11 [])
              clear b11
              rw [CD.out.1, CD.out.2]
              have S11 := Lib.hid (J.out.to.quiet K11.out)
              have H11 := Lib.hid (K11.out.has HB.out (by simp))
              clear J MB HB
              go_upto_region 45 with (fail)
              refine wp_gen (fun V => V.heap[w11.heap.size]? = some (.cells #[.int .i64 c.a, .int .i64 c.b, .int .i64 (cv : Int), .int .i64 0] 43 (0, 0)) ∧ Keeps [] w11 V) ⟨has_new _ _, (Keeps.refl [] w11).alloc _⟩ ?_
              rintro w12 ⟨b12, k12⟩
              have h12 := k12.has H11.out (by simp)
              have S12 := Lib.hid (S11.out.quiet k12)
              have K12 := Lib.hid k12
              have p0 : w12.cell? ⟨w11.heap.size, 0, none⟩ = some (.int .i64 c.a) := cell_has b12 (i := 0) rfl
              have p2 : w12.cell? ⟨w11.heap.size, 2, none⟩ = some (.int .i64 (cv : Int)) := cell_has b12 (i := 2) rfl
              have p3 : w12.cell? ⟨w11.heap.size, 3, none⟩ = some (.int .i64 0) := cell_has b12 (i := 3) rfl
              have q0 : w12.cell? ⟨h8, 0, none⟩ = some (.int .i64 c.a) := cell_has h12 (i := 0) rfl
              have q2 : w12.cell? ⟨h8, 2, none⟩ = some (.int .i64 (cv : Int)) := cell_has h12 (i := 2) rfl
              have hwv : wrap64 (cv : Int) = (cv : Int) := cnt10z I5.out e1
              clear b12 k12 h12
              go_wp2_with fail
              refine (fr_shared x L 0 c sb rb 0 0 wm w12 S12.out).mono ?_
              rintro r w13 ⟨rfl, rfl⟩
              have LN0 := fr_len x L 0 c sb rb 0 0 wm w12 S12.out
              rw [show ((0 : Nat) : Int) = 0 from rfl] at LN0
              go_wp2_with fail
              refine LN0.mono ?_
              rintro r w13 ⟨rfl, rfl⟩
              clear LN0
              go_wp2_with fail
              refine (awake10 w12).mono ?_
              rintro r w14 ⟨rfl, k14⟩
              have K14 := Lib.hid k14
              clear k14 p0 p2 p3 q0 q2
              go_wp2_with fail
              go_ret
              exact ⟨rfl, gone10 (((S12.out.fam.old KM.out XB.out).1).trans K14.out)⟩
        · go_region_held3 (fun w' => w'.cell? ⟨w4.heap.size, 3, none⟩ = some (.int .i64 0)) (go_keep)
            (first
              | (go_at_call 15; refine (NM.out _ (F5.out.quiet (Keeps.refl [] w5).drew)).mono ?_; rintro r w6 ⟨lo6, a6, c6, hlo6, rfl, v6, k6⟩; have V6 := Lib.hid v6; have K6 := Lib.hid ((Keeps.refl [] w5).drew.trans k6); have y6 := k6.cell (w := w5.drew) y3 (by simp); clear v6 k6 hlo6)
              | (go_at_call 14; have hT := VT.out gL rfl _ ((F5.out.quiet K6.out).old KM.out XB.out).2; have hNC := names_cmp lo6 w.heap.size a6 _ c6 cL (L.take mo) (L.take mo) _ (by rw [TK.out]; exact V6.out) hT (by rw [TK.out]; omega); rw [TK.out] at hNC; refine hNC.mono ?_; rintro r w7 ⟨rfl, k7⟩; have K7 := Lib.hid (K6.out.trans k7); have y7 := k7.cell y6 (by simp); clear k7 hT hNC))
          have F7 := Lib.hid (F5.out.quiet K7.out)
          have b7 := K7.out.has B5.out (by simp)
          have B7 := Lib.hid b7
          clear b7 y3 y6 y7 NM CAP VT
          go_wp2_with fail
          refine (frh_make x L mo c wm w4 w7 w4.heap.size _ F4.out (K45.out.trans K7.out) (Nat.le_refl _) B7.out).mono ?_
          rintro r w8 ⟨sb, rb, rfl, s8⟩
          have S8 := Lib.hid s8
          have I5 := Lib.hid I4.out.2.1
          obtain ⟨h8, hh8⟩ := ex_hid w4.heap.size
          rw [← hh8.out] at S8 ⊢
          clear s8 I4 K6 F7 B7
          go_wp2_with fail
          go_loopw [20, 21] (fun z20 z21 wr => ∃ (k : Nat) (c2 : C4), k ≤ mo ∧ z20 = .int .i64 k ∧ z21 = .int .i64 k ∧ Hid (FrH x L mo c2 sb rb k k wm h8 (.cells #[.int .i64 c.a, .int .i64 c.b, .int .i64 (cv : Int), .int .i64 0] 43 (0, 0)) wr ∧ c2.a = c.a ∧ c2.c = ((cv + k : Nat) : Int) ∧ c2.d = 0)) (fun _ z21 _ => mo - (intOf z21).toNat)
          case atStart => exact ⟨0, c, Nat.zero_le _, rfl, rfl, Lib.hid ⟨S8.out, rfl, cc0, hd0⟩⟩
          case round =>
            clear S8 cc0 hd0
            obtain ⟨k, c2, hk, rfl, rfl, J⟩ := hrel
            by_cases hk1 : (k : Int) < nn
            · have bk1 : decide ((k : Int) < nn) = true := by simpa using hk1
              by_cases hk2 : k < mo
              · have bk2 : decide ((k : Int) < (mo : Int)) = true := by simp; omega
                have k1 : (k : Int) < (nL : Int) := by omega
                have k0 : (0 : Int) ≤ (k : Int) := by omega
                obtain ⟨gg, hgg, hLc⟩ := LC.out k (by omega)
                obtain rfl : gL = gg := by simpa using hgg
                have x2 := hLc wr (J.out.1.to.fam.old KM.out XB.out).2
                clear hLc hgg
                obtain ⟨s, hs⟩ := ex_hid (L.getD k .empty)
                rw [← hs.out] at x2
                have HS := Lib.hid (show L[k]? = some s from by rw [hs.out]; exact getD_at10 (by rw [← hnL.out]; omega))
                have SZ := LZ.out k s HS.out
                go_wp2_with fail
                refine (frh_next x L mo c2 sb rb k k k s wm wr h8 _ J.out.1 LN.out LL.out HS.out hk2 SZ (by omega)).mono ?_
                rintro r w10 ⟨rfl, c3, ch, ca, s10⟩
                have S10 := Lib.hid s10
                have hw : wrap64 ((k : Int) + 1) = ((k + 1 : Nat) : Int) := by rw [wrap_in10 (by omega) (by omega)]; omega
                have J2 := J.out.2
                have C3 : Hid (c3.a = c.a ∧ c3.c = ((cv + (k + 1) : Nat) : Int) ∧ c3.d = 0) := Lib.hid ⟨by rw [ca, J2.1], by rw [ch.1, J2.2.1]; exact cnt10 I5.out e1 hk2 hmo nLb, by rw [ch.2]; exact J2.2.2⟩
                clear s10 ch ca J J2 x2
                go_wp2_with fail
                go_roundw
                case rel => exact ⟨k + 1, c3, by omega, by go_num, by go_num, Lib.hid ⟨S10.out, C3.out.1, C3.out.2.1, C3.out.2.2⟩⟩
                case measure => simp [intOf]; omega
              · have bk2 : decide ((k : Int) < (mo : Int)) = false := by simp; omega
                have MB := Lib.hid (fr_met J.out.1.to.fam)
                have HB := Lib.hid J.out.1.has
                go_wp2_with fail
                refine (read_any x.B c2 wr MB.out).mono ?_
                rintro r w11 ⟨rfl, b11⟩
                have K11 := Lib.hid (Below.keeps b11 [])
                clear b11
                have J2 := J.out.2
                rw [J2.1, J2.2.1, J2.2.2]
                have S11 := Lib.hid (J.out.1.to.quiet K11.out)
                have H11 := Lib.hid (K11.out.has HB.out (by simp))
                clear J J2 MB HB
                go_upto_region 45 with (fail)
                refine wp_gen (fun V => V.heap[w11.heap.size]? = some (.cells #[.int .i64 c.a, .int .i64 c2.b, .int .i64 ((cv + k : Nat) : Int), .int .i64 0] 43 (0, 0)) ∧ Keeps [] w11 V) ⟨has_new _ _, (Keeps.refl [] w11).alloc _⟩ ?_
                rintro w12 ⟨b12, k12⟩
                have h12 := k12.has H11.out (by simp)
                have S12 := Lib.hid (S11.out.quiet k12)
                have K12 := Lib.hid k12
                have p0 : w12.cell? ⟨w11.heap.size, 0, none⟩ = some (.int .i64 c.a) := cell_has b12 (i := 0) rfl
                have p2 : w12.cell? ⟨w11.heap.size, 2, none⟩ = some (.int .i64 ((cv + k : Nat) : Int)) := cell_has b12 (i := 2) rfl
                have p3 : w12.cell? ⟨w11.heap.size, 3, none⟩ = some (.int .i64 0) := cell_has b12 (i := 3) rfl
                have q0 : w12.cell? ⟨h8, 0, none⟩ = some (.int .i64 c.a) := cell_has h12 (i := 0) rfl
                have q2 : w12.cell? ⟨h8, 2, none⟩ = some (.int .i64 (cv : Int)) := cell_has h12 (i := 2) rfl
                have hwv : wrap64 ((cv : Int) + (k : Int)) = ((cv + k : Nat) : Int) := cnt10b I5.out e1 hk hmo nLb
                clear b12 k12 h12
                go_wp2_with fail
                refine (fr_shared x L mo c2 sb rb k k wm w12 S12.out).mono ?_
                rintro r w13 ⟨rfl, rfl⟩
                go_wp2_with fail
                refine (fr_len x L mo c2 sb rb k k wm w12 S12.out).mono ?_
                rintro r w13 ⟨rfl, rfl⟩
                go_wp2_with fail
                refine (awake10 w12).mono ?_
                rintro r w14 ⟨rfl, k14⟩
                have K14 := Lib.hid k14
                clear k14 p0 p2 p3 q0 q2
                go_wp2_with fail
                go_ret
                exact ⟨rfl, gone10 (((S12.out.fam.old KM.out XB.out).1).trans K14.out)⟩
            · have bk1 : decide ((k : Int) < nn) = false := by simpa using hk1
              have MB := Lib.hid (fr_met J.out.1.to.fam)
              have HB := Lib.hid J.out.1.has
              go_wp2_with fail
              refine (read_any x.B c2 wr MB.out).mono ?_
              rintro r w11 ⟨rfl, b11⟩
              have K11 := Lib.hid (Below.keeps b11 [])
              clear b11
              have J2 := J.out.2
              rw [J2.1, J2.2.1, J2.2.2]
              have S11 := Lib.hid (J.out.1.to.quiet K11.out)
              have H11 := Lib.hid (K11.out.has HB.out (by simp))
              clear J J2 MB HB
              go_upto_region 45 with (fail)
              refine wp_gen (fun V => V.heap[w11.heap.size]? = some (.cells #[.int .i64 c.a, .int .i64 c2.b, .int .i64 ((cv + k : Nat) : Int), .int .i64 0] 43 (0, 0)) ∧ Keeps [] w11 V) ⟨has_new _ _, (Keeps.refl [] w11).alloc _⟩ ?_
              rintro w12 ⟨b12, k12⟩
              have h12 := k12.has H11.out (by simp)
              have S12 := Lib.hid (S11.out.quiet k12)
              have K12 := Lib.hid k12
              have p0 : w12.cell? ⟨w11.heap.size, 0, none⟩ = some (.int .i64 c.a) := cell_has b12 (i := 0) rfl
              have p2 : w12.cell? ⟨w11.heap.size, 2, none⟩ = some (.int .i64 ((cv + k : Nat) : Int)) := cell_has b12 (i := 2) rfl
              have p3 : w12.cell? ⟨w11.heap.size, 3, none⟩ = some (.int .i64 0) := cell_has b12 (i := 3) rfl
              have q0 : w12.cell? ⟨h8, 0, none⟩ = some (.int .i64 c.a) := cell_has h12 (i := 0) rfl
              have q2 : w12.cell? ⟨h8, 2, none⟩ = some (.int .i64 (cv : Int)) := cell_has h12 (i := 2) rfl
              have hwv : wrap64 ((cv : Int) + (k : Int)) = ((cv + k : Nat) : Int) := cnt10b I5.out e1 hk hmo nLb
              clear b12 k12 h12
              go_wp2_with fail
              refine (fr_shared x L mo c2 sb rb k k wm w12 S12.out).mono ?_
              rintro r w13 ⟨rfl, rfl⟩
              go_wp2_with fail
              refine (fr_len x L mo c2 sb rb k k wm w12 S12.out).mono ?_
              rintro r w13 ⟨rfl, rfl⟩
              go_wp2_with fail
              refine (awake10 w12).mono ?_
              rintro r w14 ⟨rfl, k14⟩
              have K14 := Lib.hid k14
              clear k14 p0 p2 p3 q0 q2
              go_wp2_with fail
              go_ret
              exact ⟨rfl, gone10 (((S12.out.fam.old KM.out XB.out).1).trans K14.out)⟩
end Go.Proofs.Ytajmfenfajbakaa
