/- ProbeModel: the model's act: what the one does who is asked (chapter 8's laws). -/
import Derived.Test.YtcakdmapnmneoaaPmG
namespace Go.Proofs.Ytcakdmapnmneoaa
open Go.RowKit
set_option linter.unusedVariables false
set_option linter.unusedSimpArgs false

/-- The acts that lie in a row. -/
def actF (F : Nat → Int) (i : Nat) : Ac8 := ⟨F (i * 5), F (i * 5 + 1), F (i * 5 + 2), F (i * 5 + 3), F (i * 5 + 4)⟩
def actL (F : Nat → Int) (n : Nat) : List Ac8 := (List.range n).map (actF F)
theorem actL_len (F : Nat → Int) (n : Nat) : (actL F n).length = n := by simp [actL]
theorem actL_get {F : Nat → Int} {n i : Nat} (h : i < n) : (actL F n)[i]? = some (actF F i) := by simp [actL, h]
def actO (a : Ac8) : Obj := .cells #[.int .i64 a.n, .int .i64 a.c, .int .i64 a.h, .int .i64 a.k, .int .i64 a.v] 138 (0, 0)
theorem act_cells {w : World} {a : Option Addr} {len : Nat} {F : Nat → Int} (h : IntRow .i64 5 w a len F) {i : Nat} (hi : i < len) :
    ∃ b off, a = some ⟨b, off, none⟩ ∧ ∀ W, Keeps [] w W → W.cell? ⟨b, off + i * 5, none⟩ = some (.int .i64 (F (i * 5))) ∧ W.cell? ⟨b, off + i * 5 + 1, none⟩ = some (.int .i64 (F (i * 5 + 1))) ∧ W.cell? ⟨b, off + i * 5 + 2, none⟩ = some (.int .i64 (F (i * 5 + 2))) ∧ W.cell? ⟨b, off + i * 5 + 3, none⟩ = some (.int .i64 (F (i * 5 + 3))) ∧ W.cell? ⟨b, off + i * 5 + 4, none⟩ = some (.int .i64 (F (i * 5 + 4))) := by
  rcases h with h | ⟨b, off, h1, _, _, hc⟩
  · omega
  · refine ⟨b, off, h1, fun W k => ?_⟩
    have e0 := (hc (i * 5) (by omega)).1
    have e1 := (hc (i * 5 + 1) (by omega)).1
    have e2 := (hc (i * 5 + 2) (by omega)).1
    have e3 := (hc (i * 5 + 3) (by omega)).1
    have e4 := (hc (i * 5 + 4) (by omega)).1
    rw [Nat.add_assoc, Nat.add_assoc, Nat.add_assoc, Nat.add_assoc]
    exact ⟨k.cell e0 (by simp), k.cell e1 (by simp), k.cell e2 (by simp), k.cell e3 (by simp), k.cell e4 (by simp)⟩
/-- The acts up to number i are done. -/
def actsUp (one : Int → Int → Bool) (most : Int) (n : Int) (l : List Ac8) (s : Ms8) (i : Nat) : Ms8 := (l.take i).foldl (act1 one most n) s
theorem actsUp_succ {one : Int → Int → Bool} {most n : Int} {l : List Ac8} {s : Ms8} {i : Nat} {a : Ac8} (h : l[i]? = some a) : actsUp one most n l s (i + 1) = act1 one most n (actsUp one most n l s i) a := by
  obtain ⟨hi, rfl⟩ := List.getElem?_eq_some_iff.1 h
  unfold actsUp
  rw [List.take_succ_eq_append_getElem hi, List.foldl_append]
  rfl
theorem actsUp_all (one : Int → Int → Bool) (most : Int) (l : List Ac8) (s : Ms8) : actsUp one most ((s.A.length : Int) - 1) l s l.length = acts8 one most l s := by
  unfold actsUp acts8; rw [List.take_length]
theorem actsUp_le (one : Int → Int → Bool) (most n : Int) (l : List Ac8) (s : Ms8) (i : Nat) (hl : s.L.length ≤ s.V) : (actsUp one most n l s i).A = s.A ∧ (actsUp one most n l s i).V ≤ s.V + l.length ∧ (actsUp one most n l s i).L.length ≤ (actsUp one most n l s i).V := by
  obtain ⟨h1, h2, h3, h4⟩ := acts_same one most n (l.take i) s
  have h5 : (l.take i).countP (fun a => decide (a.n = n)) ≤ (l.take i).length := List.countP_le_length
  have h6 : (l.take i).length ≤ l.length := by rw [List.length_take]; omega
  unfold actsUp
  exact ⟨h2, by omega, by omega⟩
/-- The model's inner bool is laid. -/
theorem MdAt.inner_ {lo mo : Nat} {M : List Nat} {most same : Int} {acv : Value} {inner : Bool} {s : Ms8} {w : World} (h : MdAt lo mo M most same acv inner s w) (b : Bool) : MdAt lo mo M most same acv b s (w.setCell ⟨mo, 6, none⟩ (.bool b)) ∧ Keeps M w (w.setCell ⟨mo, 6, none⟩ (.bool b)) := by
  obtain ⟨la, lc, aa, ac, h1, h2, h3, rfl, h5⟩ := h
  have k : Keeps [mo] w (w.setCell ⟨mo, 6, none⟩ (.bool b)) := (Keeps.refl _ _).setCell (.inr (by simp)) _
  exact ⟨⟨la, lc, aa, ac, has_I8 h1 b, own_keeps8 h2 k (fun x hx h => by simp at h; subst h; exact own_notin8 h2 h1 (by decide) hx), own_keeps8 h3 k (fun x hx h => by simp at h; subst h; exact own_notin8 h3 h1 (by decide) hx), rfl, h5⟩, k.mono (by simp)⟩
/-- The sequence is emptied. -/
theorem MdAt.clr {lo mo : Nat} {M : List Nat} {most same : Int} {acv : Value} {inner : Bool} {s : Ms8} {w : World} (h : MdAt lo mo M most same acv inner s w) (x : Int) (hx : x = ((s.V + 1 : Nat) : Int)) :
    Md8 lo mo M most same acv inner ⟨[], s.V + 1, s.A⟩ w ((w.setCell ⟨mo, 0, none⟩ (.slice none 0 0)).setCell ⟨mo, 2, none⟩ (.int .i64 x)) := by
  obtain ⟨la, lc, aa, ac, h1, h2, h3, rfl, h5⟩ := h
  have k : Keeps [mo] w ((w.setCell ⟨mo, 0, none⟩ (.slice none 0 0)).setCell ⟨mo, 2, none⟩ (.int .i64 x)) := ((Keeps.refl _ _).setCell (.inr (by simp)) _).setCell (.inr (by simp)) _
  refine ⟨mo :: (blk none ++ blk aa), ⟨none, 0, aa, ac, has_V8 (has_L8 h1 (.slice none 0 0)) (s.V + 1) x hx, P8Row.nil _ _, own_keeps8 h3 k (fun x hx h => by simp at h; subst h; exact own_notin8 h3 h1 (by decide) hx), rfl, h5⟩, k.mono (by simp), fun y hy => ?_⟩
  simp only [blk, List.nil_append, List.mem_cons] at hy
  left
  simp only [List.mem_cons, List.mem_append]
  exact hy.imp id .inr
set_option maxRecDepth 100000 in
set_option maxHeartbeats 8000000 in
theorem act_any8 (w0 : World) (mo : Nat) (most same : Int) (pa : Option Addr) (na ca : Nat) (F : Nat → Int) (hF : IntRow .i64 5 w0 pa na F) (hna : na ≤ 20) : ActM w0 mo most same (.slice pa na ca) (actL F na) := by
  intro M s w HM0 K00 hl hV hA0 hA
  rw [actL_len] at hV
  have HM := Lib.hid HM0
  have HK0 := Lib.hid K00
  have HF := Lib.hid hF
  obtain ⟨nA, hnA⟩ := ex_hid s.A.length
  rw [← hnA.out] at hA0 hA
  obtain ⟨aa0, ac0, y3⟩ : ∃ aa0 ac0, w.cell? ⟨mo, 3, none⟩ = some (.slice aa0 nA ac0) := by
    obtain ⟨la, lc, aa, ac, m, _⟩ := HM.out
    exact ⟨aa, ac, by rw [hnA.out]; exact cell_has m (i := 3) rfl⟩
  have hw0 : wrap64 ((nA : Int) - 1) = (nA : Int) - 1 := IntWalk.wrap64_in _ (by omega)
  obtain ⟨nn, hnn⟩ := ex_hid ((nA : Int) - 1)
  have HL := Lib.hid hl
  have GOAL := Lib.hid (show actsUp (one8 same) most nn (actL F na) s na = acts8 (one8 same) most (actL F na) s from by
    rw [hnn.out, hnA.out]
    have := actsUp_all (one8 same) most (actL F na) s
    rw [actL_len] at this; exact this)
  clear HM0 K00 hF hl
  go_enter Try.func85, Try.ntmps85
  go_upto_region 1 with (fail)
  rw [← hnn.out]
  go_wp2_with fail
  clear y3 hw0
  go_loopw [3] (fun z3 wr => ∃ (i : Nat) (Mi : List Nat), i ≤ na ∧ z3 = .int .i64 i ∧ Hid (MdAt w0.heap.size mo Mi most same (.slice pa na ca) false (actsUp (one8 same) most nn (actL F na) s i) wr ∧ Keeps M w wr ∧ Grew M w Mi)) (fun z3 _ => na - (intOf z3).toNat)
  case atStart => exact ⟨0, M, Nat.zero_le _, rfl, Lib.hid ⟨HM.out, Keeps.refl _ _, fun x hx => .inl hx⟩⟩
  case round =>
    obtain ⟨i, Mi, hi, rfl, SS⟩ := hrel
    obtain ⟨si, hsi⟩ := ex_hid (actsUp (one8 same) most nn (actL F na) s i)
    rw [← hsi.out] at SS
    have i0 : (0 : Int) ≤ (i : Int) := by omega
    have y4 : wr.cell? ⟨mo, 4, none⟩ = some (.slice pa na ca) := by obtain ⟨la3, lc3, aa3, ac3, m3, _⟩ := SS.out.1; exact cell_has m3 (i := 4) rfl
    have y6 : wr.cell? ⟨mo, 6, none⟩ = some (.bool false) := by obtain ⟨la3, lc3, aa3, ac3, m3, _⟩ := SS.out.1; exact cell_has m3 (i := 6) rfl
    by_cases hlt : i < na
    · have i1 : (i : Int) < (na : Int) := by omega
      have nt : (!false) = true := rfl
      obtain ⟨b, off, rfl, hcs⟩ := act_cells HF.out hlt
      have K0r := Lib.hid (HK0.out.then SS.out.2.1 (fun x hx => .inl (HM.out.foot x hx).1))
      obtain ⟨c0, c1, c2, c3, c4⟩ := hcs wr K0r.out
      have HA := Lib.hid (actL_get (F := F) hlt)
      obtain ⟨a, ha⟩ := ex_hid (actF F i)
      obtain ⟨an, ac, ah, ak, av⟩ := a
      have ea := ha.out
      unfold actF at ea
      injection ea with q0 q1 q2 q3 q4
      rw [← q0] at c0
      rw [← q1] at c1
      rw [← q2] at c2
      rw [← q3] at c3
      rw [← q4] at c4
      have NX := Lib.hid (show actsUp (one8 same) most nn (actL F na) s (i + 1) = act1 (one8 same) most nn si ⟨an, ac, ah, ak, av⟩ from by rw [actsUp_succ HA.out, ← ha.out, ← hsi.out])
      have LE := Lib.hid (show si.A = s.A ∧ si.V ≤ s.V + na ∧ si.L.length ≤ si.V from by
        have := actsUp_le (one8 same) most nn (actL F na) s i HL.out
        rw [actL_len, ← hsi.out] at this; exact this)
      clear hcs q0 q1 q2 q3 q4
      go_upto_region 5 with (fail)
      refine wp_gen (fun V => V.heap[wr.heap.size]? = some (actO ⟨an, ac, ah, ak, av⟩) ∧ Keeps [] wr V) ⟨has_new _ _, (Keeps.refl [] wr).alloc _⟩ ?_
      rintro w2 ⟨b2, k2⟩
      obtain ⟨ab, hab⟩ := ex_hid wr.heap.size
      rw [← hab.out] at b2 ⊢
      have B2 := Lib.hid b2
      have MZ := Lib.hid (SS.out.1.keeps k2 (by simp))
      have KZ := Lib.hid (SS.out.2.1.trans (k2.mono (by simp)))
      have GZ := Lib.hid SS.out.2.2
      have K02 := Lib.hid (K0r.out.trans k2)
      have NA := Lib.hid (show ab ∉ Mi from fun hx => by have := (SS.out.1.foot _ hx).2; have := hab.out; omega)
      have ZB := Lib.hid (show w.heap.size ≤ ab from by have := SS.out.2.1.size; have := hab.out; omega)
      have LAB : ab < w2.heap.size := lt_of_block b2
      have d0 : w2.cell? ⟨ab, 0, none⟩ = some (.int .i64 an) := cell_has b2 (i := 0) rfl
      have d1 : w2.cell? ⟨ab, 1, none⟩ = some (.int .i64 ac) := cell_has b2 (i := 1) rfl
      clear b2 k2 c0 c1 c2 c3 c4 y4 y6 SS
      by_cases hn : an = nn
      · have bn : (an != nn) = false := by simpa using hn
        have f6 : w2.frozen? ⟨mo, 6, none⟩ = false := by obtain ⟨la3, lc3, aa3, ac3, m3, _⟩ := MZ.out; exact free_of_has m3 6
        have y6 : w2.cell? ⟨mo, 6, none⟩ = some (.bool false) := by obtain ⟨la3, lc3, aa3, ac3, m3, _⟩ := MZ.out; exact cell_has m3 (i := 6) rfl
        have HN := Lib.hid hn
        clear hn
        go_upto_region 7 with (fail)
        obtain ⟨w3, hw3⟩ : ∃ x, x = w2.setCell ⟨mo, 6, none⟩ (.bool true) := ⟨_, rfl⟩
        rw [← hw3]
        have M3 := Lib.hid (show MdAt w0.heap.size mo Mi most same (.slice (some ⟨b, off, none⟩) na ca) true si w3 from by rw [hw3]; exact (MZ.out.inner_ true).1)
        have K23 := Lib.hid (show Keeps Mi w2 w3 from by rw [hw3]; exact (MZ.out.inner_ true).2)
        have B3 := Lib.hid (K23.out.has B2.out NA.out)
        have K13 := Lib.hid (keeps_then8 KZ.out GZ.out K23.out)
        have GZ13 := GZ
        have K03 := Lib.hid (show Keeps [] w0 w3 from HK0.out.then K13.out (fun x hx => .inl (HM.out.foot x hx).1))
        have LAB3 : ab < w3.heap.size := lt_of_block B3.out
        have d1 : w3.cell? ⟨ab, 1, none⟩ = some (.int .i64 ac) := cell_has B3.out (i := 1) rfl
        have d2 : w3.cell? ⟨ab, 2, none⟩ = some (.int .i64 ah) := cell_has B3.out (i := 2) rfl
        have d3 : w3.cell? ⟨ab, 3, none⟩ = some (.int .i64 ak) := cell_has B3.out (i := 3) rfl
        have d4 : w3.cell? ⟨ab, 4, none⟩ = some (.int .i64 av) := cell_has B3.out (i := 4) rfl
        clear hw3 d0 f6 y6
        -- an inner call
        have CALL : Hid (∀ g h k v : Int, Calls Try.prog 28 #[.pointer (some ⟨mo, 0, none⟩), .agg #[.int .i64 g, .int .i64 h, .int .i64 k, .int .i64 v]] w3 fun r w' => (∃ t, r = .returned t) ∧ Md8 w0.heap.size mo Mi most same (.slice (some ⟨b, off, none⟩) na ca) true ((call8 askIn (one8 same) most ⟨g, h, k, v⟩ si).elim si (·.1)) w3 w') := Lib.hid (fun g h k v => by
          have h9 := call_any8 w0 mo Mi most same (.slice (some ⟨b, off, none⟩) na ca) true [] askIn (asks_in []) (fun _ => rfl) (fun e => by cases e) si.V si.A.length (by have := LE.out.2.1; show si.V + 2 * 0 ≤ 100; omega) (fun e => by cases e) ⟨g, h, k, v⟩ si w3 M3.out K03.out ⟨by omega, LE.out.2.2, Nat.le_refl _⟩
          refine h9.mono (fun r w' hq => ?_)
          obtain ⟨o, e⟩ := call_in (one8 same) most ⟨g, h, k, v⟩ si
          rw [e] at hq ⊢
          generalize fin8 most ⟨g, h, k, v⟩ si o = z at hq ⊢
          rcases hq with ⟨s', t, e1, e2, e3⟩ | ⟨e1, _⟩
          · cases e1; exact ⟨⟨_, e2⟩, e3⟩
          · cases e1)
        have CLOSE : Hid (∀ s' W, Md8 w0.heap.size mo Mi most same (.slice (some ⟨b, off, none⟩) na ca) true s' w3 W → W.frozen? ⟨mo, 6, none⟩ = false ∧ W.cell? ⟨mo, 6, none⟩ = some (.bool true) ∧ ∃ Mj, MdAt w0.heap.size mo Mj most same (.slice (some ⟨b, off, none⟩) na ca) false s' (W.setCell ⟨mo, 6, none⟩ (.bool false)) ∧ Keeps M w (W.setCell ⟨mo, 6, none⟩ (.bool false)) ∧ Grew M w Mj) := Lib.hid (fun s' W h => by
          obtain ⟨Mj, m1, m2, m3⟩ := h
          obtain ⟨n1, n2⟩ := m1.inner_ false
          obtain ⟨la3, lc3, aa3, ac3, m9, _⟩ := m1
          exact ⟨free_of_has m9 6, cell_has m9 (i := 6) rfl, Mj, n1, keeps_then8 (keeps_then8 K13.out GZ13.out m2) (grew_then8 (w := w) GZ13.out K13.out.size m3) n2, grew_then8 (w := w) GZ13.out K13.out.size m3⟩)
        by_cases h1 : ac = 1
        · have bk : (ac == 1) = true := by simpa using h1
          have H1 := Lib.hid h1
          have CL := Lib.hid (CALL.out 2 ah ak av)
          clear h1
          go_upto_region 15 with (go_at_call 28; refine (CL.out).mono ?_; rintro r w4 ⟨⟨t, rfl⟩, hq⟩; have QQ := Lib.hid hq; clear hq)
          obtain ⟨f6, y6, Mj, j1, j2, j3⟩ := CLOSE.out _ _ QQ.out
          have J := Lib.hid (And.intro j1 (And.intro j2 j3))
          clear j1 j2 j3
          go_wp2_with fail
          go_roundw
          case rel => exact ⟨i + 1, Mj, by omega, by go_num, Lib.hid ⟨by rw [NX.out]; unfold act1; rw [if_pos HN.out, if_pos H1.out]; exact J.out.1, J.out.2.1, J.out.2.2⟩⟩
          case measure => exact meas8 hlt
        · have bk : (ac == 1) = false := by simpa using h1
          by_cases h2 : ac = 2
          · have bk2 : (ac == 2) = true := by simpa using h2
            have H1 := Lib.hid h1
            have H2 := Lib.hid h2
            have CL := Lib.hid (CALL.out 3 ah ak 0)
            clear h1 h2
            go_upto_region 15 with (go_at_call 28; refine (CL.out).mono ?_; rintro r w4 ⟨⟨t, rfl⟩, hq⟩; have QQ := Lib.hid hq; clear hq)
            obtain ⟨f6, y6, Mj, j1, j2, j3⟩ := CLOSE.out _ _ QQ.out
            have J := Lib.hid (And.intro j1 (And.intro j2 j3))
            clear j1 j2 j3
            go_wp2_with fail
            go_roundw
            case rel => exact ⟨i + 1, Mj, by omega, by go_num, Lib.hid ⟨by rw [NX.out]; unfold act1; rw [if_pos HN.out, if_neg H1.out, if_pos H2.out]; exact J.out.1, J.out.2.1, J.out.2.2⟩⟩
            case measure => exact meas8 hlt
          · have bk2 : (ac == 2) = false := by simpa using h2
            by_cases h3 : ac = 3
            · have bk3 : (ac == 3) = true := by simpa using h3
              have H1 := Lib.hid h1
              have H2 := Lib.hid h2
              have H3 := Lib.hid h3
              clear h1 h2 h3
              have hV3 : si.V ≤ 1000 := by have := LE.out.2.1; omega
              have hw3 := up8 (V := si.V) (by omega)
              obtain ⟨f0, f2, y2⟩ : w3.frozen? ⟨mo, 0, none⟩ = false ∧ w3.frozen? ⟨mo, 2, none⟩ = false ∧ w3.cell? ⟨mo, 2, none⟩ = some (.int .i64 si.V) := by
                obtain ⟨la3, lc3, aa3, ac3, m3, _⟩ := M3.out; exact ⟨free_of_has m3 0, free_of_has m3 2, cell_has m3 (i := 2) rfl⟩
              obtain ⟨la3, lc3, y0⟩ : ∃ la3 lc3, w3.cell? ⟨mo, 0, none⟩ = some (.slice la3 si.L.length lc3) := by
                obtain ⟨la3, lc3, aa3, ac3, m3, _⟩ := M3.out; exact ⟨la3, lc3, cell_has m3 (i := 0) rfl⟩
              have QQ := Lib.hid (M3.out.clr ((si.V : Int) + 1) (by omega))
              go_upto_region 15 with (fail)
              clear f0 f2 y2 y0
              obtain ⟨f6, y6, Mj, j1, j2, j3⟩ := CLOSE.out _ _ QQ.out
              have J := Lib.hid (And.intro j1 (And.intro j2 j3))
              clear j1 j2 j3
              go_wp2_with fail
              go_roundw
              case rel => exact ⟨i + 1, Mj, by omega, by go_num, Lib.hid ⟨by rw [NX.out]; unfold act1; rw [if_pos HN.out, if_neg H1.out, if_neg H2.out, if_pos H3.out]; exact J.out.1, J.out.2.1, J.out.2.2⟩⟩
              case measure => exact meas8 hlt
            · have bk3 : (ac == 3) = false := by simpa using h3
              have H1 := Lib.hid h1
              have H2 := Lib.hid h2
              have H3 := Lib.hid h3
              clear h1 h2 h3
              have QQ := Lib.hid (show Md8 w0.heap.size mo Mi most same (.slice (some ⟨b, off, none⟩) na ca) true si w3 w3 from ⟨Mi, M3.out, Keeps.refl _ _, fun x hx => .inl hx⟩)
              go_upto_region 15 with (fail)
              obtain ⟨f6, y6, Mj, j1, j2, j3⟩ := CLOSE.out _ _ QQ.out
              have J := Lib.hid (And.intro j1 (And.intro j2 j3))
              clear j1 j2 j3
              go_wp2_with fail
              go_roundw
              case rel => exact ⟨i + 1, Mj, by omega, by go_num, Lib.hid ⟨by rw [NX.out]; unfold act1; rw [if_pos HN.out, if_neg H1.out, if_neg H2.out, if_neg H3.out]; exact J.out.1, J.out.2.1, J.out.2.2⟩⟩
              case measure => exact meas8 hlt
      · have bn : (an != nn) = true := by simpa using hn
        have HN := Lib.hid hn
        clear hn
        go_wp2_with fail
        go_roundw
        case rel => exact ⟨i + 1, Mi, by omega, by go_num, Lib.hid ⟨by rw [NX.out]; unfold act1; rw [if_neg HN.out]; exact MZ.out, KZ.out, GZ.out⟩⟩
        case measure => exact meas8 hlt
    · obtain rfl : i = na := by omega
      have hge : ¬ (i : Int) < (i : Int) := by omega
      go_wp2_with fail
      refine bodyPost_end (results_none rfl _ _ _) rfl ?_
      exact ⟨rfl, Mi, by rw [← GOAL.out, ← hsi.out]; exact SS.out.1, SS.out.2.1, SS.out.2.2⟩
end Go.Proofs.Ytcakdmapnmneoaa
