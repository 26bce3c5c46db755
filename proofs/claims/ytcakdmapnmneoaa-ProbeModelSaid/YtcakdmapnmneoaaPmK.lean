/- ProbeModel: the real one's act: what the one does who is asked (chapter 8's laws). -/
import Derived.Test.YtcakdmapnmneoaaPmJ
namespace Go.Proofs.Ytcakdmapnmneoaa
open Go.RowKit
set_option linter.unusedVariables false
set_option linter.unusedSimpArgs false

theorem RlS.dict {lo rb db t : Nat} {S S' : List Nat} {aa : Option Addr} {same : Int} {acv : Value} {inner : Bool} {d d' : Dic} {A : List Int} {W W' : World} (h : RlS lo rb db t S aa same acv inner d A W) (hd : DicAt db t lo S' (mV none) d' W') (k : Keeps (db :: S) W W') (g : Grew S W S') : RlS lo rb db t S' aa same acv inner d' A W' ∧ Keeps (rlR rb db S aa) W W' ∧ Grew (rlR rb db S aa) W (rlR rb db S' aa) := by
  obtain ⟨ac, h1, h2⟩ := h.b
  have nrd : db ≠ rb := other_type h.d.b h1 (by decide)
  have nda : db ∉ blk aa := own_notin8 h2 h.d.b (by decide)
  refine ⟨⟨⟨ac, k.has h1 (fun hx => ?_), own_keeps8 h2 k (fun x hx hq => ?_)⟩, hd, fun hx => ?_, fun x hx hq => ?_, h.l⟩, k.mono (fun x hx => by simp only [List.mem_cons] at hx; unfold rlR; simp only [List.mem_cons, List.mem_append]; rcases hx with h | h; exact .inr (.inl h); exact .inr (.inr (.inl h))), fun x hx => ?_⟩
  · simp only [List.mem_cons] at hx
    rcases hx with e | hx
    · exact nrd e.symm
    · exact h.n1 hx
  · simp only [List.mem_cons] at hq
    rcases hq with e | hq
    · exact nda (e ▸ hx)
    · exact h.n2 x hx hq
  · rcases g _ hx with h9 | h9
    · exact h.n1 h9
    · have := lt_of_block h1; omega
  · rcases g _ hq with h9 | h9
    · exact h.n2 x hx h9
    · have := (own_lt8 h2 x hx).2; omega
  · unfold rlR at hx ⊢
    simp only [List.mem_cons, List.mem_append] at hx ⊢
    rcases hx with h9 | h9 | h9 | h9
    · exact .inl (.inl h9)
    · exact .inl (.inr (.inl h9))
    · rcases g x h9 with h8 | h8
      · exact .inl (.inr (.inr (.inl h8)))
      · exact .inr h8
    · exact .inl (.inr (.inr (.inr h9)))
set_option maxRecDepth 100000 in
set_option maxHeartbeats 8000000 in
theorem ract_any8 (w0 : World) (rb db t : Nat) (most same : Int) (pa : Option Addr) (na ca : Nat) (F : Nat → Int) (hF : IntRow .i64 5 w0 pa na F) (hna : na ≤ 20) : ActR w0 rb db t most same (.slice pa na ca) (actL F na) := by
  intro S aa d s w HM0 K00 HR0 hl hV hA0 hA
  rw [actL_len] at hV
  have HM := Lib.hid HM0
  have HK0 := Lib.hid K00
  have HF := Lib.hid hF
  have HREL := Lib.hid HR0
  obtain ⟨nA, hnA⟩ := ex_hid s.A.length
  rw [← hnA.out] at hA0 hA
  obtain ⟨ac0, y1⟩ : ∃ ac0, w.cell? ⟨rb, 1, none⟩ = some (.slice aa nA ac0) := by
    obtain ⟨ac, m, _⟩ := HM.out.b
    exact ⟨ac, by rw [hnA.out]; exact cell_has m (i := 1) rfl⟩
  have hw0 : wrap64 ((nA : Int) - 1) = (nA : Int) - 1 := IntWalk.wrap64_in _ (by omega)
  obtain ⟨nn, hnn⟩ := ex_hid ((nA : Int) - 1)
  have HL := Lib.hid hl
  have GOAL := Lib.hid (show actsUp (one8 same) most nn (actL F na) s na = acts8 (one8 same) most (actL F na) s from by
    rw [hnn.out, hnA.out]
    have := actsUp_all (one8 same) most (actL F na) s
    rw [actL_len] at this; exact this)
  clear HM0 K00 hF hl HR0
  go_enter Try.func57, Try.ntmps57
  go_upto_region 1 with (fail)
  rw [← hnn.out]
  go_wp2_with fail
  clear y1 hw0
  go_loopw [3] (fun z3 wr => ∃ (i : Nat) (Si : List Nat) (ai : Option Addr) (di : Dic), i ≤ na ∧ z3 = .int .i64 i ∧ Hid (RlS w0.heap.size rb db t Si ai same (.slice pa na ca) false di s.A wr ∧ Keeps (rlR rb db S aa) w wr ∧ Grew (rlR rb db S aa) w (rlR rb db Si ai) ∧ Rel8 most di (actsUp (one8 same) most nn (actL F na) s i) ∧ Goes8 d di)) (fun z3 _ => na - (intOf z3).toNat)
  case atStart => exact ⟨0, S, aa, d, Nat.zero_le _, rfl, Lib.hid ⟨HM.out, Keeps.refl _ _, fun x hx => .inl hx, HREL.out, Goes8.refl d⟩⟩
  case round =>
    obtain ⟨i, Si, ai, di, hi, rfl, SS⟩ := hrel
    obtain ⟨si, hsi⟩ := ex_hid (actsUp (one8 same) most nn (actL F na) s i)
    rw [← hsi.out] at SS
    have i0 : (0 : Int) ≤ (i : Int) := by omega
    have y2 : wr.cell? ⟨rb, 2, none⟩ = some (.slice pa na ca) := by obtain ⟨ac3, m3, _⟩ := SS.out.1.b; exact cell_has m3 (i := 2) rfl
    have y4 : wr.cell? ⟨rb, 4, none⟩ = some (.bool false) := by obtain ⟨ac3, m3, _⟩ := SS.out.1.b; exact cell_has m3 (i := 4) rfl
    by_cases hlt : i < na
    · have i1 : (i : Int) < (na : Int) := by omega
      have nt : (!false) = true := rfl
      obtain ⟨b, off, rfl, hcs⟩ := act_cells HF.out hlt
      have K0r := Lib.hid (HK0.out.then SS.out.2.1 (fun x hx => .inl (HM.out.foot x hx).1))
      obtain ⟨c0, c1, c2, c3, c4⟩ := hcs wr K0r.out
      have HA := Lib.hid (actL_get (F := F) hlt)
      obtain ⟨a, ha⟩ := ex_hid (actF F i)
      obtain ⟨an, ac, ah, ak, av⟩ := a
      have ea := ha.out
      unfold actF at ea
      injection ea with q0 q1 q2 q3 q4
      rw [← q0] at c0
      rw [← q1] at c1
      rw [← q2] at c2
      rw [← q3] at c3
      rw [← q4] at c4
      have NX := Lib.hid (show actsUp (one8 same) most nn (actL F na) s (i + 1) = act1 (one8 same) most nn si ⟨an, ac, ah, ak, av⟩ from by rw [actsUp_succ HA.out, ← ha.out, ← hsi.out])
      have LE := Lib.hid (show si.A = s.A ∧ si.V ≤ s.V + na ∧ si.L.length ≤ si.V from by
        have := actsUp_le (one8 same) most nn (actL F na) s i HL.out
        rw [actL_len, ← hsi.out] at this; exact this)
      clear hcs q0 q1 q2 q3 q4
      go_upto_region 5 with (fail)
      refine wp_gen (fun V => V.heap[wr.heap.size]? = some (actO ⟨an, ac, ah, ak, av⟩) ∧ Keeps [] wr V) ⟨has_new _ _, (Keeps.refl [] wr).alloc _⟩ ?_
      rintro w2 ⟨b2, k2⟩
      obtain ⟨ab, hab⟩ := ex_hid wr.heap.size
      rw [← hab.out] at b2 ⊢
      have B2 := Lib.hid b2
      have MZ := Lib.hid (SS.out.1.keeps0 k2)
      have KZ := Lib.hid (SS.out.2.1.trans (k2.mono (by simp)))
      have GZ := Lib.hid SS.out.2.2.1
      have RL := Lib.hid SS.out.2.2.2.1
      have DG := Lib.hid SS.out.2.2.2.2
      have NA := Lib.hid (show ab ∉ rlR rb db Si ai from fun hx => by have := (SS.out.1.foot _ hx).2; have := hab.out; omega)
      have LAB : ab < w2.heap.size := lt_of_block b2
      have d0 : w2.cell? ⟨ab, 0, none⟩ = some (.int .i64 an) := cell_has b2 (i := 0) rfl
      have d1 : w2.cell? ⟨ab, 1, none⟩ = some (.int .i64 ac) := cell_has b2 (i := 1) rfl
      clear b2 k2 c0 c1 c2 c3 c4 y2 y4 SS
      by_cases hn : an = nn
      · have bn : (an != nn) = false := by simpa using hn
        have f4 : w2.frozen? ⟨rb, 4, none⟩ = false := by obtain ⟨ac3, m3, _⟩ := MZ.out.b; exact free_of_has m3 4
        have y4 : w2.cell? ⟨rb, 4, none⟩ = some (.bool false) := by obtain ⟨ac3, m3, _⟩ := MZ.out.b; exact cell_has m3 (i := 4) rfl
        have HN := Lib.hid hn
        clear hn
        go_upto_region 7 with (fail)
        obtain ⟨w3, hw3⟩ : ∃ x, x = w2.setCell ⟨rb, 4, none⟩ (.bool true) := ⟨_, rfl⟩
        rw [← hw3]
        have M3 := Lib.hid (show RlS w0.heap.size rb db t Si ai same (.slice (some ⟨b, off, none⟩) na ca) true di s.A w3 from by rw [hw3]; exact (MZ.out.inner_ true).1)
        have K23 := Lib.hid (show Keeps (rlR rb db Si ai) w2 w3 from by rw [hw3]; exact (MZ.out.inner_ true).2.mono (by simp [rlR]))
        have B3 := Lib.hid (K23.out.has B2.out NA.out)
        have K13 := Lib.hid (keeps_then8 KZ.out GZ.out K23.out)
        have K03 := Lib.hid (show Keeps [] w0 w3 from HK0.out.then K13.out (fun x hx => .inl (HM.out.foot x hx).1))
        have LAB3 : ab < w3.heap.size := lt_of_block B3.out
        have d1 : w3.cell? ⟨ab, 1, none⟩ = some (.int .i64 ac) := cell_has B3.out (i := 1) rfl
        have d2 : w3.cell? ⟨ab, 2, none⟩ = some (.int .i64 ah) := cell_has B3.out (i := 2) rfl
        have d3 : w3.cell? ⟨ab, 3, none⟩ = some (.int .i64 ak) := cell_has B3.out (i := 3) rfl
        have d4 : w3.cell? ⟨ab, 4, none⟩ = some (.int .i64 av) := cell_has B3.out (i := 4) rfl
        clear hw3 d0 f4 y4
        -- an inner call
        have CALL : Hid (∀ (g : Nat) (h k v : Int), 1 ≤ g → g ≤ 4 → Calls Try.prog 29 #[.pointer (some ⟨rb, 0, none⟩), .agg #[.int .i64 g, .int .i64 h, .int .i64 k, .int .i64 v]] w3 fun r w' => (∃ t, r = .returned t) ∧ ∃ d', Rl8 w0.heap.size rb db t Si ai same (.slice (some ⟨b, off, none⟩) na ca) true d' s.A w3 w' ∧ Rel8 most d' ((call8 askIn (one8 same) most ⟨g, h, k, v⟩ si).elim si (·.1)) ∧ Goes8 di d') := Lib.hid (fun g h k v g1 g4 => by
          obtain ⟨o, e⟩ := call_in (one8 same) most ⟨g, h, k, v⟩ si
          have eA : (fin8 most ⟨g, h, k, v⟩ si o).1.A = s.A := ((fin8_same most ⟨g, h, k, v⟩ si o).2.1).trans LE.out.1
          have M3' := M3.out
          rw [← LE.out.1] at M3'
          have h9 := rcall_any8 w0 rb db t most same (.slice (some ⟨b, off, none⟩) na ca) true [] askIn (asks_in []) (fun _ => rfl) (fun e => by cases e) si.V si.A.length (by have := LE.out.2.1; show si.V + 2 * 0 ≤ 100; omega) (fun e => by cases e) g g1 g4 h k v si (fin8 most ⟨g, h, k, v⟩ si o).1 (fin8 most ⟨g, h, k, v⟩ si o).2 e Si ai di w3 M3' K03.out RL.out ⟨by omega, LE.out.2.2, Nat.le_refl _⟩
          refine h9.mono (fun r w' hq => ?_)
          rw [e]
          rw [eA] at hq
          exact ⟨⟨_, hq.1⟩, hq.2⟩)
        have CLOSE : Hid (∀ d' (A' : List Int) W, Rl8 w0.heap.size rb db t Si ai same (.slice (some ⟨b, off, none⟩) na ca) true d' A' w3 W → W.frozen? ⟨rb, 4, none⟩ = false ∧ W.cell? ⟨rb, 4, none⟩ = some (.bool true) ∧ ∃ Sj aj, RlS w0.heap.size rb db t Sj aj same (.slice (some ⟨b, off, none⟩) na ca) false d' A' (W.setCell ⟨rb, 4, none⟩ (.bool false)) ∧ Keeps (rlR rb db S aa) w (W.setCell ⟨rb, 4, none⟩ (.bool false)) ∧ Grew (rlR rb db S aa) w (rlR rb db Sj aj)) := Lib.hid (fun d' A' W h => by
          obtain ⟨Sj, aj, m1, m2, m3⟩ := h
          obtain ⟨n1, n2⟩ := m1.inner_ false
          have g9 := grew_then8 (w := w) GZ.out K13.out.size m3
          obtain ⟨ac3, m9, _⟩ := m1.b
          exact ⟨free_of_has m9 4, cell_has m9 (i := 4) rfl, Sj, aj, n1, keeps_then8 (keeps_then8 K13.out GZ.out m2) g9 (n2.mono (by simp [rlR])), g9⟩)
        by_cases h1 : ac = 1
        · have bk : (ac == 1) = true := by simpa using h1
          have H1 := Lib.hid h1
          have CL := Lib.hid (CALL.out 2 ah ak av (by omega) (by omega))
          clear h1
          go_upto_region 14 with (go_at_call 29; refine (CL.out).mono ?_; rintro r w4 ⟨⟨t, rfl⟩, dj, hq⟩; have QQ := Lib.hid hq; clear hq)
          obtain ⟨f4, y4, Sj, aj, j1, j2, j3⟩ := CLOSE.out _ _ _ QQ.out.1
          have J := Lib.hid (And.intro j1 (And.intro j2 j3))
          clear j1 j2 j3
          go_wp2_with fail
          go_roundw
          case rel => exact ⟨i + 1, Sj, aj, _, by omega, by go_num, Lib.hid ⟨J.out.1, J.out.2.1, J.out.2.2, by rw [NX.out]; unfold act1; rw [if_pos HN.out, if_pos H1.out]; exact QQ.out.2.1, DG.out.trans QQ.out.2.2⟩⟩
          case measure => exact meas8 hlt
        · have bk : (ac == 1) = false := by simpa using h1
          by_cases h2 : ac = 2
          · have bk2 : (ac == 2) = true := by simpa using h2
            have H1 := Lib.hid h1
            have H2 := Lib.hid h2
            have CL := Lib.hid (CALL.out 3 ah ak 0 (by omega) (by omega))
            clear h1 h2
            go_upto_region 14 with (go_at_call 29; refine (CL.out).mono ?_; rintro r w4 ⟨⟨t, rfl⟩, dj, hq⟩; have QQ := Lib.hid hq; clear hq)
            obtain ⟨f4, y4, Sj, aj, j1, j2, j3⟩ := CLOSE.out _ _ _ QQ.out.1
            have J := Lib.hid (And.intro j1 (And.intro j2 j3))
            clear j1 j2 j3
            go_wp2_with fail
            go_roundw
            case rel => exact ⟨i + 1, Sj, aj, _, by omega, by go_num, Lib.hid ⟨J.out.1, J.out.2.1, J.out.2.2, by rw [NX.out]; unfold act1; rw [if_pos HN.out, if_neg H1.out, if_pos H2.out]; exact QQ.out.2.1, DG.out.trans QQ.out.2.2⟩⟩
            case measure => exact meas8 hlt
          · have bk2 : (ac == 2) = false := by simpa using h2
            by_cases h3 : ac = 3
            · have bk3 : (ac == 3) = true := by simpa using h3
              have H1 := Lib.hid h1
              have H2 := Lib.hid h2
              have H3 := Lib.hid h3
              clear h1 h2 h3
              have hV3 : di.ver ≤ 1000 := by rw [RL.out.v]; have := LE.out.2.1; omega
              have y0 : w3.cell? ⟨rb, 0, none⟩ = some (.pointer (some ⟨db, 0, none⟩)) := by obtain ⟨ac3, m3, _⟩ := M3.out.b; exact cell_has m3 (i := 0) rfl
              have CL := Lib.hid (dclear_any di.ver hV3 db t w0.heap.size Si none ⟨0, 0, 0, 0⟩ di w3 M3.out.d (fun b hb => by simp at hb) (fun b hb => by simp at hb) RL.out.ok)
              go_upto_region 14 with (go_at_call 31; refine (CL.out).mono ?_; rintro r w4 ⟨Sj, rfl, hd, _, hk, hg⟩; have QC := Lib.hid (And.intro hd (And.intro hk hg)); clear hd hk hg)
              have QQ : Hid (Rl8 w0.heap.size rb db t Si ai same (.slice (some ⟨b, off, none⟩) na ca) true di.clr s.A w3 w4 ∧ Rel8 most di.clr ⟨[], si.V + 1, si.A⟩ ∧ Goes8 di di.clr) := Lib.hid (by
                obtain ⟨r1, r2, r3⟩ := M3.out.dict QC.out.1 (QC.out.2.1.mono (by simp [mS])) QC.out.2.2
                exact ⟨⟨Sj, ai, r1, r2, r3⟩, RL.out.clr, Goes8.clr di⟩)
              clear y0 CL QC
              obtain ⟨f4, y4, Sj, aj, j1, j2, j3⟩ := CLOSE.out _ _ _ QQ.out.1
              have J := Lib.hid (And.intro j1 (And.intro j2 j3))
              clear j1 j2 j3
              go_wp2_with fail
              go_roundw
              case rel => exact ⟨i + 1, Sj, aj, _, by omega, by go_num, Lib.hid ⟨J.out.1, J.out.2.1, J.out.2.2, by rw [NX.out]; unfold act1; rw [if_pos HN.out, if_neg H1.out, if_neg H2.out, if_pos H3.out]; exact QQ.out.2.1, DG.out.trans QQ.out.2.2⟩⟩
              case measure => exact meas8 hlt
            · have bk3 : (ac == 3) = false := by simpa using h3
              have H1 := Lib.hid h1
              have H2 := Lib.hid h2
              have H3 := Lib.hid h3
              clear h1 h2 h3
              have QQ := Lib.hid (show Rl8 w0.heap.size rb db t Si ai same (.slice (some ⟨b, off, none⟩) na ca) true di s.A w3 w3 ∧ Rel8 most di si ∧ Goes8 di di from ⟨⟨Si, ai, M3.out, Keeps.refl _ _, fun x hx => .inl hx⟩, RL.out, Goes8.refl di⟩)
              go_upto_region 14 with (fail)
              obtain ⟨f4, y4, Sj, aj, j1, j2, j3⟩ := CLOSE.out _ _ _ QQ.out.1
              have J := Lib.hid (And.intro j1 (And.intro j2 j3))
              clear j1 j2 j3
              go_wp2_with fail
              go_roundw
              case rel => exact ⟨i + 1, Sj, aj, _, by omega, by go_num, Lib.hid ⟨J.out.1, J.out.2.1, J.out.2.2, by rw [NX.out]; unfold act1; rw [if_pos HN.out, if_neg H1.out, if_neg H2.out, if_neg H3.out]; exact QQ.out.2.1, DG.out.trans QQ.out.2.2⟩⟩
              case measure => exact meas8 hlt
      · have bn : (an != nn) = true := by simpa using hn
        have HN := Lib.hid hn
        clear hn
        go_wp2_with fail
        go_roundw
        case rel => exact ⟨i + 1, Si, ai, di, by omega, by go_num, Lib.hid ⟨MZ.out, KZ.out, GZ.out, by rw [NX.out]; unfold act1; rw [if_neg HN.out]; exact RL.out, DG.out⟩⟩
        case measure => exact meas8 hlt
    · obtain rfl : i = na := by omega
      have hge : ¬ (i : Int) < (i : Int) := by omega
      go_wp2_with fail
      refine bodyPost_end (results_none rfl _ _ _) rfl ?_
      exact ⟨rfl, di, ⟨Si, ai, SS.out.1, SS.out.2.1, SS.out.2.2.1⟩, by rw [← GOAL.out, ← hsi.out]; exact SS.out.2.2.2.1, SS.out.2.2.2.2⟩
end Go.Proofs.Ytcakdmapnmneoaa
