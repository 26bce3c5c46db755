/- What comes next in a stroll: its closures (chapter 9). -/
import Derived.Test.YtcakdmapnmneoaaStrC
import Derived.Deep.RegionHeld3
namespace Go.Proofs.Ytcakdmapnmneoaa
open Go.RowKit
set_option linter.unusedVariables false
set_option linter.unusedSimpArgs false

/-- The births of a row of entries, as the search reads them: sb the stroll, bx the box of its pointer, cb the box of the birth. -/
structure SeeB (sb bx cb lo : Nat) (dp : Value) (size ver : Int) (a : Option Addr) (c : Nat) (prs : List Ent) (bk : Bool) (nx ps : Value) (birth : Int) (W : World) : Prop where
  row : W.heap[sb]? = some (strO dp size ver (.slice a prs.length c) bk nx ps)
  ent : EntRow lo a c prs W
  box : W.heap[bx]? = some (.cells #[.pointer (some ⟨sb, 0, none⟩)] 46 (0, 0))
  brt : W.heap[cb]? = some (.cells #[.int .i64 birth] 3 (0, 0))
theorem SeeB.keeps {sb bx cb lo : Nat} {dp : Value} {size ver : Int} {a : Option Addr} {c : Nat} {prs : List Ent} {bk : Bool} {nx ps : Value} {birth : Int} {W W' : World} (h : SeeB sb bx cb lo dp size ver a c prs bk nx ps birth W) (k : Keeps [] W W') : SeeB sb bx cb lo dp size ver a c prs bk nx ps birth W' :=
  ⟨k.has h.row (by simp), h.ent.keeps k (by simp), k.has h.box (by simp), k.has h.brt (by simp)⟩
set_option maxRecDepth 100000 in
theorem sabove_one (sb bx cb lo : Nat) (dp : Value) (size ver : Int) (a : Option Addr) (c : Nat) (prs : List Ent) (bk : Bool) (nx ps : Value) (birth : Int) (w : World) (H : SeeB sb bx cb lo dp size ver a c prs bk nx ps birth w) (i : Nat) (x : Ent) (hx : prs[i]? = some x) :
    Calls Try.prog 51 #[.int .i64 i, .pointer (some ⟨bx, 0, none⟩), .pointer (some ⟨cb, 0, none⟩)] w fun r w' => r = .returned (.bool (decide (birth < x.birth))) ∧ Keeps [] w w' := by
  have hi := (List.getElem?_eq_some_iff.1 hx).1
  obtain ⟨g, rfl⟩ := H.ent.shape (by omega)
  obtain ⟨y, hy⟩ := ex_hid x.birth
  rw [← hy.out]
  have c0 : w.cell? ⟨bx, 0, none⟩ = some (.pointer (some ⟨sb, 0, none⟩)) := cell_has H.box (i := 0) rfl
  have c1 : w.cell? ⟨cb, 0, none⟩ = some (.int .i64 birth) := cell_has H.brt (i := 0) rfl
  have c2 : w.cell? ⟨sb, 3, none⟩ = some (.slice (some ⟨g, 0, none⟩) prs.length c) := cell_has H.row (i := 3) rfl
  have c3 : w.cell? ⟨g, i * 5 + 4, none⟩ = some (.int .i64 y) := by rw [hy.out]; exact H.ent.cell hx 4 (by omega)
  obtain ⟨n, hn⟩ := ex_hid prs.length
  rw [← hn.out] at c2 hi
  have hi1 : (i : Int) < (n : Int) := by omega
  have hi2 : (0 : Int) ≤ (i : Int) := by omega
  clear H hx
  go_enter Try.func51, Try.ntmps51
  go_wp2_with fail
  go_region_held3 (fun w' => w'.cell? ⟨bx, 0, none⟩ = some (.pointer (some ⟨sb, 0, none⟩)) ∧ w'.cell? ⟨cb, 0, none⟩ = some (.int .i64 birth) ∧ w'.cell? ⟨sb, 3, none⟩ = some (.slice (some ⟨g, 0, none⟩) n c) ∧ w'.cell? ⟨g, i * 5 + 4, none⟩ = some (.int .i64 y)) (go_keep)
    (fail)
  go_wp2_with fail
  go_ret
  exact ⟨rfl, (Keeps.refl [] w).drew⟩
set_option maxRecDepth 100000 in
set_option maxHeartbeats 2000000 in
/-- Binary search among births that go up. -/
theorem ssearch_any (sb bx cb lo : Nat) (dp : Value) (size ver : Int) (a : Option Addr) (c : Nat) (prs : List Ent) (bk : Bool) (nx ps : Value) (birth : Int) (w : World) (H : SeeB sb bx cb lo dp size ver a c prs bk nx ps birth w) (hu : Ups prs) (hz : prs.length ≤ 1000000) :
    Calls Try.prog 50 #[.int .i64 (prs.length : Nat), .func (.func 51) #[] #[.pointer (some ⟨bx, 0, none⟩), .pointer (some ⟨cb, 0, none⟩)]] w fun r w' => r = .returned (.int .i64 (cntL prs birth : Nat)) ∧ Keeps [] w w' := by
  have HS := Lib.hid H
  have HU := Lib.hid hu
  obtain ⟨n, hn⟩ := ex_hid prs.length
  rw [← hn.out] at hz ⊢
  obtain ⟨cnt, hcnt⟩ := ex_hid (cntL prs birth)
  rw [← hcnt.out]
  clear H hu
  go_enter Try.func50, Try.ntmps50
  go_wp2_with fail
  go_loopg [5, 6] n (fun kx s5 s6 wr => ∃ (lo hi : Nat), s5 = .int .i64 lo ∧ s6 = .int .i64 hi ∧ lo ≤ hi ∧ hi ≤ n ∧ hi - lo ≤ kx ∧ Hid (Keeps [] w wr ∧ (∀ (t : Nat) (x : Ent), t < lo → prs[t]? = some x → ¬ birth < x.birth) ∧ (∀ (t : Nat) (x : Ent), hi ≤ t → prs[t]? = some x → birth < x.birth)))
  case atStart => exact ⟨0, n, rfl, rfl, Nat.zero_le _, Nat.le_refl _, by omega, Lib.hid ⟨Keeps.refl _ _, fun t x ht => absurd ht (Nat.not_lt_zero _), fun t x h1 h2 => by have := (List.getElem?_eq_some_iff.1 h2).1; have := hn.out; omega⟩⟩
  case round =>
    obtain ⟨lo', hi, rfl, rfl, hlh, hin, hg, I⟩ := hrel
    by_cases hlt : lo' < hi
    · obtain ⟨x, hx⟩ : ∃ x, prs[(lo' + hi) / 2]? = some x := ⟨_, List.getElem?_eq_getElem (by have := hn.out; omega)⟩
      have hc := sabove_one sb bx cb lo dp size ver a c prs bk nx ps birth wr (HS.out.keeps I.out.1) ((lo' + hi) / 2) x hx
      rw [show (((lo' + hi) / 2 : Nat) : Int) = ((lo' : Int) + (hi : Int)) / 2 by omega] at hc
      have HX := Lib.hid hx
      clear hx
      cases hp : decide (birth < x.birth) <;> rw [hp] at hc
      · have HP := Lib.hid (of_decide_eq_false hp)
        clear hp
        go_wp2_with (go_at_call 51; refine hc.mono ?_; rintro e w' ⟨rfl, k'⟩)
        have KP := Lib.hid k'
        clear k' hc
        go_roundg (hi - ((lo' + hi) / 2 + 1))
        case measure => omega
        case rel =>
          exact ⟨(lo' + hi) / 2 + 1, hi, by rw [show ((lo' : Int) + (hi : Int)) / 2 + 1 = (((lo' + hi) / 2 + 1 : Nat) : Int) by omega], rfl, by omega, hin, Nat.le_refl _, Lib.hid ⟨I.out.1.trans KP.out, fun t y ht hy => (by
            rcases Nat.lt_or_ge t ((lo' + hi) / 2) with h1 | h1
            · have h2 := HU.out t _ y x h1 hy HX.out; have := HP.out; omega
            · obtain rfl : t = (lo' + hi) / 2 := by omega
              have h3 := HX.out; rw [hy] at h3; cases h3; exact HP.out), I.out.2.2⟩⟩
      · have HP := Lib.hid (of_decide_eq_true hp)
        clear hp
        go_wp2_with (go_at_call 51; refine hc.mono ?_; rintro e w' ⟨rfl, k'⟩)
        have KP := Lib.hid k'
        clear k' hc
        go_roundg ((lo' + hi) / 2 - lo')
        case measure => omega
        case rel =>
          exact ⟨lo', (lo' + hi) / 2, rfl, by rw [show ((lo' : Int) + (hi : Int)) / 2 = (((lo' + hi) / 2 : Nat) : Int) by omega], by omega, by omega, Nat.le_refl _, Lib.hid ⟨I.out.1.trans KP.out, I.out.2.1, fun t y ht hy => (by
            rcases Nat.lt_or_ge ((lo' + hi) / 2) t with h1 | h1
            · have h2 := HU.out _ t x y h1 HX.out hy; have := HP.out; omega
            · obtain rfl : t = (lo' + hi) / 2 := by omega
              have h3 := HX.out; rw [hy] at h3; cases h3; exact HP.out)⟩⟩
    · obtain rfl : hi = lo' := by omega
      have ecnt : cnt = hi := by
        rw [hcnt.out]
        exact HU.out.cnt_is birth hi (by have := hn.out; omega) I.out.2.1 I.out.2.2
      subst ecnt
      go_wp2_with fail
      go_ret
      exact ⟨rfl, I.out.1⟩
set_option maxRecDepth 100000 in
/-- The place behind a birth. -/
theorem sabove_any (lo b : Nat) (F : List Nat) (s : Str) (birth : Int) (w : World) (H : StrAt lo b F s w) (hu : Ups s.prs) (hz : s.prs.length ≤ 1000000) :
    Calls Try.prog 49 #[.int .i64 (s.prs.length : Nat), .int .i64 birth, .pointer (some ⟨b + 1, 0, none⟩)] w fun r w' => r = .returned (.int .i64 (cntL s.prs birth : Nat)) ∧ Keeps [] w w' := by
  obtain ⟨⟨a, c, h1, h2, h3⟩, h4, h5, h6, h7, h8, h9⟩ := H
  have k1 : Keeps [] w (w.alloc (.cells #[.int .i64 birth] 3)) := (Keeps.refl [] w).alloc _
  have hc := ssearch_any b (b + 1) w.heap.size lo _ s.size s.ver a c s.prs s.broken _ _ birth (w.alloc (.cells #[.int .i64 birth] 3)) ⟨k1.has h1 (by simp), h2.keeps k1 (by simp), k1.has h4 (by simp), has_new _ _⟩ hu hz
  have K1 := Lib.hid k1
  obtain ⟨n, hn⟩ := ex_hid s.prs.length
  obtain ⟨cnt, hcnt⟩ := ex_hid (cntL s.prs birth)
  rw [← hn.out, ← hcnt.out] at hc
  rw [← hn.out, ← hcnt.out]
  clear h1 h2 h3 h4 h5 h6 h7 h8 h9 k1 hu hz
  go_enter Try.func49, Try.ntmps49
  go_wp2_with (go_at_call 50; refine hc.mono ?_; rintro e w' ⟨rfl, k'⟩)
  go_ret
  exact ⟨rfl, K1.out.trans k'⟩
set_option maxRecDepth 100000 in
/-- The place of the pair that comes next. -/
theorem splace_any (lo b : Nat) (F : List Nat) (s : Str) (w : World) (H : StrAt lo b F s w) (hu : Ups s.prs) (hz : s.prs.length ≤ 1000000) (l0 : 0 ≤ s.last) (l1 : s.last ≤ 1000000) :
    Calls Try.prog (if s.back = true then 53 else 52) #[.int .i64 (s.prs.length : Nat), .pointer (some ⟨b + 2, 0, none⟩), .pointer (some ⟨b + 4, 0, none⟩), .pointer (some ⟨b + 3, 0, none⟩)] w fun r w' => r = .returned (.int .i64 s.place) ∧ Keeps [] w w' := by
  have c2 : w.cell? ⟨b + 2, 0, none⟩ = some (.bool s.told) := cell_has H.told (i := 0) rfl
  have c3 : w.cell? ⟨b + 3, 0, none⟩ = some (.int .i64 s.last) := cell_has H.last (i := 0) rfl
  have c4 : w.cell? ⟨b + 4, 0, none⟩ = some (aboveF (b + 1)) := cell_has H.above (i := 0) rfl
  have HC := Lib.hid (fun birth => sabove_any lo b F s birth w H hu hz)
  have e1 := cntL_len s.prs s.last
  have e2 := cntL_len s.prs (s.last - 1)
  obtain ⟨pl, hpl⟩ := ex_hid s.place
  have HPL := Lib.hid (show pl = if s.told = false then (if s.back = true then (s.prs.length : Int) - 1 else 0) else if s.back = true then (cntL s.prs (s.last - 1) : Int) - 1 else (cntL s.prs s.last : Int) from hpl.out)
  rw [← hpl.out]
  obtain ⟨ls, hls⟩ := ex_hid s.last
  obtain ⟨n, hn⟩ := ex_hid s.prs.length
  rw [← hls.out] at c3 l0 l1 e1 e2
  rw [← hn.out] at hz e1 e2
  rw [← hn.out]
  unfold aboveF at c4
  clear H hu hpl
  cases hb : s.back
  all_goals
    simp only [Bool.false_eq_true, if_true, if_false]
  all_goals
    cases ht : s.told
  all_goals
    rw [ht] at c2
    rw [hb, ht] at HPL
    simp only [Bool.false_eq_true, Bool.true_eq_false, if_true, if_false] at HPL
    clear hb ht
  · go_enter Try.func52, Try.ntmps52
    go_wp2_with fail
    go_ret
    exact ⟨by rw [HPL.out]; rfl, Keeps.refl _ _⟩
  · have hc := HC.out ls
    rw [← hls.out] at HPL
    obtain ⟨cn, hcn⟩ := ex_hid (cntL s.prs ls)
    rw [← hcn.out] at hc e1
    rw [← hn.out] at hc
    go_enter Try.func52, Try.ntmps52
    go_wp2_with (go_at_call 49; refine hc.mono ?_; rintro e w' ⟨rfl, k'⟩)
    go_ret
    exact ⟨by rw [HPL.out, hcn.out]; first | rfl | skip, k'⟩
  · go_enter Try.func53, Try.ntmps53
    go_wp2_with fail
    go_ret
    exact ⟨by rw [HPL.out, hn.out]; rfl, Keeps.refl _ _⟩
  · have hc := HC.out (ls - 1)
    rw [← hls.out] at HPL
    obtain ⟨cn, hcn⟩ := ex_hid (cntL s.prs (ls - 1))
    rw [← hcn.out] at hc e2
    rw [← hn.out] at hc
    go_enter Try.func53, Try.ntmps53
    go_wp2_with (go_at_call 49; refine hc.mono ?_; rintro e w' ⟨rfl, k'⟩)
    go_ret
    exact ⟨by rw [HPL.out, hcn.out]; first | rfl | skip, k'⟩
end Go.Proofs.Ytcakdmapnmneoaa
