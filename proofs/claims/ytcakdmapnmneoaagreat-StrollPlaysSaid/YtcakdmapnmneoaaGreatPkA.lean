/- What comes next in a stroll: its closures (chapter 9). A stroll goes on (chapter 9). A stroll goes on to its next pair, or ends (chapter 9). What holds of a stroll goes on to hold; a Next; what the document fixes of strolls (chapter 9). A stroll and the document's: told alike (chapter 9), in plain Lean. A goal on both dictionaries (chapter 9's StrollPlays). A goal on both dictionaries: the loop (chapter 9's StrollPlays). Both dictionaries and all strolls: the state of chapter 9's Two; calls that change a dictionary only. Two's calls that change both dictionaries: Clear, Last (chapter 9). Printed by mk_does9.py. One stroll of both has gone on: the state behind it (chapter 9). Two's Next (chapter 9). Printed by mk_does95.py. Twenty strolls are enough (chapter 9's Two, kind 4). One stroll more: the state behind it (chapter 9's Two, kind 4). A stroll more in both rows: append of one value (chapter 9's Two, kind 4). One stroll more (chapter 9's Two, kind 4). Every call of chapter 9's Two is answered alike. -/
import Derived.Test.YtcakdmapnmneoaaGreatStrC
import Derived.Deep.RegionHeld3
import Derived.Deep.Cut
import Derived.Test.YtcakdmapnmneoaaGreatRefM
import Derived.Test.YtcakdmapnmneoaaGreatDictX
import Derived.Test.YtcakdmapnmneoaaGreatRefI
import Derived.Test.YtcakdmapnmneoaaGreatRefH
import Derived.Test.YtcakdmapnmneoaaGreatDictE
section
namespace Go.Proofs.YtcakdmapnmneoaaGreat
open Go.RowKit
set_option linter.unusedVariables false
set_option linter.unusedSimpArgs false

/-- The births of a row of entries, as the search reads them: sb the stroll, bx the box of its pointer, cb the box of the birth. -/
structure SeeB (sb bx cb lo : Nat) (dp : Value) (size ver : Int) (a : Option Addr) (c : Nat) (prs : List Ent) (bk : Bool) (nx ps : Value) (birth : Int) (W : World) : Prop where
  row : W.heap[sb]? = some (strO dp size ver (.slice a prs.length c) bk nx ps)
  ent : EntRow lo a c prs W
  box : W.heap[bx]? = some (.cells #[.pointer (some ⟨sb, 0, none⟩)] 72 (0, 0))
  brt : W.heap[cb]? = some (.cells #[.int .i64 birth] 3 (0, 0))
theorem SeeB.keeps {sb bx cb lo : Nat} {dp : Value} {size ver : Int} {a : Option Addr} {c : Nat} {prs : List Ent} {bk : Bool} {nx ps : Value} {birth : Int} {W W' : World} (h : SeeB sb bx cb lo dp size ver a c prs bk nx ps birth W) (k : Keeps [] W W') : SeeB sb bx cb lo dp size ver a c prs bk nx ps birth W' :=
  ⟨k.has h.row (by simp), h.ent.keeps k (by simp), k.has h.box (by simp), k.has h.brt (by simp)⟩
set_option maxRecDepth 100000 in
theorem sabove_one (sb bx cb lo : Nat) (dp : Value) (size ver : Int) (a : Option Addr) (c : Nat) (prs : List Ent) (bk : Bool) (nx ps : Value) (birth : Int) (w : World) (H : SeeB sb bx cb lo dp size ver a c prs bk nx ps birth w) (i : Nat) (x : Ent) (hx : prs[i]? = some x) :
    Calls Tryz.prog 56 #[.int .i64 i, .pointer (some ⟨bx, 0, none⟩), .pointer (some ⟨cb, 0, none⟩)] w fun r w' => r = .returned (.bool (decide (birth < x.birth))) ∧ Keeps [] w w' := by
  have hi := (List.getElem?_eq_some_iff.1 hx).1
  obtain ⟨g, rfl⟩ := H.ent.shape (by omega)
  obtain ⟨y, hy⟩ := ex_hid x.birth
  rw [← hy.out]
  have c0 : w.cell? ⟨bx, 0, none⟩ = some (.pointer (some ⟨sb, 0, none⟩)) := cell_has H.box (i := 0) rfl
  have c1 : w.cell? ⟨cb, 0, none⟩ = some (.int .i64 birth) := cell_has H.brt (i := 0) rfl
  have c2 : w.cell? ⟨sb, 3, none⟩ = some (.slice (some ⟨g, 0, none⟩) prs.length c) := cell_has H.row (i := 3) rfl
  have c3 : w.cell? ⟨g, i * 5 + 4, none⟩ = some (.int .i64 y) := by rw [hy.out]; exact H.ent.cell hx 4 (by omega)
  obtain ⟨n, hn⟩ := ex_hid prs.length
  rw [← hn.out] at c2 hi
  have hi1 : (i : Int) < (n : Int) := by omega
  have hi2 : (0 : Int) ≤ (i : Int) := by omega
  clear H hx
  go_enter Tryz.func56, Tryz.ntmps56
  go_wp2_with fail
  go_region_held3 (fun w' => w'.cell? ⟨bx, 0, none⟩ = some (.pointer (some ⟨sb, 0, none⟩)) ∧ w'.cell? ⟨cb, 0, none⟩ = some (.int .i64 birth) ∧ w'.cell? ⟨sb, 3, none⟩ = some (.slice (some ⟨g, 0, none⟩) n c) ∧ w'.cell? ⟨g, i * 5 + 4, none⟩ = some (.int .i64 y)) (go_keep)
    (fail)
  go_wp2_with fail
  go_ret
  exact ⟨rfl, (Keeps.refl [] w).drew⟩
set_option maxRecDepth 100000 in
set_option maxHeartbeats 2000000 in
/-- Binary search among births that go up. -/
theorem ssearch_any (sb bx cb lo : Nat) (dp : Value) (size ver : Int) (a : Option Addr) (c : Nat) (prs : List Ent) (bk : Bool) (nx ps : Value) (birth : Int) (w : World) (H : SeeB sb bx cb lo dp size ver a c prs bk nx ps birth w) (hu : Ups prs) (hz : prs.length ≤ 1000000) :
    Calls Tryz.prog 55 #[.int .i64 (prs.length : Nat), .func (.func 56) #[] #[.pointer (some ⟨bx, 0, none⟩), .pointer (some ⟨cb, 0, none⟩)]] w fun r w' => r = .returned (.int .i64 (cntL prs birth : Nat)) ∧ Keeps [] w w' := by
  have HS := Lib.hid H
  have HU := Lib.hid hu
  obtain ⟨n, hn⟩ := ex_hid prs.length
  rw [← hn.out] at hz ⊢
  obtain ⟨cnt, hcnt⟩ := ex_hid (cntL prs birth)
  rw [← hcnt.out]
  clear H hu
  go_enter Tryz.func55, Tryz.ntmps55
  go_wp2_with fail
  go_loopg [5, 6] n (fun kx s5 s6 wr => ∃ (lo hi : Nat), s5 = .int .i64 lo ∧ s6 = .int .i64 hi ∧ lo ≤ hi ∧ hi ≤ n ∧ hi - lo ≤ kx ∧ Hid (Keeps [] w wr ∧ (∀ (t : Nat) (x : Ent), t < lo → prs[t]? = some x → ¬ birth < x.birth) ∧ (∀ (t : Nat) (x : Ent), hi ≤ t → prs[t]? = some x → birth < x.birth)))
  case atStart => exact ⟨0, n, rfl, rfl, Nat.zero_le _, Nat.le_refl _, by omega, Lib.hid ⟨Keeps.refl _ _, fun t x ht => absurd ht (Nat.not_lt_zero _), fun t x h1 h2 => by have := (List.getElem?_eq_some_iff.1 h2).1; have := hn.out; omega⟩⟩
  case round =>
    obtain ⟨lo', hi, rfl, rfl, hlh, hin, hg, I⟩ := hrel
    by_cases hlt : lo' < hi
    · obtain ⟨x, hx⟩ : ∃ x, prs[(lo' + hi) / 2]? = some x := ⟨_, List.getElem?_eq_getElem (by have := hn.out; omega)⟩
      have hc := sabove_one sb bx cb lo dp size ver a c prs bk nx ps birth wr (HS.out.keeps I.out.1) ((lo' + hi) / 2) x hx
      rw [show (((lo' + hi) / 2 : Nat) : Int) = ((lo' : Int) + (hi : Int)) / 2 by omega] at hc
      have HX := Lib.hid hx
      clear hx
      cases hp : decide (birth < x.birth) <;> rw [hp] at hc
      · have HP := Lib.hid (of_decide_eq_false hp)
        clear hp
        go_wp2_with (go_at_call 56; refine hc.mono ?_; rintro e w' ⟨rfl, k'⟩)
        have KP := Lib.hid k'
        clear k' hc
        go_roundg (hi - ((lo' + hi) / 2 + 1))
        case measure => omega
        case rel =>
          exact ⟨(lo' + hi) / 2 + 1, hi, by rw [show ((lo' : Int) + (hi : Int)) / 2 + 1 = (((lo' + hi) / 2 + 1 : Nat) : Int) by omega], rfl, by omega, hin, Nat.le_refl _, Lib.hid ⟨I.out.1.trans KP.out, fun t y ht hy => (by
            rcases Nat.lt_or_ge t ((lo' + hi) / 2) with h1 | h1
            · have h2 := HU.out t _ y x h1 hy HX.out; have := HP.out; omega
            · obtain rfl : t = (lo' + hi) / 2 := by omega
              have h3 := HX.out; rw [hy] at h3; cases h3; exact HP.out), I.out.2.2⟩⟩
      · have HP := Lib.hid (of_decide_eq_true hp)
        clear hp
        go_wp2_with (go_at_call 56; refine hc.mono ?_; rintro e w' ⟨rfl, k'⟩)
        have KP := Lib.hid k'
        clear k' hc
        go_roundg ((lo' + hi) / 2 - lo')
        case measure => omega
        case rel =>
          exact ⟨lo', (lo' + hi) / 2, rfl, by rw [show ((lo' : Int) + (hi : Int)) / 2 = (((lo' + hi) / 2 : Nat) : Int) by omega], by omega, by omega, Nat.le_refl _, Lib.hid ⟨I.out.1.trans KP.out, I.out.2.1, fun t y ht hy => (by
            rcases Nat.lt_or_ge ((lo' + hi) / 2) t with h1 | h1
            · have h2 := HU.out _ t x y h1 HX.out hy; have := HP.out; omega
            · obtain rfl : t = (lo' + hi) / 2 := by omega
              have h3 := HX.out; rw [hy] at h3; cases h3; exact HP.out)⟩⟩
    · obtain rfl : hi = lo' := by omega
      have ecnt : cnt = hi := by
        rw [hcnt.out]
        exact HU.out.cnt_is birth hi (by have := hn.out; omega) I.out.2.1 I.out.2.2
      subst ecnt
      go_wp2_with fail
      go_ret
      exact ⟨rfl, I.out.1⟩
set_option maxRecDepth 100000 in
/-- The place behind a birth. -/
theorem sabove_any (lo b : Nat) (F : List Nat) (s : Str) (birth : Int) (w : World) (H : StrAt lo b F s w) (hu : Ups s.prs) (hz : s.prs.length ≤ 1000000) :
    Calls Tryz.prog 54 #[.int .i64 (s.prs.length : Nat), .int .i64 birth, .pointer (some ⟨b + 1, 0, none⟩)] w fun r w' => r = .returned (.int .i64 (cntL s.prs birth : Nat)) ∧ Keeps [] w w' := by
  obtain ⟨⟨a, c, h1, h2, h3⟩, h4, h5, h6, h7, h8, h9⟩ := H
  have k1 : Keeps [] w (w.alloc (.cells #[.int .i64 birth] 3)) := (Keeps.refl [] w).alloc _
  have hc := ssearch_any b (b + 1) w.heap.size lo _ s.size s.ver a c s.prs s.broken _ _ birth (w.alloc (.cells #[.int .i64 birth] 3)) ⟨k1.has h1 (by simp), h2.keeps k1 (by simp), k1.has h4 (by simp), has_new _ _⟩ hu hz
  have K1 := Lib.hid k1
  obtain ⟨n, hn⟩ := ex_hid s.prs.length
  obtain ⟨cnt, hcnt⟩ := ex_hid (cntL s.prs birth)
  rw [← hn.out, ← hcnt.out] at hc
  rw [← hn.out, ← hcnt.out]
  clear h1 h2 h3 h4 h5 h6 h7 h8 h9 k1 hu hz
  go_enter Tryz.func54, Tryz.ntmps54
  go_wp2_with (go_at_call 55; refine hc.mono ?_; rintro e w' ⟨rfl, k'⟩)
  go_ret
  exact ⟨rfl, K1.out.trans k'⟩
set_option maxRecDepth 100000 in
/-- The place of the pair that comes next. -/
theorem splace_any (lo b : Nat) (F : List Nat) (s : Str) (w : World) (H : StrAt lo b F s w) (hu : Ups s.prs) (hz : s.prs.length ≤ 1000000) (l0 : 0 ≤ s.last) (l1 : s.last ≤ 1000000) :
    Calls Tryz.prog (if s.back = true then 58 else 57) #[.int .i64 (s.prs.length : Nat), .pointer (some ⟨b + 2, 0, none⟩), .pointer (some ⟨b + 4, 0, none⟩), .pointer (some ⟨b + 3, 0, none⟩)] w fun r w' => r = .returned (.int .i64 s.place) ∧ Keeps [] w w' := by
  have c2 : w.cell? ⟨b + 2, 0, none⟩ = some (.bool s.told) := cell_has H.told (i := 0) rfl
  have c3 : w.cell? ⟨b + 3, 0, none⟩ = some (.int .i64 s.last) := cell_has H.last (i := 0) rfl
  have c4 : w.cell? ⟨b + 4, 0, none⟩ = some (aboveF (b + 1)) := cell_has H.above (i := 0) rfl
  have HC := Lib.hid (fun birth => sabove_any lo b F s birth w H hu hz)
  have e1 := cntL_len s.prs s.last
  have e2 := cntL_len s.prs (s.last - 1)
  obtain ⟨pl, hpl⟩ := ex_hid s.place
  have HPL := Lib.hid (show pl = if s.told = false then (if s.back = true then (s.prs.length : Int) - 1 else 0) else if s.back = true then (cntL s.prs (s.last - 1) : Int) - 1 else (cntL s.prs s.last : Int) from hpl.out)
  rw [← hpl.out]
  obtain ⟨ls, hls⟩ := ex_hid s.last
  obtain ⟨n, hn⟩ := ex_hid s.prs.length
  rw [← hls.out] at c3 l0 l1 e1 e2
  rw [← hn.out] at hz e1 e2
  rw [← hn.out]
  unfold aboveF at c4
  clear H hu hpl
  cases hb : s.back
  all_goals
    simp only [Bool.false_eq_true, if_true, if_false]
  all_goals
    cases ht : s.told
  all_goals
    rw [ht] at c2
    rw [hb, ht] at HPL
    simp only [Bool.false_eq_true, Bool.true_eq_false, if_true, if_false] at HPL
    clear hb ht
  · go_enter Tryz.func57, Tryz.ntmps57
    go_wp2_with fail
    go_ret
    exact ⟨by rw [HPL.out]; rfl, Keeps.refl _ _⟩
  · have hc := HC.out ls
    rw [← hls.out] at HPL
    obtain ⟨cn, hcn⟩ := ex_hid (cntL s.prs ls)
    rw [← hcn.out] at hc e1
    rw [← hn.out] at hc
    go_enter Tryz.func57, Tryz.ntmps57
    go_wp2_with (go_at_call 54; refine hc.mono ?_; rintro e w' ⟨rfl, k'⟩)
    go_ret
    exact ⟨by rw [HPL.out, hcn.out]; first | rfl | skip, k'⟩
  · go_enter Tryz.func58, Tryz.ntmps58
    go_wp2_with fail
    go_ret
    exact ⟨by rw [HPL.out, hn.out]; rfl, Keeps.refl _ _⟩
  · have hc := HC.out (ls - 1)
    rw [← hls.out] at HPL
    obtain ⟨cn, hcn⟩ := ex_hid (cntL s.prs (ls - 1))
    rw [← hcn.out] at hc e2
    rw [← hn.out] at hc
    go_enter Tryz.func58, Tryz.ntmps58
    go_wp2_with (go_at_call 54; refine hc.mono ?_; rintro e w' ⟨rfl, k'⟩)
    go_ret
    exact ⟨by rw [HPL.out, hcn.out]; first | rfl | skip, k'⟩
end Go.Proofs.YtcakdmapnmneoaaGreat
end

section
namespace Go.Proofs.YtcakdmapnmneoaaGreat
open Go.RowKit
set_option linter.unusedVariables false
set_option linter.unusedSimpArgs false

def ent9 (x : Ent) : Obj := .cells #[.bool x.live, .int .i64 x.hash, .int .i64 x.key, .int .i64 x.val, .int .i64 x.birth] 78 (0, 0)
theorem ent9_store {W : World} {b : Nat} (y x : Ent) (h : W.heap[b]? = some (ent9 y)) :
    (((((W.setCell ⟨b, 0, none⟩ (.bool x.live)).setCell ⟨b, 1, none⟩ (.int .i64 x.hash)).setCell ⟨b, 2, none⟩ (.int .i64 x.key)).setCell ⟨b, 3, none⟩ (.int .i64 x.val)).setCell ⟨b, 4, none⟩ (.int .i64 x.birth)).heap[b]? = some (ent9 x) ∧ Keeps [b] W (((((W.setCell ⟨b, 0, none⟩ (.bool x.live)).setCell ⟨b, 1, none⟩ (.int .i64 x.hash)).setCell ⟨b, 2, none⟩ (.int .i64 x.key)).setCell ⟨b, 3, none⟩ (.int .i64 x.val)).setCell ⟨b, 4, none⟩ (.int .i64 x.birth)) := by
  unfold ent9 at h
  have h0 := has_setCell h 0 (.bool x.live)
  simp only [List.setIfInBounds_toArray, List.set_cons_zero] at h0
  have h1 := has_setCell h0 1 (.int .i64 x.hash)
  simp only [List.setIfInBounds_toArray, List.set_cons_zero, List.set_cons_succ] at h1
  have h2 := has_setCell h1 2 (.int .i64 x.key)
  simp only [List.setIfInBounds_toArray, List.set_cons_zero, List.set_cons_succ] at h2
  have h3 := has_setCell h2 3 (.int .i64 x.val)
  simp only [List.setIfInBounds_toArray, List.set_cons_zero, List.set_cons_succ] at h3
  have h4 := has_setCell h3 4 (.int .i64 x.birth)
  simp only [List.setIfInBounds_toArray, List.set_cons_zero, List.set_cons_succ] at h4
  exact ⟨h4, ((((((Keeps.refl [b] W).setCell (p := ⟨b, 0, none⟩) (.inr (by simp)) _).setCell (p := ⟨b, 1, none⟩) (.inr (by simp)) _).setCell (p := ⟨b, 2, none⟩) (.inr (by simp)) _).setCell (p := ⟨b, 3, none⟩) (.inr (by simp)) _).setCell (p := ⟨b, 4, none⟩) (.inr (by simp)) _)⟩
theorem ent9_cells {W : World} {b : Nat} {y : Ent} (h : W.heap[b]? = some (ent9 y)) :
    W.cell? ⟨b, 0, none⟩ = some (.bool y.live) ∧ W.cell? ⟨b, 1, none⟩ = some (.int .i64 y.hash) ∧ W.cell? ⟨b, 2, none⟩ = some (.int .i64 y.key) ∧ W.cell? ⟨b, 3, none⟩ = some (.int .i64 y.val) ∧ W.cell? ⟨b, 4, none⟩ = some (.int .i64 y.birth) :=
  ⟨cell_has h (i := 0) rfl, cell_has h (i := 1) rfl, cell_has h (i := 2) rfl, cell_has h (i := 3) rfl, cell_has h (i := 4) rfl⟩
theorem ent9_free {W : World} {b : Nat} {y : Ent} (h : W.heap[b]? = some (ent9 y)) :
    W.frozen? ⟨b, 0, none⟩ = false ∧ W.frozen? ⟨b, 1, none⟩ = false ∧ W.frozen? ⟨b, 2, none⟩ = false ∧ W.frozen? ⟨b, 3, none⟩ = false ∧ W.frozen? ⟨b, 4, none⟩ = false :=
  ⟨free_of_has h 0, free_of_has h 1, free_of_has h 2, free_of_has h 3, free_of_has h 4⟩
theorem str_cells {W : World} {b : Nat} {dp : Value} {size ver : Int} {prs : Value} {bk : Bool} {nx ps : Value} (h : W.heap[b]? = some (strO dp size ver prs bk nx ps)) :
    W.cell? ⟨b, 0, none⟩ = some dp ∧ W.cell? ⟨b, 1, none⟩ = some (.int .i64 size) ∧ W.cell? ⟨b, 2, none⟩ = some (.int .i64 ver) ∧ W.cell? ⟨b, 3, none⟩ = some prs ∧ W.cell? ⟨b, 4, none⟩ = some (.bool bk) ∧ W.cell? ⟨b, 5, none⟩ = some nx ∧ W.cell? ⟨b, 6, none⟩ = some ps :=
  ⟨cell_has h (i := 0) rfl, cell_has h (i := 1) rfl, cell_has h (i := 2) rfl, cell_has h (i := 3) rfl, cell_has h (i := 4) rfl, cell_has h (i := 5) rfl, cell_has h (i := 6) rfl⟩
theorem str_set4 {W : World} {b : Nat} {dp : Value} {size ver : Int} {prs : Value} {bk : Bool} {nx ps : Value} (h : W.heap[b]? = some (strO dp size ver prs bk nx ps)) (bk' : Bool) : (W.setCell ⟨b, 4, none⟩ (.bool bk')).heap[b]? = some (strO dp size ver prs bk' nx ps) ∧ Keeps [b] W (W.setCell ⟨b, 4, none⟩ (.bool bk')) := by
  unfold strO at h
  have h0 := has_setCell h 4 (.bool bk')
  simp only [List.setIfInBounds_toArray, List.set_cons_zero, List.set_cons_succ] at h0
  exact ⟨h0, (Keeps.refl [b] W).setCell (p := ⟨b, 4, none⟩) (.inr (by simp)) _⟩
theorem str_set0 {W : World} {b : Nat} {dp : Value} {size ver : Int} {prs : Value} {bk : Bool} {nx ps : Value} (h : W.heap[b]? = some (strO dp size ver prs bk nx ps)) (dp' : Value) : (W.setCell ⟨b, 0, none⟩ dp').heap[b]? = some (strO dp' size ver prs bk nx ps) ∧ Keeps [b] W (W.setCell ⟨b, 0, none⟩ dp') := by
  unfold strO at h
  have h0 := has_setCell h 0 dp'
  simp only [List.setIfInBounds_toArray, List.set_cons_zero, List.set_cons_succ] at h0
  exact ⟨h0, (Keeps.refl [b] W).setCell (p := ⟨b, 0, none⟩) (.inr (by simp)) _⟩
theorem str_set23 {W : World} {b : Nat} {dp : Value} {size ver : Int} {prs : Value} {bk : Bool} {nx ps : Value} (h : W.heap[b]? = some (strO dp size ver prs bk nx ps)) (ver' : Int) (prs' : Value) : ((W.setCell ⟨b, 2, none⟩ (.int .i64 ver')).setCell ⟨b, 3, none⟩ prs').heap[b]? = some (strO dp size ver' prs' bk nx ps) ∧ Keeps [b] W ((W.setCell ⟨b, 2, none⟩ (.int .i64 ver')).setCell ⟨b, 3, none⟩ prs') := by
  unfold strO at h
  have h0 := has_setCell h 2 (.int .i64 ver')
  simp only [List.setIfInBounds_toArray, List.set_cons_zero, List.set_cons_succ] at h0
  have h1 := has_setCell h0 3 prs'
  simp only [List.setIfInBounds_toArray, List.set_cons_zero, List.set_cons_succ] at h1
  exact ⟨h1, ((Keeps.refl [b] W).setCell (p := ⟨b, 2, none⟩) (.inr (by simp)) _).setCell (p := ⟨b, 3, none⟩) (.inr (by simp)) _⟩
/-- Behind a Next. -/
def StrNP (lo b : Nat) (F : List Nat) (d : Dic) (s : Str) (w : World) (r : Ending) (w' : World) : Prop :=
  ∃ F', r = .returned (.tuple #[(strX d s).agg, .int .i64 (strE d s)]) ∧ StrAt lo b F' (strN d s) w' ∧ Grew F w F' ∧ Keeps [b, b + 2, b + 3] w w'
/-- The stroll has broken, or breaks: b4 its flag. -/
theorem str_brk {lo b : Nat} {F : List Nat} {s : Str} {W W' : World} (h : StrAt lo b F s W) (bk : Bool) (hb : ∀ a c, W.heap[b]? = some (strO (dpV s.dp) s.size s.ver (.slice a s.prs.length c) s.broken (nextF s.back (b + 2) (b + 4) (b + 3)) (passF (b + 2) (b + 3))) → W'.heap[b]? = some (strO (dpV s.dp) s.size s.ver (.slice a s.prs.length c) bk (nextF s.back (b + 2) (b + 4) (b + 3)) (passF (b + 2) (b + 3)))) (k : Keeps [b] W W') : StrAt lo b F { s with broken := bk } W' := by
  obtain ⟨⟨a, c, h1, h2, h3⟩, h4, h5, h6, h7, h8, h9⟩ := h
  refine ⟨⟨a, c, hb a c h1, h2.keeps k (fun x hx hq => ?_), h3⟩, k.has h4 (by simp), k.has h5 (by simp), k.has h6 (by simp), k.has h7 (by simp), h8, fun x hx => by have := h9 x hx; have := k.size; omega⟩
  simp at hq; subst hq
  exact h2.notin h1 (by decide) hx
set_option maxRecDepth 100000 in
set_option maxHeartbeats 2000000 in
theorem snext_stop (db t lo2 lo b : Nat) (S F : List Nat) (mv : Value) (d : Dic) (s : Str) (w : World) (HD : DicAt db t lo2 S mv d w) (HS : StrAt lo b F s w) (hd : s.dp = some db) (hb : s.broken = true ∨ liveN d.T.E ≠ s.size) :
    Calls Tryz.prog 21 #[.pointer (some ⟨b, 0, none⟩)] w (StrNP lo b F d s w) := by
  have HD0 := Lib.hid HD
  have HS0 := Lib.hid HS
  have HB := Lib.hid hb
  obtain ⟨lr, hlr⟩ : ∃ lr, lr = w.heap.size := ⟨_, rfl⟩
  have HLR := Lib.hid hlr
  obtain ⟨WA, hWA⟩ : ∃ WA, w.alloc (.cells #[.bool false, .int .i64 0, .int .i64 0, .int .i64 0, .int .i64 0] 78) = WA := ⟨_, rfl⟩
  have kb : Keeps [] w WA := by rw [← hWA]; exact (Keeps.refl [] w).alloc _
  have KB := Lib.hid kb
  have BR := Lib.hid (show WA.heap[lr]? = some (ent9 noE) by rw [← hWA, hlr]; exact has_new _ _)
  have HWA := Lib.hid hWA
  have SA := Lib.hid (HS.keeps kb (by simp))
  have DA := Lib.hid (HD.keeps kb (by simp) (by simp))
  have lb : b < w.heap.size := (HS.lo _ (HS.five 0 (by omega))).2
  have LB := Lib.hid lb
  obtain ⟨a, c, h1, _⟩ := SA.out.row
  rw [hd] at h1
  obtain ⟨c0, c1, c2, c3, c4, _, _⟩ := str_cells h1
  have f4 := free_of_has h1 4
  have c0' : WA.cell? ⟨b, 0, none⟩ = some (.pointer (some ⟨db, 0, none⟩)) := c0
  have HDP := Lib.hid hd
  have H1 := Lib.hid h1
  clear HD HS hb hlr hWA kb lb h1 c0 c2 c3 hd
  go_enter Tryz.func21, Tryz.ntmps21
  go_upto_region 1 with (fail)
  rw [HWA.out, ← HLR.out]
  go_upto_region 3 with (fail)
  have fin : ∀ W9 W10 : World, W9.heap[b]? = some (strO (dpV s.dp) s.size s.ver (.slice a s.prs.length c) true (nextF s.back (b + 2) (b + 4) (b + 3)) (passF (b + 2) (b + 3))) → Keeps [b] WA W9 → Keeps [lr] W9 W10 → StrNP lo b F d s w (.returned (.tuple #[noE.agg, .int .i64 9])) W10 := fun W9 W10 h9 k9 k10 => by
    have hlr := HLR.out
    have lF := HS0.out.lo
    refine ⟨F, ?_, ?_, Grew.refl _ _, ?_⟩
    · unfold strX strE; rw [if_pos HB.out, if_pos HB.out]
    · unfold strN; rw [if_pos HB.out]
      refine (str_brk SA.out true (fun a' c' h' => ?_) k9).keeps k10 (fun x hx hq => ?_)
      · have h2 := H1.out
        have e0 : dpV s.dp = .pointer (some ⟨db, 0, none⟩) := by rw [HDP.out]; rfl
        rw [e0] at h' h9 ⊢
        rw [H1.out] at h'
        unfold strO at h'
        simp at h'
        rw [← h'.2.1, ← h'.2.2]; exact h9
      · simp at hq; have := lF x hx; omega
    · exact ((((KB.out.mono (by simp) : Keeps [b] w WA).trans k9).then k10 (fun x hx => by simp at hx; left; omega)).mono (by simp) : Keeps [b, b + 2, b + 3] w W10)
  have FIN := Lib.hid fin
  clear fin
  have HW3 : ∀ V : World, V = WA.drew.setCell ⟨b, 4, none⟩ (.bool true) → V.heap[b]? = some (strO (dpV s.dp) s.size s.ver (.slice a s.prs.length c) true (nextF s.back (b + 2) (b + 4) (b + 3)) (passF (b + 2) (b + 3))) ∧ Keeps [b] WA V := fun V hV => by
    have e0 : dpV s.dp = .pointer (some ⟨db, 0, none⟩) := by rw [HDP.out]; rfl
    rw [e0, hV]
    exact ⟨(str_set4 (W := WA.drew) H1.out true).1, ((Keeps.refl [b] WA).drew).trans (str_set4 (W := WA.drew) H1.out true).2⟩
  have HW3' := Lib.hid HW3
  clear HW3
  cases hbk : s.broken
  · have hne : liveN d.T.E ≠ s.size := by rcases HB.out with h | h; rw [hbk] at h; cases h; exact h
    rw [hbk] at c4
    obtain ⟨ln, hln⟩ := ex_hid (liveN d.T.E)
    obtain ⟨sz, hsz⟩ := ex_hid s.size
    rw [← hsz.out] at c1
    have hne2 : ((ln : Int) != (sz : Int)) = true := by rw [hln.out, hsz.out]; simp; omega
    clear hbk hne
    refine wp_regionG (fun w' => w'.cell? ⟨b, 4, none⟩ = some (.bool false) ∧ w'.cell? ⟨b, 0, none⟩ = some (.pointer (some ⟨db, 0, none⟩)) ∧ w'.cell? ⟨b, 1, none⟩ = some (.int .i64 sz)) 19 (by kernel_rfl) ⟨c4, c0', c1⟩ (fun hF => ?_)
    refine wpAnyG_takeY (i := 0) (v := ?_) rfl (by kernel_rfl) (by decide +kernel) (by decide +kernel) (by decide +kernel) (fun _ _ _ h => h) (by kernel_rfl) ?_ (by assumption) ?_
    rotate_left
    · (intro wz; go_simp; with_reducible rfl)
    try simp only [Act.put, List.setIfInBounds_toArray, List.set_cons_zero, List.set_cons_succ]
    refine wpAnyG_takeY (i := 1) (v := ?_) rfl (by kernel_rfl) (by decide +kernel) (by decide +kernel) (by decide +kernel) (fun _ _ _ h => h) (by kernel_rfl) ?_ (by assumption) ?_
    rotate_left
    · (intro wz; go_simp; with_reducible rfl)
    try simp only [Act.put, List.setIfInBounds_toArray, List.set_cons_zero, List.set_cons_succ]
    refine wpAnyG_takeY (i := 2) (v := ?_) rfl (by kernel_rfl) (by decide +kernel) (by decide +kernel) (by decide +kernel) (fun _ _ _ h => h) (by kernel_rfl) ?_ (by assumption) ?_
    rotate_left
    · (intro wz; go_simp; with_reducible rfl)
    try simp only [Act.put, List.setIfInBounds_toArray, List.set_cons_zero, List.set_cons_succ]
    refine wpAnyG_takeY (i := 3) (v := ?_) rfl (by kernel_rfl) (by decide +kernel) (by decide +kernel) (by decide +kernel) (fun _ _ _ h => h) (by kernel_rfl) ?_ (by assumption) ?_
    rotate_left
    · (intro wz; go_simp; with_reducible rfl)
    try simp only [Act.put, List.setIfInBounds_toArray, List.set_cons_zero, List.set_cons_succ]
    refine wpAnyG_take (i := 4) (v := ?_) rfl (by kernel_rfl) (by decide +kernel) (by decide +kernel) (by decide +kernel) (by decide +kernel) (by rfl) (fun _ _ _ h => h) (by kernel_rfl) ?_ (by assumption) ?_
    rotate_left
    · (intro wz hSw; (try dsimp only at hSw); go_simp; with_reducible rfl)
    try simp only [Act.put, List.setIfInBounds_toArray, List.set_cons_zero, List.set_cons_succ]
    refine wpAnyG_takeY (i := 5) (v := ?_) rfl (by kernel_rfl) (by decide +kernel) (by decide +kernel) (by decide +kernel) (fun _ _ _ h => h) (by kernel_rfl) ?_ (by assumption) ?_
    rotate_left
    · (intro wz; go_simp; with_reducible rfl)
    try simp only [Act.put, List.setIfInBounds_toArray, List.set_cons_zero, List.set_cons_succ]
    refine wpAnyG_takeY (i := 6) (v := ?_) rfl (by kernel_rfl) (by decide +kernel) (by decide +kernel) (by decide +kernel) (fun _ _ _ h => h) (by kernel_rfl) ?_ (by assumption) ?_
    rotate_left
    · (intro wz; go_simp; with_reducible rfl)
    try simp only [Act.put, List.setIfInBounds_toArray, List.set_cons_zero, List.set_cons_succ]
    refine wpAnyG_takeY (i := 7) (v := ?_) rfl (by kernel_rfl) (by decide +kernel) (by decide +kernel) (by decide +kernel) (fun _ _ _ h => h) (by kernel_rfl) ?_ (by assumption) ?_
    rotate_left
    · (intro wz; go_simp; with_reducible rfl)
    try simp only [Act.put, List.setIfInBounds_toArray, List.set_cons_zero, List.set_cons_succ]
    refine wpAnyG_takeY (i := 8) (v := ?_) rfl (by kernel_rfl) (by decide +kernel) (by decide +kernel) (by decide +kernel) (fun _ _ _ h => h) (by kernel_rfl) ?_ (by assumption) ?_
    rotate_left
    · (intro wz; go_simp; with_reducible rfl)
    try simp only [Act.put, List.setIfInBounds_toArray, List.set_cons_zero, List.set_cons_succ]
    refine wpAnyG_take (i := 9) (v := ?_) rfl (by kernel_rfl) (by decide +kernel) (by decide +kernel) (by decide +kernel) (by decide +kernel) (by rfl) (fun _ _ _ h => h) (by kernel_rfl) ?_ (by assumption) ?_
    rotate_left
    · (intro wz hSw; (try dsimp only at hSw); go_simp; with_reducible rfl)
    try simp only [Act.put, List.setIfInBounds_toArray, List.set_cons_zero, List.set_cons_succ]
    refine wpAnyG_takeY (i := 11) (v := ?_) rfl (by kernel_rfl) (by decide +kernel) (by decide +kernel) (by decide +kernel) (fun _ _ _ h => h) (by kernel_rfl) ?_ (by assumption) ?_
    rotate_left
    · (intro wz; go_simp; with_reducible rfl)
    try simp only [Act.put, List.setIfInBounds_toArray, List.set_cons_zero, List.set_cons_succ]
    refine wpAnyG_takeY (i := 12) (v := ?_) rfl (by kernel_rfl) (by decide +kernel) (by decide +kernel) (by decide +kernel) (fun _ _ _ h => h) (by kernel_rfl) ?_ (by assumption) ?_
    rotate_left
    · (intro wz; go_simp; with_reducible rfl)
    try simp only [Act.put, List.setIfInBounds_toArray, List.set_cons_zero, List.set_cons_succ]
    refine wpAnyG_takeY (i := 13) (v := ?_) rfl (by kernel_rfl) (by decide +kernel) (by decide +kernel) (by decide +kernel) (fun _ _ _ h => h) (by kernel_rfl) ?_ (by assumption) ?_
    rotate_left
    · (intro wz; go_simp; with_reducible rfl)
    try simp only [Act.put, List.setIfInBounds_toArray, List.set_cons_zero, List.set_cons_succ]
    refine wpAnyG_take (i := 14) (v := ?_) rfl (by kernel_rfl) (by decide +kernel) (by decide +kernel) (by decide +kernel) (by decide +kernel) (by rfl) (fun _ _ _ h => h) (by kernel_rfl) ?_ (by assumption) ?_
    rotate_left
    · (intro wz hSw; (try dsimp only at hSw); go_simp; with_reducible rfl)
    try simp only [Act.put, List.setIfInBounds_toArray, List.set_cons_zero, List.set_cons_succ]
    refine wpAnyG_one (i := 10) rfl (by kernel_rfl) (by kernel_rfl) (fun K hK => ?_)
    have HK := Lib.hid hK
    clear hK
    go_simp
    refine (dlen_any db t lo2 S mv d WA.drew (DA.out.keeps (Keeps.refl [] WA).drew (by simp) (by simp))).mono ?_
    rintro r w2 ⟨rfl, rfl⟩
    rw [← hln.out]
    refine HK.out _ _ hF ?_
    clear HK K
    try simp only [Act.put, List.setIfInBounds_toArray, List.set_cons_zero, List.set_cons_succ]
    refine wpAnyG_takeY (i := 15) (v := ?_) rfl (by kernel_rfl) (by decide +kernel) (by decide +kernel) (by decide +kernel) (fun _ _ _ h => h) (by kernel_rfl) ?_ (by assumption) ?_
    rotate_left
    · (intro wz; go_simp; with_reducible rfl)
    try simp only [Act.put, List.setIfInBounds_toArray, List.set_cons_zero, List.set_cons_succ]
    refine wpAnyG_takeY (i := 16) (v := ?_) rfl (by kernel_rfl) (by decide +kernel) (by decide +kernel) (by decide +kernel) (fun _ _ _ h => h) (by kernel_rfl) ?_ (by assumption) ?_
    rotate_left
    · (intro wz; go_simp; with_reducible rfl)
    try simp only [Act.put, List.setIfInBounds_toArray, List.set_cons_zero, List.set_cons_succ]
    refine wpAnyG_takeY (i := 17) (v := ?_) rfl (by kernel_rfl) (by decide +kernel) (by decide +kernel) (by decide +kernel) (fun _ _ _ h => h) (by kernel_rfl) ?_ (by assumption) ?_
    rotate_left
    · (intro wz; go_simp; with_reducible rfl)
    try simp only [Act.put, List.setIfInBounds_toArray, List.set_cons_zero, List.set_cons_succ]
    refine wpAnyG_takeY (i := 18) (v := ?_) rfl (by kernel_rfl) (by decide +kernel) (by decide +kernel) (by decide +kernel) (fun _ _ _ h => h) (by kernel_rfl) ?_ (by assumption) ?_
    rotate_left
    · (intro wz; go_simp; with_reducible rfl)
    try simp only [Act.put, List.setIfInBounds_toArray, List.set_cons_zero, List.set_cons_succ]
    refine wpAnyG_last rfl (by kernel_rfl) (by rfl) (by rfl) (fun K hK => ?_)
    have HK := Lib.hid hK
    clear hK
    go_simp
    refine HK.out _ _ ?_
    clear HK K hF
    refine wpAnyG_done (by kernel_rfl) ?_ _
    go_simp
    go_upto_region 4 with (fail)
    refine wp_gen (fun V => V.heap[b]? = some (strO (dpV s.dp) s.size s.ver (.slice a s.prs.length c) true (nextF s.back (b + 2) (b + 4) (b + 3)) (passF (b + 2) (b + 3))) ∧ Keeps [b] WA V) (HW3'.out _ rfl) ?_
    rintro W3 ⟨b3, k3⟩
    have x4 : W3.cell? ⟨b, 4, none⟩ = some (.bool true) := cell_has b3 (i := 4) rfl
    have r3 := k3.has BR.out (by simp; have := LB.out; have := HLR.out; omega)
    obtain ⟨t0, t1, t2, t3, t4⟩ := ent9_cells r3
    obtain ⟨u0, u1, u2, u3, u4⟩ := ent9_free r3
    have G1 := Lib.hid (fun W10 => FIN.out W3 W10 b3 k3)
    have R3 := Lib.hid r3
    clear b3 k3 r3 c4 c0' c1 hne2 f4
    go_wp2_with fail
    obtain ⟨v1, v2⟩ := ent9_store noE noE R3.out
    have rc := cell_of_has v1
    simp only [noE] at rc
    exact bodyPost_ret (v := .tuple #[noE.agg, .int .i64 9]) (by simp [results, Tryz.results21, go_sem, Ent.agg, noE, rc]) rfl (G1.out _ v2)
  · rw [hbk] at c4
    clear hbk
    refine wp_regionG (fun w' => w'.cell? ⟨b, 4, none⟩ = some (.bool true)) 19 (by kernel_rfl) c4 (fun hF => ?_)
    refine wpAnyG_takeY (i := 0) (v := ?_) rfl (by kernel_rfl) (by decide +kernel) (by decide +kernel) (by decide +kernel) (fun _ _ _ h => h) (by kernel_rfl) ?_ (by assumption) ?_
    rotate_left
    · (intro wz; go_simp; with_reducible rfl)
    try simp only [Act.put, List.setIfInBounds_toArray, List.set_cons_zero, List.set_cons_succ]
    refine wpAnyG_takeY (i := 1) (v := ?_) rfl (by kernel_rfl) (by decide +kernel) (by decide +kernel) (by decide +kernel) (fun _ _ _ h => h) (by kernel_rfl) ?_ (by assumption) ?_
    rotate_left
    · (intro wz; go_simp; with_reducible rfl)
    try simp only [Act.put, List.setIfInBounds_toArray, List.set_cons_zero, List.set_cons_succ]
    refine wpAnyG_takeY (i := 2) (v := ?_) rfl (by kernel_rfl) (by decide +kernel) (by decide +kernel) (by decide +kernel) (fun _ _ _ h => h) (by kernel_rfl) ?_ (by assumption) ?_
    rotate_left
    · (intro wz; go_simp; with_reducible rfl)
    try simp only [Act.put, List.setIfInBounds_toArray, List.set_cons_zero, List.set_cons_succ]
    refine wpAnyG_takeY (i := 3) (v := ?_) rfl (by kernel_rfl) (by decide +kernel) (by decide +kernel) (by decide +kernel) (fun _ _ _ h => h) (by kernel_rfl) ?_ (by assumption) ?_
    rotate_left
    · (intro wz; go_simp; with_reducible rfl)
    try simp only [Act.put, List.setIfInBounds_toArray, List.set_cons_zero, List.set_cons_succ]
    refine wpAnyG_take (i := 4) (v := ?_) rfl (by kernel_rfl) (by decide +kernel) (by decide +kernel) (by decide +kernel) (by decide +kernel) (by rfl) (fun _ _ _ h => h) (by kernel_rfl) ?_ (by assumption) ?_
    rotate_left
    · (intro wz hSw; (try dsimp only at hSw); go_simp; with_reducible rfl)
    try simp only [Act.put, List.setIfInBounds_toArray, List.set_cons_zero, List.set_cons_succ]
    refine wpAnyG_takeY (i := 5) (v := ?_) rfl (by kernel_rfl) (by decide +kernel) (by decide +kernel) (by decide +kernel) (fun _ _ _ h => h) (by kernel_rfl) ?_ (by assumption) ?_
    rotate_left
    · (intro wz; go_simp; with_reducible rfl)
    try simp only [Act.put, List.setIfInBounds_toArray, List.set_cons_zero, List.set_cons_succ]
    refine wpAnyG_takeU (i := 6) rfl (by kernel_rfl) (by decide +kernel) (by decide +kernel) (by decide +kernel) (fun _ _ _ h => h) (by kernel_rfl) (by assumption) ?_
    try simp only [Act.put, List.setIfInBounds_toArray, List.set_cons_zero, List.set_cons_succ]
    refine wpAnyG_takeU (i := 7) rfl (by kernel_rfl) (by decide +kernel) (by decide +kernel) (by decide +kernel) (fun _ _ _ h => h) (by kernel_rfl) (by assumption) ?_
    try simp only [Act.put, List.setIfInBounds_toArray, List.set_cons_zero, List.set_cons_succ]
    refine wpAnyG_takeU (i := 8) rfl (by kernel_rfl) (by decide +kernel) (by decide +kernel) (by decide +kernel) (fun _ _ _ h => h) (by kernel_rfl) (by assumption) ?_
    try simp only [Act.put, List.setIfInBounds_toArray, List.set_cons_zero, List.set_cons_succ]
    refine wpAnyG_takeU (i := 9) rfl (by kernel_rfl) (by decide +kernel) (by decide +kernel) (by decide +kernel) (fun _ _ _ h => h) (by kernel_rfl) (by assumption) ?_
    try simp only [Act.put, List.setIfInBounds_toArray, List.set_cons_zero, List.set_cons_succ]
    refine wpAnyG_takeU (i := 10) rfl (by kernel_rfl) (by decide +kernel) (by decide +kernel) (by decide +kernel) (fun _ _ _ h => h) (by kernel_rfl) (by assumption) ?_
    try simp only [Act.put, List.setIfInBounds_toArray, List.set_cons_zero, List.set_cons_succ]
    refine wpAnyG_takeU (i := 11) rfl (by kernel_rfl) (by decide +kernel) (by decide +kernel) (by decide +kernel) (fun _ _ _ h => h) (by kernel_rfl) (by assumption) ?_
    try simp only [Act.put, List.setIfInBounds_toArray, List.set_cons_zero, List.set_cons_succ]
    refine wpAnyG_takeU (i := 12) rfl (by kernel_rfl) (by decide +kernel) (by decide +kernel) (by decide +kernel) (fun _ _ _ h => h) (by kernel_rfl) (by assumption) ?_
    try simp only [Act.put, List.setIfInBounds_toArray, List.set_cons_zero, List.set_cons_succ]
    refine wpAnyG_takeU (i := 13) rfl (by kernel_rfl) (by decide +kernel) (by decide +kernel) (by decide +kernel) (fun _ _ _ h => h) (by kernel_rfl) (by assumption) ?_
    try simp only [Act.put, List.setIfInBounds_toArray, List.set_cons_zero, List.set_cons_succ]
    refine wpAnyG_takeU (i := 14) rfl (by kernel_rfl) (by decide +kernel) (by decide +kernel) (by decide +kernel) (fun _ _ _ h => h) (by kernel_rfl) (by assumption) ?_
    try simp only [Act.put, List.setIfInBounds_toArray, List.set_cons_zero, List.set_cons_succ]
    refine wpAnyG_takeU (i := 15) rfl (by kernel_rfl) (by decide +kernel) (by decide +kernel) (by decide +kernel) (fun _ _ _ h => h) (by kernel_rfl) (by assumption) ?_
    try simp only [Act.put, List.setIfInBounds_toArray, List.set_cons_zero, List.set_cons_succ]
    refine wpAnyG_takeY (i := 16) (v := ?_) rfl (by kernel_rfl) (by decide +kernel) (by decide +kernel) (by decide +kernel) (fun _ _ _ h => h) (by kernel_rfl) ?_ (by assumption) ?_
    rotate_left
    · (intro wz; go_simp; with_reducible rfl)
    try simp only [Act.put, List.setIfInBounds_toArray, List.set_cons_zero, List.set_cons_succ]
    refine wpAnyG_takeY (i := 17) (v := ?_) rfl (by kernel_rfl) (by decide +kernel) (by decide +kernel) (by decide +kernel) (fun _ _ _ h => h) (by kernel_rfl) ?_ (by assumption) ?_
    rotate_left
    · (intro wz; go_simp; with_reducible rfl)
    try simp only [Act.put, List.setIfInBounds_toArray, List.set_cons_zero, List.set_cons_succ]
    refine wpAnyG_takeY (i := 18) (v := ?_) rfl (by kernel_rfl) (by decide +kernel) (by decide +kernel) (by decide +kernel) (fun _ _ _ h => h) (by kernel_rfl) ?_ (by assumption) ?_
    rotate_left
    · (intro wz; go_simp; with_reducible rfl)
    try simp only [Act.put, List.setIfInBounds_toArray, List.set_cons_zero, List.set_cons_succ]
    refine wpAnyG_last rfl (by kernel_rfl) (by rfl) (by rfl) (fun K hK => ?_)
    have HK := Lib.hid hK
    clear hK
    go_simp
    refine HK.out _ _ ?_
    clear HK K hF
    refine wpAnyG_done (by kernel_rfl) ?_ _
    go_simp
    go_upto_region 4 with (fail)
    refine wp_gen (fun V => V.heap[b]? = some (strO (dpV s.dp) s.size s.ver (.slice a s.prs.length c) true (nextF s.back (b + 2) (b + 4) (b + 3)) (passF (b + 2) (b + 3))) ∧ Keeps [b] WA V) (HW3'.out _ rfl) ?_
    rintro W3 ⟨b3, k3⟩
    have x4 : W3.cell? ⟨b, 4, none⟩ = some (.bool true) := cell_has b3 (i := 4) rfl
    have r3 := k3.has BR.out (by simp; have := LB.out; have := HLR.out; omega)
    obtain ⟨t0, t1, t2, t3, t4⟩ := ent9_cells r3
    obtain ⟨u0, u1, u2, u3, u4⟩ := ent9_free r3
    have G1 := Lib.hid (fun W10 => FIN.out W3 W10 b3 k3)
    have R3 := Lib.hid r3
    clear b3 k3 r3 c4 c0' c1 f4
    go_wp2_with fail
    obtain ⟨v1, v2⟩ := ent9_store noE noE R3.out
    have rc := cell_of_has v1
    simp only [noE] at rc
    exact bodyPost_ret (v := .tuple #[noE.agg, .int .i64 9]) (by simp [results, Tryz.results21, go_sem, Ent.agg, noE, rc]) rfl (G1.out _ v2)
end Go.Proofs.YtcakdmapnmneoaaGreat
end

section
namespace Go.Proofs.YtcakdmapnmneoaaGreat
open Go.RowKit
set_option linter.unusedVariables false
set_option linter.unusedSimpArgs false

/-- It has seen its dictionary: its own block alone is turned. -/
theorem str_seen {lo b : Nat} {F F' : List Nat} {s s' : Str} {W W' : World} (h : StrAt lo b F s W) {a : Option Addr} {c : Nat} (hb : W'.heap[b]? = some (strO (dpV s'.dp) s'.size s'.ver (.slice a s'.prs.length c) s'.broken (nextF s'.back (b + 2) (b + 4) (b + 3)) (passF (b + 2) (b + 3)))) (ht : s'.told = s.told) (hl : s'.last = s.last) (he : EntRow lo a c s'.prs W') (k : Keeps [b] W W') (h1 : ∀ x, x ∈ F → x ∈ F') (h2 : ∀ x, x ∈ blk a → x ∈ F') (h3 : ∀ x, x ∈ F' → lo ≤ x ∧ x < W'.heap.size) : StrAt lo b F' s' W' := by
  obtain ⟨_, h4, h5, h6, h7, h8, h9⟩ := h
  exact ⟨⟨a, c, hb, he, h2⟩, k.has h4 (by simp), by rw [ht]; exact k.has h5 (by simp), by rw [hl]; exact k.has h6 (by simp), k.has h7 (by simp), fun i hi => h1 _ (h8 i hi), h3⟩
/-- It has told a pair. -/
theorem str_told {lo b : Nat} {F : List Nat} {s : Str} {W W' : World} (h : StrAt lo b F s W) (last : Int) (h1 : W'.heap[b + 2]? = some (.cells #[.bool true] 4 (0, 0))) (h2 : W'.heap[b + 3]? = some (.cells #[.int .i64 last] 3 (0, 0))) (k : Keeps [b + 2, b + 3] W W') : StrAt lo b F { s with told := true, last := last } W' := by
  obtain ⟨⟨a, c, g1, g2, g3⟩, h4, h5, h6, h7, h8, h9⟩ := h
  refine ⟨⟨a, c, k.has g1 (by simp), g2.keeps k (fun x hx hq => ?_), g3⟩, k.has h4 (by simp), h1, h2, k.has h7 (by simp), h8, fun x hx => by have := h9 x hx; have := k.size; omega⟩
  simp at hq
  rcases hq with rfl | rfl
  · exact g2.notin h5 (by decide) hx
  · exact g2.notin h6 (by decide) hx
set_option maxRecDepth 100000 in
set_option maxHeartbeats 4000000 in
theorem snext_goes (db t lo2 lo b : Nat) (S F : List Nat) (mv : Value) (d : Dic) (s : Str) (w : World) (HD : DicAt db t lo2 S mv d w) (HS : StrAt lo b F s w) (hd : s.dp = some db) (hnb : s.broken = false) (hsz : liveN d.T.E = s.size) (hl : d.T.E.length ≤ 1000) (hv : d.ver ≤ 1000000)
    (hap : db ∉ F ∧ ∀ x, x ∈ S → x ∉ F) (hu : Ups (s.seen d).prs) (hz : (s.seen d).prs.length ≤ 1000000) (l0 : 0 ≤ s.last) (l1 : s.last ≤ 1000000) :
    Calls Tryz.prog 21 #[.pointer (some ⟨b, 0, none⟩)] w (StrNP lo b F d s w) := by
  have HD0 := Lib.hid HD
  have HS0 := Lib.hid HS
  have HAP := Lib.hid hap
  have HU := Lib.hid hu
  have HZ := Lib.hid hz
  have L0 := Lib.hid l0
  have L1 := Lib.hid l1
  have HL := Lib.hid hl
  have HV := Lib.hid hv
  have HNB := Lib.hid hnb
  have HSZ := Lib.hid hsz
  obtain ⟨lr, hlr⟩ : ∃ lr, lr = w.heap.size := ⟨_, rfl⟩
  have HLR := Lib.hid hlr
  obtain ⟨WA, hWA⟩ : ∃ WA, w.alloc (.cells #[.bool false, .int .i64 0, .int .i64 0, .int .i64 0, .int .i64 0] 78) = WA := ⟨_, rfl⟩
  have kb : Keeps [] w WA := by rw [← hWA]; exact (Keeps.refl [] w).alloc _
  have KB := Lib.hid kb
  have BR := Lib.hid (show WA.heap[lr]? = some (ent9 noE) by rw [← hWA, hlr]; exact has_new _ _)
  have HWA := Lib.hid hWA
  have SA := Lib.hid (HS.keeps kb (by simp))
  have DA := Lib.hid (HD.keeps kb (by simp) (by simp))
  have lb : lo ≤ b ∧ b < lr := by have := HS.lo _ (HS.five 0 (by omega)); omega
  have LB := Lib.hid lb
  obtain ⟨a, c, h1, he, hin⟩ := SA.out.row
  have HE := Lib.hid he
  have HIN := Lib.hid hin
  have E0 := Lib.hid (show dpV s.dp = .pointer (some ⟨db, 0, none⟩) by rw [hd]; rfl)
  rw [E0.out, hnb] at h1
  obtain ⟨c0, c1, c2, c3, c4, _, _⟩ := str_cells h1
  have f4 := free_of_has h1 4
  have H1 := Lib.hid h1
  obtain ⟨ln, hln⟩ := ex_hid (liveN d.T.E)
  rw [← hsz, ← hln.out] at c1
  clear HD HS hlr hWA kb lb h1 he hin hd hnb hsz hl hv hap hu hz l0 l1 c2 c3
  go_enter Tryz.func21, Tryz.ntmps21
  go_upto_region 1 with (fail)
  rw [HWA.out, ← HLR.out]
  go_upto_region 3 with (fail)
  refine wp_regionG (fun w' => w'.cell? ⟨b, 4, none⟩ = some (.bool false) ∧ w'.cell? ⟨b, 0, none⟩ = some (.pointer (some ⟨db, 0, none⟩)) ∧ w'.cell? ⟨b, 1, none⟩ = some (.int .i64 ln)) 19 (by kernel_rfl) ⟨c4, c0, c1⟩ (fun hF => ?_)
  refine wpAnyG_takeY (i := 0) (v := ?_) rfl (by kernel_rfl) (by decide +kernel) (by decide +kernel) (by decide +kernel) (fun _ _ _ h => h) (by kernel_rfl) ?_ (by assumption) ?_
  rotate_left
  · (intro wz; go_simp; with_reducible rfl)
  try simp only [Act.put, List.setIfInBounds_toArray, List.set_cons_zero, List.set_cons_succ]
  refine wpAnyG_takeY (i := 1) (v := ?_) rfl (by kernel_rfl) (by decide +kernel) (by decide +kernel) (by decide +kernel) (fun _ _ _ h => h) (by kernel_rfl) ?_ (by assumption) ?_
  rotate_left
  · (intro wz; go_simp; with_reducible rfl)
  try simp only [Act.put, List.setIfInBounds_toArray, List.set_cons_zero, List.set_cons_succ]
  refine wpAnyG_takeY (i := 2) (v := ?_) rfl (by kernel_rfl) (by decide +kernel) (by decide +kernel) (by decide +kernel) (fun _ _ _ h => h) (by kernel_rfl) ?_ (by assumption) ?_
  rotate_left
  · (intro wz; go_simp; with_reducible rfl)
  try simp only [Act.put, List.setIfInBounds_toArray, List.set_cons_zero, List.set_cons_succ]
  refine wpAnyG_takeY (i := 3) (v := ?_) rfl (by kernel_rfl) (by decide +kernel) (by decide +kernel) (by decide +kernel) (fun _ _ _ h => h) (by kernel_rfl) ?_ (by assumption) ?_
  rotate_left
  · (intro wz; go_simp; with_reducible rfl)
  try simp only [Act.put, List.setIfInBounds_toArray, List.set_cons_zero, List.set_cons_succ]
  refine wpAnyG_take (i := 4) (v := ?_) rfl (by kernel_rfl) (by decide +kernel) (by decide +kernel) (by decide +kernel) (by decide +kernel) (by rfl) (fun _ _ _ h => h) (by kernel_rfl) ?_ (by assumption) ?_
  rotate_left
  · (intro wz hSw; (try dsimp only at hSw); go_simp; with_reducible rfl)
  try simp only [Act.put, List.setIfInBounds_toArray, List.set_cons_zero, List.set_cons_succ]
  refine wpAnyG_takeY (i := 5) (v := ?_) rfl (by kernel_rfl) (by decide +kernel) (by decide +kernel) (by decide +kernel) (fun _ _ _ h => h) (by kernel_rfl) ?_ (by assumption) ?_
  rotate_left
  · (intro wz; go_simp; with_reducible rfl)
  try simp only [Act.put, List.setIfInBounds_toArray, List.set_cons_zero, List.set_cons_succ]
  refine wpAnyG_takeY (i := 6) (v := ?_) rfl (by kernel_rfl) (by decide +kernel) (by decide +kernel) (by decide +kernel) (fun _ _ _ h => h) (by kernel_rfl) ?_ (by assumption) ?_
  rotate_left
  · (intro wz; go_simp; with_reducible rfl)
  try simp only [Act.put, List.setIfInBounds_toArray, List.set_cons_zero, List.set_cons_succ]
  refine wpAnyG_takeY (i := 7) (v := ?_) rfl (by kernel_rfl) (by decide +kernel) (by decide +kernel) (by decide +kernel) (fun _ _ _ h => h) (by kernel_rfl) ?_ (by assumption) ?_
  rotate_left
  · (intro wz; go_simp; with_reducible rfl)
  try simp only [Act.put, List.setIfInBounds_toArray, List.set_cons_zero, List.set_cons_succ]
  refine wpAnyG_takeY (i := 8) (v := ?_) rfl (by kernel_rfl) (by decide +kernel) (by decide +kernel) (by decide +kernel) (fun _ _ _ h => h) (by kernel_rfl) ?_ (by assumption) ?_
  rotate_left
  · (intro wz; go_simp; with_reducible rfl)
  try simp only [Act.put, List.setIfInBounds_toArray, List.set_cons_zero, List.set_cons_succ]
  refine wpAnyG_take (i := 9) (v := ?_) rfl (by kernel_rfl) (by decide +kernel) (by decide +kernel) (by decide +kernel) (by decide +kernel) (by rfl) (fun _ _ _ h => h) (by kernel_rfl) ?_ (by assumption) ?_
  rotate_left
  · (intro wz hSw; (try dsimp only at hSw); go_simp; with_reducible rfl)
  try simp only [Act.put, List.setIfInBounds_toArray, List.set_cons_zero, List.set_cons_succ]
  refine wpAnyG_takeY (i := 11) (v := ?_) rfl (by kernel_rfl) (by decide +kernel) (by decide +kernel) (by decide +kernel) (fun _ _ _ h => h) (by kernel_rfl) ?_ (by assumption) ?_
  rotate_left
  · (intro wz; go_simp; with_reducible rfl)
  try simp only [Act.put, List.setIfInBounds_toArray, List.set_cons_zero, List.set_cons_succ]
  refine wpAnyG_takeY (i := 12) (v := ?_) rfl (by kernel_rfl) (by decide +kernel) (by decide +kernel) (by decide +kernel) (fun _ _ _ h => h) (by kernel_rfl) ?_ (by assumption) ?_
  rotate_left
  · (intro wz; go_simp; with_reducible rfl)
  try simp only [Act.put, List.setIfInBounds_toArray, List.set_cons_zero, List.set_cons_succ]
  refine wpAnyG_takeY (i := 13) (v := ?_) rfl (by kernel_rfl) (by decide +kernel) (by decide +kernel) (by decide +kernel) (fun _ _ _ h => h) (by kernel_rfl) ?_ (by assumption) ?_
  rotate_left
  · (intro wz; go_simp; with_reducible rfl)
  try simp only [Act.put, List.setIfInBounds_toArray, List.set_cons_zero, List.set_cons_succ]
  refine wpAnyG_take (i := 14) (v := ?_) rfl (by kernel_rfl) (by decide +kernel) (by decide +kernel) (by decide +kernel) (by decide +kernel) (by rfl) (fun _ _ _ h => h) (by kernel_rfl) ?_ (by assumption) ?_
  rotate_left
  · (intro wz hSw; (try dsimp only at hSw); go_simp; with_reducible rfl)
  try simp only [Act.put, List.setIfInBounds_toArray, List.set_cons_zero, List.set_cons_succ]
  refine wpAnyG_one (i := 10) rfl (by kernel_rfl) (by kernel_rfl) (fun K hK => ?_)
  have HK := Lib.hid hK
  clear hK
  go_simp
  refine (dlen_any db t lo2 S mv d WA.drew (DA.out.keeps (Keeps.refl [] WA).drew (by simp) (by simp))).mono ?_
  rintro r w2 ⟨rfl, rfl⟩
  rw [← hln.out]
  refine HK.out _ _ hF ?_
  clear HK K
  try simp only [Act.put, List.setIfInBounds_toArray, List.set_cons_zero, List.set_cons_succ]
  refine wpAnyG_takeY (i := 15) (v := ?_) rfl (by kernel_rfl) (by decide +kernel) (by decide +kernel) (by decide +kernel) (fun _ _ _ h => h) (by kernel_rfl) ?_ (by assumption) ?_
  rotate_left
  · (intro wz; go_simp; with_reducible rfl)
  try simp only [Act.put, List.setIfInBounds_toArray, List.set_cons_zero, List.set_cons_succ]
  refine wpAnyG_takeY (i := 16) (v := ?_) rfl (by kernel_rfl) (by decide +kernel) (by decide +kernel) (by decide +kernel) (fun _ _ _ h => h) (by kernel_rfl) ?_ (by assumption) ?_
  rotate_left
  · (intro wz; go_simp; with_reducible rfl)
  try simp only [Act.put, List.setIfInBounds_toArray, List.set_cons_zero, List.set_cons_succ]
  refine wpAnyG_takeY (i := 17) (v := ?_) rfl (by kernel_rfl) (by decide +kernel) (by decide +kernel) (by decide +kernel) (fun _ _ _ h => h) (by kernel_rfl) ?_ (by assumption) ?_
  rotate_left
  · (intro wz; go_simp; with_reducible rfl)
  try simp only [Act.put, List.setIfInBounds_toArray, List.set_cons_zero, List.set_cons_succ]
  refine wpAnyG_takeY (i := 18) (v := ?_) rfl (by kernel_rfl) (by decide +kernel) (by decide +kernel) (by decide +kernel) (fun _ _ _ h => h) (by kernel_rfl) ?_ (by assumption) ?_
  rotate_left
  · (intro wz; go_simp; with_reducible rfl)
  try simp only [Act.put, List.setIfInBounds_toArray, List.set_cons_zero, List.set_cons_succ]
  refine wpAnyG_last rfl (by kernel_rfl) (by rfl) (by rfl) (fun K hK => ?_)
  have HK := Lib.hid hK
  clear hK
  go_simp
  refine HK.out _ _ ?_
  clear HK K hF
  refine wpAnyG_done (by kernel_rfl) ?_ _
  go_simp
  go_upto_region 4 with (fail)
  refine wp_gen (fun V => V.heap[b]? = some (strO (.pointer (some ⟨db, 0, none⟩)) s.size s.ver (.slice a s.prs.length c) false (nextF s.back (b + 2) (b + 4) (b + 3)) (passF (b + 2) (b + 3))) ∧ Keeps [b] WA V) ?_ ?_
  · exact ⟨(str_set4 (W := WA.drew) H1.out false).1, ((Keeps.refl [b] WA).drew).trans (str_set4 (W := WA.drew) H1.out false).2⟩
  rintro W3 ⟨b3, k3⟩
  have nb : ∀ x, x ∈ F → x ∉ [lr] := fun x hx hq => by simp at hq; have := (HS0.out.lo x hx).2; have := HLR.out; omega
  have NB := Lib.hid nb
  have B3 := Lib.hid b3
  have K3 := Lib.hid k3
  have D3 := Lib.hid (DA.out.keeps k3 (by simp; rintro rfl; exact HAP.out.1 (HS0.out.five 0 (by omega))) (fun x hx hq => by simp at hq; subst hq; exact HAP.out.2 _ hx (HS0.out.five 0 (by omega))))
  obtain ⟨y0, y1, y2, y3, y4, _, _⟩ := str_cells b3
  clear c0 c1 c4 f4 nb b3 k3
  go_upto_region 6 with (fail)
  obtain ⟨sv, hsv⟩ := ex_hid s.ver
  obtain ⟨vr, hvr⟩ := ex_hid d.ver
  rw [← hsv.out] at y2
  go_upto_if 50 with (go_at_call 42; refine (dver8_any db t lo2 S mv d W3 D3.out HV.out).mono ?_; rintro r w4 ⟨rfl, rfl⟩; rw [← hvr.out])
  go_cut [] from 50 to 62 (fun wx => ∃ F5, StrAt lo b F5 (s.seen d) wx ∧ Grew F w F5 ∧ lr ∉ F5 ∧ (∀ x, x ∈ F → x ∈ F5) ∧ Keeps [b] WA wx)
  case first =>
    by_cases hve : d.ver = s.ver
    · have hne : ((vr : Int) != (sv : Int)) = false := by rw [hvr.out, hsv.out, hve]; simp
      have HVE := Lib.hid hve
      clear hve
      go_wp2_with fail
      go_meet
      refine ⟨F, ?_, Grew.refl _ _, fun h => NB.out _ h (by simp), fun x h => h, K3.out⟩
      have e9 : s.seen d = { s with broken := false } := by unfold Str.seen; rw [if_pos HVE.out.symm, HVE.out]
      rw [e9]
      refine str_seen SA.out (a := a) (c := c) (by rw [E0.out]; exact B3.out) rfl rfl (HE.out.keeps K3.out (fun x hx hq => ?_)) K3.out (fun x h => h) HIN.out (fun x hx => by have := SA.out.lo x hx; have := K3.out.size; omega)
      simp at hq; subst hq
      exact HE.out.notin H1.out (by decide) hx
    · have hne : ((vr : Int) != (sv : Int)) = true := by rw [hvr.out, hsv.out]; simp; omega
      have HVE := Lib.hid hve
      clear hve
      have f2 := free_of_has B3.out 2
      have f3 := free_of_has B3.out 3
      go_wp2_with fail
      refine (pairs_any db t lo2 S mv d W3 D3.out HL.out).mono ?_
      rintro r w4 ⟨a5, q5, rfl, e4, k4⟩
      have b4 := k4.has B3.out (by simp)
      have g2 := free_of_has b4 2
      have g3 := free_of_has b4 3
      have BB := Lib.hid b4
      have EE := Lib.hid e4
      have KK := Lib.hid k4
      obtain ⟨y0', y1', y2', y3', y4', _, _⟩ := str_cells b4
      clear y0 y1 y2 y3 y4 f2 f3 b4 e4 k4
      go_wp2_with fail
      go_meet
      have S9 := str_set23 (W := w4) BB.out vr (.slice a5 (liveN d.T.E) q5)
      have kk : Keeps [b] WA ((w4.setCell ⟨b, 2, none⟩ (.int .i64 vr)).setCell ⟨b, 3, none⟩ (.slice a5 (liveN d.T.E) q5)) := (K3.out.trans (KK.out.mono (by simp))).trans S9.2
      have z3 := K3.out.size
      have za : WA.heap.size = lr + 1 := by rw [← HWA.out, HLR.out]; simp
      have hblk : ∀ x, x ∈ blk a5 → lr + 1 ≤ x ∧ x < w4.heap.size := fun x hx => by have := EE.out.blk_lt x hx; omega
      have lbb := LB.out
      refine ⟨F ++ blk a5, ?_, fun x hx => ?_, fun h => ?_, fun x h => List.mem_append_left _ h, kk⟩
      · have e9 : s.seen d = { s with broken := false, ver := d.ver, prs := liveL d.T.E } := by unfold Str.seen; rw [if_neg (fun h => HVE.out h.symm)]
        rw [e9]
        refine str_seen SA.out (a := a5) (c := q5) ?_ rfl rfl ?_ kk (fun x h => List.mem_append_left _ h) (fun x h => List.mem_append_right _ h) (fun x hx => ?_)
        · rw [E0.out]
          show _ = some (strO _ s.size d.ver (.slice a5 (liveL d.T.E).length q5) false _ _)
          rw [liveL_len, ← hvr.out]
          exact S9.1
        · show EntRow lo a5 q5 (liveL d.T.E) _
          refine (EE.out.lift (fun x hx => by have := hblk x hx; omega)).keeps S9.2 (fun x hx hq => ?_)
          simp at hq; have := hblk x hx; omega
        · rw [List.mem_append] at hx
          have z9 := S9.2.size
          have z4 := KK.out.size
          rcases hx with hx | hx
          · have := HS0.out.lo x hx; have := HLR.out; omega
          · have := hblk x hx; omega
      · rw [List.mem_append] at hx
        rcases hx with hx | hx
        · exact .inl hx
        · have := hblk x hx; have := HLR.out; right; omega
      · rw [List.mem_append] at h
        rcases h with h | h
        · exact NB.out _ h (by simp)
        · have := hblk _ h; omega
  case rest =>
    obtain ⟨F5, s5, g5, n5, i5, k5⟩ := hcut
    have S5 := Lib.hid s5
    have G5 := Lib.hid g5
    have N5 := Lib.hid n5
    have K5 := Lib.hid k5
    have I5 := Lib.hid i5
    clear s5 g5 n5 i5 k5 y0 y1 y2 y3 y4
    obtain ⟨W5, hW5⟩ : ∃ x, x = wc := ⟨_, rfl⟩
    subst hW5
    obtain ⟨pl, hpl⟩ := ex_hid (s.seen d).place
    obtain ⟨n, hn⟩ := ex_hid (s.seen d).prs.length
    obtain ⟨a5, q5, g1, g2, g3⟩ := S5.out.row
    rw [show dpV (s.seen d).dp = .pointer (some ⟨db, 0, none⟩) from E0.out, ← hn.out] at g1
    have GE := Lib.hid g2
    have GB := Lib.hid g1
    obtain ⟨x0, x1, x2, x3, x4, x5, x6⟩ := str_cells g1
    have PC := splace_any lo b F5 (s.seen d) W5.drew (S5.out.keeps (Keeps.refl [] W5).drew (by simp)) HU.out HZ.out L0.out L1.out
    rw [← hn.out, ← hpl.out] at PC
    clear g1 g2 g3 x0 x1 x2 x4 x6
    go_upto_region 9 with (fail)
    go_cut [5] from 63 to 72 (fun y wx => y = .int .i64 pl ∧ Keeps [] W5 wx)
    case first =>
      unfold nextF at x5
      cases hbk : (s.seen d).back
      all_goals
        rw [hbk] at x5 PC
        simp only [Bool.false_eq_true, if_true, if_false] at x5 PC
        clear hbk
      · refine wp_regionG (fun w' => w'.cell? ⟨b, 5, none⟩ = some (.func (.func 57) #[] #[.pointer (some ⟨b + 2, 0, none⟩), .pointer (some ⟨b + 4, 0, none⟩), .pointer (some ⟨b + 3, 0, none⟩)]) ∧ w'.cell? ⟨b, 3, none⟩ = some (.slice a5 n q5)) 10 (by kernel_rfl) ⟨x5, x3⟩ (fun hF => ?_)
        refine wpAnyG_takeY (i := 0) (v := ?_) rfl (by kernel_rfl) (by decide +kernel) (by decide +kernel) (by decide +kernel) (fun _ _ _ h => h) (by kernel_rfl) ?_ (by assumption) ?_
        rotate_left
        · (intro wz; go_simp; with_reducible rfl)
        try simp only [Act.put, List.setIfInBounds_toArray, List.set_cons_zero, List.set_cons_succ]
        refine wpAnyG_takeY (i := 1) (v := ?_) rfl (by kernel_rfl) (by decide +kernel) (by decide +kernel) (by decide +kernel) (fun _ _ _ h => h) (by kernel_rfl) ?_ (by assumption) ?_
        rotate_left
        · (intro wz; go_simp; with_reducible rfl)
        try simp only [Act.put, List.setIfInBounds_toArray, List.set_cons_zero, List.set_cons_succ]
        refine wpAnyG_takeY (i := 2) (v := ?_) rfl (by kernel_rfl) (by decide +kernel) (by decide +kernel) (by decide +kernel) (fun _ _ _ h => h) (by kernel_rfl) ?_ (by assumption) ?_
        rotate_left
        · (intro wz; go_simp; with_reducible rfl)
        try simp only [Act.put, List.setIfInBounds_toArray, List.set_cons_zero, List.set_cons_succ]
        refine wpAnyG_take (i := 3) (v := ?_) rfl (by kernel_rfl) (by decide +kernel) (by decide +kernel) (by decide +kernel) (by decide +kernel) (by rfl) (fun _ _ _ h => h) (by kernel_rfl) ?_ (by assumption) ?_
        rotate_left
        · (intro wz hSw; (try dsimp only at hSw); go_simp; with_reducible rfl)
        try simp only [Act.put, List.setIfInBounds_toArray, List.set_cons_zero, List.set_cons_succ]
        refine wpAnyG_takeY (i := 4) (v := ?_) rfl (by kernel_rfl) (by decide +kernel) (by decide +kernel) (by decide +kernel) (fun _ _ _ h => h) (by kernel_rfl) ?_ (by assumption) ?_
        rotate_left
        · (intro wz; go_simp; with_reducible rfl)
        try simp only [Act.put, List.setIfInBounds_toArray, List.set_cons_zero, List.set_cons_succ]
        refine wpAnyG_takeY (i := 5) (v := ?_) rfl (by kernel_rfl) (by decide +kernel) (by decide +kernel) (by decide +kernel) (fun _ _ _ h => h) (by kernel_rfl) ?_ (by assumption) ?_
        rotate_left
        · (intro wz; go_simp; with_reducible rfl)
        try simp only [Act.put, List.setIfInBounds_toArray, List.set_cons_zero, List.set_cons_succ]
        refine wpAnyG_takeY (i := 6) (v := ?_) rfl (by kernel_rfl) (by decide +kernel) (by decide +kernel) (by decide +kernel) (fun _ _ _ h => h) (by kernel_rfl) ?_ (by assumption) ?_
        rotate_left
        · (intro wz; go_simp; with_reducible rfl)
        try simp only [Act.put, List.setIfInBounds_toArray, List.set_cons_zero, List.set_cons_succ]
        refine wpAnyG_take (i := 7) (v := ?_) rfl (by kernel_rfl) (by decide +kernel) (by decide +kernel) (by decide +kernel) (by decide +kernel) (by rfl) (fun _ _ _ h => h) (by kernel_rfl) ?_ (by assumption) ?_
        rotate_left
        · (intro wz hSw; (try dsimp only at hSw); go_simp; with_reducible rfl)
        try simp only [Act.put, List.setIfInBounds_toArray, List.set_cons_zero, List.set_cons_succ]
        refine wpAnyG_takeY (i := 8) (v := ?_) rfl (by kernel_rfl) (by decide +kernel) (by decide +kernel) (by decide +kernel) (fun _ _ _ h => h) (by kernel_rfl) ?_ (by assumption) ?_
        rotate_left
        · (intro wz; go_simp; with_reducible rfl)
        try simp only [Act.put, List.setIfInBounds_toArray, List.set_cons_zero, List.set_cons_succ]
        refine wpAnyG_one (i := 9) rfl (by kernel_rfl) (by kernel_rfl) (fun K hK => ?_)
        have HK := Lib.hid hK
        clear hK
        go_simp
        refine PC.mono ?_
        rintro r w6 ⟨rfl, k6⟩
        have x5' := k6.cell (w := W5.drew) x5 (by simp)
        have x3' := k6.cell (w := W5.drew) x3 (by simp)
        refine HK.out _ _ ⟨x5', x3'⟩ ?_
        clear HK K hF
        try simp only [Act.put, List.setIfInBounds_toArray, List.set_cons_zero, List.set_cons_succ]
        refine wpAnyG_last rfl (by kernel_rfl) (by rfl) (by rfl) (fun K hK => ?_)
        have HK := Lib.hid hK
        clear hK
        go_simp
        refine HK.out _ _ ?_
        clear HK K
        refine wpAnyG_done (by kernel_rfl) ?_ _
        go_simp
        try go_wp2_with fail
        go_meet
        exact ⟨rfl, (Keeps.refl [] W5).drew.trans k6⟩
      · refine wp_regionG (fun w' => w'.cell? ⟨b, 5, none⟩ = some (.func (.func 58) #[] #[.pointer (some ⟨b + 2, 0, none⟩), .pointer (some ⟨b + 4, 0, none⟩), .pointer (some ⟨b + 3, 0, none⟩)]) ∧ w'.cell? ⟨b, 3, none⟩ = some (.slice a5 n q5)) 10 (by kernel_rfl) ⟨x5, x3⟩ (fun hF => ?_)
        refine wpAnyG_takeY (i := 0) (v := ?_) rfl (by kernel_rfl) (by decide +kernel) (by decide +kernel) (by decide +kernel) (fun _ _ _ h => h) (by kernel_rfl) ?_ (by assumption) ?_
        rotate_left
        · (intro wz; go_simp; with_reducible rfl)
        try simp only [Act.put, List.setIfInBounds_toArray, List.set_cons_zero, List.set_cons_succ]
        refine wpAnyG_takeY (i := 1) (v := ?_) rfl (by kernel_rfl) (by decide +kernel) (by decide +kernel) (by decide +kernel) (fun _ _ _ h => h) (by kernel_rfl) ?_ (by assumption) ?_
        rotate_left
        · (intro wz; go_simp; with_reducible rfl)
        try simp only [Act.put, List.setIfInBounds_toArray, List.set_cons_zero, List.set_cons_succ]
        refine wpAnyG_takeY (i := 2) (v := ?_) rfl (by kernel_rfl) (by decide +kernel) (by decide +kernel) (by decide +kernel) (fun _ _ _ h => h) (by kernel_rfl) ?_ (by assumption) ?_
        rotate_left
        · (intro wz; go_simp; with_reducible rfl)
        try simp only [Act.put, List.setIfInBounds_toArray, List.set_cons_zero, List.set_cons_succ]
        refine wpAnyG_take (i := 3) (v := ?_) rfl (by kernel_rfl) (by decide +kernel) (by decide +kernel) (by decide +kernel) (by decide +kernel) (by rfl) (fun _ _ _ h => h) (by kernel_rfl) ?_ (by assumption) ?_
        rotate_left
        · (intro wz hSw; (try dsimp only at hSw); go_simp; with_reducible rfl)
        try simp only [Act.put, List.setIfInBounds_toArray, List.set_cons_zero, List.set_cons_succ]
        refine wpAnyG_takeY (i := 4) (v := ?_) rfl (by kernel_rfl) (by decide +kernel) (by decide +kernel) (by decide +kernel) (fun _ _ _ h => h) (by kernel_rfl) ?_ (by assumption) ?_
        rotate_left
        · (intro wz; go_simp; with_reducible rfl)
        try simp only [Act.put, List.setIfInBounds_toArray, List.set_cons_zero, List.set_cons_succ]
        refine wpAnyG_takeY (i := 5) (v := ?_) rfl (by kernel_rfl) (by decide +kernel) (by decide +kernel) (by decide +kernel) (fun _ _ _ h => h) (by kernel_rfl) ?_ (by assumption) ?_
        rotate_left
        · (intro wz; go_simp; with_reducible rfl)
        try simp only [Act.put, List.setIfInBounds_toArray, List.set_cons_zero, List.set_cons_succ]
        refine wpAnyG_takeY (i := 6) (v := ?_) rfl (by kernel_rfl) (by decide +kernel) (by decide +kernel) (by decide +kernel) (fun _ _ _ h => h) (by kernel_rfl) ?_ (by assumption) ?_
        rotate_left
        · (intro wz; go_simp; with_reducible rfl)
        try simp only [Act.put, List.setIfInBounds_toArray, List.set_cons_zero, List.set_cons_succ]
        refine wpAnyG_take (i := 7) (v := ?_) rfl (by kernel_rfl) (by decide +kernel) (by decide +kernel) (by decide +kernel) (by decide +kernel) (by rfl) (fun _ _ _ h => h) (by kernel_rfl) ?_ (by assumption) ?_
        rotate_left
        · (intro wz hSw; (try dsimp only at hSw); go_simp; with_reducible rfl)
        try simp only [Act.put, List.setIfInBounds_toArray, List.set_cons_zero, List.set_cons_succ]
        refine wpAnyG_takeY (i := 8) (v := ?_) rfl (by kernel_rfl) (by decide +kernel) (by decide +kernel) (by decide +kernel) (fun _ _ _ h => h) (by kernel_rfl) ?_ (by assumption) ?_
        rotate_left
        · (intro wz; go_simp; with_reducible rfl)
        try simp only [Act.put, List.setIfInBounds_toArray, List.set_cons_zero, List.set_cons_succ]
        refine wpAnyG_one (i := 9) rfl (by kernel_rfl) (by kernel_rfl) (fun K hK => ?_)
        have HK := Lib.hid hK
        clear hK
        go_simp
        refine PC.mono ?_
        rintro r w6 ⟨rfl, k6⟩
        have x5' := k6.cell (w := W5.drew) x5 (by simp)
        have x3' := k6.cell (w := W5.drew) x3 (by simp)
        refine HK.out _ _ ⟨x5', x3'⟩ ?_
        clear HK K hF
        try simp only [Act.put, List.setIfInBounds_toArray, List.set_cons_zero, List.set_cons_succ]
        refine wpAnyG_last rfl (by kernel_rfl) (by rfl) (by rfl) (fun K hK => ?_)
        have HK := Lib.hid hK
        clear hK
        go_simp
        refine HK.out _ _ ?_
        clear HK K
        refine wpAnyG_done (by kernel_rfl) ?_ _
        go_simp
        try go_wp2_with fail
        go_meet
        exact ⟨rfl, (Keeps.refl [] W5).drew.trans k6⟩
    case rest =>
      obtain ⟨rfl, k6⟩ := hcut
      obtain ⟨W6, hW6⟩ : ∃ x, x = wc := ⟨_, rfl⟩
      subst hW6
      have S6 := Lib.hid (S5.out.keeps k6 (by simp))
      have K6 := Lib.hid (K5.out.trans (k6.mono (by simp)))
      have gb := k6.has GB.out (by simp)
      have GB6 := Lib.hid gb
      have GE6 := Lib.hid (GE.out.keeps k6 (by simp))
      obtain ⟨x0, x1, x2, x3, x4, x5, x6⟩ := str_cells gb
      have f0 := free_of_has gb 0
      have HOUT := Lib.hid (show (s.seen d).out (s.seen d).prs (s.seen d).place = (decide (pl < 0) || decide ((n : Int) ≤ pl)) by rw [hpl.out, hn.out]; rfl)
      have BR6 := Lib.hid ((K6.out).has BR.out (by simp; have := LB.out; omega))
      have HGO := Lib.hid (show ¬ (s.broken = true ∨ liveN d.T.E ≠ s.size) by rw [HNB.out, HSZ.out]; simp)
      clear k6 gb PC
      by_cases ho : (s.seen d).out (s.seen d).prs (s.seen d).place = true
      · have HO := Lib.hid ho
        have fin : ∀ W9 W10 : World, W9.heap[b]? = some (strO (.pointer none) s.size (s.seen d).ver (.slice a5 n q5) false (nextF (s.seen d).back (b + 2) (b + 4) (b + 3)) (passF (b + 2) (b + 3))) → Keeps [b] W6 W9 → Keeps [lr] W9 W10 → StrNP lo b F d s w (.returned (.tuple #[noE.agg, .int .i64 10])) W10 := fun W9 W10 h9 k9 k10 => by
          have hlr := HLR.out
          refine ⟨F5, ?_, ?_, G5.out, ?_⟩
          · unfold strX strE; rw [if_neg HGO.out, if_neg HGO.out, if_pos HO.out, if_pos HO.out]
          · unfold strN; rw [if_neg HGO.out, if_pos HO.out]
            refine StrAt.keeps (W := W9) ?_ k10 (fun x hx hq => by simp at hq; subst hq; exact N5.out hx)
            refine str_seen S6.out (s' := { s.seen d with dp := none }) (a := a5) (c := q5) (by rw [← hn.out]; exact h9) rfl rfl (GE6.out.keeps k9 (fun x hx hq => ?_)) k9 (fun x h => h) (fun x hx => ?_) (fun x hx => by have := S6.out.lo x hx; have := k9.size; omega)
            · simp at hq; subst hq; exact GE6.out.notin GB6.out (by decide) hx
            · obtain ⟨a', c', r1, r2, r3⟩ := S6.out.row
              rw [GB6.out] at r1
              unfold strO at r1
              simp at r1
              exact r3 x (by rw [← r1.2.1]; exact hx)
          · exact (((((KB.out.mono (by simp) : Keeps [b] w WA).trans K6.out).trans k9).then k10 (fun x hx => by simp at hx; left; omega)).mono (by simp) : Keeps [b, b + 2, b + 3] w W10)
        have FIN := Lib.hid fin
        clear fin
        rw [HOUT.out] at ho
        have hq : decide (pl < 0) = true ∨ (decide (pl < 0) = false ∧ decide ((n : Int) ≤ pl) = true) := by
          cases h1 : decide (pl < 0)
          · rw [h1] at ho; right; exact ⟨rfl, by simpa using ho⟩
          · exact .inl rfl
        clear ho
        rcases hq with q1 | ⟨q1, q2⟩
        all_goals
          go_upto_region 12 with (fail)
          refine wp_gen (fun V => V.heap[b]? = some (strO (.pointer none) s.size (s.seen d).ver (.slice a5 n q5) false (nextF (s.seen d).back (b + 2) (b + 4) (b + 3)) (passF (b + 2) (b + 3))) ∧ Keeps [b] W6 V) ⟨(str_set0 GB6.out _).1, (str_set0 GB6.out _).2⟩ ?_
          rintro W7 ⟨b7, k7⟩
          have r7 := k7.has BR6.out (by simp; have := LB.out; omega)
          obtain ⟨t0, t1, t2, t3, t4⟩ := ent9_cells r7
          obtain ⟨v0, v1, v2, v3, v4⟩ := ent9_free r7
          have G1 := Lib.hid (fun W10 => FIN.out W7 W10 b7 k7)
          have R7 := Lib.hid r7
          clear b7 k7 r7 x0 x1 x2 x3 x4 x5 x6 f0
          go_wp2_with fail
          obtain ⟨v1, v2⟩ := ent9_store noE noE R7.out
          have rc := cell_of_has v1
          simp only [noE] at rc
          exact bodyPost_ret (v := .tuple #[noE.agg, .int .i64 10]) (by simp [results, Tryz.results21, go_sem, Ent.agg, noE, rc]) rfl (G1.out _ v2)
      · have HO := Lib.hid ho
        rw [HOUT.out] at ho
        have h1 : ¬ pl < 0 ∧ ¬ (n : Int) ≤ pl := by simpa using ho
        obtain ⟨m, rfl⟩ : ∃ m : Nat, pl = (m : Int) := ⟨pl.toNat, by omega⟩
        have hm : m < n := by omega
        obtain ⟨x, hx⟩ : ∃ x, (s.seen d).prs[m]? = some x := ⟨_, List.getElem?_eq_getElem (by rw [← hn.out]; exact hm)⟩
        obtain ⟨g, rfl⟩ := GE6.out.shape (by rw [← hn.out]; omega)
        have HX := Lib.hid hx
        have p4 : W6.cell? ⟨g, m * 5 + 4, none⟩ = some (.int .i64 x.birth) := GE6.out.cell hx 4 (by omega)
        have q1 : decide ((m : Int) < 0) = false := by simp
        have q2 : decide ((n : Int) ≤ (m : Int)) = false := by simp; omega
        have q3 : (0 : Int) ≤ (m : Int) := by omega
        have q4 : (m : Int) < (n : Int) := by omega
        clear ho h1 hx x0 x1 x2 x4 x5 f0
        unfold passF at x6
        go_upto_region 13 with (fail)
        go_region_held3 (fun w' => w'.cell? ⟨b, 6, none⟩ = some (.func (.func 53) #[] #[.pointer (some ⟨b + 2, 0, none⟩), .pointer (some ⟨b + 3, 0, none⟩)]) ∧ w'.cell? ⟨b, 3, none⟩ = some (.slice (some ⟨g, 0, none⟩) n q5) ∧ w'.cell? ⟨g, m * 5 + 4, none⟩ = some (.int .i64 x.birth)) (go_keep)
          (first
            | (go_at_call 53; refine (spass_any (b + 2) (b + 3) (s.seen d).told (s.seen d).last x.birth W6.drew S6.out.told S6.out.last (by omega)).mono ?_; rintro r w7 ⟨rfl, g1, g2, k7⟩; have j6 := k7.cell (w := W6.drew) x6 (by simp); have j3 := k7.cell (w := W6.drew) x3 (by simp); have hgn : g ≠ b + 2 ∧ g ≠ b + 3 := ⟨fun e => GE6.out.notin S6.out.told (by decide) (by simp [blk, e]), fun e => GE6.out.notin S6.out.last (by decide) (by simp [blk, e])⟩; have j4 := k7.cell (w := W6.drew) p4 (by simp; exact hgn)))
        have k67 : Keeps [b + 2, b + 3] W6 w7 := (Keeps.refl _ W6).drew.trans k7
        have S7 := Lib.hid (str_told S6.out x.birth g1 g2 k67)
        have K67 := Lib.hid k67
        have e7 := GE6.out.keeps k67 (fun y hy hq => by simp [blk] at hy; subst hy; simp at hq; rcases hq with h | h; exact hgn.1 h; exact hgn.2 h)
        have p0 : w7.cell? ⟨g, m * 5, none⟩ = some (.bool x.live) := e7.cell HX.out 0 (by omega)
        have p1 : w7.cell? ⟨g, m * 5 + 1, none⟩ = some (.int .i64 x.hash) := e7.cell HX.out 1 (by omega)
        have p2 : w7.cell? ⟨g, m * 5 + 2, none⟩ = some (.int .i64 x.key) := e7.cell HX.out 2 (by omega)
        have p3 : w7.cell? ⟨g, m * 5 + 3, none⟩ = some (.int .i64 x.val) := e7.cell HX.out 3 (by omega)
        have r7 := k67.has BR6.out (by simp; exact ⟨fun e => N5.out (e ▸ S6.out.five 2 (by omega)), fun e => N5.out (e ▸ S6.out.five 3 (by omega))⟩)
        obtain ⟨t0, t1, t2, t3, t4⟩ := ent9_cells r7
        obtain ⟨v0, v1, v2, v3, v4⟩ := ent9_free r7
        have R7 := Lib.hid r7
        have EX := Lib.hid (show x = (s.seen d).prs.getD m noE by simp [List.getD, HX.out])
        have fin : ∀ W10 : World, Keeps [lr] w7 W10 → StrNP lo b F d s w (.returned (.tuple #[x.agg, .int .i64 0])) W10 := fun W10 k10 => by
          have hlr := HLR.out
          have em : (s.seen d).place.toNat = m := by rw [← hpl.out]; rfl
          refine ⟨F5, ?_, ?_, G5.out, ?_⟩
          · unfold strX strE; rw [if_neg HGO.out, if_neg HGO.out, if_neg HO.out, if_neg HO.out, em, ← EX.out]
          · unfold strN; rw [if_neg HGO.out, if_neg HO.out, em, ← EX.out]
            exact S7.out.keeps k10 (fun y hy hq => by simp at hq; subst hq; exact N5.out hy)
          · exact (((((KB.out.mono (by simp) : Keeps [b, b + 2, b + 3] w WA).trans (K6.out.mono (by simp))).trans (K67.out.mono (by simp))).then k10 (fun x hx => by simp at hx; left; omega)).mono (by simp) : Keeps [b, b + 2, b + 3] w W10)
        have FIN := Lib.hid fin
        clear fin k67 e7 r7 g1 g2 k7 j6 p4 hgn
        obtain ⟨z0, z1, z2, z3, z4⟩ := x
        simp only at p0 p1 p2 p3 j4 t0 t1 t2 t3 t4
        go_wp2_with fail
        obtain ⟨v1, v2⟩ := ent9_store noE ⟨z0, z1, z2, z3, z4⟩ R7.out
        have rc := cell_of_has v1
        simp only at rc
        exact bodyPost_ret (v := .tuple #[(⟨z0, z1, z2, z3, z4⟩ : Ent).agg, .int .i64 0]) (by simp [results, Tryz.results21, go_sem, Ent.agg, rc]) rfl (FIN.out _ v2)
end Go.Proofs.YtcakdmapnmneoaaGreat
end

section
namespace Go.Proofs.YtcakdmapnmneoaaGreat
open Go.RowKit
set_option linter.unusedVariables false
set_option linter.unusedSimpArgs false

/-- The births of a dictionary's pairs go up, from 0 on. -/
structure BirOk (d : Dic) : Prop where
  up : Born d.T.E d.T.births
  pos : ∀ x, x ∈ d.T.E → x.live = true → 0 ≤ x.birth
theorem BirOk.new (m : Int) : BirOk (newD m) := ⟨Born.nil _, fun x hx => by simp [newD, newT] at hx⟩
theorem Born.putT {T : Tab} (h : Born T.E T.births) (e v : Int) : Born (T.put e v).E (T.put e v).births := by
  unfold Tab.put
  split
  · rename_i x hx
    obtain ⟨h0, h1, h2⟩ := ent_some hx
    have old : ∀ (i : Nat) (y : Ent), (T.E.set e.toNat { x with val := v })[i]? = some y → ∃ z, T.E[i]? = some z ∧ z.live = y.live ∧ z.birth = y.birth := fun i y hi => by
      rw [List.getElem?_set] at hi
      split at hi
      · rename_i he
        subst he
        split at hi
        · simp at hi; exact ⟨x, h1, by rw [← hi], by rw [← hi]⟩
        · cases hi
      · exact ⟨y, hi, rfl, rfl⟩
    refine ⟨fun i j y z hij hi hj hy hz => ?_, fun i y hi hy => ?_⟩
    · obtain ⟨y', a1, a2, a3⟩ := old i y hi
      obtain ⟨z', b1, b2, b3⟩ := old j z hj
      rw [← a3, ← b3]; exact h.up i j y' z' hij a1 b1 (a2.trans hy) (b2.trans hz)
    · obtain ⟨y', a1, a2, a3⟩ := old i y hi
      rw [← a3]; exact h.lt i y' a1 (a2.trans hy)
  · exact h
theorem pos_put {T : Tab} (h : ∀ x, x ∈ T.E → x.live = true → 0 ≤ x.birth) (e v : Int) : ∀ x, x ∈ (T.put e v).E → x.live = true → 0 ≤ x.birth := by
  unfold Tab.put
  split
  · rename_i y hy
    intro x hx hl
    obtain ⟨h0, h1, h2⟩ := ent_some hy
    rcases List.mem_or_eq_of_mem_set hx with h3 | h3
    · exact h x h3 hl
    · rw [h3]; exact h y (List.mem_of_getElem? h1) h2
  · exact h
theorem pos_kill {T : Tab} (h : ∀ x, x ∈ T.E → x.live = true → 0 ≤ x.birth) (e : Int) : ∀ x, x ∈ (T.kill e).E → x.live = true → 0 ≤ x.birth := by
  unfold Tab.kill
  split
  · intro x hx hl
    rcases List.mem_or_eq_of_mem_set hx with h3 | h3
    · exact h x h3 hl
    · rw [h3] at hl; cases hl
  · exact h
theorem pos_add {T : Tab} (h : ∀ x, x ∈ T.E → x.live = true → 0 ≤ x.birth) (a k v : Int) : ∀ x, x ∈ (T.add a k v).E → x.live = true → 0 ≤ x.birth := by
  intro x hx hl
  have h1 : x ∈ liveL (T.add a k v).E := List.mem_filter.2 ⟨hx, hl⟩
  rw [add_live, List.mem_append] at h1
  rcases h1 with h1 | h1
  · exact h x (List.mem_filter.1 h1).1 hl
  · simp at h1; rw [h1]; show (0 : Int) ≤ (T.births : Int); omega
theorem BirOk.hit {d : Dic} (h : BirOk d) (m : Mac) (e : Int) : BirOk (d.hit m e) := by
  unfold Dic.hit
  split
  · exact ⟨h.up.putT e m.v, pos_put h.pos e m.v⟩
  · split
    · exact ⟨h.up.killT e, pos_kill h.pos e⟩
    · exact h
theorem BirOk.miss {d : Dic} (h : BirOk d) (m : Mac) : BirOk (d.miss m) := by
  unfold Dic.miss
  split
  · exact h
  · split
    · exact h
    · exact ⟨h.up.add _ _ _, pos_add h.pos _ _ _⟩
theorem BirOk.scan {d : Dic} (h : BirOk d) (m : Mac) : BirOk (scanD d m) := by
  unfold scanD
  simp only
  split
  · exact h.miss m
  · split
    · exact h.hit m _
    · exact h
theorem BirOk.step {d : Dic} (h : BirOk d) (m : Mac) : BirOk (stepD d m) := by
  unfold stepD
  split
  · exact h
  · split
    · exact h.scan _
    · split
      · exact h.hit m _
      · exact h.scan m
theorem BirOk.live {k : Nat} {d : Dic} (h : BirOk d) (hI : DicOk k d) : ∀ x, x ∈ liveL d.T.E → 0 ≤ x.birth ∧ x.birth < (k : Int) := by
  intro x hx
  obtain ⟨h1, h2⟩ := List.mem_filter.1 hx
  obtain ⟨i, hi⟩ := List.getElem?_of_mem h1
  have := h.up.lt i x hi h2
  have := hI.t.bk
  exact ⟨h.pos x h1 h2, by omega⟩
/-- What holds of a stroll. -/
structure StrOk (s : Str) : Prop where
  up : Ups s.prs
  bi : ∀ x, x ∈ s.prs → 0 ≤ x.birth ∧ x.birth ≤ 1000000
  len : s.prs.length ≤ 1000000
  l0 : 0 ≤ s.last
  l1 : s.last ≤ 1000000
theorem StrOk.new {k : Nat} {d : Dic} (h : BirOk d) (hI : DicOk k d) (hk : k ≤ 1000) (db : Nat) (back : Bool) : StrOk (newS db d back) := by
  refine ⟨h.up.ups, fun x hx => ?_, ?_, by show (0 : Int) ≤ 0; omega, by show (0 : Int) ≤ 1000000; omega⟩
  · have := h.live hI x hx; omega
  · show (liveL d.T.E).length ≤ 1000000
    have := hI.t.ek; have := liveN_le d.T.E; rw [liveL_len]; omega
theorem StrOk.seen {k : Nat} {d : Dic} {s : Str} (hs : StrOk s) (h : BirOk d) (hI : DicOk k d) (hk : k ≤ 1000) : StrOk (s.seen d) := by
  unfold Str.seen
  by_cases hv : s.ver = d.ver
  · simp only [if_pos hv]; exact ⟨hs.up, hs.bi, hs.len, hs.l0, hs.l1⟩
  · simp only [if_neg hv]
    have := StrOk.new h hI hk 0 false
    exact ⟨this.up, this.bi, this.len, hs.l0, hs.l1⟩
theorem StrOk.next {k : Nat} {d : Dic} {s : Str} (hs : StrOk s) (h : BirOk d) (hI : DicOk k d) (hk : k ≤ 1000) : StrOk (strN d s) := by
  have h1 := hs.seen h hI hk
  unfold strN
  split
  · exact ⟨hs.up, hs.bi, hs.len, hs.l0, hs.l1⟩
  · split
    · exact ⟨h1.up, h1.bi, h1.len, h1.l0, h1.l1⟩
    · rename_i ho
      have hb : 0 ≤ ((s.seen d).prs.getD (s.seen d).place.toNat noE).birth ∧ ((s.seen d).prs.getD (s.seen d).place.toNat noE).birth ≤ 1000000 := by
        simp only [Str.out, Bool.or_eq_true, decide_eq_true_eq, not_or] at ho
        obtain ⟨g1, g2⟩ := ho
        have h3 : (s.seen d).place.toNat < (s.seen d).prs.length := by omega
        have h4 := h1.bi _ (List.getElem_mem h3)
        simpa [List.getD, List.getElem?_eq_getElem h3] using h4
      exact ⟨h1.up, h1.bi, h1.len, hb.1, hb.2⟩
theorem snext_any (k : Nat) (hk : k ≤ 500) (db t lo2 lo b : Nat) (S F : List Nat) (mv : Value) (d : Dic) (s : Str) (w : World) (HD : DicAt db t lo2 S mv d w) (HS : StrAt lo b F s w) (hd : s.dp = some db) (hI : DicOk k d) (hB : BirOk d) (hs : StrOk s)
    (hap : db ∉ F ∧ ∀ x, x ∈ S → x ∉ F) :
    Calls Tryz.prog 21 #[.pointer (some ⟨b, 0, none⟩)] w (StrNP lo b F d s w) := by
  by_cases h1 : s.broken = true ∨ liveN d.T.E ≠ s.size
  · exact snext_stop db t lo2 lo b S F mv d s w HD HS hd h1
  · have h2 : s.broken = false ∧ liveN d.T.E = s.size := by
      cases hb : s.broken
      · rw [hb] at h1; simp at h1; exact ⟨rfl, h1⟩
      · rw [hb] at h1; simp at h1
    have h3 := hs.seen hB hI (by omega)
    exact snext_goes db t lo2 lo b S F mv d s w HD HS hd h2.1 h2.2 (by have := hI.t.ek; omega) (by have := hI.v; omega) hap h3.up h3.len hs.l0 hs.l1
/-- A stroll that has ended stays so. -/
theorem snext_over (lo b : Nat) (F : List Nat) (s : Str) (w : World) (HS : StrAt lo b F s w) (hd : s.dp = none) :
    Calls Tryz.prog 21 #[.pointer (some ⟨b, 0, none⟩)] w fun r w' => r = .returned (.tuple #[noE.agg, .int .i64 10]) ∧ Keeps [] w w' := by
  obtain ⟨⟨a, c, h1, _⟩, _⟩ := HS
  rw [hd] at h1
  exact snext_ended b s.size s.ver _ s.broken _ _ w h1
theorem strE_dp (d : Dic) (s : Str) (x : Option Nat) : strE d { s with dp := x } = strE d s := rfl
theorem strX_dp (d : Dic) (s : Str) (x : Option Nat) : strX d { s with dp := x } = strX d s := rfl
theorem strN_on {d : Dic} {s : Str} (h : strE d s = 0) : (strN d s).dp = s.dp := by
  unfold strE at h
  split at h
  · omega
  · rename_i h1
    split at h
    · omega
    · rename_i h2
      unfold strN; rw [if_neg h1, if_neg h2]; rfl
theorem strE_next_dp (d e : Dic) (s : Str) (x : Option Nat) : strE e (strN d { s with dp := x }) = strE e (strN d s) := by
  unfold strN
  by_cases h1 : s.broken = true ∨ liveN d.T.E ≠ s.size
  · rw [if_pos h1, if_pos (show ({ s with dp := x } : Str).broken = true ∨ liveN d.T.E ≠ ({ s with dp := x } : Str).size from h1)]; rfl
  · rw [if_neg h1, if_neg (show ¬ (({ s with dp := x } : Str).broken = true ∨ liveN d.T.E ≠ ({ s with dp := x } : Str).size) from h1)]
    by_cases h2 : (s.seen d).out (s.seen d).prs (s.seen d).place = true
    · rw [if_pos h2, if_pos (show ((({ s with dp := x } : Str).seen d).out (({ s with dp := x } : Str).seen d).prs (({ s with dp := x } : Str).seen d).place = true) from h2)]; rfl
    · rw [if_neg h2, if_neg (show ¬ ((({ s with dp := x } : Str).seen d).out (({ s with dp := x } : Str).seen d).prs (({ s with dp := x } : Str).seen d).place = true) from h2)]; rfl
def aw9s (db : Nat) : Str := newS db aw80 false
def aw9t (db : Nat) : Str := newS db aw81 true
theorem aw9_0 : (stepM aw80 aw8a).turn.kind = 2 := by decide +kernel
theorem aw9_1 (db : Nat) : strE aw81 (aw9s db) = 9 := (strE_dp aw81 (aw9s 0) (some db)).trans (by decide +kernel)
theorem aw9_2 (db : Nat) : strE aw81 (aw9t db) = 0 := (strE_dp aw81 (aw9t 0) (some db)).trans (by decide +kernel)
theorem aw9_3 (db : Nat) : strX aw81 (aw9t db) = ⟨true, 7, 1, 10, 0⟩ := (strX_dp aw81 (aw9t 0) (some db)).trans (by decide +kernel)
theorem aw9_4 (db : Nat) : strE aw81 (strN aw81 (aw9t db)) = 10 := (strE_next_dp aw81 aw81 (aw9t 0) (some db)).trans (by decide +kernel)
theorem aw9_5 (db : Nat) : (strN aw81 (aw9t db)).dp = some db := strN_on (aw9_2 db)
end Go.Proofs.YtcakdmapnmneoaaGreat
end

section
namespace Go.Proofs.YtcakdmapnmneoaaGreat
open Go.RowKit
set_option linter.unusedVariables false
set_option linter.unusedSimpArgs false

/-- A stroll's pairs are those of its dictionary, if it has the same version. -/
structure Seen9 (d : Dic) (s : Str) : Prop where
  le : s.ver ≤ d.ver
  eq : s.ver = d.ver → s.prs = liveL d.T.E
theorem Seen9.later {d e : Dic} {s : Str} (h : Seen9 d s) (hv : d.ver < e.ver) : Seen9 e s := ⟨by have := h.le; omega, fun he => by have := h.le; omega⟩
structure Lnk (db : Nat) (d : Dic) (s : Str) (r : Rst) : Prop where
  sz : r.len = s.size
  bk : r.back = s.back
  st : (s.dp = none ∧ r.over = 10) ∨ (s.dp = some db ∧ s.broken = true ∧ r.over = 9) ∨ (s.dp = some db ∧ s.broken = false ∧ r.over = 0 ∧ r.begun = s.told ∧ (s.told = true → r.last = s.last))
  se : Seen9 d s
  ok : StrOk s
theorem Lnk.new (db : Nat) {k : Nat} {d : Dic} (h : BirOk d) (hI : DicOk k d) (hk : k ≤ 1000) (back : Bool) : Lnk db d (newS db d back) (newR d back) :=
  ⟨rfl, rfl, .inr (.inr ⟨rfl, rfl, rfl, rfl, fun h => by simp [newS] at h⟩), ⟨Nat.le_refl _, fun _ => rfl⟩, StrOk.new h hI hk db back⟩
theorem Lnk.later {db : Nat} {d e : Dic} {s : Str} {r : Rst} (h : Lnk db d s r) (hv : d.ver < e.ver) : Lnk db e s r := ⟨h.sz, h.bk, h.st, h.se.later hv, h.ok⟩
/-- The place at which the program's stroll goes on is the document's choice. -/
theorem pick_place {l : List Ent} (hU : Ups l) {s : Str} {r : Rst} (hp : s.prs = l) (hb : r.back = s.back) (hg : r.begun = s.told) (hl : s.told = true → r.last = s.last) :
    (s.out l s.place = true → r.pick l = none) ∧ (s.out l s.place = false → r.pick l = some (l.getD s.place.toNat noE)) := by
  have get : ∀ m : Nat, m < l.length → l[m]? = some (l.getD m noE) := fun m h => by simp [List.getD, List.getElem?_eq_getElem h]
  cases ht : s.told
  · have tk : ∀ x, r.takes x = true := fun x => by unfold Rst.takes; rw [hg, ht]; rfl
    cases hB : s.back
    · have e : s.place = 0 := by unfold Str.place; rw [if_pos ht, if_neg (by simp [hB])]
      rw [e]
      constructor
      · intro ho
        simp [Str.out] at ho
        exact pick_none (fun j y hy => by rw [ho] at hy; simp at hy)
      · intro ho
        simp [Str.out] at ho
        have h0 : 0 < l.length := by rcases l with _ | ⟨a, l⟩ <;> simp at ho ⊢
        exact pick_fw (by rw [hb, hB]) (get 0 h0) (tk _) (fun j y hj => absurd hj (by omega))
    · have e : s.place = (l.length : Int) - 1 := by unfold Str.place; rw [if_pos ht, if_pos hB, hp]
      rw [e]
      constructor
      · intro ho
        simp [Str.out] at ho
        exact pick_none (fun j y hy => by have := (List.getElem?_eq_some_iff.1 hy).1; omega)
      · intro ho
        simp [Str.out] at ho
        have h0 : 0 < l.length := by omega
        have e2 : ((l.length : Int) - 1).toNat = l.length - 1 := by omega
        rw [e2]
        exact pick_bk (by rw [hb, hB]) (get _ (by omega)) (tk _) (fun j y hj hy => by have := (List.getElem?_eq_some_iff.1 hy).1; omega)
  · have hL := hl ht
    cases hB : s.back
    · have tk : ∀ x, r.takes x = decide (s.last < x.birth) := fun x => by unfold Rst.takes; rw [hg, ht, hb, hB, hL]; simp
      have e : s.place = (cntL l s.last : Int) := by unfold Str.place; rw [if_neg (by simp [ht]), if_neg (by simp [hB]), hp]
      rw [e]
      have hle := cntL_len l s.last
      constructor
      · intro ho
        simp [Str.out] at ho
        refine pick_none (fun j y hy => ?_)
        rw [tk]
        have hj := (List.getElem?_eq_some_iff.1 hy).1
        by_cases hq : s.last < y.birth
        · have := hU.cnt_le s.last hy hq; omega
        · simp [hq]
      · intro ho
        simp [Str.out] at ho
        have hm : cntL l s.last < l.length := by omega
        simp only [Int.toNat_natCast]
        refine pick_fw (by rw [hb, hB]) (get _ hm) ?_ (fun j y hj hy => ?_)
        · rw [tk]
          by_cases hq : s.last < (l.getD (cntL l s.last) noE).birth
          · simpa using hq
          · have := hU.cnt_gt s.last (get _ hm) hq; omega
        · rw [tk]
          by_cases hq : s.last < y.birth
          · have := hU.cnt_le s.last hy hq; omega
          · simp [hq]
    · have tk : ∀ x, r.takes x = decide (x.birth < s.last) := fun x => by unfold Rst.takes; rw [hg, ht, hb, hB, hL]; simp
      have e : s.place = (cntL l (s.last - 1) : Int) - 1 := by unfold Str.place; rw [if_neg (by simp [ht]), if_pos hB, hp]
      rw [e]
      have hle := cntL_len l (s.last - 1)
      constructor
      · intro ho
        simp [Str.out] at ho
        refine pick_none (fun j y hy => ?_)
        rw [tk]
        have hj := (List.getElem?_eq_some_iff.1 hy).1
        by_cases hq : y.birth < s.last
        · have := hU.cnt_gt (s.last - 1) hy (by omega); omega
        · simp [hq]
      · intro ho
        simp [Str.out] at ho
        have hm : cntL l (s.last - 1) - 1 < l.length := by omega
        have e2 : ((cntL l (s.last - 1) : Int) - 1).toNat = cntL l (s.last - 1) - 1 := by omega
        rw [e2]
        refine pick_bk (by rw [hb, hB]) (get _ hm) ?_ (fun j y hj hy => ?_)
        · rw [tk]
          by_cases hq : (l.getD (cntL l (s.last - 1) - 1) noE).birth < s.last
          · simpa using hq
          · have := hU.cnt_le (s.last - 1) (get _ hm) (by omega); omega
        · rw [tk]
          by_cases hq : y.birth < s.last
          · have := hU.cnt_gt (s.last - 1) hy (by omega); omega
          · simp [hq]
theorem Lnk.over {db : Nat} {d : Dic} {s : Str} {r : Rst} (h : Lnk db d s r) (hd : s.dp = none) : rsX d r = noE ∧ rsE d r = 10 ∧ rsN d r = r := by
  have ho : r.over = 10 := by rcases h.st with h1 | h1 | h1 <;> simp_all
  have hz : r.over ≠ 0 := by omega
  unfold rsX rsE rsN
  rw [if_pos hz, if_pos hz, if_pos hz]
  exact ⟨rfl, ho, rfl⟩
theorem Lnk.next {k : Nat} (hk : k ≤ 1000) {db : Nat} {d : Dic} {s : Str} {r : Rst} (h : Lnk db d s r) (hd : s.dp = some db) (hB : BirOk d) (hI : DicOk k d) :
    rsX d r = strX d s ∧ rsE d r = strE d s ∧ Lnk db d (strN d s) (rsN d r) := by
  have hok := h.ok.next hB hI hk
  rcases h.st with ⟨h1, _⟩ | ⟨_, h1, h2⟩ | ⟨_, h1, h2, h3, h4⟩
  · rw [h1] at hd; cases hd
  · have hz : r.over ≠ 0 := by omega
    have e1 : rsX d r = noE := by unfold rsX; rw [if_pos hz]
    have e2 : rsE d r = 9 := by unfold rsE; rw [if_pos hz, h2]
    have e3 : rsN d r = r := by unfold rsN; rw [if_pos hz]
    have f1 : strX d s = noE := by unfold strX; rw [if_pos (.inl h1)]
    have f2 : strE d s = 9 := by unfold strE; rw [if_pos (.inl h1)]
    have f3 : strN d s = { s with broken := true } := by unfold strN; rw [if_pos (.inl h1)]
    rw [f3] at hok
    rw [e1, e2, e3, f1, f2, f3]
    exact ⟨rfl, rfl, h.sz, h.bk, .inr (.inl ⟨hd, rfl, h2⟩), ⟨h.se.le, h.se.eq⟩, hok⟩
  · have hz : ¬ r.over ≠ 0 := by omega
    by_cases hs : liveN d.T.E = s.size
    · have hs2 : liveN d.T.E = r.len := by rw [h.sz]; exact hs
      have hb : ¬ (s.broken = true ∨ liveN d.T.E ≠ s.size) := by rw [h1]; simp [hs]
      have hprs : (s.seen d).prs = liveL d.T.E := by
        unfold Str.seen; simp only
        split
        · rename_i e; exact h.se.eq e
        · rfl
      obtain ⟨p1, p2⟩ := pick_place (s := s.seen d) (r := r) hB.up.ups hprs h.bk h3 h4
      rw [← hprs] at p1 p2
      cases ho : (s.seen d).out (s.seen d).prs (s.seen d).place
      · have hp := p2 ho
        rw [hprs] at hp
        obtain ⟨e1, e2, e3⟩ := rs_some (by omega) hs2 hp
        have f1 : strX d s = (s.seen d).prs.getD (s.seen d).place.toNat noE := by unfold strX; rw [if_neg hb, if_neg (by simp [ho])]
        have f2 : strE d s = 0 := by unfold strE; rw [if_neg hb, if_neg (by simp [ho])]
        have f3 : strN d s = { s.seen d with told := true, last := ((s.seen d).prs.getD (s.seen d).place.toNat noE).birth } := by unfold strN; rw [if_neg hb, if_neg (by simp [ho])]
        rw [f3] at hok
        rw [e1, e2, e3, f1, f2, f3, hprs]
        exact ⟨rfl, rfl, h.sz, h.bk, .inr (.inr ⟨hd, rfl, h2, rfl, fun _ => rfl⟩), ⟨Nat.le_refl _, fun _ => hprs⟩, by rw [hprs] at hok; exact hok⟩
      · have hp := p1 ho
        rw [hprs] at hp
        obtain ⟨e1, e2, e3⟩ := rs_none (by omega) hs2 hp
        have f1 : strX d s = noE := by unfold strX; rw [if_neg hb, if_pos ho]
        have f2 : strE d s = 10 := by unfold strE; rw [if_neg hb, if_pos ho]
        have f3 : strN d s = { s.seen d with dp := none } := by unfold strN; rw [if_neg hb, if_pos ho]
        rw [f3] at hok
        rw [e1, e2, e3, f1, f2, f3]
        exact ⟨rfl, rfl, h.sz, h.bk, .inl ⟨rfl, rfl⟩, ⟨Nat.le_refl _, fun _ => hprs⟩, hok⟩
    · have hs2 : liveN d.T.E ≠ r.len := by rw [h.sz]; exact hs
      have e1 : rsX d r = noE := by unfold rsX; rw [if_neg hz, if_pos hs2]
      have e2 : rsE d r = 9 := by unfold rsE; rw [if_neg hz, if_pos hs2]
      have e3 : rsN d r = { r with over := 9 } := by unfold rsN; rw [if_neg hz, if_pos hs2]
      have f1 : strX d s = noE := by unfold strX; rw [if_pos (.inr hs)]
      have f2 : strE d s = 9 := by unfold strE; rw [if_pos (.inr hs)]
      have f3 : strN d s = { s with broken := true } := by unfold strN; rw [if_pos (.inr hs)]
      rw [f3] at hok
      rw [e1, e2, e3, f1, f2, f3]
      exact ⟨rfl, rfl, h.sz, h.bk, .inr (.inl ⟨hd, rfl, rfl⟩), ⟨h.se.le, h.se.eq⟩, hok⟩
end Go.Proofs.YtcakdmapnmneoaaGreat
end

section
namespace Go.Proofs.YtcakdmapnmneoaaGreat
open Go.RowKit
set_option linter.unusedVariables false
set_option linter.unusedSimpArgs false

theorem scan_ask {d : Dic} {q : Mac} (h : (scanM d q).turn.kind = 1) : scanD d q = d := by
  unfold scanM at h; unfold scanD
  simp only at h ⊢
  split at h
  · exfalso
    simp only [Mac.done, missT] at h
    split at h
    · simp at h
    · split at h <;> simp at h
  · rename_i ho
    rw [if_neg ho]
    split at h
    · simp [Mac.done, hitT] at h
    · rename_i hk; rw [if_neg hk]
theorem step_ask {d : Dic} {q : Mac} (h : (stepM d q).turn.kind = 1) : stepD d q = d := by
  unfold stepM at h; unfold stepD
  split at h
  · rename_i h1; rw [if_pos h1]
  · rename_i h1; rw [if_neg h1]
    split at h
    · rename_i h2; rw [if_pos h2]
      have := scan_ask h
      exact this
    · rename_i h2; rw [if_neg h2]
      split at h
      · simp [Mac.done, hitT] at h
      · rename_i h3; rw [if_neg h3]; exact scan_ask h
theorem scan_sc (d : Dic) (q : Mac) : (scanM d q).scans = q.scans := by
  unfold scanM; simp only
  split
  · rfl
  · split <;> rfl
theorem step_sc (d : Dic) (q : Mac) : (stepM d q).scans ≤ q.scans + 1 := by
  unfold stepM
  split
  · omega
  · split
    · rw [scan_sc]; exact Nat.le_refl _
    · split
      · show q.scans ≤ _; omega
      · rw [scan_sc]; omega
theorem tell_sc9 (q : Mac) (b : Bool) : (tellM q b).scans = q.scans := by unfold tellM; split <;> rfl
/-- In the midst of a goal on both: the program's side d, q, the document's e, p. -/
structure Mg9 (mb db t lo rb wb tw lo2 : Nat) (S R : List Nat) (w : World) (d : Dic) (q : Mac) (S5 : List Nat) (sb5 : Nat) (e : Dic) (p : Mac) (R5 : List Nat) (kb5 : Nat) (W : World) : Prop where
  dic : DicAt db t lo S5 (mV none) d W
  mac : MSt mb sb5 db t lo S5 d q W
  ref : RDicAt wb tw lo2 R5 none e W
  rmac : RMacAt rb kb5 wb tw p W
  ok : MacOk e p
  lm : w.heap.size ≤ mb
  lr : w.heap.size ≤ rb
  l2 : lo2 ≤ rb
  dis : ∀ x, x ∈ mb :: db :: S5 → x ∉ rb :: wb :: R5
  rr : rb ∉ R5 ∧ rb ≠ wb
  sb : q.st ≠ 0 → w.heap.size ≤ sb5 ∧ sb5 ∉ rb :: wb :: R5
  kb : p.st ≠ 0 → w.heap.size ≤ kb5 ∧ kb5 ∉ mb :: db :: S5 ∧ kb5 ∉ rb :: wb :: R5 ∧ (q.st ≠ 0 → kb5 ≠ sb5)
  g1 : Grew S w S5
  g2 : Grew R w R5
  ks : Keeps (db :: wb :: (S ++ R)) w W
section
variable {mb db t lo rb wb tw lo2 : Nat} {S R : List Nat} {w : World} {d : Dic} {q : Mac} {S5 : List Nat} {sb5 : Nat} {e : Dic} {p : Mac} {R5 : List Nat} {kb5 : Nat} {W W' : World}
theorem Mg9.kept (h : Mg9 mb db t lo rb wb tw lo2 S R w d q S5 sb5 e p R5 kb5 W) (k : Keeps [] W W') : Mg9 mb db t lo rb wb tw lo2 S R w d q S5 sb5 e p R5 kb5 W' :=
  ⟨h.dic.keeps k (by simp) (by simp), h.mac.keeps k (by simp) (by simp), h.ref.keeps k (by simp) (by simp), h.rmac.keeps k (by simp) (by simp), h.ok, h.lm, h.lr, h.l2, h.dis, h.rr, h.sb, h.kb, h.g1, h.g2, h.ks.trans (k.mono (by simp))⟩
theorem Mg9.ref_lt (h : Mg9 mb db t lo rb wb tw lo2 S R w d q S5 sb5 e p R5 kb5 W) : (∀ x, x ∈ rb :: wb :: R5 → x < W.heap.size) ∧ (p.st ≠ 0 → kb5 < W.heap.size) := by
  obtain ⟨at_, same, h1, _, _, h4⟩ := h.rmac
  refine ⟨fun x hx => ?_, fun hs => ?_⟩
  · simp only [List.mem_cons] at hx
    rcases hx with rfl | hx
    · exact lt_of_block h1
    · exact (h.ref.foot x (by simpa using hx)).2
  · obtain ⟨c9, p9, h9, _⟩ := h4 hs
    exact lt_of_block h9
theorem Mg9.dic_lt (h : Mg9 mb db t lo rb wb tw lo2 S R w d q S5 sb5 e p R5 kb5 W) : (∀ x, x ∈ mb :: db :: S5 → x < W.heap.size) ∧ (q.st ≠ 0 → sb5 < W.heap.size) := by
  obtain ⟨ev, h1, _, h4⟩ := h.mac.a
  refine ⟨fun x hx => ?_, fun hs => ?_⟩
  · simp only [List.mem_cons] at hx
    rcases hx with rfl | rfl | hx
    · exact lt_of_block h1
    · exact lt_of_block h.dic.b
    · exact (h.dic.t.foot x hx).2
  · obtain ⟨c9, p9, h9, _⟩ := h4 hs
    exact lt_of_block h9
end
theorem mg_step (k : Nat) (hk : k ≤ 500) (mb db t lo rb wb tw lo2 : Nat) (S R : List Nat) (w : World) (d : Dic) (q : Mac) (S5 : List Nat) (sb5 : Nat) (e : Dic) (p : Mac) (R5 : List Nat) (kb5 : Nat) (W : World)
    (h : Mg9 mb db t lo rb wb tw lo2 S R w d q S5 sb5 e p R5 kb5 W) (hI : DicOk k d) (hsc : q.scans ≤ 1000000) :
    Calls Tryz.prog 20 #[.pointer (some ⟨mb, 0, none⟩)] W fun r W' => r = .returned (stepM d q).turn.agg ∧ ∃ S7 sb7, Mg9 mb db t lo rb wb tw lo2 S R w (stepD d q) (stepM d q) S7 sb7 e p R5 kb5 W' := by
  refine (step_one k hk mb sb5 db t lo S5 d q W h.dic h.mac hI hsc).mono ?_
  rintro r W' ⟨S7, sb7, rfl, d3, m3, k3, g3, l3⟩
  obtain ⟨r1, r2⟩ := h.ref_lt
  have hf : ∀ x, x ∈ feet mb sb5 db S5 q → x ∉ rb :: wb :: R5 ∧ (p.st ≠ 0 → kb5 ≠ x) ∧ (w.heap.size ≤ x ∨ x ∈ db :: wb :: (S ++ R)) := by
    intro x hx
    unfold feet skS at hx
    simp only [List.mem_cons, List.mem_append] at hx
    have base : x ∈ mb :: db :: S5 → x ∉ rb :: wb :: R5 ∧ (p.st ≠ 0 → kb5 ≠ x) := fun h9 => ⟨h.dis x h9, fun hs e => (h.kb hs).2.1 (e ▸ h9)⟩
    rcases hx with rfl | rfl | hx | hx
    · exact ⟨(base (by simp)).1, (base (by simp)).2, .inl h.lm⟩
    · exact ⟨(base (by simp)).1, (base (by simp)).2, .inr (by simp)⟩
    · split at hx
      · simp at hx
      · rename_i hs
        simp at hx; subst hx
        exact ⟨(h.sb hs).2, fun h9 => (h.kb h9).2.2.2 hs, .inl (h.sb hs).1⟩
    · refine ⟨(base (by simp [hx])).1, (base (by simp [hx])).2, ?_⟩
      rcases h.g1 x hx with h9 | h9
      · right; simp [h9]
      · exact .inl h9
  have z := h.ks.size
  refine ⟨rfl, S7, sb7, d3, m3, h.ref.keeps k3 (fun hx => (hf _ hx).1 (by simp)) (fun x hx hy => (hf x hy).1 (by simp [hx])), h.rmac.keeps k3 (fun hx => (hf _ hx).1 (by simp)) (fun hs hx => (hf _ hx).2.1 hs rfl), h.ok, h.lm, h.lr, h.l2, ?_, h.rr, ?_, ?_, h.g1.trans g3 z, h.g2, h.ks.then k3 (fun x hx => (hf x hx).2.2)⟩
  · intro x hx
    simp only [List.mem_cons] at hx
    rcases hx with rfl | rfl | hx
    · exact h.dis _ (by simp)
    · exact h.dis _ (by simp)
    · rcases g3 x hx with h9 | h9
      · exact h.dis _ (by simp [h9])
      · intro hy; have := r1 x hy; omega
  · intro hs
    rcases l3 with ⟨h9, h8⟩ | h9
    · rw [h9]; exact h.sb h8
    · exact ⟨by omega, fun hy => by have := r1 _ hy; omega⟩
  · intro hs
    obtain ⟨a1, a2, a3, a4⟩ := h.kb hs
    refine ⟨a1, ?_, a3, fun h7 => ?_⟩
    · intro hx
      simp only [List.mem_cons] at hx
      rcases hx with hx | hx | hx
      · exact a2 (by simp [hx])
      · exact a2 (by simp [hx])
      · rcases g3 _ hx with h9 | h9
        · exact a2 (by simp [h9])
        · have := r2 hs; omega
    · rcases l3 with ⟨h9, h8⟩ | h9
      · rw [h9]; exact a4 h8
      · have := r2 hs; omega
theorem mg_rstep (k : Nat) (hk : k ≤ 500) (mb db t lo rb wb tw lo2 : Nat) (S R : List Nat) (w : World) (d : Dic) (q : Mac) (S5 : List Nat) (sb5 : Nat) (e : Dic) (p : Mac) (R5 : List Nat) (kb5 : Nat) (W : World)
    (h : Mg9 mb db t lo rb wb tw lo2 S R w d q S5 sb5 e p R5 kb5 W) (hI : DicOk k e) (hsc : p.scans ≤ 1000000) :
    Calls Tryz.prog 66 #[.pointer (some ⟨rb, 0, none⟩)] W fun r W' => r = .returned (stepM e p).turn.agg ∧ ∃ R7 kb7, Mg9 mb db t lo rb wb tw lo2 S R w d q S5 sb5 (stepD e p) (stepM e p) R7 kb7 W' ∧ Keeps (rb :: wb :: (skS p.st kb5 ++ R5 ++ mS none)) W W' := by
  refine (rstep_any k hk rb kb5 wb tw lo2 R5 none ⟨0, 0, 0, 0⟩ e p W h.ref (fun b hb => by simp at hb) (by simp) h.rmac h.rr.1 h.rr.2 h.l2 (fun hs => ?_) hI h.ok hsc).mono ?_
  · have := (h.kb hs).2.2.1
    simp only [List.mem_cons, not_or] at this
    exact ⟨this.2.2, this.1, this.2.1, by simp [mS]⟩
  rintro r W' ⟨R7, kb7, rfl, d3, _, m3, k3, g3, l3, o3⟩
  obtain ⟨r1, r2⟩ := h.dic_lt
  obtain ⟨r3, r4⟩ := h.ref_lt
  have hf : ∀ x, x ∈ rb :: wb :: (skS p.st kb5 ++ R5 ++ mS none) → x ∉ mb :: db :: S5 ∧ (q.st ≠ 0 → sb5 ≠ x) ∧ (w.heap.size ≤ x ∨ x ∈ db :: wb :: (S ++ R)) := by
    intro x hx
    unfold skS mS at hx
    simp only [List.mem_cons, List.mem_append] at hx
    have base : x ∈ rb :: wb :: R5 → x ∉ mb :: db :: S5 ∧ (q.st ≠ 0 → sb5 ≠ x) := fun h9 => ⟨fun h8 => h.dis x h8 h9, fun hs e => (h.sb hs).2 (e ▸ h9)⟩
    rcases hx with rfl | rfl | (hx | hx) | hx
    · exact ⟨(base (by simp)).1, (base (by simp)).2, .inl h.lr⟩
    · exact ⟨(base (by simp)).1, (base (by simp)).2, .inr (by simp)⟩
    · split at hx
      · simp at hx
      · rename_i hs
        simp at hx; subst hx
        exact ⟨(h.kb hs).2.1, fun h9 e => (h.kb hs).2.2.2 h9 e.symm, .inl (h.kb hs).1⟩
    · refine ⟨(base (by simp [hx])).1, (base (by simp [hx])).2, ?_⟩
      rcases h.g2 x hx with h9 | h9
      · right; simp [h9]
      · exact .inl h9
    · simp at hx
  have z := h.ks.size
  have lt1 : ∀ x, x ∈ mb :: db :: S5 → x ∉ rb :: wb :: R7 := fun x hx hy => by
    simp only [List.mem_cons] at hy
    rcases hy with hy | hy | hy
    · exact h.dis x hx (by simp [hy])
    · exact h.dis x hx (by simp [hy])
    · rcases g3 x hy with h9 | h9
      · exact h.dis x hx (by simp [h9])
      · have := r1 x hx; omega
  refine ⟨rfl, R7, kb7, ⟨h.dic.keeps k3 (fun hx => (hf _ hx).1 (by simp)) (fun x hx hy => (hf x hy).1 (by simp [hx])), h.mac.keeps k3 (fun hx => (hf _ hx).1 (by simp)) (fun hs hx => (hf _ hx).2.1 hs rfl), d3, m3, h.ok.step hI, h.lm, h.lr, h.l2, lt1, ⟨?_, h.rr.2⟩, ?_, ?_, h.g1, h.g2.trans g3 z, h.ks.then k3 (fun x hx => (hf x hx).2.2)⟩, k3⟩
  · intro hx
    rcases g3 _ hx with h9 | h9
    · exact h.rr.1 h9
    · have := r3 rb (by simp); omega
  · intro hs
    obtain ⟨a1, a2⟩ := h.sb hs
    refine ⟨a1, fun hx => ?_⟩
    simp only [List.mem_cons] at hx
    rcases hx with hx | hx | hx
    · exact a2 (by simp [hx])
    · exact a2 (by simp [hx])
    · rcases g3 _ hx with h9 | h9
      · exact a2 (by simp [h9])
      · have := r2 hs; omega
  · intro hs
    obtain ⟨o1, o2, o4⟩ := o3 hs
    refine ⟨?_, ?_, by simp; exact ⟨o2, o4, o1⟩, fun h7 => ?_⟩
    · rcases l3 with ⟨h9, h8⟩ | h9
      · rw [h9]; exact (h.kb h8).1
      · omega
    · rcases l3 with ⟨h9, h8⟩ | h9
      · rw [h9]; exact (h.kb h8).2.1
      · intro hx; have := r1 _ hx; omega
    · rcases l3 with ⟨h9, h8⟩ | h9
      · rw [h9]; exact (h.kb h8).2.2.2 h7
      · have := r2 h7; omega
theorem tell_stT {q : Mac} {b : Bool} (h : (tellM q b).st ≠ 0) : q.st ≠ 0 := by
  unfold tellM at h
  split at h
  · rename_i h9; omega
  · exact h
theorem mg_tell (mb db t lo rb wb tw lo2 : Nat) (S R : List Nat) (w : World) (d : Dic) (q : Mac) (S5 : List Nat) (sb5 : Nat) (e : Dic) (p : Mac) (R5 : List Nat) (kb5 : Nat) (W : World)
    (h : Mg9 mb db t lo rb wb tw lo2 S R w d q S5 sb5 e p R5 kb5 W) (b : Bool) :
    Calls Tryz.prog 31 #[.pointer (some ⟨mb, 0, none⟩), .bool b] W fun r W' => r = .returned (.int .i64 (tellE q)) ∧ Mg9 mb db t lo rb wb tw lo2 S R w d (tellM q b) S5 sb5 e p R5 kb5 W' := by
  refine (tell_one mb sb5 db t lo S5 d q W h.mac b).mono ?_
  rintro r W' ⟨rfl, m3, k3⟩
  have hm := h.dis mb (by simp)
  simp only [List.mem_cons, not_or] at hm
  refine ⟨rfl, h.dic.keeps k3 (by simp; exact h.mac.n.symm) (fun x hx hy => by simp at hy; subst hy; exact h.mac.s hx), m3, h.ref.keeps k3 (by simp; exact fun e => hm.2.1 e.symm) (fun x hx hy => by simp at hy; subst hy; exact hm.2.2 hx), h.rmac.keeps k3 (by simp; exact fun e => hm.1 e.symm) (fun hs => by have := (h.kb hs).2.1; simp at this ⊢; exact this.1), h.ok, h.lm, h.lr, h.l2, h.dis, h.rr, fun hs => h.sb (tell_stT hs), fun hs => ⟨(h.kb hs).1, (h.kb hs).2.1, (h.kb hs).2.2.1, fun h7 => (h.kb hs).2.2.2 (tell_stT h7)⟩, h.g1, h.g2, h.ks.then k3 (fun x hx => by simp at hx; subst hx; exact .inl h.lm)⟩
theorem mg_rtell (mb db t lo rb wb tw lo2 : Nat) (S R : List Nat) (w : World) (d : Dic) (q : Mac) (S5 : List Nat) (sb5 : Nat) (e : Dic) (p : Mac) (R5 : List Nat) (kb5 : Nat) (W : World)
    (h : Mg9 mb db t lo rb wb tw lo2 S R w d q S5 sb5 e p R5 kb5 W) (b : Bool) :
    Calls Tryz.prog 37 #[.pointer (some ⟨rb, 0, none⟩), .bool b] W fun r W' => r = .returned (.int .i64 (tellE p)) ∧ Mg9 mb db t lo rb wb tw lo2 S R w d q S5 sb5 e (tellM p b) R5 kb5 W' := by
  refine (rtell_any rb kb5 wb tw p W h.rmac b (fun hs => by have := (h.kb hs).2.2.1; simp at this; exact this.1) h.ok.st).mono ?_
  rintro r W' ⟨rfl, m3, k3⟩
  have hm : rb ∉ mb :: db :: S5 := fun hx => h.dis rb hx (by simp)
  simp only [List.mem_cons, not_or] at hm
  refine ⟨rfl, h.dic.keeps k3 (by simp; exact fun e => hm.2.1 e.symm) (fun x hx hy => by simp at hy; subst hy; exact hm.2.2 hx), h.mac.keeps k3 (by simp; exact fun e => hm.1 e.symm) (fun hs => by have := (h.sb hs).2; simp at this ⊢; exact this.1), h.ref.keeps k3 (by simp; exact fun e => h.rr.2 e.symm) (fun x hx hy => by simp at hy; subst hy; exact h.rr.1 hx), m3, h.ok.tell b, h.lm, h.lr, h.l2, h.dis, h.rr, h.sb, fun hs => h.kb (tell_stT hs), h.g1, h.g2, h.ks.then k3 (fun x hx => by simp at hx; subst hx; exact .inl h.lr)⟩
end Go.Proofs.YtcakdmapnmneoaaGreat
end

section
namespace Go.Proofs.YtcakdmapnmneoaaGreat
open Go.RowKit
set_option linter.unusedVariables false
set_option linter.unusedSimpArgs false

def two9O (db wb : Nat) (sv kv : Value) : Obj := .cells #[.pointer (some ⟨db, 0, none⟩), .pointer (some ⟨wb, 0, none⟩), sv, kv] 35 (0, 0)
/-- Both dictionaries, alike. -/
structure Both9 (db t lo wb tw lo2 : Nat) (S R : List Nat) (d : Dic) (W : World) : Prop where
  dic : DicAt db t lo S (mV none) d W
  ref : RDicAt wb tw lo2 R none d W
  dis : ∀ x, x ∈ db :: S → x ∉ wb :: R
def Later9 (d e : Dic) : Prop := e = d ∨ d.ver < e.ver
def Goal9P (db t lo wb tw lo2 : Nat) (S R : List Nat) (k : Nat) (d : Dic) (w : World) (r : Ending) (w' : World) : Prop :=
  ∃ S' R' e, r = .returned (.bool true) ∧ Both9 db t lo wb tw lo2 S' R' e w' ∧ DicOk (k + 1) e ∧ BirOk e ∧ Later9 d e ∧ Keeps (db :: wb :: (S ++ R)) w w' ∧ Grew S w S' ∧ Grew R w R'
theorem Mg9.both {mb db t lo rb wb tw lo2 : Nat} {S R : List Nat} {w : World} {d : Dic} {q : Mac} {S5 : List Nat} {sb5 : Nat} {p : Mac} {R5 : List Nat} {kb5 : Nat} {W : World} (h : Mg9 mb db t lo rb wb tw lo2 S R w d q S5 sb5 d p R5 kb5 W) : Both9 db t lo wb tw lo2 S5 R5 d W :=
  ⟨h.dic, h.ref, fun x hx hy => h.dis x (List.mem_cons_of_mem _ hx) (List.mem_cons_of_mem _ hy)⟩
set_option maxRecDepth 100000 in
set_option maxHeartbeats 4000000 in
theorem goal9_any (k : Nat) (hk : k ≤ 400) (xb db t lo wb tw lo2 : Nat) (S R : List Nat) (d : Dic) (sv kv : Value) (g : Nat) (hg1 : 1 ≤ g) (hg4 : g ≤ 4) (kd ky hs vl m : Int) (bk : Bool) (w : World)
    (H : w.heap[xb]? = some (two9O db wb sv kv)) (HB : Both9 db t lo wb tw lo2 S R d w) (hI : DicOk k d) (hB : BirOk d) :
    Calls Tryz.prog 24 #[.pointer (some ⟨xb, 0, none⟩), .int .i64 g, .agg #[.int .i64 kd, .int .i64 ky, .int .i64 hs, .int .i64 vl, .bool bk, .int .i64 m]] w (Goal9P db t lo wb tw lo2 S R k d w) := by
  obtain ⟨lr, hlr⟩ : ∃ lr, lr = w.heap.size := ⟨_, rfl⟩
  obtain ⟨WA, hWA⟩ : ∃ WA, w.alloc (.cells #[.int .i64 kd, .int .i64 ky, .int .i64 hs, .int .i64 vl, .bool bk, .int .i64 m] 38) = WA := ⟨_, rfl⟩
  have kb : Keeps [] w WA := by rw [← hWA]; exact (Keeps.refl [] w).alloc _
  have bs : WA.heap[lr]? = some (.cells #[.int .i64 kd, .int .i64 ky, .int .i64 hs, .int .i64 vl, .bool bk, .int .i64 m] 38 (0, 0)) := by rw [← hWA, hlr]; exact has_new _ _
  have hx := kb.has H (by simp)
  unfold two9O at hx
  have x0 : WA.cell? ⟨xb, 0, none⟩ = some (.pointer (some ⟨db, 0, none⟩)) := cell_has hx (i := 0) rfl
  have x1 : WA.cell? ⟨xb, 1, none⟩ = some (.pointer (some ⟨wb, 0, none⟩)) := cell_has hx (i := 1) rfl
  have s1 : WA.cell? ⟨lr, 1, none⟩ = some (.int .i64 ky) := cell_has bs (i := 1) rfl
  have s2 : WA.cell? ⟨lr, 2, none⟩ = some (.int .i64 hs) := cell_has bs (i := 2) rfl
  have s3 : WA.cell? ⟨lr, 3, none⟩ = some (.int .i64 vl) := cell_has bs (i := 3) rfl
  have XS := Lib.hid (show WA.drew.cell? ⟨xb, 0, none⟩ = _ ∧ WA.drew.cell? ⟨xb, 1, none⟩ = _ ∧ WA.drew.cell? ⟨lr, 1, none⟩ = _ ∧ WA.drew.cell? ⟨lr, 2, none⟩ = _ ∧ WA.drew.cell? ⟨lr, 3, none⟩ = _ from ⟨x0, x1, s1, s2, s3⟩)
  have HWA := Lib.hid hWA
  have HLR := Lib.hid hlr
  have KB := Lib.hid kb
  have D0 := Lib.hid (HB.dic.keeps kb.drew (by simp) (by simp))
  have R0 := Lib.hid (HB.ref.keeps kb.drew (by simp) (by simp))
  have DIS := Lib.hid HB.dis
  have HI := Lib.hid hI
  have HBO := Lib.hid hB
  have LD := Lib.hid (show (∀ x, x ∈ db :: S → x < w.heap.size) ∧ (∀ x, x ∈ wb :: R → x < w.heap.size) ∧ lo2 ≤ wb from ⟨fun x hx => by
    simp only [List.mem_cons] at hx
    rcases hx with rfl | hx
    · exact lt_of_block HB.dic.b
    · exact (HB.dic.t.foot x hx).2, fun x hx => (HB.ref.foot x hx).2, HB.ref.l⟩)
  clear H HB hI hB kb bs hx hlr hWA
  go_enter Tryz.func24, Tryz.ntmps24
  go_upto_region 1 with (fail)
  rw [HWA.out, ← HLR.out]
  go_region_held3 (fun w' => w'.cell? ⟨xb, 0, none⟩ = some (.pointer (some ⟨db, 0, none⟩)) ∧ w'.cell? ⟨lr, 1, none⟩ = some (.int .i64 ky) ∧ w'.cell? ⟨lr, 2, none⟩ = some (.int .i64 hs) ∧ w'.cell? ⟨lr, 3, none⟩ = some (.int .i64 vl)) (go_keep)
    (first | (go_at_call 18; refine (begin_one db t lo S d g hs ky vl _ hg1 hg4 D0.out).mono ?_; rintro r w1 ⟨mb, rfl, d1, m1, l1, k1⟩; have D1 := Lib.hid d1; have M1 := Lib.hid m1; have L1 := Lib.hid l1; have K1 := Lib.hid k1; have p0 := k1.cell XS.out.1 (by simp); have p1 := k1.cell XS.out.2.1 (by simp); have p2 := k1.cell XS.out.2.2.1 (by simp); have p3 := k1.cell XS.out.2.2.2.1 (by simp); have p4 := k1.cell XS.out.2.2.2.2 (by simp); clear d1 m1 l1 k1))
  have XS1 := Lib.hid (show w1.drew.cell? ⟨xb, 1, none⟩ = _ ∧ w1.drew.cell? ⟨lr, 1, none⟩ = _ ∧ w1.drew.cell? ⟨lr, 2, none⟩ = _ ∧ w1.drew.cell? ⟨lr, 3, none⟩ = _ from ⟨p1, p2, p3, p4⟩)
  go_upto_region 2 with (fail)
  go_region_held3 (fun w' => w'.cell? ⟨xb, 1, none⟩ = some (.pointer (some ⟨wb, 0, none⟩)) ∧ w'.cell? ⟨lr, 1, none⟩ = some (.int .i64 ky) ∧ w'.cell? ⟨lr, 2, none⟩ = some (.int .i64 hs) ∧ w'.cell? ⟨lr, 3, none⟩ = some (.int .i64 vl)) (go_keep)
    (first | (go_at_call 35; refine (rbegin_any wb tw g hs ky vl _ hg1 hg4).mono ?_; rintro r w2 ⟨rb, rfl, m2, l2, k2⟩; have M2 := Lib.hid m2; have L2 := Lib.hid l2; have K2 := Lib.hid k2; have u1 := k2.cell XS1.out.1 (by simp); have u2 := k2.cell XS1.out.2.1 (by simp); have u3 := k2.cell XS1.out.2.2.1 (by simp); have u4 := k2.cell XS1.out.2.2.2 (by simp); clear m2 l2 k2))
  have z1 := KB.out.size
  have z2 := K1.out.size
  have kk2 := (Keeps.refl [] w1).drew.trans K2.out
  have mlt : mb < w1.heap.size := by obtain ⟨ev, h9, _⟩ := (M1.out 0).a; exact lt_of_block h9
  have B0 := Lib.hid (show Mg9 mb db t lo rb wb tw lo2 S R w d (newM g hs ky vl) S 0 d (newM g hs ky vl) R 0 w2 from by
    have hl1 : WA.heap.size ≤ mb := L1.out
    have hl2 : w1.heap.size ≤ rb := L2.out
    have hz2 : WA.heap.size ≤ w1.heap.size := z2
    refine ⟨D1.out.keeps kk2 (by simp) (by simp), (M1.out 0).keeps kk2 (by simp) (by simp), (R0.out.keeps K1.out (by simp) (by simp)).keeps kk2 (by simp) (by simp), M2.out 0, newM_ok d g hs ky vl hg1 hg4, by omega, by omega, by have := LD.out.2.2; have := LD.out.2.1 wb (by simp); omega, ?_, ⟨fun hx => by have := LD.out.2.1 rb (by simp [hx]); omega, fun hx => by have := LD.out.2.1 wb (by simp); omega⟩, fun h => absurd rfl h, fun h => absurd rfl h, Grew.refl _ _, Grew.refl _ _, (((KB.out.drew.trans K1.out).trans kk2)).mono (by simp)⟩
    intro x hx hy
    simp only [List.mem_cons] at hx hy
    rcases hx with rfl | hx
    · rcases hy with hy | hy
      · omega
      · have := LD.out.2.1 x (by simpa using hy); omega
    · have h9 := LD.out.1 x (by simpa using hx)
      rcases hy with hy | hy
      · omega
      · exact DIS.out x (by simpa using hx) (by simpa using hy))
  clear p0 p1 p2 p3 p4 u1 u2 u3 u4 x0 x1 s1 s2 s3 z1 z2 kk2 mlt
  go_wp2_with fail
  go_loopw [9] (fun i wr => ∃ (j : Nat) (q : Mac) (S5 : List Nat) (sb5 : Nat) (R5 : List Nat) (kb5 : Nat), j ≤ 600 ∧ i = .int .i64 j ∧ q.scans ≤ j ∧ Mg9 mb db t lo rb wb tw lo2 S R w d q S5 sb5 d q R5 kb5 wr) (fun i _ => 600 - (intOf i).toNat)
  case atStart => exact ⟨0, newM g hs ky vl, S, 0, R, 0, by omega, by go_num, Nat.zero_le _, B0.out⟩
  case round =>
    obtain ⟨j, q, S5, sb5, R5, kb5, hj, rfl, hsc, hm⟩ := hrel
    have HM := Lib.hid hm
    have HSC := Lib.hid hsc
    have hj0 : (0 : Int) ≤ (j : Int) := by omega
    clear hm B0 hsc
    by_cases hlt : j < 600
    · have hj1 : (j : Int) < 600 := by omega
      go_wp2_with fail
      refine (mg_step k (by omega) mb db t lo rb wb tw lo2 S R w d q S5 sb5 d q R5 kb5 wr HM.out HI.out (by have := HSC.out; omega)).mono ?_
      rintro r w3 ⟨rfl, S7, sb7, h3⟩
      obtain ⟨T3, hT3⟩ := ex_hid (stepM d q).turn
      rw [← hT3.out]
      have H3 := Lib.hid h3
      clear h3
      unfold Trn.agg
      go_upto_region 9 with (fail)
      refine wp_gen (fun V => V.heap[w3.heap.size]? = some (trnO T3) ∧ Keeps [] w3 V) ⟨has_new _ _, (Keeps.refl [] w3).alloc _⟩ ?_
      rintro w4 ⟨b4, k4⟩
      have H4 := Lib.hid (H3.out.kept k4)
      have B4 := Lib.hid b4
      have LT3 := Lib.hid H3.out.ref_lt
      obtain ⟨ta, hta⟩ := ex_hid w3.heap.size
      rw [← hta.out] at B4 ⊢
      clear b4 k4
      go_wp2_with fail
      refine (mg_rstep k (by omega) mb db t lo rb wb tw lo2 S R w (stepD d q) (stepM d q) S7 sb7 d q R5 kb5 w4 H4.out HI.out (by have := HSC.out; omega)).mono ?_
      rintro r w5 ⟨rfl, R7, kb7, h5, k5⟩
      rw [← hT3.out]
      have H5 := Lib.hid h5
      have nta : ta ∉ rb :: wb :: (skS q.st kb5 ++ R5 ++ mS none) := by
        intro hx
        have hta' := hta.out
        unfold skS mS at hx
        simp only [List.mem_cons, List.mem_append] at hx
        rcases hx with hx | hx | (hx | hx) | hx
        · have := LT3.out.1 rb (by simp); omega
        · have := LT3.out.1 wb (by simp); omega
        · split at hx
          · simp at hx
          · rename_i hs9
            simp at hx
            have := LT3.out.2 hs9; omega
        · have := LT3.out.1 ta (by simp [hx]); omega
        · simp at hx
      have B5 := Lib.hid (k5.has B4.out nta)
      clear h5 k5 nta
      unfold Trn.agg
      go_upto_region 10 with (fail)
      refine wp_gen (fun V => V.heap[w5.heap.size]? = some (trnO T3) ∧ Keeps [] w5 V) ⟨has_new _ _, (Keeps.refl [] w5).alloc _⟩ ?_
      rintro w6 ⟨b6, k6⟩
      have H6 := Lib.hid (H5.out.kept k6)
      obtain ⟨ta0, _⟩ := trn_cells (k6.has B5.out (by simp))
      obtain ⟨tb0, _⟩ := trn_cells b6
      obtain ⟨tb, htb⟩ := ex_hid w5.heap.size
      rw [← htb.out] at tb0 ⊢
      clear b6 k6
      by_cases hkd : T3.kind = 1
      · rw [hkd] at ta0 tb0
        have hD : stepD d q = d := step_ask (by rw [← hT3.out]; exact hkd)
        have H6' := H6
        rw [hD] at H6'
        clear hkd hD H6
        go_wp2_with fail
        refine (mg_tell mb db t lo rb wb tw lo2 S R w d (stepM d q) S7 sb7 d (stepM d q) R7 kb7 w6 H6'.out false).mono ?_
        rintro r w7 ⟨rfl, h7⟩
        have H7 := Lib.hid h7
        clear h7 ta0 tb0
        go_wp2_with fail
        refine (mg_rtell mb db t lo rb wb tw lo2 S R w d (tellM (stepM d q) false) S7 sb7 d (stepM d q) R7 kb7 w7 H7.out false).mono ?_
        rintro r w8 ⟨rfl, h8⟩
        have H8 := Lib.hid h8
        clear h8
        go_wp2_with fail
        go_roundw
        case rel => exact ⟨j + 1, tellM (stepM d q) false, S7, sb7, R7, kb7, by omega, by go_num, by rw [tell_sc9]; have := step_sc d q; have := HSC.out; omega, H8.out⟩
        case measure => simp [intOf]; omega
      · obtain ⟨kn, hkn⟩ := ex_hid T3.kind
        rw [← hkn.out] at ta0 tb0
        have hk1 : (kn == (1 : Int)) = false := by rw [hkn.out]; simpa using hkd
        have hk2 : (kn != (1 : Int)) = true := by rw [hkn.out]; simpa using hkd
        clear hkd
        go_wp2_with fail
        go_ret
        exact ⟨S7, R7, stepD d q, rfl, H6.out.both, HI.out.step (by omega) q, HBO.out.step q, (stepD_same d q).elim .inl (fun h => .inr (by omega)), H6.out.ks, H6.out.g1, H6.out.g2⟩
    · obtain rfl : j = 600 := by omega
      go_wp2_with fail
      go_ret
      exact ⟨S5, R5, d, rfl, HM.out.both, HI.out.mono (by omega), HBO.out, .inl rfl, HM.out.ks, HM.out.g1, HM.out.g2⟩
end Go.Proofs.YtcakdmapnmneoaaGreat
end

section
namespace Go.Proofs.YtcakdmapnmneoaaGreat
open Go.RowKit
set_option linter.unusedVariables false
set_option linter.unusedSimpArgs false

theorem DicOk.clr {k : Nat} {d : Dic} (h : DicOk k d) : DicOk (k + 1) d.clr := ⟨h.t.clear, by have := h.v; show d.ver + 1 ≤ _; omega⟩
theorem DicOk.took {k : Nat} {d : Dic} (h : DicOk k d) (e : Int) : DicOk (k + 1) (d.took e) := ⟨h.t.kill e, by have := h.v; show d.ver + 1 ≤ _; omega⟩
theorem BirOk.clr {d : Dic} (h : BirOk d) : BirOk d.clr := ⟨Born.nil _, fun x hx => by simp [Dic.clr, Tab.clear] at hx⟩
theorem BirOk.took {d : Dic} (h : BirOk d) (e : Int) : BirOk (d.took e) := ⟨h.up.killT e, pos_kill h.pos e⟩
theorem DicOk.outD {k : Nat} {d : Dic} (h : DicOk k d) (back : Bool) : DicOk (k + 1) (d.outD back) := by
  unfold Dic.outD; split
  · exact h.mono (by omega)
  · exact h.took _
theorem BirOk.outD {d : Dic} (h : BirOk d) (back : Bool) : BirOk (d.outD back) := by
  unfold Dic.outD; split
  · exact h
  · exact h.took _
theorem Later9.outD (d : Dic) (back : Bool) : Later9 d (d.outD back) := by
  unfold Dic.outD Later9; split
  · exact .inl rfl
  · exact .inr (Nat.lt_succ_self _)
/-- A stroll and the document's. -/
structure It9 where
  b : Nat
  F : List Nat
  s : Str
  rb : Nat
  r : Rst
def It9.feet (i : It9) : List Nat := i.rb :: i.F
def ptrs (f : It9 → Nat) (l : List It9) (i : Nat) : Value := .pointer (some ⟨(l.map f).getD i 0, 0, none⟩)
/-- Both dictionaries and their strolls. -/
structure S9 (B lo3 xb db t lo wb tw lo2 : Nat) (S R : List Nat) (d : Dic) (l : List It9) (W : World) : Prop where
  both : Both9 db t lo wb tw lo2 S R d W
  bir : BirOk d
  rows : ∃ a c a' c', W.heap[xb]? = some (two9O db wb (.slice a l.length c) (.slice a' l.length c')) ∧ ValRow 72 lo3 a l.length c (ptrs It9.b l) W ∧ ValRow 91 lo3 a' l.length c' (ptrs It9.rb l) W ∧
    (∀ x, x ∈ blk a ++ blk a' → x ∉ xb :: db :: wb :: (S ++ R) ∧ ∀ i, i ∈ l → x ∉ i.feet) ∧ ∀ x, x ∈ blk a → x ∉ blk a'
  its : ∀ i, i ∈ l → StrAt lo3 i.b i.F i.s W ∧ W.heap[i.rb]? = some (rstO wb i.r) ∧ Lnk db d i.s i.r ∧ (∀ x, x ∈ i.feet → x ∉ xb :: db :: wb :: (S ++ R)) ∧ i.rb ∉ i.F ∧ lo3 ≤ i.rb
  own : l.Pairwise fun i j => ∀ x, x ∈ i.feet → x ∉ j.feet
  xn : xb ∉ db :: wb :: (S ++ R)
  bs : B ≤ lo ∧ B ≤ lo2 ∧ B ≤ lo3 ∧ B ≤ xb
section
variable {B lo3 xb db t lo wb tw lo2 : Nat} {S R : List Nat} {d : Dic} {l : List It9} {W W' : World}
theorem S9.its_lt (h : S9 B lo3 xb db t lo wb tw lo2 S R d l W) : ∀ i, i ∈ l → ∀ x, x ∈ i.feet → x < W.heap.size := by
  intro i hi x hx
  obtain ⟨h1, h2, _⟩ := h.its i hi
  unfold It9.feet at hx
  simp only [List.mem_cons] at hx
  rcases hx with rfl | hx
  · exact lt_of_block h2
  · exact (h1.lo x hx).2
theorem S9.dic_lo (h : S9 B lo3 xb db t lo wb tw lo2 S R d l W) : ∀ x, x ∈ db :: wb :: (S ++ R) → B ≤ x ∧ x < W.heap.size := by
  intro x hx
  obtain ⟨b1, b2, _⟩ := h.bs
  simp only [List.mem_cons, List.mem_append] at hx
  rcases hx with rfl | rfl | hx | hx
  · exact ⟨by have := h.both.dic.l; omega, lt_of_block h.both.dic.b⟩
  · exact ⟨by have := h.both.ref.l; omega, lt_of_block h.both.ref.b⟩
  · have := h.both.dic.t.foot x hx; exact ⟨by omega, this.2⟩
  · have := h.both.ref.foot x (by simp [hx]); exact ⟨by omega, this.2⟩
/-- The dictionaries alone have changed. -/
theorem S9.moved (h : S9 B lo3 xb db t lo wb tw lo2 S R d l W) {S' R' : List Nat} {e : Dic} (hb : Both9 db t lo wb tw lo2 S' R' e W') (hB : BirOk e) (hL : Later9 d e) (k : Keeps (db :: wb :: (S ++ R)) W W') (g1 : Grew S W S') (g2 : Grew R W R') :
    S9 B lo3 xb db t lo wb tw lo2 S' R' e l W' := by
  have nx : ∀ x, x < W.heap.size → x ∉ db :: wb :: (S ++ R) → x ∉ db :: wb :: (S' ++ R') := by
    intro x hx hn hy
    simp only [List.mem_cons, List.mem_append, not_or] at hn hy
    rcases hy with hy | hy | hy | hy
    · exact hn.1 hy
    · exact hn.2.1 hy
    · rcases g1 x hy with h1 | h1
      · exact hn.2.2.1 h1
      · omega
    · rcases g2 x hy with h1 | h1
      · exact hn.2.2.2 h1
      · omega
  have nxb : ∀ x, x < W.heap.size → x ∉ xb :: db :: wb :: (S ++ R) → x ∉ xb :: db :: wb :: (S' ++ R') := by
    intro x hx hn hy
    rw [List.mem_cons, not_or] at hn
    rw [List.mem_cons] at hy
    rcases hy with hy | hy
    · exact hn.1 hy
    · exact nx x hx hn.2 hy
  obtain ⟨a, c, a', c', r1, r2, r3, r4, r5⟩ := h.rows
  have off : ∀ x, x ∉ xb :: db :: wb :: (S ++ R) → x ∉ db :: wb :: (S ++ R) := fun x hx hy => hx (List.mem_cons_of_mem _ hy)
  refine ⟨hb, hB, ⟨a, c, a', c', k.has r1 h.xn, r2.keeps k (fun x hx => off x (r4 x (by simp [hx])).1), r3.keeps k (fun x hx => off x (r4 x (by simp [hx])).1), fun x hx => ⟨nxb x ?_ (r4 x hx).1, (r4 x hx).2⟩, r5⟩, ?_, h.own, nx _ (lt_of_block r1) h.xn, h.bs⟩
  · rcases List.mem_append.1 hx with h9 | h9
    · exact (r2.blk_lt x h9).2
    · exact (r3.blk_lt x h9).2
  · intro i hi
    obtain ⟨i1, i2, i3, i4, i5, i6⟩ := h.its i hi
    refine ⟨i1.keeps k (fun x hx => off x (i4 x (List.mem_cons_of_mem _ hx))), k.has i2 (off _ (i4 _ (List.mem_cons_self))), ?_, fun x hx => nxb x (h.its_lt i hi x hx) (i4 x hx), i5, i6⟩
    rcases hL with rfl | hL
    · exact i3
    · exact i3.later hL
theorem S9.below (h : S9 B lo3 xb db t lo wb tw lo2 S R d l W) (k : Keeps (db :: wb :: (S ++ R)) W W') : Below B W W' :=
  k.below (by obtain ⟨a, c, a', c', r1, _⟩ := h.rows; have := lt_of_block r1; have := h.bs.2.2.2; omega) (fun x hx => (h.dic_lo x hx).1)
theorem S9.kept (h : S9 B lo3 xb db t lo wb tw lo2 S R d l W) (k : Keeps [] W W') : S9 B lo3 xb db t lo wb tw lo2 S R d l W' :=
  h.moved ⟨h.both.dic.keeps k (by simp) (by simp), h.both.ref.keeps k (by simp) (by simp), h.both.dis⟩ h.bir (.inl rfl) (k.mono (by simp)) (Grew.refl _ _) (Grew.refl _ _)
end
/-- Behind a call of does. -/
def Does9P (B lo3 xb db t lo wb tw lo2 k n : Nat) (w : World) (r : Ending) (w' : World) : Prop :=
  ∃ S' R' e l', r = .returned (.bool true) ∧ l'.length = n ∧ S9 B lo3 xb db t lo wb tw lo2 S' R' e l' w' ∧ DicOk (k + 1) e ∧ Below B w w'
def stepA (kd ky hs vl : Int) (bk : Bool) (m : Int) : Value := .agg #[.int .i64 kd, .int .i64 ky, .int .i64 hs, .int .i64 vl, .bool bk, .int .i64 m]
set_option maxRecDepth 100000 in
set_option maxHeartbeats 4000000 in
theorem does9_goal (B lo3 xb db t lo wb tw lo2 : Nat) (S R : List Nat) (d : Dic) (l : List It9) (k : Nat) (hk : k ≤ 400) (g : Int) (hg : g = 1 ∨ g = 2) (ky hs vl m : Int) (bk : Bool) (w : World) (H : S9 B lo3 xb db t lo wb tw lo2 S R d l w) (hI : DicOk k d) :
    Calls Tryz.prog 10 #[.pointer (some ⟨xb, 0, none⟩), stepA g ky hs vl bk m] w (Does9P B lo3 xb db t lo wb tw lo2 k l.length w) := by
  obtain ⟨lr, hlr⟩ : ∃ lr, lr = w.heap.size := ⟨_, rfl⟩
  obtain ⟨WA, hWA⟩ : ∃ WA, w.alloc (.cells #[.int .i64 g, .int .i64 ky, .int .i64 hs, .int .i64 vl, .bool bk, .int .i64 m] 38) = WA := ⟨_, rfl⟩
  have kb : Keeps [] w WA := by rw [← hWA]; exact (Keeps.refl [] w).alloc _
  have bs : WA.heap[lr]? = some (.cells #[.int .i64 g, .int .i64 ky, .int .i64 hs, .int .i64 vl, .bool bk, .int .i64 m] 38 (0, 0)) := by rw [← hWA, hlr]; exact has_new _ _
  have HA := Lib.hid (H.kept kb)
  have HBel := Lib.hid (show Below B w WA from kb.below (by obtain ⟨a, c, a', c', r1, _⟩ := H.rows; have := lt_of_block r1; have := H.bs.2.2.2; omega) (by simp))
  have HWA := Lib.hid hWA
  have HLR := Lib.hid hlr
  have HI := Lib.hid hI
  obtain ⟨a, c, a', c', r1, _⟩ := HA.out.rows
  have R1 := Lib.hid r1
  have s0 : WA.cell? ⟨lr, 0, none⟩ = some (.int .i64 g) := cell_has bs (i := 0) rfl
  have s1 : WA.cell? ⟨lr, 1, none⟩ = some (.int .i64 ky) := cell_has bs (i := 1) rfl
  have s2 : WA.cell? ⟨lr, 2, none⟩ = some (.int .i64 hs) := cell_has bs (i := 2) rfl
  have s3 : WA.cell? ⟨lr, 3, none⟩ = some (.int .i64 vl) := cell_has bs (i := 3) rfl
  have s4 : WA.cell? ⟨lr, 4, none⟩ = some (.bool bk) := cell_has bs (i := 4) rfl
  have s5 : WA.cell? ⟨lr, 5, none⟩ = some (.int .i64 m) := cell_has bs (i := 5) rfl
  clear H hI kb bs hlr hWA r1
  unfold stepA
  rcases hg with rfl | rfl
  all_goals
    go_enter Tryz.func10, Tryz.ntmps10
    go_upto_region 1 with (fail)
    rw [HWA.out, ← HLR.out]
    go_wp2_with fail
  · refine (goal9_any k hk xb db t lo wb tw lo2 S R d _ _ 2 (by omega) (by omega) _ ky hs vl m bk WA R1.out HA.out.both HI.out HA.out.bir).mono ?_
    rintro r w1 ⟨S', R', e, rfl, h1, h2, h3, h4, h5, h6, h7⟩
    have HH := Lib.hid (show S9 B lo3 xb db t lo wb tw lo2 S' R' e l w1 ∧ DicOk (k + 1) e ∧ Below B w w1 from ⟨HA.out.moved h1 h3 h4 h5 h6 h7, h2, HBel.out.trans (HA.out.below h5)⟩)
    clear h1 h2 h3 h4 h5 h6 h7
    go_wp2_with fail
    go_ret
    exact ⟨S', R', e, l, rfl, rfl, HH.out.1, HH.out.2.1, HH.out.2.2⟩
  · refine (goal9_any k hk xb db t lo wb tw lo2 S R d _ _ 3 (by omega) (by omega) _ ky hs vl m bk WA R1.out HA.out.both HI.out HA.out.bir).mono ?_
    rintro r w1 ⟨S', R', e, rfl, h1, h2, h3, h4, h5, h6, h7⟩
    have HH := Lib.hid (show S9 B lo3 xb db t lo wb tw lo2 S' R' e l w1 ∧ DicOk (k + 1) e ∧ Below B w w1 from ⟨HA.out.moved h1 h3 h4 h5 h6 h7, h2, HBel.out.trans (HA.out.below h5)⟩)
    clear h1 h2 h3 h4 h5 h6 h7
    go_wp2_with fail
    go_ret
    exact ⟨S', R', e, l, rfl, rfl, HH.out.1, HH.out.2.1, HH.out.2.2⟩
end Go.Proofs.YtcakdmapnmneoaaGreat
end

section
namespace Go.Proofs.YtcakdmapnmneoaaGreat
open Go.RowKit
set_option linter.unusedVariables false
set_option linter.unusedSimpArgs false

theorem dis_grow1 {db wb : Nat} {S R S' : List Nat} {w : World} (h : ∀ x, x ∈ db :: S → x ∉ wb :: R) (g : Grew S w S') (lt : ∀ x, x ∈ wb :: R → x < w.heap.size) : ∀ x, x ∈ db :: S' → x ∉ wb :: R := by
  intro x hx hy
  rcases List.mem_cons.1 hx with rfl | hx
  · exact h x (by simp) hy
  · rcases g x hx with h1 | h1
    · exact h x (by simp [h1]) hy
    · have := lt x hy; omega
theorem dis_grow2 {db wb : Nat} {S R R' : List Nat} {w : World} (h : ∀ x, x ∈ db :: S → x ∉ wb :: R) (g : Grew R w R') (lt : ∀ x, x ∈ db :: S → x < w.heap.size) : ∀ x, x ∈ db :: S → x ∉ wb :: R' := by
  intro x hx hy
  rcases List.mem_cons.1 hy with rfl | hy
  · exact h x hx (by simp)
  · rcases g x hy with h1 | h1
    · exact h x hx (by simp [h1])
    · have := lt x hx; omega
set_option maxRecDepth 100000 in
set_option maxHeartbeats 4000000 in
theorem does9_clear (B lo3 xb db t lo wb tw lo2 : Nat) (S R : List Nat) (d : Dic) (l : List It9) (k : Nat) (hk : k ≤ 400) (ky hs vl m : Int) (bk : Bool) (w : World) (H : S9 B lo3 xb db t lo wb tw lo2 S R d l w) (hI : DicOk k d) :
    Calls Tryz.prog 10 #[.pointer (some ⟨xb, 0, none⟩), stepA 3 ky hs vl bk m] w (Does9P B lo3 xb db t lo wb tw lo2 k l.length w) := by
  obtain ⟨lr, hlr⟩ : ∃ lr, lr = w.heap.size := ⟨_, rfl⟩
  obtain ⟨WA, hWA⟩ : ∃ WA, w.alloc (.cells #[.int .i64 3, .int .i64 ky, .int .i64 hs, .int .i64 vl, .bool bk, .int .i64 m] 38) = WA := ⟨_, rfl⟩
  have kb : Keeps [] w WA := by rw [← hWA]; exact (Keeps.refl [] w).alloc _
  have bs : WA.heap[lr]? = some (.cells #[.int .i64 3, .int .i64 ky, .int .i64 hs, .int .i64 vl, .bool bk, .int .i64 m] 38 (0, 0)) := by rw [← hWA, hlr]; exact has_new _ _
  have HA := Lib.hid (H.kept kb)
  have HBel := Lib.hid (show Below B w WA from kb.below (by obtain ⟨a, c, a', c', r1, _⟩ := H.rows; have := lt_of_block r1; have := H.bs.2.2.2; omega) (by simp))
  have HWA := Lib.hid hWA
  have HLR := Lib.hid hlr
  have HI := Lib.hid hI
  obtain ⟨a, c, a', c', r1, _⟩ := HA.out.rows
  have R1 := Lib.hid r1
  unfold two9O at r1
  have x0 : WA.cell? ⟨xb, 0, none⟩ = some (.pointer (some ⟨db, 0, none⟩)) := cell_has r1 (i := 0) rfl
  have s0 : WA.cell? ⟨lr, 0, none⟩ = some (.int .i64 3) := cell_has bs (i := 0) rfl
  clear H hI kb bs hlr hWA r1
  unfold stepA
  go_enter Tryz.func10, Tryz.ntmps10
  go_upto_region 1 with (fail)
  rw [HWA.out, ← HLR.out]
  go_wp2_with fail
  refine (dclear_any k (by omega) db t lo S none ⟨0, 0, 0, 0⟩ d WA HA.out.both.dic (fun b hb => by simp at hb) (by simp) HI.out).mono ?_
  rintro r w1 ⟨S1, rfl, d1, _, k1, g1⟩
  have XN := HA.out.xn
  simp only [List.mem_cons, List.mem_append, not_or] at XN
  have x1 : w1.cell? ⟨xb, 1, none⟩ = some (.pointer (some ⟨wb, 0, none⟩)) := by
    have h9 := k1.has R1.out (by simp [mS]; exact ⟨XN.1, XN.2.2.1⟩)
    unfold two9O at h9
    exact cell_has h9 (i := 1) rfl
  have XN1 := Lib.hid XN
  have D1 := Lib.hid d1
  have K1 := Lib.hid k1
  have G1 := Lib.hid g1
  have W1 := Lib.hid (HA.out.both.ref.keeps k1 (by have := HA.out.both.dis db (by simp); simp [mS] at this ⊢; exact ⟨fun e => this.1 e.symm, fun h => HA.out.both.dis wb (by simp [h]) (by simp)⟩) (fun x hx hy => by simp [mS] at hy; exact HA.out.both.dis x (by simp [hy]) (by simp [hx])))
  have DI1 := Lib.hid (dis_grow1 HA.out.both.dis g1 (fun x hx => (HA.out.both.ref.foot x hx).2))
  clear d1 k1 g1 XN x0 s0
  go_wp2_with fail
  refine (rclear8_any k (by omega) wb tw lo2 R none ⟨0, 0, 0, 0⟩ d w1 W1.out (fun b hb => by simp at hb) (by simp) HI.out).mono ?_
  rintro r w2 ⟨R2, rfl, d2, _, k2, g2⟩
  have dlt : ∀ x, x ∈ db :: S1 → x < w1.heap.size := fun x hx => by
    rcases List.mem_cons.1 hx with rfl | hx
    · exact lt_of_block D1.out.b
    · exact (D1.out.t.foot x hx).2
  have D2 := D1.out.keeps k2 (by have := DI1.out db (by simp); simp [mS] at this ⊢; exact this) (fun x hx hy => by simp [mS] at hy; exact DI1.out x (by simp [hx]) (by simp; exact hy))
  have kA : Keeps (db :: wb :: (S ++ R)) WA w2 := (K1.out.mono (fun x hx => by simp [mS] at hx ⊢; rcases hx with h | h <;> simp [h])).then k2 (fun x hx => by right; simp [mS] at hx ⊢; rcases hx with h | h <;> simp [h])
  have HH := Lib.hid (show S9 B lo3 xb db t lo wb tw lo2 S1 R2 (d.clr) l w2 ∧ DicOk (k + 1) (d.clr) ∧ Below B w w2 from ⟨HA.out.moved ⟨D2, d2, dis_grow2 DI1.out g2 dlt⟩ (HA.out.bir.clr) (.inr (Nat.lt_succ_self _)) kA G1.out (fun x hx => by rcases g2 x hx with h1 | h1; exact .inl h1; exact .inr (Nat.le_trans K1.out.size h1)), HI.out.clr, HBel.out.trans (HA.out.below kA)⟩)
  clear d2 k2 g2 dlt D2 kA
  go_wp2_with fail
  go_ret
  exact ⟨S1, R2, _, l, rfl, rfl, HH.out.1, HH.out.2.1, HH.out.2.2⟩
set_option maxRecDepth 100000 in
set_option maxHeartbeats 4000000 in
theorem does9_last (B lo3 xb db t lo wb tw lo2 : Nat) (S R : List Nat) (d : Dic) (l : List It9) (k : Nat) (hk : k ≤ 400) (ky hs vl m : Int) (bk : Bool) (w : World) (H : S9 B lo3 xb db t lo wb tw lo2 S R d l w) (hI : DicOk k d) :
    Calls Tryz.prog 10 #[.pointer (some ⟨xb, 0, none⟩), stepA 6 ky hs vl bk m] w (Does9P B lo3 xb db t lo wb tw lo2 k l.length w) := by
  obtain ⟨lr, hlr⟩ : ∃ lr, lr = w.heap.size := ⟨_, rfl⟩
  obtain ⟨WA, hWA⟩ : ∃ WA, w.alloc (.cells #[.int .i64 6, .int .i64 ky, .int .i64 hs, .int .i64 vl, .bool bk, .int .i64 m] 38) = WA := ⟨_, rfl⟩
  have kb : Keeps [] w WA := by rw [← hWA]; exact (Keeps.refl [] w).alloc _
  have bs : WA.heap[lr]? = some (.cells #[.int .i64 6, .int .i64 ky, .int .i64 hs, .int .i64 vl, .bool bk, .int .i64 m] 38 (0, 0)) := by rw [← hWA, hlr]; exact has_new _ _
  have HA := Lib.hid (H.kept kb)
  have HBel := Lib.hid (show Below B w WA from kb.below (by obtain ⟨a, c, a', c', r1, _⟩ := H.rows; have := lt_of_block r1; have := H.bs.2.2.2; omega) (by simp))
  have HWA := Lib.hid hWA
  have HLR := Lib.hid hlr
  have HI := Lib.hid hI
  obtain ⟨a, c, a', c', r1, _⟩ := HA.out.rows
  have R1 := Lib.hid r1
  unfold two9O at r1
  have x0 : WA.cell? ⟨xb, 0, none⟩ = some (.pointer (some ⟨db, 0, none⟩)) := cell_has r1 (i := 0) rfl
  have s0 : WA.cell? ⟨lr, 0, none⟩ = some (.int .i64 6) := cell_has bs (i := 0) rfl
  clear H hI kb bs hlr hWA r1
  unfold stepA
  go_enter Tryz.func10, Tryz.ntmps10
  go_upto_region 1 with (fail)
  rw [HWA.out, ← HLR.out]
  go_wp2_with fail
  refine (last8_any db t lo S (mV none) d WA HA.out.both.dic (HI.out.t.mono (by omega)) (by have := HI.out.v; omega)).mono ?_
  rintro r w1 ⟨rfl, d1, k1⟩
  obtain ⟨S1, hS1⟩ : ∃ S1, S1 = S := ⟨_, rfl⟩
  rw [← hS1] at d1
  have g1 : Grew S WA S1 := by rw [hS1]; exact Grew.refl _ _
  clear hS1
  have XN := HA.out.xn
  simp only [List.mem_cons, List.mem_append, not_or] at XN
  have x1 : w1.cell? ⟨xb, 1, none⟩ = some (.pointer (some ⟨wb, 0, none⟩)) := by
    have h9 := k1.has R1.out (by simp [mS]; exact ⟨XN.1, XN.2.2.1⟩)
    unfold two9O at h9
    exact cell_has h9 (i := 1) rfl
  have XN1 := Lib.hid XN
  have D1 := Lib.hid d1
  have K1 := Lib.hid k1
  have G1 := Lib.hid g1
  have W1 := Lib.hid (HA.out.both.ref.keeps k1 (by have := HA.out.both.dis db (by simp); simp [mS] at this ⊢; exact ⟨fun e => this.1 e.symm, fun h => HA.out.both.dis wb (by simp [h]) (by simp)⟩) (fun x hx hy => by simp [mS] at hy; exact HA.out.both.dis x (by simp [hy]) (by simp [hx])))
  have DI1 := Lib.hid (dis_grow1 HA.out.both.dis g1 (fun x hx => (HA.out.both.ref.foot x hx).2))
  clear d1 k1 g1 XN x0 s0
  go_wp2_with fail
  refine (rlast8_any k (by omega) wb tw lo2 R none d w1 W1.out HI.out.t (by have := HI.out.v; omega)).mono ?_
  rintro r w2 ⟨rfl, d2, k2⟩
  obtain ⟨R2, hR2⟩ : ∃ R2, R2 = R := ⟨_, rfl⟩
  rw [← hR2] at d2
  have g2 : Grew R w1 R2 := by rw [hR2]; exact Grew.refl _ _
  clear hR2
  have dlt : ∀ x, x ∈ db :: S1 → x < w1.heap.size := fun x hx => by
    rcases List.mem_cons.1 hx with rfl | hx
    · exact lt_of_block D1.out.b
    · exact (D1.out.t.foot x hx).2
  have D2 := D1.out.keeps k2 (by have := DI1.out db (by simp); simp [mS] at this ⊢; exact this) (fun x hx hy => by simp [mS] at hy; exact DI1.out x (by simp [hx]) (by simp; exact hy))
  have kA : Keeps (db :: wb :: (S ++ R)) WA w2 := (K1.out.mono (fun x hx => by simp [mS] at hx ⊢; rcases hx with h | h <;> simp [h])).then k2 (fun x hx => by right; simp [mS] at hx ⊢; rcases hx with h | h <;> simp [h])
  have HH := Lib.hid (show S9 B lo3 xb db t lo wb tw lo2 S1 R2 (d.outD true) l w2 ∧ DicOk (k + 1) (d.outD true) ∧ Below B w w2 from ⟨HA.out.moved ⟨D2, d2, dis_grow2 DI1.out g2 dlt⟩ (HA.out.bir.outD true) (Later9.outD d true) kA G1.out (fun x hx => by rcases g2 x hx with h1 | h1; exact .inl h1; exact .inr (Nat.le_trans K1.out.size h1)), HI.out.outD true, HBel.out.trans (HA.out.below kA)⟩)
  clear d2 k2 g2 dlt D2 kA
  go_wp2_with fail
  go_ret
  exact ⟨S1, R2, _, l, rfl, rfl, HH.out.1, HH.out.2.1, HH.out.2.2⟩
set_option maxRecDepth 100000 in
set_option maxHeartbeats 4000000 in
theorem does9_none (B lo3 xb db t lo wb tw lo2 : Nat) (S R : List Nat) (d : Dic) (l : List It9) (k : Nat) (hk : k ≤ 400) (g : Int) (hg : g < 1 ∨ 6 < g) (ky hs vl m : Int) (bk : Bool) (w : World) (H : S9 B lo3 xb db t lo wb tw lo2 S R d l w) (hI : DicOk k d) :
    Calls Tryz.prog 10 #[.pointer (some ⟨xb, 0, none⟩), stepA g ky hs vl bk m] w (Does9P B lo3 xb db t lo wb tw lo2 k l.length w) := by
  obtain ⟨lr, hlr⟩ : ∃ lr, lr = w.heap.size := ⟨_, rfl⟩
  obtain ⟨WA, hWA⟩ : ∃ WA, w.alloc (.cells #[.int .i64 g, .int .i64 ky, .int .i64 hs, .int .i64 vl, .bool bk, .int .i64 m] 38) = WA := ⟨_, rfl⟩
  have kb : Keeps [] w WA := by rw [← hWA]; exact (Keeps.refl [] w).alloc _
  have bs : WA.heap[lr]? = some (.cells #[.int .i64 g, .int .i64 ky, .int .i64 hs, .int .i64 vl, .bool bk, .int .i64 m] 38 (0, 0)) := by rw [← hWA, hlr]; exact has_new _ _
  have HA := Lib.hid (H.kept kb)
  have HBel := Lib.hid (show Below B w WA from kb.below (by obtain ⟨a, c, a', c', r1, _⟩ := H.rows; have := lt_of_block r1; have := H.bs.2.2.2; omega) (by simp))
  have HWA := Lib.hid hWA
  have HLR := Lib.hid hlr
  have HI := Lib.hid hI
  obtain ⟨a, c, a', c', r1, _⟩ := HA.out.rows
  have R1 := Lib.hid r1
  unfold two9O at r1
  have x0 : WA.cell? ⟨xb, 0, none⟩ = some (.pointer (some ⟨db, 0, none⟩)) := cell_has r1 (i := 0) rfl
  have s0 : WA.cell? ⟨lr, 0, none⟩ = some (.int .i64 g) := cell_has bs (i := 0) rfl
  clear H hI kb bs hlr hWA r1
  unfold stepA
  have q1 : (g == (1 : Int)) = false := by simp; omega
  have q2 : (g == (2 : Int)) = false := by simp; omega
  have q3 : (g == (3 : Int)) = false := by simp; omega
  have q4 : (g == (4 : Int)) = false := by simp; omega
  have q5 : (g == (5 : Int)) = false := by simp; omega
  have q6 : (g == (6 : Int)) = false := by simp; omega
  clear hg
  go_enter Tryz.func10, Tryz.ntmps10
  go_upto_region 1 with (fail)
  rw [HWA.out, ← HLR.out]
  go_wp2_with fail
  go_ret
  exact ⟨S, R, d, l, rfl, rfl, HA.out, HI.out.mono (by omega), HBel.out⟩
end Go.Proofs.YtcakdmapnmneoaaGreat
end

section
namespace Go.Proofs.YtcakdmapnmneoaaGreat
open Go.RowKit
set_option linter.unusedVariables false
set_option linter.unusedSimpArgs false

theorem pairwise_set {l : List It9} (h : l.Pairwise fun i j => ∀ x, x ∈ i.feet → x ∉ j.feet) {p : Nat} {it it' : It9} (hp : l[p]? = some it) {n : Nat} (hlt : ∀ i, i ∈ l → ∀ x, x ∈ i.feet → x < n) (hf : ∀ x, x ∈ it'.feet → x ∈ it.feet ∨ n ≤ x) :
    (l.set p it').Pairwise fun i j => ∀ x, x ∈ i.feet → x ∉ j.feet := by
  rw [List.pairwise_iff_getElem] at h ⊢
  intro i j hi hj hij x hx hy
  simp only [List.length_set] at hi hj
  obtain ⟨hpl, hpe⟩ := List.getElem?_eq_some_iff.1 hp
  rw [List.getElem_set] at hx hy
  split at hx
  · rename_i e1
    split at hy
    · omega
    · subst e1
      rcases hf x hx with h1 | h1
      · exact h p j hpl hj hij x (by rw [hpe]; exact h1) hy
      · have := hlt _ (List.getElem_mem hj) x hy; omega
  · split at hy
    · rename_i e1
      subst e1
      rcases hf x hy with h1 | h1
      · exact h i p hi hpl hij x hx (by rw [hpe]; exact h1)
      · have := hlt _ (List.getElem_mem hi) x hx; omega
    · exact h i j hi hj hij x hx hy
theorem ptrs_set {f : It9 → Nat} {l : List It9} {p : Nat} {it it' : It9} (hp : l[p]? = some it) (hf : f it' = f it) : ptrs f (l.set p it') = ptrs f l := by
  have e : (l.set p it').map f = l.map f := by
    rw [List.map_set, hf]
    apply List.ext_getElem?
    intro i
    rw [List.getElem?_set]
    split
    · rename_i e1; subst e1
      rw [List.getElem?_map, hp]
      obtain ⟨h1, _⟩ := List.getElem?_eq_some_iff.1 hp
      simp [h1]
    · rfl
  funext i
  unfold ptrs
  rw [e]
theorem S9.next {B lo3 xb db t lo wb tw lo2 : Nat} {S R : List Nat} {d : Dic} {l : List It9} {W W' : World} (h : S9 B lo3 xb db t lo wb tw lo2 S R d l W) {p : Nat} {it it' : It9} (hp : l[p]? = some it) (hb : it'.b = it.b) (hrb : it'.rb = it.rb)
    (hF : Grew it.F W it'.F) (h1 : StrAt lo3 it'.b it'.F it'.s W') (h2 : W'.heap[it'.rb]? = some (rstO wb it'.r)) (h3 : Lnk db d it'.s it'.r) {K : List Nat} (k : Keeps K W W') (hK : ∀ x, x ∈ K → x ∈ it.feet) :
    S9 B lo3 xb db t lo wb tw lo2 S R d (l.set p it') W' ∧ Below B W W' := by
  have hit : it ∈ l := List.mem_of_getElem? hp
  obtain ⟨i1, i2, i3, i4, i5, i6⟩ := h.its it hit
  have hlt := h.its_lt
  have nD : ∀ x, x ∈ xb :: db :: wb :: (S ++ R) → x ∉ K := fun x hx hy => i4 x (hK x hy) hx
  have hff : ∀ x, x ∈ it'.feet → x ∈ it.feet ∨ W.heap.size ≤ x := by
    intro x hx
    unfold It9.feet at hx ⊢
    rcases List.mem_cons.1 hx with rfl | hx
    · left; rw [hrb]; simp
    · rcases hF x hx with h9 | h9
      · left; simp [h9]
      · exact .inr h9
  obtain ⟨a, c, a', c', r1, r2, r3, r4, r5⟩ := h.rows
  have lx := lt_of_block r1
  have dl := h.dic_lo
  have nW : ∀ x, x ∈ xb :: db :: wb :: (S ++ R) → x < W.heap.size := fun x hx => by
    rcases List.mem_cons.1 hx with rfl | hx
    · exact lx
    · exact (dl x hx).2
  refine ⟨⟨⟨h.both.dic.keeps k (nD _ (by simp)) (fun x hx => nD x (by simp [hx])), h.both.ref.keeps k (nD _ (by simp)) (fun x hx => nD x (by simp [hx])), h.both.dis⟩, h.bir, ⟨a, c, a', c', ?_, ?_, ?_, ?_, r5⟩, ?_, pairwise_set h.own hp hlt hff, h.xn, h.bs⟩, ?_⟩
  · rw [List.length_set]; exact k.has r1 (nD _ (by simp))
  · rw [List.length_set, ptrs_set hp hb]; exact r2.keeps k (fun x hx hy => (r4 x (by simp [hx])).2 it hit (hK x hy))
  · rw [List.length_set, ptrs_set hp hrb]; exact r3.keeps k (fun x hx hy => (r4 x (by simp [hx])).2 it hit (hK x hy))
  · intro x hx
    refine ⟨(r4 x hx).1, fun i hi hy => ?_⟩
    have hxl : x < W.heap.size := by
      rcases List.mem_append.1 hx with h9 | h9
      · exact (r2.blk_lt x h9).2
      · exact (r3.blk_lt x h9).2
    rcases List.mem_or_eq_of_mem_set hi with h9 | rfl
    · exact (r4 x hx).2 i h9 hy
    · rcases hff x hy with h8 | h8
      · exact (r4 x hx).2 it hit h8
      · omega
  · intro i hi
    obtain ⟨q, hq⟩ := List.getElem?_of_mem hi
    rw [List.getElem?_set] at hq
    split at hq
    · rename_i e1
      split at hq
      · simp at hq
        subst hq
        refine ⟨h1, h2, h3, fun x hx hy => ?_, fun hx => ?_, by rw [hrb]; exact i6⟩
        · rcases hff x hx with h9 | h9
          · exact i4 x h9 hy
          · have := nW x hy; omega
        · rw [hrb] at hx
          rcases hF _ hx with h9 | h9
          · exact i5 h9
          · have := lt_of_block i2; omega
      · cases hq
    · rename_i e1
      have hil : i ∈ l := List.mem_of_getElem? hq
      obtain ⟨j1, j2, j3, j4, j5, j6⟩ := h.its i hil
      have off : ∀ x, x ∈ i.feet → x ∉ K := by
        intro x hx hy
        have hx2 := hK x hy
        obtain ⟨hpl, hpe⟩ := List.getElem?_eq_some_iff.1 hp
        obtain ⟨hql, hqe⟩ := List.getElem?_eq_some_iff.1 hq
        have hpw := List.pairwise_iff_getElem.1 h.own
        rcases Nat.lt_or_ge p q with h9 | h9
        · exact hpw p q hpl hql h9 x (by rw [hpe]; exact hx2) (by rw [hqe]; exact hx)
        · exact hpw q p hql hpl (by omega) x (by rw [hqe]; exact hx) (by rw [hpe]; exact hx2)
      exact ⟨j1.keeps k (fun x hx => off x (List.mem_cons_of_mem _ hx)), k.has j2 (off _ List.mem_cons_self), j3, j4, j5, j6⟩
  · have hbs := h.bs
    refine k.below (by omega) (fun x hx => ?_)
    have h9 := hK x hx
    unfold It9.feet at h9
    rcases List.mem_cons.1 h9 with rfl | h9
    · omega
    · have := (i1.lo x h9).1; omega
end Go.Proofs.YtcakdmapnmneoaaGreat
end

section
namespace Go.Proofs.YtcakdmapnmneoaaGreat
open Go.RowKit
set_option linter.unusedVariables false
set_option linter.unusedSimpArgs false

theorem idx9 (m : Int) {n : Nat} (hn : 0 < n) : ∃ p : Nat, p < n ∧ (if m.tmod n < 0 then m.tmod n + n else m.tmod n) = (p : Int) := by
  have h1 := Int.tmod_lt_of_pos m (show (0 : Int) < n by omega)
  have h2 := Int.lt_tmod_of_pos m (show (0 : Int) < n by omega)
  by_cases h : m.tmod n < 0
  · rw [if_pos h]; exact ⟨(m.tmod n + n).toNat, by omega, by omega⟩
  · rw [if_neg h]; exact ⟨(m.tmod n).toNat, by omega, by omega⟩
theorem ptrs_at {f : It9 → Nat} {l : List It9} {p : Nat} {it : It9} (h : l[p]? = some it) : ptrs f l p = .pointer (some ⟨f it, 0, none⟩) := by
  unfold ptrs; simp [List.getD, h]
theorem its_next (k : Nat) (hk : k ≤ 500) (B lo3 xb db t lo wb tw lo2 : Nat) (S R : List Nat) (d : Dic) (l : List It9) (W : World) (h : S9 B lo3 xb db t lo wb tw lo2 S R d l W) (hI : DicOk k d) (it : It9) (hi : it ∈ l) :
    Calls Tryz.prog 21 #[.pointer (some ⟨it.b, 0, none⟩)] W fun r W' => r = .returned (.tuple #[(rsX d it.r).agg, .int .i64 (rsE d it.r)]) ∧ ∃ F' s', StrAt lo3 it.b F' s' W' ∧ Lnk db d s' (rsN d it.r) ∧ Grew it.F W F' ∧ Keeps [it.b, it.b + 2, it.b + 3] W W' := by
  obtain ⟨i1, i2, i3, i4, i5, i6⟩ := h.its it hi
  cases hd : it.s.dp with
  | none =>
    obtain ⟨e1, e2, e3⟩ := i3.over hd
    refine (snext_over lo3 it.b it.F it.s W i1 hd).mono ?_
    rintro r W' ⟨rfl, k1⟩
    exact ⟨by rw [e1, e2], it.F, it.s, i1.keeps k1 (by simp), by rw [e3]; exact i3, Grew.refl _ _, k1.mono (by simp)⟩
  | some b =>
    have hb : b = db := by rcases i3.st with h1 | h1 | h1 <;> simp_all
    rw [hb] at hd
    obtain ⟨e1, e2, e3⟩ := i3.next (by omega) hd h.bir hI
    refine (snext_any k hk db t lo lo3 it.b S it.F (mV none) d it.s W h.both.dic i1 hd hI h.bir i3.ok ⟨fun hx => i4 db (List.mem_cons_of_mem _ hx) (by simp), fun x hx hy => i4 x (List.mem_cons_of_mem _ hy) (by simp [hx])⟩).mono ?_
    rintro r W' ⟨F', rfl, h1, h2, h3⟩
    exact ⟨by rw [e1, e2], F', _, h1, e3, h2, h3⟩
set_option maxRecDepth 100000 in
set_option maxHeartbeats 4000000 in
theorem does9_next (B lo3 xb db t lo wb tw lo2 : Nat) (S R : List Nat) (d : Dic) (l : List It9) (k : Nat) (hk : k ≤ 400) (ky hs vl m : Int) (bk : Bool) (w : World) (H : S9 B lo3 xb db t lo wb tw lo2 S R d l w) (hI : DicOk k d) (hl : l.length ≤ 1000000) :
    Calls Tryz.prog 10 #[.pointer (some ⟨xb, 0, none⟩), stepA 5 ky hs vl bk m] w (Does9P B lo3 xb db t lo wb tw lo2 k l.length w) := by
  obtain ⟨lr, hlr⟩ : ∃ lr, lr = w.heap.size := ⟨_, rfl⟩
  obtain ⟨WA, hWA⟩ : ∃ WA, w.alloc (.cells #[.int .i64 5, .int .i64 ky, .int .i64 hs, .int .i64 vl, .bool bk, .int .i64 m] 38) = WA := ⟨_, rfl⟩
  have kb : Keeps [] w WA := by rw [← hWA]; exact (Keeps.refl [] w).alloc _
  have bs : WA.heap[lr]? = some (.cells #[.int .i64 5, .int .i64 ky, .int .i64 hs, .int .i64 vl, .bool bk, .int .i64 m] 38 (0, 0)) := by rw [← hWA, hlr]; exact has_new _ _
  have HA := Lib.hid (H.kept kb)
  have HBel := Lib.hid (show Below B w WA from kb.below (by obtain ⟨a, c, a', c', r1, _⟩ := H.rows; have := lt_of_block r1; have := H.bs.2.2.2; omega) (by simp))
  have HWA := Lib.hid hWA
  have HLR := Lib.hid hlr
  have HI := Lib.hid hI
  obtain ⟨a, c, a', c', r1, _⟩ := HA.out.rows
  have R1 := Lib.hid r1
  unfold two9O at r1
  have x0 : WA.cell? ⟨xb, 0, none⟩ = some (.pointer (some ⟨db, 0, none⟩)) := cell_has r1 (i := 0) rfl
  have s0 : WA.cell? ⟨lr, 0, none⟩ = some (.int .i64 5) := cell_has bs (i := 0) rfl
  have x2 : WA.cell? ⟨xb, 2, none⟩ = some (.slice a l.length c) := cell_has r1 (i := 2) rfl
  have s5 : WA.cell? ⟨lr, 5, none⟩ = some (.int .i64 m) := cell_has bs (i := 5) rfl
  have nlen := Lib.hid (show l.length ≤ 1000000 from hl)
  clear H hI kb bs hlr hWA r1
  unfold stepA
  obtain ⟨n, hn⟩ := ex_hid l.length
  rw [← hn.out] at x2
  by_cases h0 : n = 0
  · subst h0
    go_enter Tryz.func10, Tryz.ntmps10
    go_upto_region 1 with (fail)
    rw [HWA.out, ← HLR.out]
    go_wp2_with fail
    go_ret
    exact ⟨S, R, d, l, rfl, rfl, HA.out, HI.out.mono (by omega), HBel.out⟩
  · have n0 : ((n : Int) == 0) = false := by simp; omega
    have n1 : (n : Int) ≠ 0 := by omega
    have n2 : (0 : Int) < (n : Int) := by omega
    have n3 : (n : Int) ≤ 1000000 := by have := nlen.out; rw [← hn.out] at this; omega
    obtain ⟨p, hpn, hp⟩ := idx9 m (show 0 < n by omega)
    have HP := Lib.hid hp
    clear hp
    go_enter Tryz.func10, Tryz.ntmps10
    go_upto_region 1 with (fail)
    rw [HWA.out, ← HLR.out]
    go_upto_region 16 with (fail)
    go_region_held3 (fun w' => w'.cell? ⟨lr, 5, none⟩ = some (.int .i64 m) ∧ w'.cell? ⟨xb, 2, none⟩ = some (.slice a n c)) (go_keep) (fail)
    go_upto_region 17 with (fail)
    obtain ⟨it, hit⟩ : ∃ it, l[p]? = some it := ⟨_, List.getElem?_eq_getElem (by rw [← hn.out]; exact hpn)⟩
    have hmem : it ∈ l := List.mem_of_getElem? hit
    have HIT := Lib.hid (And.intro hit hmem)
    obtain ⟨a2, c2, a3, c3, q1, q2, q3, _, _⟩ := HA.out.rows
    have e0 := R1.out.symm.trans q1
    unfold two9O at e0
    simp at e0
    obtain ⟨⟨rfl, rfl⟩, rfl, rfl⟩ := e0
    have pl : p < l.length := by rw [← hn.out]; exact hpn
    obtain ⟨g, rfl⟩ := q2.shape (by omega)
    obtain ⟨g', rfl⟩ := q3.shape (by omega)
    have y1 := q2.cell pl
    have y2 := q3.cell pl
    rw [ptrs_at hit] at y1 y2
    have r1 := R1.out
    rw [← hn.out] at r1
    unfold two9O at r1
    have x3 : WA.drew.cell? ⟨xb, 3, none⟩ = some (.slice (some ⟨g', 0, none⟩) n c') := cell_has (w := WA.drew) (has_drew r1) (i := 3) rfl
    have x2d : WA.drew.cell? ⟨xb, 2, none⟩ = some (.slice (some ⟨g, 0, none⟩) n c) := cell_has (w := WA.drew) (has_drew r1) (i := 2) rfl
    have y1d : WA.drew.cell? ⟨g, p, none⟩ = some (.pointer (some ⟨it.b, 0, none⟩)) := y1
    have Y2 := Lib.hid (show WA.drew.cell? ⟨g', p, none⟩ = some (.pointer (some ⟨it.rb, 0, none⟩)) from y2)
    have X3 := Lib.hid x3
    have pn : (p : Int) < (n : Int) := by omega
    have p0 : (0 : Int) ≤ (p : Int) := by omega
    have HAD := Lib.hid (HA.out.kept (Keeps.refl [] WA).drew)
    clear q1 q2 q3 pl y1 y2 r1 hit hmem x2 s5 s0 x0 x3
    obtain ⟨tm, htm⟩ := ex_hid (m.tmod n)
    have hp := HP.out
    rw [← htm.out] at hp ⊢
    by_cases ht : tm < 0
    · rw [if_pos ht] at hp
      go_upto_region 19 with (fail)
      try rw [hp]
      clear hp ht
      go_wp2_with fail
      refine (its_next k (by omega) B lo3 xb db t lo wb tw lo2 S R d l _ HAD.out HI.out it HIT.out.2).mono ?_
      rintro r w1 ⟨rfl, F', s', h1, h2, h3, h4⟩
      obtain ⟨x, hx⟩ := ex_hid (rsX d it.r)
      obtain ⟨e, he⟩ := ex_hid (rsE d it.r)
      rw [← hx.out, ← he.out]
      have H1 := Lib.hid (And.intro h1 (And.intro h2 (And.intro h3 h4)))
      have I := Lib.hid (HAD.out.its it HIT.out.2)
      have hfe : ∀ x, x ∈ [it.b, it.b + 2, it.b + 3] → x ∈ it.F := fun x hx => by
        simp at hx
        rcases hx with rfl | rfl | rfl
        · exact I.out.1.five 0 (by omega)
        · exact I.out.1.five 2 (by omega)
        · exact I.out.1.five 3 (by omega)
      have HFE := Lib.hid hfe
      have nf : ∀ x, x ∈ [it.b, it.b + 2, it.b + 3] → x ∈ it.feet := fun x hx => List.mem_cons_of_mem _ (hfe x hx)
      have NF := Lib.hid nf
      obtain ⟨_, _, _, _, w1a, w2a, w3a, w4a, _⟩ := HAD.out.rows
      have r9 := has_drew R1.out
      have e9 := r9.symm.trans w1a
      unfold two9O at e9
      simp at e9
      obtain ⟨⟨rfl, rfl⟩, rfl, rfl⟩ := e9
      have x3 := h4.cell X3.out (fun hx => I.out.2.2.2.1 xb (nf xb hx) (by simp))
      have y2 := h4.cell Y2.out (fun hx => (w4a _ (by simp [blk])).2 it HIT.out.2 (nf _ hx))
      have brb := h4.has I.out.2.1 (fun hx => I.out.2.2.2.2.1 (hfe _ hx))
      have BRB := Lib.hid brb
      have lrb := lt_of_block brb
      have dref := h4
      have DR := Lib.hid (HAD.out.both.ref.keeps h4 (fun hx => I.out.2.2.2.1 wb (nf wb hx) (by simp)) (fun z hz hx => I.out.2.2.2.1 z (nf z hx) (by simp [hz])))
      clear h1 h2 h3 h4 hfe nf w1a w2a w3a w4a r9 brb dref y1d x2d
      simp only [Ent.agg]
      go_upto_region 22 with (fail)
      refine wp_gen (fun V => V.heap[w1.heap.size]? = some (entR x) ∧ Keeps [] w1 V) ⟨has_new _ _, (Keeps.refl [] w1).alloc _⟩ ?_
      rintro w2 ⟨b2, k2⟩
      obtain ⟨tb, htb⟩ := ex_hid w1.heap.size
      rw [← htb.out] at b2 ⊢
      have TB := Lib.hid b2
      have K2 := Lib.hid k2
      replace x3 := k2.cell x3 (by simp)
      replace y2 := k2.cell y2 (by simp)
      have brb2 := k2.has BRB.out (by simp)
      have nrt : it.rb < tb := by rw [htb.out]; exact lrb
      clear b2 k2 lrb
      go_wp2_with fail
      refine (rsnext_any wb tw lo2 R none d it.rb it.r w2 (DR.out.keeps K2.out (by simp) (by simp)) brb2 (by have := HI.out.t.ek; omega)).mono ?_
      rintro r w3 ⟨rfl, b3, k3⟩
      rw [← hx.out, ← he.out]
      have B3 := Lib.hid b3
      have K3 := Lib.hid k3
      have tb3 := k3.has TB.out (by simp; omega)
      have TB3 := Lib.hid tb3
      clear b3 k3 tb3 x3 y2 brb2 nrt
      simp only [Ent.agg]
      go_upto_region 23 with (fail)
      refine wp_gen (fun V => V.heap[tb]? = some (entR x) ∧ V.heap[w3.heap.size]? = some (entR x) ∧ Keeps [] w3 V) ⟨has_alloc TB3.out _, has_new _ _, (Keeps.refl [] w3).alloc _⟩ ?_
      rintro V ⟨v1, v2, kV⟩
      obtain ⟨tc, htc⟩ := ex_hid w3.heap.size
      rw [← htc.out] at v2 ⊢
      unfold entR at v1 v2
      have u0 : V.cell? ⟨tb, 0, none⟩ = some (.bool x.live) := cell_has v1 (i := 0) rfl
      have u1 : V.cell? ⟨tb, 1, none⟩ = some (.int .i64 x.hash) := cell_has v1 (i := 1) rfl
      have u2 : V.cell? ⟨tb, 2, none⟩ = some (.int .i64 x.key) := cell_has v1 (i := 2) rfl
      have u3 : V.cell? ⟨tb, 3, none⟩ = some (.int .i64 x.val) := cell_has v1 (i := 3) rfl
      have u4 : V.cell? ⟨tb, 4, none⟩ = some (.int .i64 x.birth) := cell_has v1 (i := 4) rfl
      have t0 : V.cell? ⟨tc, 0, none⟩ = some (.bool x.live) := cell_has v2 (i := 0) rfl
      have t1 : V.cell? ⟨tc, 1, none⟩ = some (.int .i64 x.hash) := cell_has v2 (i := 1) rfl
      have t2 : V.cell? ⟨tc, 2, none⟩ = some (.int .i64 x.key) := cell_has v2 (i := 2) rfl
      have t3 : V.cell? ⟨tc, 3, none⟩ = some (.int .i64 x.val) := cell_has v2 (i := 3) rfl
      have t4 : V.cell? ⟨tc, 4, none⟩ = some (.int .i64 x.birth) := cell_has v2 (i := 4) rfl
      have KV := Lib.hid kV
      clear v1 v2 kV
      go_wp2_with fail
      go_ret
      obtain ⟨h1, h2, h3, h4⟩ := H1.out
      have kf : Keeps (it.rb :: [it.b, it.b + 2, it.b + 3]) WA.drew V := ((((h4.mono (T := it.rb :: [it.b, it.b + 2, it.b + 3]) (by simp)).trans (K2.out.mono (by simp))).trans (K3.out.mono (by simp))).trans (KV.out.mono (by simp)))
      have ke : Keeps [it.rb] w1 V := (((K2.out.mono (T := [it.rb]) (by simp)).trans K3.out).trans (KV.out.mono (by simp)))
      have hF' : it.rb ∉ F' := fun hx => by
        rcases h3 _ hx with h9 | h9
        · exact I.out.2.2.2.2.1 h9
        · have := lt_of_block I.out.2.1; omega
      obtain ⟨s9, b9⟩ := HAD.out.next (it' := ⟨it.b, F', s', it.rb, rsN d it.r⟩) HIT.out.1 rfl rfl h3 (h1.keeps ke (fun z hz hq => by simp at hq; subst hq; exact hF' hz)) (KV.out.has B3.out (by simp)) h2 kf (fun z hz => by
        rcases List.mem_cons.1 hz with rfl | hz
        · exact List.mem_cons_self
        · exact NF.out z hz)
      have bd : Below B WA WA.drew := (Keeps.refl [] WA).drew.below (by have := lt_of_block R1.out; have := HA.out.bs.2.2.2; omega) (by simp)
      exact ⟨S, R, d, _, rfl, by simp, s9, HI.out.mono (by omega), HBel.out.trans (bd.trans b9)⟩
    · rw [if_neg ht] at hp
      subst hp
      go_upto_region 19 with (fail)
      clear ht
      go_wp2_with fail
      refine (its_next k (by omega) B lo3 xb db t lo wb tw lo2 S R d l _ HAD.out HI.out it HIT.out.2).mono ?_
      rintro r w1 ⟨rfl, F', s', h1, h2, h3, h4⟩
      obtain ⟨x, hx⟩ := ex_hid (rsX d it.r)
      obtain ⟨e, he⟩ := ex_hid (rsE d it.r)
      rw [← hx.out, ← he.out]
      have H1 := Lib.hid (And.intro h1 (And.intro h2 (And.intro h3 h4)))
      have I := Lib.hid (HAD.out.its it HIT.out.2)
      have hfe : ∀ x, x ∈ [it.b, it.b + 2, it.b + 3] → x ∈ it.F := fun x hx => by
        simp at hx
        rcases hx with rfl | rfl | rfl
        · exact I.out.1.five 0 (by omega)
        · exact I.out.1.five 2 (by omega)
        · exact I.out.1.five 3 (by omega)
      have HFE := Lib.hid hfe
      have nf : ∀ x, x ∈ [it.b, it.b + 2, it.b + 3] → x ∈ it.feet := fun x hx => List.mem_cons_of_mem _ (hfe x hx)
      have NF := Lib.hid nf
      obtain ⟨_, _, _, _, w1a, w2a, w3a, w4a, _⟩ := HAD.out.rows
      have r9 := has_drew R1.out
      have e9 := r9.symm.trans w1a
      unfold two9O at e9
      simp at e9
      obtain ⟨⟨rfl, rfl⟩, rfl, rfl⟩ := e9
      have x3 := h4.cell X3.out (fun hx => I.out.2.2.2.1 xb (nf xb hx) (by simp))
      have y2 := h4.cell Y2.out (fun hx => (w4a _ (by simp [blk])).2 it HIT.out.2 (nf _ hx))
      have brb := h4.has I.out.2.1 (fun hx => I.out.2.2.2.2.1 (hfe _ hx))
      have BRB := Lib.hid brb
      have lrb := lt_of_block brb
      have dref := h4
      have DR := Lib.hid (HAD.out.both.ref.keeps h4 (fun hx => I.out.2.2.2.1 wb (nf wb hx) (by simp)) (fun z hz hx => I.out.2.2.2.1 z (nf z hx) (by simp [hz])))
      clear h1 h2 h3 h4 hfe nf w1a w2a w3a w4a r9 brb dref y1d x2d
      simp only [Ent.agg]
      go_upto_region 22 with (fail)
      refine wp_gen (fun V => V.heap[w1.heap.size]? = some (entR x) ∧ Keeps [] w1 V) ⟨has_new _ _, (Keeps.refl [] w1).alloc _⟩ ?_
      rintro w2 ⟨b2, k2⟩
      obtain ⟨tb, htb⟩ := ex_hid w1.heap.size
      rw [← htb.out] at b2 ⊢
      have TB := Lib.hid b2
      have K2 := Lib.hid k2
      replace x3 := k2.cell x3 (by simp)
      replace y2 := k2.cell y2 (by simp)
      have brb2 := k2.has BRB.out (by simp)
      have nrt : it.rb < tb := by rw [htb.out]; exact lrb
      clear b2 k2 lrb
      go_wp2_with fail
      refine (rsnext_any wb tw lo2 R none d it.rb it.r w2 (DR.out.keeps K2.out (by simp) (by simp)) brb2 (by have := HI.out.t.ek; omega)).mono ?_
      rintro r w3 ⟨rfl, b3, k3⟩
      rw [← hx.out, ← he.out]
      have B3 := Lib.hid b3
      have K3 := Lib.hid k3
      have tb3 := k3.has TB.out (by simp; omega)
      have TB3 := Lib.hid tb3
      clear b3 k3 tb3 x3 y2 brb2 nrt
      simp only [Ent.agg]
      go_upto_region 23 with (fail)
      refine wp_gen (fun V => V.heap[tb]? = some (entR x) ∧ V.heap[w3.heap.size]? = some (entR x) ∧ Keeps [] w3 V) ⟨has_alloc TB3.out _, has_new _ _, (Keeps.refl [] w3).alloc _⟩ ?_
      rintro V ⟨v1, v2, kV⟩
      obtain ⟨tc, htc⟩ := ex_hid w3.heap.size
      rw [← htc.out] at v2 ⊢
      unfold entR at v1 v2
      have u0 : V.cell? ⟨tb, 0, none⟩ = some (.bool x.live) := cell_has v1 (i := 0) rfl
      have u1 : V.cell? ⟨tb, 1, none⟩ = some (.int .i64 x.hash) := cell_has v1 (i := 1) rfl
      have u2 : V.cell? ⟨tb, 2, none⟩ = some (.int .i64 x.key) := cell_has v1 (i := 2) rfl
      have u3 : V.cell? ⟨tb, 3, none⟩ = some (.int .i64 x.val) := cell_has v1 (i := 3) rfl
      have u4 : V.cell? ⟨tb, 4, none⟩ = some (.int .i64 x.birth) := cell_has v1 (i := 4) rfl
      have t0 : V.cell? ⟨tc, 0, none⟩ = some (.bool x.live) := cell_has v2 (i := 0) rfl
      have t1 : V.cell? ⟨tc, 1, none⟩ = some (.int .i64 x.hash) := cell_has v2 (i := 1) rfl
      have t2 : V.cell? ⟨tc, 2, none⟩ = some (.int .i64 x.key) := cell_has v2 (i := 2) rfl
      have t3 : V.cell? ⟨tc, 3, none⟩ = some (.int .i64 x.val) := cell_has v2 (i := 3) rfl
      have t4 : V.cell? ⟨tc, 4, none⟩ = some (.int .i64 x.birth) := cell_has v2 (i := 4) rfl
      have KV := Lib.hid kV
      clear v1 v2 kV
      go_wp2_with fail
      go_ret
      obtain ⟨h1, h2, h3, h4⟩ := H1.out
      have kf : Keeps (it.rb :: [it.b, it.b + 2, it.b + 3]) WA.drew V := ((((h4.mono (T := it.rb :: [it.b, it.b + 2, it.b + 3]) (by simp)).trans (K2.out.mono (by simp))).trans (K3.out.mono (by simp))).trans (KV.out.mono (by simp)))
      have ke : Keeps [it.rb] w1 V := (((K2.out.mono (T := [it.rb]) (by simp)).trans K3.out).trans (KV.out.mono (by simp)))
      have hF' : it.rb ∉ F' := fun hx => by
        rcases h3 _ hx with h9 | h9
        · exact I.out.2.2.2.2.1 h9
        · have := lt_of_block I.out.2.1; omega
      obtain ⟨s9, b9⟩ := HAD.out.next (it' := ⟨it.b, F', s', it.rb, rsN d it.r⟩) HIT.out.1 rfl rfl h3 (h1.keeps ke (fun z hz hq => by simp at hq; subst hq; exact hF' hz)) (KV.out.has B3.out (by simp)) h2 kf (fun z hz => by
        rcases List.mem_cons.1 hz with rfl | hz
        · exact List.mem_cons_self
        · exact NF.out z hz)
      have bd : Below B WA WA.drew := (Keeps.refl [] WA).drew.below (by have := lt_of_block R1.out; have := HA.out.bs.2.2.2; omega) (by simp)
      exact ⟨S, R, d, _, rfl, by simp, s9, HI.out.mono (by omega), HBel.out.trans (bd.trans b9)⟩
end Go.Proofs.YtcakdmapnmneoaaGreat
end

section
namespace Go.Proofs.YtcakdmapnmneoaaGreat
open Go.RowKit
set_option linter.unusedVariables false
set_option linter.unusedSimpArgs false

set_option maxRecDepth 100000 in
set_option maxHeartbeats 4000000 in
theorem does9_full (B lo3 xb db t lo wb tw lo2 : Nat) (S R : List Nat) (d : Dic) (l : List It9) (k : Nat) (hk : k ≤ 400) (ky hs vl m : Int) (bk : Bool) (w : World) (H : S9 B lo3 xb db t lo wb tw lo2 S R d l w) (hI : DicOk k d) (hl : 20 ≤ l.length) :
    Calls Tryz.prog 10 #[.pointer (some ⟨xb, 0, none⟩), stepA 4 ky hs vl bk m] w (Does9P B lo3 xb db t lo wb tw lo2 k l.length w) := by
  obtain ⟨lr, hlr⟩ : ∃ lr, lr = w.heap.size := ⟨_, rfl⟩
  obtain ⟨WA, hWA⟩ : ∃ WA, w.alloc (.cells #[.int .i64 4, .int .i64 ky, .int .i64 hs, .int .i64 vl, .bool bk, .int .i64 m] 38) = WA := ⟨_, rfl⟩
  have kb : Keeps [] w WA := by rw [← hWA]; exact (Keeps.refl [] w).alloc _
  have bs : WA.heap[lr]? = some (.cells #[.int .i64 4, .int .i64 ky, .int .i64 hs, .int .i64 vl, .bool bk, .int .i64 m] 38 (0, 0)) := by rw [← hWA, hlr]; exact has_new _ _
  have HA := Lib.hid (H.kept kb)
  have HBel := Lib.hid (show Below B w WA from kb.below (by obtain ⟨a, c, a', c', r1, _⟩ := H.rows; have := lt_of_block r1; have := H.bs.2.2.2; omega) (by simp))
  have HWA := Lib.hid hWA
  have HLR := Lib.hid hlr
  have HI := Lib.hid hI
  obtain ⟨a, c, a', c', r1, _⟩ := HA.out.rows
  have R1 := Lib.hid r1
  unfold two9O at r1
  have x0 : WA.cell? ⟨xb, 0, none⟩ = some (.pointer (some ⟨db, 0, none⟩)) := cell_has r1 (i := 0) rfl
  have s0 : WA.cell? ⟨lr, 0, none⟩ = some (.int .i64 4) := cell_has bs (i := 0) rfl
  have x2 : WA.cell? ⟨xb, 2, none⟩ = some (.slice a l.length c) := cell_has r1 (i := 2) rfl
  obtain ⟨n, hn⟩ := ex_hid l.length
  rw [← hn.out] at x2 hl
  have d1 : decide ((n : Int) < 20) = false := by simp; omega
  have d2 : ¬ (n : Int) < 20 := by omega
  clear H hI kb bs hlr hWA r1 hl
  unfold stepA
  go_enter Tryz.func10, Tryz.ntmps10
  go_upto_region 1 with (fail)
  rw [HWA.out, ← HLR.out]
  go_wp2_with fail
  go_ret
  exact ⟨S, R, d, l, rfl, rfl, HA.out, HI.out.mono (by omega), HBel.out⟩
end Go.Proofs.YtcakdmapnmneoaaGreat
end

section
namespace Go.Proofs.YtcakdmapnmneoaaGreat
open Go.RowKit
set_option linter.unusedVariables false
set_option linter.unusedSimpArgs false

theorem S9.add {B lo3 xb db t lo wb tw lo2 : Nat} {S R : List Nat} {d : Dic} {l : List It9} {W W' : World} (h : S9 B lo3 xb db t lo wb tw lo2 S R d l W) {a a' : Option Addr}
    (r4 : ∀ x, x ∈ blk a ++ blk a' → x ∉ xb :: db :: wb :: (S ++ R) ∧ ∀ i, i ∈ l → x ∉ i.feet) (rl : ∀ x, x ∈ blk a ++ blk a' → lo3 ≤ x ∧ x < W.heap.size) (k : Keeps (xb :: (blk a ++ blk a')) W W')
    {it : It9} {a2 a3 : Option Addr} {c2 c3 : Nat} (q1 : W'.heap[xb]? = some (two9O db wb (.slice a2 (l ++ [it]).length c2) (.slice a3 (l ++ [it]).length c3)))
    (q2 : ValRow 72 lo3 a2 (l ++ [it]).length c2 (ptrs It9.b (l ++ [it])) W') (q3 : ValRow 91 lo3 a3 (l ++ [it]).length c3 (ptrs It9.rb (l ++ [it])) W')
    (g : ∀ x, x ∈ blk a2 ++ blk a3 → x ∈ blk a ++ blk a' ∨ W.heap.size ≤ x) (q5 : ∀ x, x ∈ blk a2 → x ∉ blk a3) (qf : ∀ x, x ∈ blk a2 ++ blk a3 → x ∉ it.feet)
    (i1 : StrAt lo3 it.b it.F it.s W') (i2 : W'.heap[it.rb]? = some (rstO wb it.r)) (i3 : Lnk db d it.s it.r) (i5 : it.rb ∉ it.F) (i6 : lo3 ≤ it.rb) (fr : ∀ x, x ∈ it.feet → W.heap.size ≤ x) :
    S9 B lo3 xb db t lo wb tw lo2 S R d (l ++ [it]) W' ∧ Below B W W' := by
  have hlt := h.its_lt
  have lx : xb < W.heap.size := by obtain ⟨_, _, _, _, r1, _⟩ := h.rows; exact lt_of_block r1
  have dl := h.dic_lo
  have nK : ∀ x, x ∈ db :: wb :: (S ++ R) → x ∉ xb :: (blk a ++ blk a') := fun x hx hy => by
    rcases List.mem_cons.1 hy with rfl | hy
    · exact h.xn hx
    · exact (r4 x hy).1 (List.mem_cons_of_mem _ hx)
  have nW : ∀ x, x ∈ xb :: db :: wb :: (S ++ R) → x < W.heap.size := fun x hx => by
    rcases List.mem_cons.1 hx with rfl | hx
    · exact lx
    · exact (dl x hx).2
  refine ⟨⟨⟨h.both.dic.keeps k (nK _ (by simp)) (fun x hx => nK x (by simp [hx])), h.both.ref.keeps k (nK _ (by simp)) (fun x hx => nK x (by simp [hx])), h.both.dis⟩, h.bir, ⟨a2, c2, a3, c3, q1, q2, q3, fun x hx => ⟨fun hy => ?_, fun i hi hy => ?_⟩, q5⟩, fun i hi => ?_, ?_, h.xn, h.bs⟩, ?_⟩
  · rcases g x hx with h9 | h9
    · exact (r4 x h9).1 hy
    · have := nW x hy; omega
  · rcases List.mem_append.1 hi with hi | hi
    · rcases g x hx with h9 | h9
      · exact (r4 x h9).2 i hi hy
      · have := hlt i hi x hy; omega
    · simp only [List.mem_singleton] at hi; subst hi
      exact qf x hx hy
  · rcases List.mem_append.1 hi with hi | hi
    · obtain ⟨j1, j2, j3, j4, j5, j6⟩ := h.its i hi
      have off : ∀ x, x ∈ i.feet → x ∉ xb :: (blk a ++ blk a') := fun x hx hy => by
        rcases List.mem_cons.1 hy with rfl | hy
        · exact j4 x hx List.mem_cons_self
        · exact (r4 x hy).2 i hi hx
      exact ⟨j1.keeps k (fun x hx => off x (List.mem_cons_of_mem _ hx)), k.has j2 (off _ List.mem_cons_self), j3, j4, j5, j6⟩
    · simp only [List.mem_singleton] at hi; subst hi
      exact ⟨i1, i2, i3, fun x hx hy => by have := fr x hx; have := nW x hy; omega, i5, i6⟩
  · rw [List.pairwise_append]
    refine ⟨h.own, List.pairwise_singleton _ _, fun i hi j hj x hx hy => ?_⟩
    simp only [List.mem_singleton] at hj; subst hj
    have := hlt i hi x hx; have := fr x hy; omega
  · have hbs := h.bs
    refine k.below (by omega) (fun x hx => ?_)
    rcases List.mem_cons.1 hx with rfl | hx
    · omega
    · have := (rl x hx).1; omega
end Go.Proofs.YtcakdmapnmneoaaGreat
end

section
namespace Go.Proofs.YtcakdmapnmneoaaGreat
open Go.RowKit
set_option linter.unusedVariables false
set_option linter.unusedSimpArgs false

/-- One value of one cell is appended to a row of such. -/
theorem val_app {T E TY : TypeId} {z : Value} (hT : Tryz.prog.underlying T = some (.slice E)) (hE : (Tryz.prog.info? E).map (fun i => (i.zero, i.size, i.bytes)) = some (some z, 1, 8)) (hz : z.cells.size = 1)
    (lo : Nat) (a : Option Addr) (c m : Nat) (V : Nat → Value) (x : Value) (hx : x.oneCell' = true) (W : World) (B : Nat) (h : ValRow E lo a m c V W) (hB : W.heap[B]? = some (.cells #[x] TY (0, 0))) (hm : m ≤ 1000000) (hlo : lo ≤ W.heap.size) :
    ∃ g cap w', (Builtin.append_ #[T, T] T #[.slice a m c, .slice (some ⟨B, 0, none⟩) 1 1]).run Tryz.prog W = .ok (.slice (some ⟨g, 0, none⟩) (m + 1) cap) w' ∧ ValRow E lo (some ⟨g, 0, none⟩) (m + 1) cap (putV V m x) w' ∧ Keeps (blk a) W w' ∧ (g ∈ blk a ∨ g = W.heap.size) ∧ g < w'.heap.size := by
  obtain ⟨j0, hi, hz0, hz1, hz2⟩ := info_parts hE
  obtain ⟨g, cap, w', r1, r2, r3, r4, r5⟩ := run_append_lies (P := Tryz.prog) W T T lo E j0 z 1 8 hT hi hz0 hz1 hz2 hz (by decide) _ m (valR m V) h ⟨B, 0, none⟩ 1 1 [x] rfl
    (fun j u hj => by
      have hlt : j < 1 := by have := (List.getElem?_eq_some_iff.1 hj).1; simpa using this
      obtain rfl : j = 0 := by omega
      rw [show (⟨B, 0, none⟩ : Addr).add 0 = ⟨B, 0, none⟩ by unfold Addr.add; split <;> simp_all, cell_of_has hB]
      simpa using hj) (by intro u hu; simp at hu; subst hu; exact hx) (by decide) (by unfold maxLen; omega) (by omega) hlo _ rfl
  refine ⟨g, cap, w', r1, ValRow.of_append r2, ?_, ?_, r5⟩
  · exact ⟨r3.os, r3.tape, r3.output, r3.size, fun k hk hn => r3.block k hk (fun e => hn (blk_own a _ _ k e.symm))⟩
  · rcases r4 with r4 | r4
    · exact .inl (blk_own a _ _ g r4)
    · exact .inr r4
theorem infoPS : (Tryz.prog.info? 72).map (fun i => (i.zero, i.size, i.bytes)) = some (some (.pointer none), 1, 8) := by kernel_rfl
theorem infoPR : (Tryz.prog.info? 91).map (fun i => (i.zero, i.size, i.bytes)) = some (some (.pointer none), 1, 8) := by kernel_rfl
theorem ptrs_push (f : It9 → Nat) (l : List It9) (it : It9) : ∀ k, k < l.length + 1 → putV (ptrs f l) l.length (.pointer (some ⟨f it, 0, none⟩)) k = ptrs f (l ++ [it]) k := by
  intro k hk
  unfold putV ptrs
  by_cases e : k = l.length
  · subst e; simp [List.getD]
  · have : k < l.length := by omega
    simp [e, List.getD, List.getElem?_append_left, this]
end Go.Proofs.YtcakdmapnmneoaaGreat
end

section
namespace Go.Proofs.YtcakdmapnmneoaaGreat
open Go.RowKit
set_option linter.unusedVariables false
set_option linter.unusedSimpArgs false

theorem two9_set2 {W : World} {xb db wb : Nat} {sv kv : Value} (h : W.heap[xb]? = some (two9O db wb sv kv)) (v : Value) : (W.setCell ⟨xb, 2, none⟩ v).heap[xb]? = some (two9O db wb v kv) ∧ Keeps [xb] W (W.setCell ⟨xb, 2, none⟩ v) := by
  unfold two9O at h
  have h0 := has_setCell h 2 v
  simp only [List.setIfInBounds_toArray, List.set_cons_zero, List.set_cons_succ] at h0
  exact ⟨h0, (Keeps.refl [xb] W).setCell (p := ⟨xb, 2, none⟩) (.inr (by simp)) _⟩
theorem two9_set3 {W : World} {xb db wb : Nat} {sv kv : Value} (h : W.heap[xb]? = some (two9O db wb sv kv)) (v : Value) : (W.setCell ⟨xb, 3, none⟩ v).heap[xb]? = some (two9O db wb sv v) ∧ Keeps [xb] W (W.setCell ⟨xb, 3, none⟩ v) := by
  unfold two9O at h
  have h0 := has_setCell h 3 v
  simp only [List.setIfInBounds_toArray, List.set_cons_zero, List.set_cons_succ] at h0
  exact ⟨h0, (Keeps.refl [xb] W).setCell (p := ⟨xb, 3, none⟩) (.inr (by simp)) _⟩
set_option maxRecDepth 100000 in
set_option maxHeartbeats 4000000 in
theorem does9_new (B xb db t lo wb tw lo2 : Nat) (S R : List Nat) (d : Dic) (l : List It9) (k : Nat) (hk : k ≤ 400) (ky hs vl m : Int) (bk : Bool) (w : World) (H : S9 B B xb db t lo wb tw lo2 S R d l w) (hI : DicOk k d) (hl : l.length < 20) :
    Calls Tryz.prog 10 #[.pointer (some ⟨xb, 0, none⟩), stepA 4 ky hs vl bk m] w (fun r w' => ∃ it, r = .returned (.bool true) ∧ S9 B B xb db t lo wb tw lo2 S R d (l ++ [it]) w' ∧ Below B w w') := by
  obtain ⟨lr, hlr⟩ : ∃ lr, lr = w.heap.size := ⟨_, rfl⟩
  obtain ⟨WA, hWA⟩ : ∃ WA, w.alloc (.cells #[.int .i64 4, .int .i64 ky, .int .i64 hs, .int .i64 vl, .bool bk, .int .i64 m] 38) = WA := ⟨_, rfl⟩
  have kb : Keeps [] w WA := by rw [← hWA]; exact (Keeps.refl [] w).alloc _
  have bs : WA.heap[lr]? = some (.cells #[.int .i64 4, .int .i64 ky, .int .i64 hs, .int .i64 vl, .bool bk, .int .i64 m] 38 (0, 0)) := by rw [← hWA, hlr]; exact has_new _ _
  obtain ⟨a, c, a', c', q1, q2, q3, r4, r5⟩ := H.rows
  have LT := Lib.hid (show (∀ x, x ∈ blk a → B ≤ x ∧ x < lr) ∧ (∀ x, x ∈ blk a' → B ≤ x ∧ x < lr) ∧ xb < lr from ⟨fun x hx => by rw [hlr]; exact q2.blk_lt x hx, fun x hx => by rw [hlr]; exact q3.blk_lt x hx, by rw [hlr]; exact lt_of_block q1⟩)
  have HA := Lib.hid (H.kept kb)
  have HBel := Lib.hid (show Below B w WA from kb.below (by have := lt_of_block q1; have := H.bs.2.2.2; omega) (by simp))
  have HWA := Lib.hid hWA
  have HLR := Lib.hid hlr
  have HI := Lib.hid hI
  have r1 := kb.has q1 (by simp)
  obtain ⟨n, hn⟩ := ex_hid l.length
  rw [← hn.out] at r1 q2 q3 hl
  have R1 := Lib.hid r1
  have R2 := Lib.hid (q2.keeps kb (by simp))
  have R3 := Lib.hid (q3.keeps kb (by simp))
  have R4 := Lib.hid r4
  have R5 := Lib.hid r5
  have XL := Lib.hid (show B ≤ xb ∧ xb < WA.heap.size ∧ lr < WA.heap.size from ⟨H.bs.2.2.2, lt_of_block r1, lt_of_block bs⟩)
  unfold two9O at r1
  have x0 : WA.cell? ⟨xb, 0, none⟩ = some (.pointer (some ⟨db, 0, none⟩)) := cell_has r1 (i := 0) rfl
  have s0 : WA.cell? ⟨lr, 0, none⟩ = some (.int .i64 4) := cell_has bs (i := 0) rfl
  have x2 : WA.cell? ⟨xb, 2, none⟩ = some (.slice a n c) := cell_has r1 (i := 2) rfl
  have s4 : WA.cell? ⟨lr, 4, none⟩ = some (.bool bk) := cell_has bs (i := 4) rfl
  have S4 := Lib.hid s4
  have d1 : decide ((n : Int) < 20) = true := by simp; omega
  have d2 : (n : Int) < 20 := by omega
  have HN := Lib.hid hl
  have nx : xb ∉ blk a := fun hx => (r4 xb (by simp [hx])).1 (by simp)
  have nx' : xb ∉ blk a' := fun hx => (r4 xb (by simp [hx])).1 (by simp)
  have nl : lr ∉ blk a := fun hx => by have := (LT.out.1 lr hx).2; omega
  have NX := Lib.hid (And.intro nx (And.intro nx' nl))
  clear H hI kb bs hlr hWA r1 hl q1 q2 q3 r4 r5 nx nx' nl
  unfold stepA
  go_enter Tryz.func10, Tryz.ntmps10
  go_upto_region 1 with (fail)
  rw [HWA.out, ← HLR.out]
  go_upto_region 11 with (fail)
  refine wp_regionG (fun w' => w'.cell? ⟨xb, 2, none⟩ = some (.slice a n c) ∧ w'.cell? ⟨xb, 0, none⟩ = some (.pointer (some ⟨db, 0, none⟩)) ∧ w'.cell? ⟨lr, 4, none⟩ = some (.bool bk)) 16 (by kernel_rfl) ⟨x2, x0, s4⟩ (fun hF => ?_)
  refine wpAnyG_takeY (i := 0) (v := ?_) rfl (by kernel_rfl) (by decide +kernel) (by decide +kernel) (by decide +kernel) (fun _ _ _ h => h) (by kernel_rfl) ?_ (by assumption) ?_
  rotate_left
  · (intro wz; go_simp; with_reducible rfl)
  try simp only [Act.put, List.setIfInBounds_toArray, List.set_cons_zero, List.set_cons_succ]
  refine wpAnyG_takeY (i := 1) (v := ?_) rfl (by kernel_rfl) (by decide +kernel) (by decide +kernel) (by decide +kernel) (fun _ _ _ h => h) (by kernel_rfl) ?_ (by assumption) ?_
  rotate_left
  · (intro wz; go_simp; with_reducible rfl)
  try simp only [Act.put, List.setIfInBounds_toArray, List.set_cons_zero, List.set_cons_succ]
  refine wpAnyG_takeY (i := 2) (v := ?_) rfl (by kernel_rfl) (by decide +kernel) (by decide +kernel) (by decide +kernel) (fun _ _ _ h => h) (by kernel_rfl) ?_ (by assumption) ?_
  rotate_left
  · (intro wz; go_simp; with_reducible rfl)
  try simp only [Act.put, List.setIfInBounds_toArray, List.set_cons_zero, List.set_cons_succ]
  refine wpAnyG_takeY (i := 3) (v := ?_) rfl (by kernel_rfl) (by decide +kernel) (by decide +kernel) (by decide +kernel) (fun _ _ _ h => h) (by kernel_rfl) ?_ (by assumption) ?_
  rotate_left
  · (intro wz; go_simp; with_reducible rfl)
  try simp only [Act.put, List.setIfInBounds_toArray, List.set_cons_zero, List.set_cons_succ]
  refine wpAnyG_take (i := 4) (v := ?_) rfl (by kernel_rfl) (by decide +kernel) (by decide +kernel) (by decide +kernel) (by decide +kernel) (by rfl) (fun _ _ _ h => h) (by kernel_rfl) ?_ (by assumption) ?_
  rotate_left
  · (intro wz hSw; (try dsimp only at hSw); go_simp; with_reducible rfl)
  try simp only [Act.put, List.setIfInBounds_toArray, List.set_cons_zero, List.set_cons_succ]
  refine wpAnyG_takeY (i := 5) (v := ?_) rfl (by kernel_rfl) (by decide +kernel) (by decide +kernel) (by decide +kernel) (fun _ _ _ h => h) (by kernel_rfl) ?_ (by assumption) ?_
  rotate_left
  · (intro wz; go_simp; with_reducible rfl)
  try simp only [Act.put, List.setIfInBounds_toArray, List.set_cons_zero, List.set_cons_succ]
  refine wpAnyG_takeY (i := 6) (v := ?_) rfl (by kernel_rfl) (by decide +kernel) (by decide +kernel) (by decide +kernel) (fun _ _ _ h => h) (by kernel_rfl) ?_ (by assumption) ?_
  rotate_left
  · (intro wz; go_simp; with_reducible rfl)
  try simp only [Act.put, List.setIfInBounds_toArray, List.set_cons_zero, List.set_cons_succ]
  refine wpAnyG_takeY (i := 7) (v := ?_) rfl (by kernel_rfl) (by decide +kernel) (by decide +kernel) (by decide +kernel) (fun _ _ _ h => h) (by kernel_rfl) ?_ (by assumption) ?_
  rotate_left
  · (intro wz; go_simp; with_reducible rfl)
  try simp only [Act.put, List.setIfInBounds_toArray, List.set_cons_zero, List.set_cons_succ]
  refine wpAnyG_take (i := 8) (v := ?_) rfl (by kernel_rfl) (by decide +kernel) (by decide +kernel) (by decide +kernel) (by decide +kernel) (by rfl) (fun _ _ _ h => h) (by kernel_rfl) ?_ (by assumption) ?_
  rotate_left
  · (intro wz hSw; (try dsimp only at hSw); go_simp; with_reducible rfl)
  try simp only [Act.put, List.setIfInBounds_toArray, List.set_cons_zero, List.set_cons_succ]
  refine wpAnyG_takeY (i := 9) (v := ?_) rfl (by kernel_rfl) (by decide +kernel) (by decide +kernel) (by decide +kernel) (fun _ _ _ h => h) (by kernel_rfl) ?_ (by assumption) ?_
  rotate_left
  · (intro wz; go_simp; with_reducible rfl)
  try simp only [Act.put, List.setIfInBounds_toArray, List.set_cons_zero, List.set_cons_succ]
  refine wpAnyG_take (i := 10) (v := ?_) rfl (by kernel_rfl) (by decide +kernel) (by decide +kernel) (by decide +kernel) (by decide +kernel) (by rfl) (fun _ _ _ h => h) (by kernel_rfl) ?_ (by assumption) ?_
  rotate_left
  · (intro wz hSw; (try dsimp only at hSw); go_simp; with_reducible rfl)
  try simp only [Act.put, List.setIfInBounds_toArray, List.set_cons_zero, List.set_cons_succ]
  refine wpAnyG_one (i := 11) rfl (by kernel_rfl) (by kernel_rfl) (fun K hK => ?_)
  have HK := Lib.hid hK
  clear hK
  go_simp
  refine (snew_any db t lo S (mV none) d bk WA.drew (HA.out.both.dic.keeps (Keeps.refl [] WA).drew (by simp) (by simp)) (by have := HI.out.t.ek; omega) (by have := HI.out.v; omega)).mono ?_
  rintro r w1 ⟨b, F9, rfl, a1, k1⟩
  have hF1 : w1.cell? ⟨xb, 2, none⟩ = some (.slice a n c) ∧ w1.cell? ⟨xb, 0, none⟩ = some (.pointer (some ⟨db, 0, none⟩)) ∧ w1.cell? ⟨lr, 4, none⟩ = some (.bool bk) := ⟨k1.cell hF.1 (by simp), k1.cell hF.2.1 (by simp), k1.cell hF.2.2 (by simp)⟩
  refine HK.out _ _ hF1 ?_
  clear HK K hF
  try simp only [Act.put, List.setIfInBounds_toArray, List.set_cons_zero, List.set_cons_succ]
  have KA : Hid (Keeps [] WA w1) := Lib.hid ((Keeps.refl [] WA).drew.trans k1)
  have A1 := Lib.hid a1
  obtain ⟨g, cap, W2, run2, v2, k2, g2, lt2⟩ := val_app (TY := 72) Tryz.underlying32 infoPS rfl B a c n (ptrs It9.b l) (.pointer (some ⟨b, 0, none⟩)) rfl (w1.alloc (.cells #[.pointer (some ⟨b, 0, none⟩)] 72)) w1.heap.size (R2.out.keeps (KA.out.alloc _) (by simp)) (has_new _ _) (by have := HN.out; omega) (by have := XL.out; have := KA.out.size; simp; omega)
  have RUN := Lib.hid run2
  have V2 := Lib.hid v2
  have k12 : Keeps (blk a) w1 W2 := ((Keeps.refl (blk a) w1).alloc _).trans k2
  have K12 := Lib.hid k12
  have G2 := Lib.hid (show g ∈ blk a ∨ WA.heap.size ≤ g ∧ ∀ x, x ∈ F9 → x < g from by
    rcases g2 with h | h
    · exact .inl h
    · right; rw [h]; have := KA.out.size; exact ⟨by simp; omega, fun x hx => by have := (A1.out.lo x hx).2; simp; omega⟩)
  have t2 := k12.cell hF1.1 NX.out.1
  have t0 := k12.cell hF1.2.1 NX.out.1
  have t4 := k12.cell hF1.2.2 NX.out.2.2
  have R12 := Lib.hid (k12.has (KA.out.has R1.out (by simp)) NX.out.1)
  have f2 : W2.frozen? ⟨xb, 2, none⟩ = false := free_of_has R12.out 2
  have T4 := Lib.hid t4
  clear k1 a1 run2 v2 k2 g2 lt2 k12 x0 x2 s4
  refine wpAnyG_one (i := 12) rfl (by kernel_rfl) (by kernel_rfl) (fun K hK => ?_)
  have HK := Lib.hid hK
  clear hK
  go_simp
  refine HK.out _ _ ⟨cell_alloc hF1.1 _, cell_alloc hF1.2.1 _, cell_alloc hF1.2.2 _⟩ ?_
  clear HK K hF1
  refine wpAnyG_one (i := 13) rfl (by kernel_rfl) (by kernel_rfl) (fun K hK => ?_)
  have HK := Lib.hid hK
  clear hK
  refine wp_append_run (.tmp 46) (.tmp 54) 32 rfl _ _ rfl rfl _ _ RUN.out ?_
  have hF2 := And.intro t2 (And.intro t0 t4)
  refine HK.out _ _ hF2 ?_
  clear HK K RUN
  try simp only [Act.put, List.setIfInBounds_toArray, List.set_cons_zero, List.set_cons_succ]
  refine wpAnyG_takeY (i := 14) (v := ?_) rfl (by kernel_rfl) (by decide +kernel) (by decide +kernel) (by decide +kernel) (fun _ _ _ h => h) (by kernel_rfl) ?_ (by assumption) ?_
  rotate_left
  · (intro wz; go_simp; with_reducible rfl)
  try simp only [Act.put, List.setIfInBounds_toArray, List.set_cons_zero, List.set_cons_succ]
  refine wpAnyG_takeY (i := 15) (v := ?_) rfl (by kernel_rfl) (by decide +kernel) (by decide +kernel) (by decide +kernel) (fun _ _ _ h => h) (by kernel_rfl) ?_ (by assumption) ?_
  rotate_left
  · (intro wz; go_simp; with_reducible rfl)
  try simp only [Act.put, List.setIfInBounds_toArray, List.set_cons_zero, List.set_cons_succ]
  refine wpAnyG_last rfl (by kernel_rfl) (by rfl) (by rfl) (fun K hK => ?_)
  have HK := Lib.hid hK
  clear hK
  go_simp
  refine HK.out _ _ ?_
  clear HK K hF2
  refine wpAnyG_done (by kernel_rfl) ?_ _
  go_simp
  go_upto_region 12 with (fail)
  refine wp_gen (fun V => V.heap[xb]? = some (two9O db wb (.slice (some ⟨g, 0, none⟩) (n + 1) cap) (.slice a' n c')) ∧ Keeps [xb] W2 V) (two9_set2 R12.out _) ?_
  rintro V ⟨b3, k3⟩
  have KV : Hid (Keeps (xb :: blk a) WA V) := Lib.hid (((KA.out.mono (by simp)).trans (K12.out.mono (fun x hx => List.mem_cons_of_mem _ hx))).trans (k3.mono (by simp)))
  have B3 := Lib.hid b3
  have VV := Lib.hid (V2.out.keeps k3 (fun x hx hy => by
    simp [blk] at hx hy; subst hx; subst hy
    rcases G2.out with h | h
    · exact NX.out.1 h
    · have := XL.out; omega))
  have AL := Lib.hid (show ∀ x, x ∈ F9 → WA.heap.size ≤ x from fun x hx => (A1.out.lo x hx).1)
  have AV := Lib.hid ((A1.out.keeps K12.out (fun x hx hy => by have := AL.out x hx; have := (LT.out.1 x hy).2; have := XL.out; omega)).keeps k3 (fun x hx hy => by simp at hy; subst hy; have := AL.out _ hx; have := XL.out; omega))
  have y4 : V.cell? ⟨lr, 4, none⟩ = some (.bool bk) := k3.cell T4.out (by simp; intro e; have := LT.out.2.2; omega)
  have h9 := b3
  unfold two9O at h9
  have y1 : V.cell? ⟨xb, 1, none⟩ = some (.pointer (some ⟨wb, 0, none⟩)) := cell_has h9 (i := 1) rfl
  have y3 : V.cell? ⟨xb, 3, none⟩ = some (.slice a' n c') := cell_has h9 (i := 3) rfl
  have RV : Hid (RDicAt wb tw lo2 R none d V) := Lib.hid (HA.out.both.ref.keeps KV.out (fun hx => by
      rcases List.mem_cons.1 hx with h | h
      · exact HA.out.xn (by simp [h])
      · exact (R4.out wb (by simp [h])).1 (by simp)) (fun x hx hy => by
      rcases List.mem_cons.1 hy with h | h
      · exact HA.out.xn (by simp [← h, hx])
      · exact (R4.out x (by simp [h])).1 (by simp [hx])))
  have nl' : lr ∉ blk a' := fun hx => by have := (LT.out.2.1 lr hx).2; omega
  have NL := Lib.hid nl'
  clear b3 k3 h9 t0 t2 t4 f2 nl'
  refine wp_regionG (fun w' => w'.cell? ⟨xb, 3, none⟩ = some (.slice a' n c') ∧ w'.cell? ⟨xb, 1, none⟩ = some (.pointer (some ⟨wb, 0, none⟩)) ∧ w'.cell? ⟨lr, 4, none⟩ = some (.bool bk)) 16 (by kernel_rfl) ⟨y3, y1, y4⟩ (fun hF => ?_)
  refine wpAnyG_takeY (i := 0) (v := ?_) rfl (by kernel_rfl) (by decide +kernel) (by decide +kernel) (by decide +kernel) (fun _ _ _ h => h) (by kernel_rfl) ?_ (by assumption) ?_
  rotate_left
  · (intro wz; go_simp; with_reducible rfl)
  try simp only [Act.put, List.setIfInBounds_toArray, List.set_cons_zero, List.set_cons_succ]
  refine wpAnyG_takeY (i := 1) (v := ?_) rfl (by kernel_rfl) (by decide +kernel) (by decide +kernel) (by decide +kernel) (fun _ _ _ h => h) (by kernel_rfl) ?_ (by assumption) ?_
  rotate_left
  · (intro wz; go_simp; with_reducible rfl)
  try simp only [Act.put, List.setIfInBounds_toArray, List.set_cons_zero, List.set_cons_succ]
  refine wpAnyG_takeY (i := 2) (v := ?_) rfl (by kernel_rfl) (by decide +kernel) (by decide +kernel) (by decide +kernel) (fun _ _ _ h => h) (by kernel_rfl) ?_ (by assumption) ?_
  rotate_left
  · (intro wz; go_simp; with_reducible rfl)
  try simp only [Act.put, List.setIfInBounds_toArray, List.set_cons_zero, List.set_cons_succ]
  refine wpAnyG_takeY (i := 3) (v := ?_) rfl (by kernel_rfl) (by decide +kernel) (by decide +kernel) (by decide +kernel) (fun _ _ _ h => h) (by kernel_rfl) ?_ (by assumption) ?_
  rotate_left
  · (intro wz; go_simp; with_reducible rfl)
  try simp only [Act.put, List.setIfInBounds_toArray, List.set_cons_zero, List.set_cons_succ]
  refine wpAnyG_take (i := 4) (v := ?_) rfl (by kernel_rfl) (by decide +kernel) (by decide +kernel) (by decide +kernel) (by decide +kernel) (by rfl) (fun _ _ _ h => h) (by kernel_rfl) ?_ (by assumption) ?_
  rotate_left
  · (intro wz hSw; (try dsimp only at hSw); go_simp; with_reducible rfl)
  try simp only [Act.put, List.setIfInBounds_toArray, List.set_cons_zero, List.set_cons_succ]
  refine wpAnyG_takeY (i := 5) (v := ?_) rfl (by kernel_rfl) (by decide +kernel) (by decide +kernel) (by decide +kernel) (fun _ _ _ h => h) (by kernel_rfl) ?_ (by assumption) ?_
  rotate_left
  · (intro wz; go_simp; with_reducible rfl)
  try simp only [Act.put, List.setIfInBounds_toArray, List.set_cons_zero, List.set_cons_succ]
  refine wpAnyG_takeY (i := 6) (v := ?_) rfl (by kernel_rfl) (by decide +kernel) (by decide +kernel) (by decide +kernel) (fun _ _ _ h => h) (by kernel_rfl) ?_ (by assumption) ?_
  rotate_left
  · (intro wz; go_simp; with_reducible rfl)
  try simp only [Act.put, List.setIfInBounds_toArray, List.set_cons_zero, List.set_cons_succ]
  refine wpAnyG_takeY (i := 7) (v := ?_) rfl (by kernel_rfl) (by decide +kernel) (by decide +kernel) (by decide +kernel) (fun _ _ _ h => h) (by kernel_rfl) ?_ (by assumption) ?_
  rotate_left
  · (intro wz; go_simp; with_reducible rfl)
  try simp only [Act.put, List.setIfInBounds_toArray, List.set_cons_zero, List.set_cons_succ]
  refine wpAnyG_take (i := 8) (v := ?_) rfl (by kernel_rfl) (by decide +kernel) (by decide +kernel) (by decide +kernel) (by decide +kernel) (by rfl) (fun _ _ _ h => h) (by kernel_rfl) ?_ (by assumption) ?_
  rotate_left
  · (intro wz hSw; (try dsimp only at hSw); go_simp; with_reducible rfl)
  try simp only [Act.put, List.setIfInBounds_toArray, List.set_cons_zero, List.set_cons_succ]
  refine wpAnyG_takeY (i := 9) (v := ?_) rfl (by kernel_rfl) (by decide +kernel) (by decide +kernel) (by decide +kernel) (fun _ _ _ h => h) (by kernel_rfl) ?_ (by assumption) ?_
  rotate_left
  · (intro wz; go_simp; with_reducible rfl)
  try simp only [Act.put, List.setIfInBounds_toArray, List.set_cons_zero, List.set_cons_succ]
  refine wpAnyG_take (i := 10) (v := ?_) rfl (by kernel_rfl) (by decide +kernel) (by decide +kernel) (by decide +kernel) (by decide +kernel) (by rfl) (fun _ _ _ h => h) (by kernel_rfl) ?_ (by assumption) ?_
  rotate_left
  · (intro wz hSw; (try dsimp only at hSw); go_simp; with_reducible rfl)
  try simp only [Act.put, List.setIfInBounds_toArray, List.set_cons_zero, List.set_cons_succ]
  refine wpAnyG_one (i := 11) rfl (by kernel_rfl) (by kernel_rfl) (fun K hK => ?_)
  have HK := Lib.hid hK
  clear hK
  go_simp
  refine (rsnew_any wb tw lo2 R none d bk V.drew (RV.out.keeps (Keeps.refl [] V).drew (by simp) (by simp))).mono ?_
  rintro r w3 ⟨rfl, a3, z3, k3⟩
  obtain ⟨rb, hrb⟩ := ex_hid V.drew.heap.size
  rw [← hrb.out] at a3 ⊢
  have hF1 : w3.cell? ⟨xb, 3, none⟩ = some (.slice a' n c') ∧ w3.cell? ⟨xb, 1, none⟩ = some (.pointer (some ⟨wb, 0, none⟩)) ∧ w3.cell? ⟨lr, 4, none⟩ = some (.bool bk) := ⟨k3.cell hF.1 (by simp), k3.cell hF.2.1 (by simp), k3.cell hF.2.2 (by simp)⟩
  refine HK.out _ _ hF1 ?_
  clear HK K hF
  try simp only [Act.put, List.setIfInBounds_toArray, List.set_cons_zero, List.set_cons_succ]
  have KB : Hid (Keeps [] V w3) := Lib.hid ((Keeps.refl [] V).drew.trans k3)
  have A3 := Lib.hid a3
  have RB := Lib.hid (show rb = V.heap.size from hrb.out)
  have R3V := R3.out.keeps KV.out (fun x hx hy => by
    rcases List.mem_cons.1 hy with h | h
    · subst h; exact NX.out.2.1 hx
    · exact R5.out x h hx)
  obtain ⟨g', cap', W4, run4, v4, k4, g4, lt4⟩ := val_app (TY := 91) Tryz.underlying33 infoPR rfl B a' c' n (ptrs It9.rb l) (.pointer (some ⟨rb, 0, none⟩)) rfl (w3.alloc (.cells #[.pointer (some ⟨rb, 0, none⟩)] 91)) w3.heap.size (R3V.keeps (KB.out.alloc _) (by simp)) (has_new _ _) (by have := HN.out; omega) (by have := XL.out; have := KV.out.size; have := KB.out.size; simp; omega)
  have RUN := Lib.hid run4
  have V4 := Lib.hid v4
  have k34 : Keeps (blk a') w3 W4 := ((Keeps.refl (blk a') w3).alloc _).trans k4
  have K34 := Lib.hid k34
  have G4 := Lib.hid (show g' ∈ blk a' ∨ V.heap.size < g' from by
    rcases g4 with h | h
    · exact .inl h
    · right; rw [h]; have := KB.out.size; have := z3; simp at this ⊢; omega)
  have t3 := k34.cell hF1.1 NX.out.2.1
  have t1 := k34.cell hF1.2.1 NX.out.2.1
  have t4 := k34.cell hF1.2.2 NL.out
  have R34 := Lib.hid (k34.has (KB.out.has B3.out (by simp)) NX.out.2.1)
  have f3 : W4.frozen? ⟨xb, 3, none⟩ = false := free_of_has R34.out 3
  clear k3 a3 run4 v4 k4 g4 lt4 k34 y1 y3 y4 R3V z3
  refine wpAnyG_one (i := 12) rfl (by kernel_rfl) (by kernel_rfl) (fun K hK => ?_)
  have HK := Lib.hid hK
  clear hK
  go_simp
  refine HK.out _ _ ⟨cell_alloc hF1.1 _, cell_alloc hF1.2.1 _, cell_alloc hF1.2.2 _⟩ ?_
  clear HK K hF1
  refine wpAnyG_one (i := 13) rfl (by kernel_rfl) (by kernel_rfl) (fun K hK => ?_)
  have HK := Lib.hid hK
  clear hK
  refine wp_append_run (.tmp 62) (.tmp 70) 33 rfl _ _ rfl rfl _ _ RUN.out ?_
  have hF2 := And.intro t3 (And.intro t1 t4)
  refine HK.out _ _ hF2 ?_
  clear HK K RUN
  try simp only [Act.put, List.setIfInBounds_toArray, List.set_cons_zero, List.set_cons_succ]
  refine wpAnyG_takeY (i := 14) (v := ?_) rfl (by kernel_rfl) (by decide +kernel) (by decide +kernel) (by decide +kernel) (fun _ _ _ h => h) (by kernel_rfl) ?_ (by assumption) ?_
  rotate_left
  · (intro wz; go_simp; with_reducible rfl)
  try simp only [Act.put, List.setIfInBounds_toArray, List.set_cons_zero, List.set_cons_succ]
  refine wpAnyG_takeY (i := 15) (v := ?_) rfl (by kernel_rfl) (by decide +kernel) (by decide +kernel) (by decide +kernel) (fun _ _ _ h => h) (by kernel_rfl) ?_ (by assumption) ?_
  rotate_left
  · (intro wz; go_simp; with_reducible rfl)
  try simp only [Act.put, List.setIfInBounds_toArray, List.set_cons_zero, List.set_cons_succ]
  refine wpAnyG_last rfl (by kernel_rfl) (by rfl) (by rfl) (fun K hK => ?_)
  have HK := Lib.hid hK
  clear hK
  go_simp
  refine HK.out _ _ ?_
  clear HK K hF2
  refine wpAnyG_done (by kernel_rfl) ?_ _
  go_simp
  go_upto_region 27 with (fail)
  refine wp_gen (fun V5 => V5.heap[xb]? = some (two9O db wb (.slice (some ⟨g, 0, none⟩) (n + 1) cap) (.slice (some ⟨g', 0, none⟩) (n + 1) cap')) ∧ Keeps [xb] W4 V5) (two9_set3 R34.out _) ?_
  rintro V5 ⟨b5, k5⟩
  have B5 := Lib.hid b5
  have K5 := Lib.hid k5
  clear b5 k5 t1 t3 t4 f3
  go_wp2_with fail
  go_ret
  have sz1 := KA.out.size
  have sz2 := KV.out.size
  have xl := XL.out
  have KVW : Keeps (xb :: blk a') V V5 := ((KB.out.mono (by simp)).trans (K34.out.mono (fun x hx => List.mem_cons_of_mem _ hx))).trans (K5.out.mono (by simp))
  have gl : g < V.heap.size := (VV.out.blk_lt g (by simp [blk])).2
  have gx : g ∉ xb :: blk a' := fun hx => by
    rcases G2.out with h | h
    · rcases List.mem_cons.1 hx with h1 | h1
      · subst h1; exact NX.out.1 h
      · exact R5.out g h h1
    · rcases List.mem_cons.1 hx with h1 | h1
      · omega
      · have := (LT.out.2.1 g h1).2; omega
  have g'x : g' ≠ xb := fun e => by
    rcases G4.out with h | h
    · subst e; exact NX.out.2.1 h
    · omega
  have fl : ∀ x, x ∈ F9 → WA.heap.size ≤ x ∧ x < V.heap.size := fun x hx => ⟨AL.out x hx, (AV.out.lo x hx).2⟩
  have e1 : (l ++ [(⟨b, F9, newS db d bk, rb, newR d bk⟩ : It9)]).length = n + 1 := by simp [hn.out]
  have key := S9.add HA.out (a := a) (a' := a') (W' := V5) (it := ⟨b, F9, newS db d bk, rb, newR d bk⟩) (a2 := some ⟨g, 0, none⟩) (a3 := some ⟨g', 0, none⟩) (c2 := cap) (c3 := cap') R4.out
    (fun x hx => by
      rcases List.mem_append.1 hx with h | h
      · have := LT.out.1 x h; omega
      · have := LT.out.2.1 x h; omega)
    (((KV.out.mono (fun x hx => by rcases List.mem_cons.1 hx with h | h <;> simp [h])).trans (KVW.mono (fun x hx => by rcases List.mem_cons.1 hx with h | h <;> simp [h]))))
    (by rw [e1]; exact B5.out)
    (by rw [e1]; refine (VV.out.keeps KVW (fun x hx => by simp only [blk, List.mem_singleton] at hx; subst hx; exact gx)).congr (fun j hj => ?_); rw [hn.out]; exact ptrs_push It9.b l ⟨b, F9, newS db d bk, rb, newR d bk⟩ j (by rw [← hn.out]; exact hj))
    (by rw [e1]; refine (V4.out.keeps K5.out (fun x hx hy => by simp [blk] at hx hy; subst hx; exact g'x hy)).congr (fun j hj => ?_); rw [hn.out]; exact ptrs_push It9.rb l ⟨b, F9, newS db d bk, rb, newR d bk⟩ j (by rw [← hn.out]; exact hj))
    (fun x hx => by
      simp only [blk, List.mem_append, List.mem_singleton] at hx ⊢
      rcases hx with rfl | rfl
      · rcases G2.out with h | h
        · exact .inl (.inl h)
        · exact .inr h.1
      · rcases G4.out with h | h
        · exact .inl (.inr h)
        · right; omega)
    (fun x hx hy => by
      simp only [blk, List.mem_singleton] at hx hy
      subst hx; subst hy
      rcases G4.out with h | h
      · exact gx (List.mem_cons_of_mem _ h)
      · omega)
    (fun x hx hy => by
      simp only [blk, List.mem_append, List.mem_singleton] at hx
      simp only [It9.feet, List.mem_cons] at hy
      have hrb := RB.out
      rcases hx with rfl | rfl
      · rcases hy with h | h
        · omega
        · rcases G2.out with h1 | h1
          · have := (LT.out.1 _ h1).2; have := fl _ h; omega
          · have := h1.2 _ h; omega
      · rcases G4.out with h1 | h1
        · have := (LT.out.2.1 _ h1).2
          rcases hy with h | h
          · omega
          · have := fl _ h; omega
        · rcases hy with h | h
          · omega
          · have := fl _ h; omega)
    ((AV.out.keeps KVW (fun x hx hy => by
      have := fl x hx
      rcases List.mem_cons.1 hy with h | h
      · omega
      · have := (LT.out.2.1 x h).2; omega)).mono (show B ≤ WA.heap.size by omega))
    ((K5.out.has (K34.out.has A3.out (fun hx => by have h8 := (LT.out.2.1 _ hx).2; have h9 := RB.out; simp only at h8; omega)) (fun hx => by have h9 := RB.out; simp only [List.mem_singleton] at hx; omega)))
    (Lnk.new db HA.out.bir HI.out (by omega) bk)
    (fun hx => by have h8 : rb < V.heap.size := (fl _ hx).2; have := RB.out; omega)
    (by have := RB.out; show B ≤ rb; omega)
    (fun x hx => by
      simp only [It9.feet, List.mem_cons] at hx
      rcases hx with h | h
      · have := RB.out; omega
      · exact (fl x h).1)
  exact ⟨_, rfl, key.1, HBel.out.trans key.2⟩
end Go.Proofs.YtcakdmapnmneoaaGreat
end

section
namespace Go.Proofs.YtcakdmapnmneoaaGreat
open Go.RowKit
set_option linter.unusedVariables false
set_option linter.unusedSimpArgs false

def Does9A (B xb db t lo wb tw lo2 k : Nat) (w : World) (r : Ending) (w' : World) : Prop :=
  ∃ S' R' e l', r = .returned (.bool true) ∧ l'.length ≤ 20 ∧ S9 B B xb db t lo wb tw lo2 S' R' e l' w' ∧ DicOk (k + 1) e ∧ Below B w w'
theorem does9_any (B xb db t lo wb tw lo2 : Nat) (S R : List Nat) (d : Dic) (l : List It9) (k : Nat) (hk : k ≤ 400) (g ky hs vl m : Int) (bk : Bool) (w : World) (H : S9 B B xb db t lo wb tw lo2 S R d l w) (hI : DicOk k d) (hl : l.length ≤ 20) :
    Calls Tryz.prog 10 #[.pointer (some ⟨xb, 0, none⟩), stepA g ky hs vl bk m] w (Does9A B xb db t lo wb tw lo2 k w) := by
  have go : ∀ (r : Ending) (w' : World), Does9P B B xb db t lo wb tw lo2 k l.length w r w' → Does9A B xb db t lo wb tw lo2 k w r w' := by
    rintro r w' ⟨S', R', e, l', h1, h2, h3, h4, h5⟩
    exact ⟨S', R', e, l', h1, by omega, h3, h4, h5⟩
  by_cases h1 : g = 1 ∨ g = 2
  · exact (does9_goal B B xb db t lo wb tw lo2 S R d l k hk g h1 ky hs vl m bk w H hI).mono go
  by_cases h3 : g = 3
  · subst h3; exact (does9_clear B B xb db t lo wb tw lo2 S R d l k hk ky hs vl m bk w H hI).mono go
  by_cases h4 : g = 4
  · subst h4
    by_cases hf : 20 ≤ l.length
    · exact (does9_full B B xb db t lo wb tw lo2 S R d l k hk ky hs vl m bk w H hI hf).mono go
    · refine (does9_new B xb db t lo wb tw lo2 S R d l k hk ky hs vl m bk w H hI (by omega)).mono ?_
      rintro r w' ⟨it, h1, h2, h3⟩
      exact ⟨S, R, d, l ++ [it], h1, by simp; omega, h2, hI.mono (by omega), h3⟩
  by_cases h5 : g = 5
  · subst h5; exact (does9_next B B xb db t lo wb tw lo2 S R d l k hk ky hs vl m bk w H hI (by omega)).mono go
  by_cases h6 : g = 6
  · subst h6; exact (does9_last B B xb db t lo wb tw lo2 S R d l k hk ky hs vl m bk w H hI).mono go
  exact (does9_none B B xb db t lo wb tw lo2 S R d l k hk g (by omega) ky hs vl m bk w H hI).mono go
end Go.Proofs.YtcakdmapnmneoaaGreat
end
