/- The document's namespaces in memory; its hash of a text; a name's number (chapter 10). -/
import Derived.Test.YtajmfenfajbakaaGreatShV
import Derived.Test.YtajmfenfajbakaaGreatRTabAdd
import Derived.Test.YtajmfenfajbakaaGreatRTabNext
import Derived.Test.YtajmfenfajbakaaGreatB10
namespace Go.Proofs.YtajmfenfajbakaaGreat
open Go.RowKit
set_option linter.unusedVariables false
set_option linter.unusedSimpArgs false

theorem rinstead_any (v : Int) (w : World) : Calls Tryz.prog 77 #[.int .u64 v, .int .i64 (-2)] w fun r w' => r = .returned (.int .i64 (hashI v)) ∧ w = w' := by
  have e9 := IntWalk.i64_left v
  unfold hashI
  by_cases hv : IntKind.i64.wrap v = -1
  · rw [if_pos hv]
    have hb : (IntKind.i64.wrap v == -1) = true := by simpa using hv
    rw [e9] at hv hb
    clear e9
    go_enter Tryz.func77, Tryz.ntmps77
    go_wp2_with fail
    go_ret
    exact ⟨rfl, rfl⟩
  · rw [if_neg hv]
    have hb : (IntKind.i64.wrap v == -1) = false := by simpa using hv
    go_enter Tryz.func77, Tryz.ntmps77
    go_wp2_with fail
    go_ret
    exact ⟨by rw [IntWalk.i64_left]; rfl, rfl⟩
set_option maxRecDepth 100000 in
theorem rtext_any (s : ByteArray) (w : World) (hs : s.size ≤ 1000000) :
    Calls Tryz.prog 57 #[.string s] w fun r w' => r = .returned (.int .i64 (txtH s)) ∧ w = w' := by
  go_enter Tryz.func57, Tryz.ntmps57
  go_wp2_with fail
  go_loop [3, 4] (fun z3 z7 => ∃ k : Nat, k ≤ s.size ∧ z7 = .int .i64 k ∧ z3 = .int .u64 (txtW (s.data.toList.take k))) (fun _ z7 => s.size - (intOf z7).toNat)
  case atStart => exact ⟨0, Nat.zero_le _, rfl, rfl⟩
  case round =>
    obtain ⟨k, hk, rfl, rfl⟩ := hrel
    by_cases hlt : k < s.size
    · have e := take_snoc10 s k hlt
      have hlt' : (k : Int) < (s.size : Int) := by omega
      have HS : Hid (txtW (s.data.toList.take (k + 1)) = txtS (txtW (s.data.toList.take k)) s[k]) := Lib.hid (by rw [e, txtW_snoc])
      clear e
      obtain ⟨v, hv⟩ := ex_hid (txtW (s.data.toList.take k))
      rw [← hv.out]
      go_wp2_with fail
      go_round
      case rel => exact ⟨k + 1, by omega, by go_num, by rw [HS.out, ← hv.out]; unfold txtS; with_reducible rfl⟩
      case measure => simp [intOf]; omega
    · obtain rfl : k = s.size := by omega
      have et : s.data.toList.take s.size = s.data.toList := List.take_of_length_le (by simp)
      rw [et]
      clear et
      obtain ⟨v, hv⟩ := ex_hid (txtW s.data.toList)
      rw [← hv.out]
      go_wp2_with fail
      refine (rinstead_any v w).mono ?_
      rintro r w2 ⟨rfl, rfl⟩
      go_wp2_with fail
      go_ret
      exact ⟨by rw [hv.out]; rfl, rfl⟩
/-- The document's family; its namespace. -/
def rfamO (most pairs : Int) (t : Nat) (names mv : Value) : Obj := .cells #[.int .i64 most, .int .i64 pairs, .pointer (some ⟨t, 0, none⟩), names, mv] 67 (0, 0)
def rspO (fb : Nat) (row own : Value) (ver : Int) : Obj := .cells #[.pointer (some ⟨fb, 0, none⟩), row, own, .int .i64 ver] 87 (0, 0)
structure RFamAt (fb t lo : Nat) (a : Option Addr) (ST : List Nat) (m : Option Nat) (f : Fam) (W : World) : Prop where
  b : ∃ c, W.heap[fb]? = some (rfamO f.most f.pairs t (.slice a f.N.length c) (mV m)) ∧ ValRow 9 lo a f.N.length c (strV f.N) W
  k : RTabAt t lo ST m f.K W
  d1 : fb ∉ blk a ++ ST
  d3 : ∀ z, z ∈ blk a → z ∉ ST
  l : lo ≤ fb
def rfamS (fb : Nat) (a : Option Addr) (ST : List Nat) : List Nat := fb :: (blk a ++ ST)
section
variable {fb t lo : Nat} {a : Option Addr} {ST R : List Nat} {m : Option Nat} {f : Fam} {W W' : World}
theorem RFamAt.keeps (h : RFamAt fb t lo a ST m f W) (k : Keeps R W W') (hd : ∀ z, z ∈ rfamS fb a ST → z ∉ R) : RFamAt fb t lo a ST m f W' := by
  unfold rfamS at hd
  obtain ⟨c, h1, h2⟩ := h.b
  exact ⟨⟨c, k.has h1 (hd _ (by simp)), h2.keeps k (fun z hz => hd z (by simp [hz]))⟩, h.k.keeps k (fun z hz => hd z (by simp [hz])), h.d1, h.d3, h.l⟩
theorem RFamAt.foot (h : RFamAt fb t lo a ST m f W) : ∀ z, z ∈ rfamS fb a ST → lo ≤ z ∧ z < W.heap.size := by
  intro z hz
  unfold rfamS at hz
  obtain ⟨c, h1, h2⟩ := h.b
  simp only [List.mem_cons, List.mem_append] at hz
  rcases hz with rfl | hz | hz
  · exact ⟨h.l, lt_of_block h1⟩
  · exact h2.blk_lt z hz
  · exact h.k.foot z hz
end
theorem numF_fst {s : ByteArray} : ∀ {l : List ByteArray} {i k : Nat}, l[k]? = some s → (∀ j, j < k → l[j]? ≠ some s) → numFrom i l s = some (i + k) := by
  intro l
  induction l with
  | nil => intro i k h; simp at h
  | cons x l ih =>
    intro i k h hn
    unfold numFrom
    cases k with
    | zero => simp at h; subst h; simp
    | succ k =>
      have hx : ¬ s = x := fun e => hn 0 (by omega) (by simp [e])
      have h9 := ih (i := i + 1) (k := k) (by simpa using h) (fun j hj => by have := hn (j + 1) (by omega); simpa using this)
      rw [if_neg hx, h9]
      congr 1; omega
theorem numI_fst {s : ByteArray} {l : List ByteArray} {k : Nat} (h : l[k]? = some s) (hn : ∀ j, j < k → l[j]? ≠ some s) : numI l s = (k : Int) := by
  unfold numI numOf
  rw [numF_fst h hn]; simp
set_option maxRecDepth 100000 in
theorem rnumber_any (fb t lo : Nat) (a : Option Addr) (ST : List Nat) (m : Option Nat) (f : Fam) (s : ByteArray) (w : World) (H : RFamAt fb t lo a ST m f w) (hl : f.N.length ≤ 1000000) :
    Calls Tryz.prog 54 #[.pointer (some ⟨fb, 0, none⟩), .string s] w fun r w' => r = .returned (.int .i64 (numI f.N s)) ∧ w = w' := by
  obtain ⟨c, h1, h2⟩ := H.b
  have c3 : w.cell? ⟨fb, 3, none⟩ = some (.slice a f.N.length c) := cell_has h1 (i := 3) rfl
  have HR := Lib.hid h2
  obtain ⟨N, hN⟩ := ex_hid f.N
  rw [← hN.out] at c3 HR hl ⊢
  obtain ⟨n, hn⟩ := ex_hid N.length
  rw [← hn.out] at c3 hl
  clear H h1 h2
  go_enter Tryz.func54, Tryz.ntmps54
  go_wp2_with fail
  go_loopw [5] (fun z5 wr => ∃ i : Nat, i ≤ n ∧ z5 = .int .i64 i ∧ w = wr ∧ Hid (∀ j, j < i → N[j]? ≠ some s)) (fun z5 _ => n - (intOf z5).toNat)
  case atStart => exact ⟨0, Nat.zero_le _, rfl, rfl, Lib.hid (fun j hj => absurd hj (by omega))⟩
  case round =>
    obtain ⟨i, hi, rfl, rfl, I⟩ := hrel
    by_cases hlt : i < n
    · have i1 : (i : Int) < (n : Int) := by omega
      have i0 : (0 : Int) ≤ (i : Int) := by omega
      obtain ⟨g, rfl⟩ := HR.out.shape (by rw [← hn.out]; omega)
      have s1 : w.cell? ⟨g, i, none⟩ = some (.string (N.getD i .empty)) := HR.out.cell (by rw [← hn.out]; exact hlt)
      have HX := Lib.hid (getD_at10 (N := N) (n := i) (by rw [← hn.out]; exact hlt))
      obtain ⟨x, hx⟩ := ex_hid (N.getD i .empty)
      rw [← hx.out] at s1 HX
      by_cases he : x = s
      · have HE := Lib.hid he
        have hb : (x.toList == s.toList) = true := by rw [bytes_list10]; simp [he]
        clear he
        go_wp2_with fail
        go_ret
        refine ⟨?_, rfl⟩
        rw [numI_fst (by rw [HX.out, HE.out]) I.out]; rfl
      · have HE := Lib.hid he
        have hb : (x.toList == s.toList) = false := by rw [bytes_list10]; simp [he]
        clear he
        go_wp2_with fail
        go_roundw
        case rel =>
          refine ⟨i + 1, by omega, by go_num, (by first | rfl | trivial), Lib.hid (fun j hj => ?_)⟩
          rcases Nat.lt_or_ge j i with h | h
          · exact I.out j h
          · obtain rfl : j = i := by omega
            rw [HX.out]; simp; exact HE.out
        case measure => simp [intOf]; omega
    · obtain rfl : i = n := by omega
      have hge : ¬ (i : Int) < (i : Int) := by omega
      go_wp2_with fail
      go_ret
      refine ⟨?_, rfl⟩
      rw [numI_none (fun hm => by
        obtain ⟨j, hj⟩ := List.mem_iff_getElem?.1 hm
        exact I.out j (by have := (List.getElem?_eq_some_iff.1 hj).1; have := hn.out; omega) hj)]; rfl
end Go.Proofs.YtajmfenfajbakaaGreat
