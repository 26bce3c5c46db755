/- The document's bytes, and two rows of bytes compared (chapter 6). -/
import Derived.Test.YtlpccmokjjldlaaCellBytes
import Derived.Test.YtlpccmokjjldlaaCellRef
namespace Go.Proofs.Ytlpccmokjjldlaa
open Go.RowKit
set_option linter.unusedVariables false

theorem byte32 (x : Int) (m : Nat) (h : m ≤ 3) : x % 4294967296 / 2 ^ (8 * m) % 256 = byteOf x m := by
  have h' : m = 0 ∨ m = 1 ∨ m = 2 ∨ m = 3 := by omega
  unfold byteOf
  rcases h' with rfl | rfl | rfl | rfl <;> simp <;> omega

theorem own_mono {w : World} {base : Nat} {e : TypeId} {size : Nat} {v : Value} {n : Nat} {xs : List Value} (h : w.ownsRow (base + 1) e size v n xs) : w.ownsRow base e size v n xs := by
  obtain ⟨h1, h2⟩ := h
  refine ⟨h1, ?_⟩
  rcases h2 with h2 | ⟨g, cap, cur, a1, a2, a3, a4⟩
  · exact .inl h2
  · exact .inr ⟨g, cap, cur, a1, by omega, a3, a4⟩

/-- What is known between two bytes. -/
structure RbS (q L n : Nat) (V : Nat → Int) (w W : World) : Prop where
  ref : RefAt q n V W
  box : W.heap[w.heap.size]? = some (.cells #[.int .i64 L, .slice (some ⟨q, 0, none⟩) n n] 64 (0, 0))
  since : Below w.heap.size w W
theorem RbS.low {q L n : Nat} {V : Nat → Int} {w W W' : World} (h : RbS q L n V w W) (hq : q < w.heap.size) (k : KeptLo (w.heap.size + 1) [] W W') : RbS q L n V w W' :=
  ⟨(k.block q (by omega) List.not_mem_nil).trans h.ref, (k.block _ (by omega) List.not_mem_nil).trans h.box, h.since.trans (k.below (by omega) (by simp))⟩

set_option maxRecDepth 100000 in
set_option maxHeartbeats 1000000 in
theorem rbytesc_any (q L n : Nat) (V : Nat → Int) (w : World) (H : RefAt q n V w) (hF : Fits n V) (h3 : 3 ≤ L) (hL : L ≤ 20) (hn1 : n ≤ 1048576) :
    Calls Try.prog 41 #[.agg #[.int .i64 L, .slice (some ⟨q, 0, none⟩) n n]] w (BytesC (n * wdOf L) (wdOf L) V w) := by
  have HH := Lib.hid H
  have HF := Lib.hid hF
  obtain ⟨i0, hi, hz0, hz1, hz2⟩ := info_parts infoU
  have HI := Lib.hid (And.intro hi (And.intro hz0 (And.intro hz1 hz2)))
  clear hi hz0 hz1 hz2
  obtain ⟨wd, hwd⟩ := ex_hid (wdOf L)
  have w1' : 1 ≤ wd := by rw [hwd.out]; exact (wdOf_is L).1
  have w4' : wd ≤ 4 := by rw [hwd.out]; exact (wdOf_is L).2
  obtain ⟨tot, ht⟩ := ex_hid (n * wd)
  have htb : tot ≤ 4194304 := by rw [ht.out]; exact Nat.le_trans (Nat.mul_le_mul hn1 w4') (by decide)
  rw [← hwd.out, ← ht.out]
  have hq0 := lt_of_block H
  have S0 := Lib.hid (RbS.mk (L := L) (has_alloc H _) (has_new w _) ((Below.refl _ _).alloc (Nat.le_refl _) _))
  clear H hF
  go_enter Try.func41, Try.ntmps41
  go_wp2_with fail
  go_loopw [3, 4] (fun out i wr => ∃ (k : Nat) (a : Option Addr) (cap : Nat), k ≤ n ∧ i = .int .i64 k ∧ out = .slice a (k * wd) cap ∧ wr.ownsRow (w.heap.size + 1) 5 1 (.slice a (k * wd) cap) (k * wd) (bytesL wd V (k * wd)) ∧ RbS q L n V w wr) (fun _ i _ => n - (intOf i).toNat)
  case atStart => exact ⟨0, none, 0, by omega, rfl, by rw [Nat.zero_mul], by rw [Nat.zero_mul]; exact World.ownsRow_nil _ _ _ _, S0.out⟩
  case round =>
    obtain ⟨k, a, cap, hk, rfl, rfl, hO, hS⟩ := hrel
    clear S0
    have hk0 : (0 : Int) ≤ (k : Int) := by omega
    have c1 := cell_has hS.box (i := 1) rfl
    by_cases hlt : k < n
    · have hlt' : (k : Int) < (n : Int) := by omega
      have cq := cell_has hS.ref (numA_get hlt)
      obtain ⟨x, hx⟩ := ex_hid (V k)
      have hb := HF.out.bounds hn1 k
      rw [← hx.out] at cq hb
      have hb1 := hb.1
      have hb2 := hb.2
      have HO := Lib.hid hO
      have HS := Lib.hid hS
      clear hO hS hb
      go_wp2_with fail
      obtain ⟨wo, rfl⟩ : ∃ wo : World, wo = wr := ⟨_, rfl⟩
      go_loopw [3, 6] (fun out j wr => ∃ (m : Nat) (a : Option Addr) (cap : Nat), m ≤ wd ∧ j = .int .i64 m ∧ out = .slice a (k * wd + m) cap ∧ wr.ownsRow (w.heap.size + 1) 5 1 (.slice a (k * wd + m) cap) (k * wd + m) (bytesL wd V (k * wd + m)) ∧ RbS q L n V w wr) (fun _ j _ => wd - (intOf j).toNat)
      case atStart => exact ⟨0, _, _, by omega, rfl, rfl, HO.out, HS.out⟩
      case round =>
        obtain ⟨m, a', cap', hm, rfl, rfl, hO, hS⟩ := hrel
        clear HO HS cq c1
        have c0 := cell_has hS.box (i := 0) rfl
        have HO := Lib.hid hO
        have HS := Lib.hid hS
        clear hO hS
        by_cases hml : m < wd
        · have hml' : (m : Int) < (wd : Int) := by omega
          have hm4 : (m : Int) ≤ 3 := by omega
          have hm0 : (0 : Int) ≤ (m : Int) := by omega
          have hkm : k * wd + m ≤ 4194304 := by
            have : k * wd ≤ n * wd := Nat.mul_le_mul (by omega) (Nat.le_refl _)
            have h2 : (k + 1) * wd ≤ n * wd := Nat.mul_le_mul hlt (Nat.le_refl _)
            rw [Nat.succ_mul] at h2
            rw [← ht.out] at h2
            omega
          have q3 : k * wd + m + 1 ≤ maxLen := by unfold maxLen; omega
          have q4 : (k * wd + m + 1) * 1 ≤ 140737488355328 := by omega
          have hz1 : w.heap.size + 1 ≤ wr.heap.size := lt_of_block HS.out.box
          have q5 : w.heap.size + 1 ≤ wr.heap.size + 1 := by omega
          have G := Lib.hid (And.intro q3 (And.intro q4 q5))
          clear q3 q4 q5
          go_wp2_with (first | (at_builtin; refine wpList_append_lies _ rfl _ _ 74 rfl (w.heap.size + 1) 5 i0 (.int .u8 0) 1 1 Try.underlying74 HI.out.1 HI.out.2.1 HI.out.2.2.1 HI.out.2.2.2 rfl (by decide) _ (k * wd + m) (bytesL wd V (k * wd + m)) rfl (HO.out.alloc _) ⟨wr.heap.size, 0, none⟩ 1 1 [_] rfl rfl (cell_one_new _ _ _) (by intro u hu; simp at hu; subst hu; rfl) (by decide) G.out.1 G.out.2.1 (by simpa using G.out.2.2) (wr.heap.size + 1) (by simp) ?_; intro g cap' w1 hown hgrow _ _; have K1 := Lib.hid (append_kept HO.out hz1 hgrow); have H1 := Lib.hid hown; clear hgrow hown) | (go_at_call 63; refine (rwidth_any L _ rfl h3 hL _).mono ?_; rintro e w' ⟨rfl, rfl⟩; rw [← hwd.out]))
          go_roundw
          case rel =>
            refine ⟨m + 1, some ⟨g, 0, none⟩, cap', by omega, by go_num, rfl, ?_, HS.out.low hq0 K1.out⟩
            rw [bytesL_succ wd V k m hml, ← hx.out, ← byte32 x m (by omega)]
            exact H1.out
          case measure => simp [intOf]; omega
        · have hme : m = wd := by omega
          subst hme
          have hml' : ¬ (m : Int) < (m : Int) := by omega
          go_wp2_with (go_at_call 63; refine (rwidth_any L _ rfl h3 hL _).mono ?_; rintro e w' ⟨rfl, rfl⟩; rw [← hwd.out])
          go_roundw
          case rel => exact ⟨k + 1, a', cap', by omega, by go_num, by rw [Nat.succ_mul], by rw [Nat.succ_mul]; exact HO.out, HS.out⟩
          case measure => simp [intOf]; omega
    · have hke : k = n := by omega
      subst hke
      have hlt' : ¬ (k : Int) < (k : Int) := by omega
      have HS := Lib.hid hS
      have HO := Lib.hid hO
      clear hO hS
      go_wp2_with fail
      go_ret
      have hq : k * wd = tot := ht.out.symm
      refine ⟨a, cap, by rw [← hq]; rfl, ?_, HS.out.since⟩
      rw [← hq]; exact own_mono HO.out

/-- A list of bytes that can be read. -/
def ReadsB (w : World) (a : Option Addr) (n : Nat) (B : Nat → Value) : Prop := ∀ i, i < n → ∃ b off, a = some ⟨b, off, none⟩ ∧ w.cell? ⟨b, off + i, none⟩ = some (B i) ∧ ∃ x, B i = .int .u8 x
theorem ReadsB.below {w w' : World} {a : Option Addr} {n : Nat} {B : Nat → Value} (h : ReadsB w a n B) (hb : Below w.heap.size w w') : ReadsB w' a n B := fun i hi => by
  obtain ⟨b, off, h1, h2, h3⟩ := h i hi
  exact ⟨b, off, h1, (hb.cell (p := ⟨b, off + i, none⟩) (World.block_lt_of_cell? _ _ h2)).trans h2, h3⟩

theorem bytes_eq (B : Nat → Value) (a b : Option Addr) (n ca cb : Nat) (w : World) (h1 : ReadsB w a n B) (h2 : ReadsB w b n B) (hn : (n : Int) ≤ 9223372036854775806) :
    Calls Try.prog 40 #[.slice a n ca, .slice b n cb] w fun e w' => e = .returned (.bool true) ∧ Below w.heap.size w w' := by
  have H1 := Lib.hid h1
  have H2 := Lib.hid h2
  clear h1 h2
  go_enter Try.func40, Try.ntmps40
  go_wp2_with fail
  go_loopw [5] (fun i wr => ∃ k : Nat, k ≤ n ∧ i = .int .i64 k ∧ Below w.heap.size w wr) (fun i _ => n - (intOf i).toNat)
  case atStart => exact ⟨0, by omega, rfl, Below.refl _ _⟩
  case round =>
    obtain ⟨k, hk, rfl, hb⟩ := hrel
    have hk0 : (0 : Int) ≤ (k : Int) := by omega
    by_cases hlt : k < n
    · have hlt' : (k : Int) < (n : Int) := by omega
      obtain ⟨b1, o1, rfl, c1, x, hx⟩ := (H1.out.below hb) k hlt
      obtain ⟨b2, o2, rfl, c2, _⟩ := (H2.out.below hb) k hlt
      rw [hx] at c1 c2
      have HB := Lib.hid hb
      clear hb hx H1 H2
      go_wp2_with fail
      go_quiet (fail)
      go_wp2_with fail
      go_roundw
      case rel => exact ⟨k + 1, by omega, by go_num, below_drewN HB.out _⟩
      case measure => simp [intOf]; omega
    · have hge : (n : Int) ≤ (k : Int) := by omega
      have HB := Lib.hid hb
      clear hb H1 H2
      go_wp2_with fail
      go_ret
      exact ⟨rfl, HB.out⟩

theorem readsB_own {w : World} {base : Nat} {wd : Nat} {V : Nat → Int} {n : Nat} {a : Option Addr} {cap : Nat} (h : w.ownsRow base 5 1 (.slice a n cap) n (bytesL wd V n)) : ReadsB w a n (fun t => .int .u8 (byteOf (V (t / wd)) (t % wd))) := by
  intro i hi
  rcases h.2 with ⟨_, h0⟩ | ⟨g, cap', cur, hv, _⟩
  · omega
  · cases hv
    refine ⟨g, 0, rfl, ?_, _, rfl⟩
    rw [Nat.zero_add, h.cellAt i (by omega)]
    simp [bytesL, hi]
end Go.Proofs.Ytlpccmokjjldlaa
