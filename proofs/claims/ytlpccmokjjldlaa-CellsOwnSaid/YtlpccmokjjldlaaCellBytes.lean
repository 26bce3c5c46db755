/- The bytes of cells (chapter 6). -/
import Derived.Test.YtlpccmokjjldlaaCellSet
import Derived.Deep.DeepMust
namespace Go.Proofs.Ytlpccmokjjldlaa
open Go.RowKit
set_option linter.unusedVariables false

/-- Byte k of a number. -/
def byteOf (x : Int) (k : Nat) : Int := x / 256 ^ k % 256
/-- The first j bytes of cells of wd bytes. -/
def bytesL (wd : Nat) (V : Nat → Int) (j : Nat) : List Value := (List.range j).map fun t => Value.int .u8 (byteOf (V (t / wd)) (t % wd))
theorem bytesL_len (wd : Nat) (V : Nat → Int) (j : Nat) : (bytesL wd V j).length = j := by simp [bytesL]
theorem bytesL_succ (wd : Nat) (V : Nat → Int) (i k : Nat) (hk : k < wd) : bytesL wd V (i * wd + (k + 1)) = bytesL wd V (i * wd + k) ++ [.int .u8 (byteOf (V i) k)] := by
  have h1 : (i * wd + k) / wd = i := by rw [Nat.mul_comm, Nat.mul_add_div (by omega), Nat.div_eq_of_lt hk, Nat.add_zero]
  have h2 : (i * wd + k) % wd = k := by rw [Nat.mul_comm, Nat.mul_add_mod, Nat.mod_eq_of_lt hk]
  rw [← Nat.add_assoc]
  simp only [bytesL, List.range_succ, List.map_append, List.map_cons, List.map_nil, h1, h2]

theorem infoU : (Try.prog.info? 5).map (fun i => (i.zero, i.size, i.bytes)) = some (some (.int .u8 0), 1, 1) := by kernel_rfl
theorem wdOf_is (L : Nat) : 1 ≤ wdOf L ∧ wdOf L ≤ 4 := by
  unfold wdOf
  by_cases h1 : L ≤ 7
  · rw [if_pos h1]; omega
  · rw [if_neg h1]
    by_cases h2 : L ≤ 15
    · rw [if_pos h2]; omega
    · rw [if_neg h2]; omega

theorem cells_low {c r L n lo : Nat} {V : Nat → Int} {w w' : World} (h : CellsAt c r L n V w) (k : KeptLo lo [] w w') (hc : c < lo) (hr : r < lo) : CellsAt c r L n V w' :=
  ⟨(k.block c hc List.not_mem_nil).trans h.ho, (k.block r hr List.not_mem_nil).trans h.hr⟩
theorem pow_byte (m : Nat) (h : m ≤ 3) : (256 : Int) ^ m = 2 ^ (8 * m) := by
  have h' : m = 0 ∨ m = 1 ∨ m = 2 ∨ m = 3 := by omega
  rcases h' with rfl | rfl | rfl | rfl <;> rfl

/-- Behind Bytes: a row of bytes of its own. -/
def BytesC (j wd : Nat) (V : Nat → Int) (w : World) (e : Ending) (w' : World) : Prop :=
  ∃ a cap, e = .returned (.slice a j cap) ∧ w'.ownsRow w.heap.size 5 1 (.slice a j cap) j (bytesL wd V j) ∧ Below w.heap.size w w'

theorem own_below {w w' : World} {base : Nat} {e : TypeId} {size : Nat} {v : Value} {n : Nat} {xs : List Value} (h : w.ownsRow base e size v n xs) (b : Below w.heap.size w w') : w'.ownsRow base e size v n xs := by
  obtain ⟨h1, h2⟩ := h
  refine ⟨h1, ?_⟩
  rcases h2 with h2 | ⟨g, cap, cur, a1, a2, a3, a4⟩
  · exact .inl h2
  · exact .inr ⟨g, cap, cur, a1, a2, (b.block g (lt_of_block a3)).trans a3, a4⟩

set_option maxRecDepth 100000 in
set_option maxHeartbeats 1000000 in
theorem bytesc_any (c r L n : Nat) (V : Nat → Int) (w : World) (H : CellsAt c r L n V w) (hF : Fits n V) (hn1 : n ≤ 1048576) :
    Calls Try.prog 37 #[.pointer (some ⟨c, 0, none⟩)] w (BytesC (n * wdOf L) (wdOf L) V w) := by
  have HH := Lib.hid H
  have HF := Lib.hid hF
  obtain ⟨i0, hi, hz0, hz1, hz2⟩ := info_parts infoU
  have HI := Lib.hid (And.intro hi (And.intro hz0 (And.intro hz1 hz2)))
  clear hi hz0 hz1 hz2
  obtain ⟨wd, hwd⟩ := ex_hid (wdOf L)
  have w1' : 1 ≤ wd := by rw [hwd.out]; exact (wdOf_is L).1
  have w4' : wd ≤ 4 := by rw [hwd.out]; exact (wdOf_is L).2
  obtain ⟨tot, ht⟩ := ex_hid (n * wd)
  have htb : tot ≤ 4194304 := by rw [ht.out]; exact Nat.le_trans (Nat.mul_le_mul hn1 w4') (by decide)
  have hp : wrap64 ((n : Int) * (wd : Int)) = (tot : Int) := by
    rw [← Int.natCast_mul, ← ht.out]; exact IntWalk.wrap64_in _ (by omega)
  have HP := Lib.hid hp
  rw [← hwd.out, ← ht.out]
  clear H hF hp
  go_enter Try.func37, Try.ntmps37
  go_wp2_with fail
  refine (size_any c r L n V _ HH.out).mono ?_
  rintro e w1 ⟨rfl, b1⟩
  have H1 := Lib.hid (HH.out.below b1)
  have B1 := Lib.hid b1
  clear b1
  go_wp2_with fail
  refine (width_any c r L n V _ H1.out).mono ?_
  rintro e w2 ⟨rfl, b2⟩
  rw [← hwd.out]
  have H2 := Lib.hid (H1.out.below b2)
  have B2 := Lib.hid (B1.out.trans (b2.mono B1.out.size))
  have z2 := B2.out.size
  clear b2
  have G := Lib.hid (show i0.bytes * tot ≤ 281474976710656 ∧ tot ≤ maxLen from ⟨by rw [HI.out.2.2.2]; omega, by unfold maxLen; omega⟩)
  go_wp2_with (at_make; go_must (refine wpList_make_own _ rfl _ _ 74 rfl w.heap.size 5 i0 (.int .u8 0) 1 Try.underlying74 HI.out.1 HI.out.2.1 HI.out.2.2.1 .i64 .i64 (wrap64 ((n : Int) * (wd : Int))) tot rfl rfl HP.out G.out.1 G.out.2 z2 ?_; intro w3 hown hgrow))
  have K3 := Lib.hid ((KeptLo.refl w2.heap.size [] w2).grown (Nat.le_refl _) hgrow (fun k hk => by cases hk))
  have O3 := Lib.hid hown
  clear hgrow hown
  have kk : Keeps [] w2 w3 := ⟨K3.out.os, K3.out.tape, K3.out.output, K3.out.size, fun k hk _ => K3.out.block k hk List.not_mem_nil⟩
  have H3 := Lib.hid (H2.out.keeps kk (by simp) (by simp))
  have B3 := Lib.hid (B2.out.trans (kk.below z2 (by simp)))
  clear kk
  refine (size_any c r L n V _ H3.out).mono ?_
  rintro e w4 ⟨rfl, b4⟩
  go_wp2_with fail
  have H4 := Lib.hid (H3.out.below b4)
  have O4 := Lib.hid (own_below O3.out b4)
  have B4 := Lib.hid (B3.out.trans (b4.mono B3.out.size))
  clear b4
  have hcr := Lib.hid (And.intro (lt_of_block HH.out.ho) (lt_of_block HH.out.hr))
  go_loopw [3, 15] (fun out i wr => ∃ (k : Nat) (a : Option Addr) (cap : Nat), k ≤ n ∧ i = .int .i64 k ∧ out = .slice a (k * wd) cap ∧ wr.ownsRow w.heap.size 5 1 (.slice a (k * wd) cap) (k * wd) (bytesL wd V (k * wd)) ∧ CellsAt c r L n V wr ∧ Below w.heap.size w wr) (fun _ i _ => n - (intOf i).toNat)
  case atStart => exact ⟨0, _, _, by omega, rfl, by rw [Nat.zero_mul], by rw [Nat.zero_mul]; exact O4.out, H4.out, B4.out⟩
  case round =>
    obtain ⟨k, a, cap, hk, rfl, rfl, hO, hC, hb⟩ := hrel
    clear O4 H4 B4 O3 K3 H3 B3 B2 H2 B1 H1 G HP
    by_cases hlt : k < n
    · have hlt' : (k : Int) < (n : Int) := by omega
      have c1 := cell_has hC.ho (i := 1) rfl
      have hmg := (rowKind L).mg
      have heg := fun args W => (rowKind L).eg args W
      have HC := Lib.hid hC
      have HO := Lib.hid hO
      have HB := Lib.hid hb
      obtain ⟨x, hx⟩ := ex_hid (V k)
      clear hC hO hb
      go_wp2_with fail
      refine ((rowKind L).cg r n k V _ rfl _ _ HC.out.hr hlt (HF.out.bounds hn1 k)).mono ?_
      rintro e w5 ⟨rfl, b5⟩
      rw [← hx.out]
      have HC5 := Lib.hid (HC.out.below b5)
      have HO5 := Lib.hid (own_below HO.out b5)
      have HB5 := Lib.hid (HB.out.trans (b5.mono HB.out.size))
      clear b5 hmg heg c1 HC HO HB
      go_wp2_with fail
      refine (width_any c r L n V _ HC5.out).mono ?_
      rintro e w6 ⟨rfl, b6⟩
      rw [← hwd.out]
      have HC6 := Lib.hid (HC5.out.below b6)
      have HO6 := Lib.hid (own_below HO5.out b6)
      have HB6 := Lib.hid (HB5.out.trans (b6.mono HB5.out.size))
      clear b6 HC5 HO5 HB5
      go_wp2_with fail
      go_loopw [3, 26] (fun out j wr => ∃ (m : Nat) (a : Option Addr) (cap : Nat), m ≤ wd ∧ j = .int .i64 m ∧ out = .slice a (k * wd + m) cap ∧ wr.ownsRow w.heap.size 5 1 (.slice a (k * wd + m) cap) (k * wd + m) (bytesL wd V (k * wd + m)) ∧ CellsAt c r L n V wr ∧ Below w.heap.size w wr) (fun _ j _ => wd - (intOf j).toNat)
      case atStart => exact ⟨0, _, _, by omega, rfl, rfl, HO6.out, HC6.out, HB6.out⟩
      case round =>
        obtain ⟨m, a', cap', hm, rfl, rfl, hO, hC, hb⟩ := hrel
        clear HO6 HC6 HB6
        by_cases hml : m < wd
        · have hml' : (m : Int) < (wd : Int) := by omega
          have hm4 : (m : Int) ≤ 3 := by omega
          have hkm : k * wd + m ≤ 4194304 := by
            have : k * wd ≤ n * wd := Nat.mul_le_mul (by omega) (Nat.le_refl _)
            have h2 : (k + 1) * wd ≤ n * wd := Nat.mul_le_mul hlt (Nat.le_refl _)
            rw [Nat.succ_mul] at h2
            rw [← ht.out] at h2
            omega
          have hm0 : (0 : Int) ≤ (m : Int) := by omega
          have HC := Lib.hid hC
          have HO := Lib.hid hO
          have HB := Lib.hid hb
          clear hC hO hb
          have q3 : k * wd + m + 1 ≤ maxLen := by unfold maxLen; omega
          have q4 : (k * wd + m + 1) * 1 ≤ 140737488355328 := by omega
          have q5 : w.heap.size ≤ wr.heap.size + 1 := by have := HB.out.size; omega
          have G := Lib.hid (And.intro q3 (And.intro q4 q5))
          clear q3 q4 q5
          go_wp2_with (at_builtin; refine wpList_append_lies _ rfl _ _ 74 rfl w.heap.size 5 i0 (.int .u8 0) 1 1 Try.underlying74 HI.out.1 HI.out.2.1 HI.out.2.2.1 HI.out.2.2.2 rfl (by decide) _ (k * wd + m) (bytesL wd V (k * wd + m)) rfl (HO.out.alloc _) ⟨wr.heap.size, 0, none⟩ 1 1 [_] rfl rfl (cell_one_new _ _ _) (by intro u hu; simp at hu; subst hu; rfl) (by decide) G.out.1 G.out.2.1 (by simpa using G.out.2.2) (wr.heap.size + 1) (by simp) ?_; intro g cap' w1 hown hgrow _ _; have K1 := Lib.hid (append_kept HO.out HB.out.size hgrow); have H1 := Lib.hid hown; clear hgrow hown)
          go_roundw
          case rel =>
            refine ⟨m + 1, some ⟨g, 0, none⟩, cap', by omega, by go_num, rfl, ?_, cells_low HC.out K1.out hcr.out.1 hcr.out.2, HB.out.trans (K1.out.below (Nat.le_refl _) (by simp))⟩
            rw [bytesL_succ wd V k m hml, ← hx.out, byteOf, pow_byte m (by omega)]
            exact H1.out
          case measure => simp [intOf]; omega
        · have hme : m = wd := by omega
          subst hme
          have hml' : ¬ (m : Int) < (m : Int) := by omega
          have hb0 := Lib.hid hb
          have hC0 := Lib.hid hC
          have hO0 := Lib.hid hO
          clear hO hC hb
          go_wp2_with fail
          go_roundw
          case rel => exact ⟨k + 1, a', cap', by omega, by go_num, by rw [Nat.succ_mul], by rw [Nat.succ_mul]; exact hO0.out, hC0.out, hb0.out⟩
          case measure => simp [intOf]; omega
    · have hke : k = n := by omega
      subst hke
      have hlt' : ¬ (k : Int) < (k : Int) := by omega
      have hb0 := Lib.hid hb
      have hO0 := Lib.hid hO
      clear hO hC hb
      go_wp2_with fail
      go_ret
      have hq : k * wd = tot := ht.out.symm
      refine ⟨a, cap, by rw [← hq]; rfl, ?_, hb0.out⟩
      rw [← hq]; exact hO0.out
end Go.Proofs.Ytlpccmokjjldlaa
