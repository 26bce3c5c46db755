/- The live entries and their numbers: lived, All, Back (chapter 7). -/
import Derived.Test.YtajcbghhpjpmhaaNumRow
import Derived.Test.YtajcbghhpjpmhaaRangeF
import Derived.Deep.DeepMust
namespace Go.Proofs.Ytajcbghhpjpmhaa
open Go.RowKit Go.Shelf
set_option linter.unusedVariables false

def LivedP (E : List Ent) (w : World) (r : Ending) (w' : World) : Prop :=
  ∃ a c, r = .returned (.slice a (liveN E) c) ∧ NumRow w.heap.size a c (numL E 0) w' ∧ Keeps [] w w'
set_option maxRecDepth 100000 in
set_option maxHeartbeats 2000000 in
theorem lived_any (t lo : Nat) (S : List Nat) (m : Value) (E : List Ent) (V : Nat → Int) (L bi ma tu : Nat) (w : World) (H : TabC t lo S m E V L (liveN E) bi ma tu w) (hE1 : E.length ≤ 1000000) :
    Calls Try.prog 69 #[.pointer (some ⟨t, 0, none⟩)] w (LivedP E w) := by
  obtain ⟨a, c, cb, cr, h1, h2, h3', h4, h5, h6, h7, h8⟩ := H
  have e1 : w.cell? ⟨t, 1, none⟩ = some (.slice a E.length c) := cell_has h1 (i := 1) rfl
  have e3 : w.cell? ⟨t, 3, none⟩ = some (.int .i64 (liveN E : Nat)) := cell_has h1 (i := 3) rfl
  obtain ⟨n, hn⟩ := ex_hid E.length
  have lvn := liveN_le E
  rw [← hn.out] at e1 hE1 lvn
  obtain ⟨w1, hmk, hr1, hk1⟩ := make_num w (liveN E) (by omega)
  have HE := Lib.hid h2
  have HB := Lib.hid h1
  have R1 := Lib.hid hr1
  have K1 := Lib.hid hk1
  have e1' := hk1.cell e1 (by simp)
  clear h1 h2 h3' h4 h5 h6 h7 h8 hr1 hk1
  go_enter Try.func69, Try.ntmps69
  go_wp2_with fail
  go_loopw [3, 18] (fun l i wr => ∃ (k : Nat) (b : Option Addr) (cc : Nat), k ≤ n ∧ i = .int .i64 (k : Nat) ∧ l = .slice b (numL (E.take k) 0).length cc ∧ NumRow w.heap.size b cc (numL (E.take k) 0) wr ∧ Keeps [] w wr) (fun _ i _ => n - (intOf i).toNat)
  case atStart => exact ⟨0, some ⟨w.heap.size, 0, none⟩, liveN E, by omega, rfl, by simp [numL], by simpa [numL] using R1.out, K1.out⟩
  case round =>
    obtain ⟨k, b, cc, hk, rfl, rfl, hR, hK⟩ := hrel
    have hk0 : (0 : Int) ≤ (k : Int) := by omega
    have HR := Lib.hid hR
    have HK := Lib.hid hK
    by_cases hlt : k < n
    · have hlt' : (k : Int) < (n : Int) := by omega
      obtain ⟨x, hxx⟩ : ∃ x, E[k]? = some x := ⟨_, List.getElem?_eq_getElem (by rw [← hn.out]; exact hlt)⟩
      obtain ⟨g, rfl⟩ := HE.out.shape (by have := hn.out; omega)
      have hE2 := HE.out.keeps hK (by simp)
      have q0 : wr.cell? ⟨g, k * 5, none⟩ = some (.bool x.live) := hE2.cell hxx 0 (by omega)
      have q1 : wr.cell? ⟨g, k * 5 + 1, none⟩ = some (.int .i64 x.hash) := hE2.cell hxx 1 (by omega)
      have q2 : wr.cell? ⟨g, k * 5 + 2, none⟩ = some (.int .i64 x.key) := hE2.cell hxx 2 (by omega)
      have q3 : wr.cell? ⟨g, k * 5 + 3, none⟩ = some (.int .i64 x.val) := hE2.cell hxx 3 (by omega)
      have q4 : wr.cell? ⟨g, k * 5 + 4, none⟩ = some (.int .i64 x.birth) := hE2.cell hxx 4 (by omega)
      have HX := Lib.hid hxx
      cases hlv : x.live
      · rw [hlv] at q0
        clear hR hK hE2 hxx
        go_wp2_with fail
        go_roundw
        case rel =>
          refine ⟨k + 1, b, cc, by omega, by go_num, ?_, ?_, HK.out.alloc _⟩
          · rw [numL_succ HX.out, hlv]; simp
          · rw [numL_succ HX.out, hlv]; simpa using HR.out.keeps ((Keeps.refl [] wr).alloc _) (by simp)
        case measure => simp [intOf]; omega
      · rw [hlv] at q0
        have k2 : Keeps [] wr ((wr.alloc (.cells #[.bool true, .int .i64 x.hash, .int .i64 x.key, .int .i64 x.val, .int .i64 x.birth] 32)).alloc (.cells #[.int .i64 (k : Nat), .bool true, .int .i64 x.hash, .int .i64 x.key, .int .i64 x.val, .int .i64 x.birth] 125)) := ((Keeps.refl [] wr).alloc _).alloc _
        obtain ⟨g2, cap, w3, hrun, r1, r2, r3, r4⟩ := num_append w.heap.size b cc (numL (E.take k) 0) (k, x) _ (wr.heap.size + 1) (hR.keeps k2 (by simp)) (by simp only [hlv]; exact has_new' _ _ (by simp)) (by have := numL_len (E.take k) 0; have := liveN_le (E.take k); simp at *; omega) (by have := hK.size; have := k2.size; omega)
        have R3 := Lib.hid r1
        have K3 := Lib.hid ((hK.trans k2).then r2 (by intro y hy; exact .inl (hR.blk_lt y hy).1))
        have q5 := hlv
        have HRun := Lib.hid hrun
        clear hR hK hE2 hxx k2 r1 r2 r3 r4 hlv hrun
        go_wp2_with (at_builtin; refine wpList_append_run rfl _ _ 121 rfl _ _ rfl rfl _ _ HRun.out ?_)
        go_roundw
        case rel =>
          refine ⟨k + 1, some ⟨g2, 0, none⟩, cap, by omega, by go_num, ?_, ?_, K3.out⟩
          · rw [numL_succ HX.out, q5]; simp
          · rw [numL_succ HX.out, q5]; exact R3.out
        case measure => simp [intOf]; omega
    · obtain rfl : k = n := by omega
      have hge : ¬ (k : Int) < (k : Int) := by omega
      have hall : numL (E.take k) 0 = numL E 0 := by rw [hn.out, List.take_length]
      have hlen := numL_len E 0
      have HR2 : Hid (NumRow w.heap.size b cc (numL E 0) wr) := Lib.hid (by rw [← hall]; exact HR.out)
      rw [hall, hlen]
      clear hR hK HR
      go_wp2_with fail
      go_ret
      exact ⟨b, cc, rfl, HR2.out, HK.out⟩
def SeqP (f : FuncId) (E : List Ent) (w : World) (r : Ending) (w' : World) : Prop :=
  ∃ b a c, r = .returned (.func (.func f) #[] #[.pointer (some ⟨b, 0, none⟩)]) ∧ w'.heap[b]? = some (.cells #[.slice a (liveN E) c] 121 (0, 0)) ∧ NumRow w.heap.size a c (numL E 0) w' ∧ w.heap.size ≤ b ∧ Keeps [] w w'
theorem all_any (t lo : Nat) (S : List Nat) (m : Value) (E : List Ent) (V : Nat → Int) (L bi ma tu : Nat) (w : World) (H : TabC t lo S m E V L (liveN E) bi ma tu w) (hE1 : E.length ≤ 1000000) :
    Calls Try.prog 31 #[.pointer (some ⟨t, 0, none⟩)] w (SeqP 70 E w) := by
  have HH := Lib.hid H
  clear H
  go_enter Try.func31, Try.ntmps31
  go_wp2_with fail
  refine (lived_any t lo S m E V L bi ma tu _ HH.out hE1).mono ?_
  rintro r w1 ⟨a, c, rfl, r1, k1⟩
  have R1 := Lib.hid r1
  have K1 := Lib.hid k1
  clear r1 k1
  go_wp2_with fail
  go_ret
  exact ⟨w1.heap.size, a, c, rfl, has_new _ _, R1.out.keeps ((Keeps.refl [] w1).alloc _) (by simp), K1.out.size, K1.out.alloc _⟩
theorem back_any (t lo : Nat) (S : List Nat) (m : Value) (E : List Ent) (V : Nat → Int) (L bi ma tu : Nat) (w : World) (H : TabC t lo S m E V L (liveN E) bi ma tu w) (hE1 : E.length ≤ 1000000) :
    Calls Try.prog 32 #[.pointer (some ⟨t, 0, none⟩)] w (SeqP 71 E w) := by
  have HH := Lib.hid H
  clear H
  go_enter Try.func32, Try.ntmps32
  go_wp2_with fail
  refine (lived_any t lo S m E V L bi ma tu _ HH.out hE1).mono ?_
  rintro r w1 ⟨a, c, rfl, r1, k1⟩
  have R1 := Lib.hid r1
  have K1 := Lib.hid k1
  clear r1 k1
  go_wp2_with fail
  go_ret
  exact ⟨w1.heap.size, a, c, rfl, has_new _ _, R1.out.keeps ((Keeps.refl [] w1).alloc _) (by simp), K1.out.size, K1.out.alloc _⟩
end Go.Proofs.Ytajcbghhpjpmhaa
