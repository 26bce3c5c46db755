/- A dictionary is filled (chapter 9's laws). -/
import Derived.Test.YtcakdmapnmneoaaStrQ
namespace Go.Proofs.Ytcakdmapnmneoaa
open Go.RowKit
set_option linter.unusedVariables false
set_option linter.unusedSimpArgs false

/-- A dictionary of the keys 0, 1, 2, .. in memory. -/
structure FilAt (F V : Nat → Int) (n k db t lo : Nat) (S : List Nat) (d : Dic) (W : World) : Prop where
  dic : DicAt db t lo S (mV none) d W
  ok : DicOk k d
  run : Run9 F V n d
theorem FilAt.keeps {F V : Nat → Int} {n k db t lo : Nat} {S : List Nat} {d : Dic} {W W' : World} (h : FilAt F V n k db t lo S d W) (kk : Keeps [] W W') : FilAt F V n k db t lo S d W' := ⟨h.dic.keeps kk (by simp) (by simp), h.ok, h.run⟩
theorem DicAt.foot9 {db t lo : Nat} {S : List Nat} {mv : Value} {d : Dic} {W : World} (h : DicAt db t lo S mv d W) : ∀ x, x ∈ db :: S → lo ≤ x ∧ x < W.heap.size := by
  intro x hx
  simp only [List.mem_cons] at hx
  rcases hx with rfl | hx
  · exact ⟨h.l, lt_of_block h.b⟩
  · exact h.t.foot x hx
def FilledP (F : Nat → Int) (n : Nat) (w : World) (r : Ending) (w' : World) : Prop := ∃ db t S d, r = .returned (.tuple #[.pointer (some ⟨db, 0, none⟩), .bool true]) ∧ FilAt F (fun i => 5 * i) n n db t w.heap.size S d w' ∧ Keeps [] w w'
set_option maxRecDepth 100000 in
set_option maxHeartbeats 4000000 in
theorem filled_any (a0 : Option Addr) (n c0 : Nat) (F : Nat → Int) (w : World) (hn : n ≤ 150) (hs : IntRow .i64 1 w a0 n F) :
    Calls Try.prog 26 #[.slice a0 n c0] w (FilledP F n w) := by
  have Z1 := Lib.hid hs
  clear hs
  go_enter Try.func26, Try.ntmps26
  go_wp2_with fail
  refine (new8_any 1000 none ⟨0, 0, 0, 0⟩ w (fun b hb => by simp at hb) (by omega) (by omega)).mono ?_
  rintro r w1 ⟨db, t, S, rfl, d1', _, k1, l1⟩
  have D1 := Lib.hid d1'
  have K1 := Lib.hid (show Keeps [] w w1 from k1)
  clear d1' k1
  go_wp2_with fail
  go_loopw [6] (fun i wr => ∃ (k : Nat) (d : Dic) (S : List Nat), k ≤ n ∧ i = .int .i64 k ∧ FilAt F (fun i => 5 * i) k k db t w.heap.size S d wr ∧ Keeps [] w wr) (fun i _ => n - (intOf i).toNat)
  case atStart => exact ⟨0, newD 1000, S, by omega, rfl, ⟨D1.out, newD_ok 1000, Run9.new F _⟩, K1.out⟩
  case round =>
    obtain ⟨k, d, S, hk, rfl, hD, hK⟩ := hrel
    clear D1 K1
    have hk0 : (0 : Int) ≤ (k : Int) := by omega
    have HD := Lib.hid hD
    have HK := Lib.hid hK
    clear hD
    by_cases hlt : k < n
    · have hlt' : (k : Int) < (n : Int) := by omega
      rcases Z1.out with h0 | ⟨b, off, rfl, hb1, hb2, hcl⟩
      · omega
      obtain ⟨x0, hx0⟩ := ex_hid (F k)
      have q0 : wr.cell? ⟨b, off + k, none⟩ = some (.int .i64 x0) := by rw [hx0.out]; exact hK.cell (hcl k (by omega)).1 (by simp)
      have hk5 : (k : Int) ≤ 150 := by omega
      clear hcl hK
      go_wp2_with fail
      rw [hx0.out]
      refine (put9_any k (by omega) db t w.heap.size S d (F k) k (5 * k) none wr HD.out.dic HD.out.ok (HD.out.run.absent 2 (F k) k (5 * k) (.inr (Int.le_refl _)))).mono ?_
      rintro r w2 ⟨S2, rfl, d2, k2, _⟩
      obtain ⟨r1, r2⟩ := HD.out.run.add (by omega)
      rw [r2]
      have H2 := Lib.hid (show FilAt F (fun i => 5 * i) (k + 1) (k + 1) db t w.heap.size S2 _ w2 from ⟨d2, HD.out.ok.fin (by omega) _ _, r1⟩)
      have K2 := Lib.hid (HK.out.then k2 (fun x hx => .inl (HD.out.dic.foot9 x hx).1))
      clear r1 r2 d2 k2
      go_wp2_with fail
      go_roundw
      case rel => exact ⟨k + 1, _, S2, by omega, by go_num, H2.out, K2.out⟩
      case measure => simp [intOf]; omega
    · obtain rfl : k = n := by omega
      have hge : ¬ (k : Int) < (k : Int) := by omega
      clear hK
      go_wp2_with fail
      refine bodyPost_ret (v := .tuple #[.pointer (some ⟨db, 0, none⟩), .bool true]) (by simp [results, Try.results26, go_sem]) rfl ⟨db, t, S, d, rfl, HD.out, HK.out⟩
end Go.Proofs.Ytcakdmapnmneoaa
