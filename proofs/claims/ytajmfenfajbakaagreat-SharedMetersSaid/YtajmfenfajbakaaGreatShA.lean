/- The hash of a text (chapter 3), as the namespaces use it (chapter 10). -/
import Derived.Test.YtajmfenfajbakaaGreatB1
import Derived.IntWalk
namespace Go.Proofs.YtajmfenfajbakaaGreat
open Go.RowKit
set_option linter.unusedVariables false
set_option linter.unusedSimpArgs false

def txtS (w : Int) (b : UInt8) : Int := IntKind.u64.wrap (bits .xor .u64 w (IntKind.u64.wrap (b.toNat : Int)) * 1099511628211)
def txtW (l : List UInt8) : Int := l.foldl txtS 14695981039346656037
def hashI (w : Int) : Int := if IntKind.i64.wrap w = -1 then -2 else IntKind.i64.wrap w
def txtH (s : ByteArray) : Int := hashI (txtW s.data.toList)
theorem stands_any (n : Int) (w : World) : Calls Tryz.prog 105 #[.int .i64 n] w fun r w' => r = .returned (.func (.func 108) #[] #[.pointer (some ⟨w.heap.size, 0, none⟩)]) ∧ w'.heap[w.heap.size]? = some (.cells #[.int .i64 n] 3 (0, 0)) ∧ Keeps [] w w' := by
  go_enter Tryz.func105, Tryz.ntmps105
  go_wp2_with fail
  go_ret
  exact ⟨rfl, has_new _ _, (Keeps.refl [] w).alloc _⟩
theorem stood_any (n : Int) (b : Nat) (w : World) (h : w.heap[b]? = some (.cells #[.int .i64 n] 3 (0, 0))) : Calls Tryz.prog 108 #[.pointer (some ⟨b, 0, none⟩)] w fun r w' => r = .returned (.int .i64 n) ∧ w = w' := by
  have c0 : w.cell? ⟨b, 0, none⟩ = some (.int .i64 n) := cell_has h (i := 0) rfl
  clear h
  go_enter Tryz.func108, Tryz.ntmps108
  go_wp2_with fail
  go_ret
  exact ⟨rfl, rfl⟩
theorem hash_any (v : Int) (b : Nat) (w : World) (h : w.heap[b]? = some (.cells #[.int .i64 (-2)] 3 (0, 0))) :
    Calls Tryz.prog 104 #[.int .u64 v, .func (.func 108) #[] #[.pointer (some ⟨b, 0, none⟩)]] w fun r w' => r = .returned (.int .i64 (hashI v)) ∧ w = w' := by
  have H := Lib.hid h
  have e9 := IntWalk.i64_left v
  clear h
  unfold hashI
  by_cases hv : IntKind.i64.wrap v = -1
  · rw [if_pos hv]
    have hb : (IntKind.i64.wrap v == -1) = true := by simpa using hv
    rw [e9] at hv hb
    clear e9
    go_enter Tryz.func104, Tryz.ntmps104
    go_wp2_with fail
    refine (stood_any (-2) b w H.out).mono ?_
    rintro r w1 ⟨rfl, rfl⟩
    go_wp2_with fail
    go_ret
    exact ⟨rfl, rfl⟩
  · rw [if_neg hv]
    have hb : (IntKind.i64.wrap v == -1) = false := by simpa using hv
    go_enter Tryz.func104, Tryz.ntmps104
    go_wp2_with fail
    go_ret
    exact ⟨by rw [IntWalk.i64_left]; rfl, rfl⟩
theorem txtW_snoc (l : List UInt8) (b : UInt8) : txtW (l ++ [b]) = txtS (txtW l) b := by unfold txtW; rw [List.foldl_append]; rfl
theorem take_snoc10 (s : ByteArray) (k : Nat) (h : k < s.size) : s.data.toList.take (k + 1) = s.data.toList.take k ++ [s[k]] := by
  rw [List.take_succ_eq_append_getElem (by simpa using h)]; rfl
set_option maxRecDepth 100000 in
theorem text_any (s : ByteArray) (w : World) (hs : s.size ≤ 1000000) :
    Calls Tryz.prog 88 #[.string s] w fun r w' => r = .returned (.int .i64 (txtH s)) ∧ Keeps [] w w' := by
  go_enter Tryz.func88, Tryz.ntmps88
  go_wp2_with fail
  go_loop [3, 7] (fun z3 z7 => ∃ k : Nat, k ≤ s.size ∧ z7 = .int .i64 k ∧ z3 = .int .u64 (txtW (s.data.toList.take k))) (fun _ z7 => s.size - (intOf z7).toNat)
  case atStart => exact ⟨0, Nat.zero_le _, rfl, rfl⟩
  case round =>
    obtain ⟨k, hk, rfl, rfl⟩ := hrel
    by_cases hlt : k < s.size
    · have e := take_snoc10 s k hlt
      have hlt' : (k : Int) < (s.size : Int) := by omega
      have HS : Hid (txtW (s.data.toList.take (k + 1)) = txtS (txtW (s.data.toList.take k)) s[k]) := Lib.hid (by rw [e, txtW_snoc])
      clear e
      obtain ⟨v, hv⟩ := ex_hid (txtW (s.data.toList.take k))
      rw [← hv.out]
      go_wp2_with fail
      go_round
      case rel => exact ⟨k + 1, by omega, by go_num, by rw [HS.out, ← hv.out]; unfold txtS; with_reducible rfl⟩
      case measure => simp [intOf]; omega
    · obtain rfl : k = s.size := by omega
      have et : s.data.toList.take s.size = s.data.toList := List.take_of_length_le (by simp)
      rw [et]
      clear et
      obtain ⟨v, hv⟩ := ex_hid (txtW s.data.toList)
      rw [← hv.out]
      go_wp2_with fail
      refine (stands_any (-2) w).mono ?_
      rintro r w1 ⟨rfl, b1, k1⟩
      have B1 := Lib.hid b1
      have K1 := Lib.hid k1
      clear b1 k1
      go_wp2_with fail
      refine (hash_any v w.heap.size w1 B1.out).mono ?_
      rintro r w2 ⟨rfl, rfl⟩
      go_wp2_with fail
      go_ret
      exact ⟨by rw [hv.out]; rfl, K1.out⟩
end Go.Proofs.YtajmfenfajbakaaGreat
