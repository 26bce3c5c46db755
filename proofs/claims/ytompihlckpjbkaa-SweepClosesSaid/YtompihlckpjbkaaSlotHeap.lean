/- The heap of the free slots: what the library's heap does with it (chapter 11). -/
import Derived.Test.YtompihlckpjbkaaSlotNums
import Derived.Outline
namespace Go.Proofs.Ytompihlckpjbkaa
open Go.RowKit
set_option linter.unusedVariables false

def EntersG (g : FuncId) : Prop := ∀ args W, (callFunc g args).run Try.prog W = .ok (.enter g args) W
theorem entersG_of {g : FuncId} {fn : Func} (hg : Try.prog.funcs[g]? = some fn) (hn : (fn.name == "runtime.NumGoroutine") = false) (hb : fn.body.isNone = false) : EntersG g := by
  intro args W
  have hn' : ¬ fn.name = "runtime.NumGoroutine" := by simpa using hn
  have hb' : ¬ fn.body = none := by intro h; rw [h] at hb; cases hb
  simp [callFunc, hg, hn', hb']

theorem ml0 (p : Addr) (w : World) : (method 218 70 (.pointer (some p)) "Len").run Try.prog w = (loadVar 32 p >>= fun v => pure (78, v)).run Try.prog w := by kernel_rfl
theorem me0 (p : Addr) (w : World) : (method 218 70 (.pointer (some p)) "Less").run Try.prog w = (loadVar 32 p >>= fun v => pure (79, v)).run Try.prog w := by kernel_rfl
theorem ms0 (p : Addr) (w : World) : (method 218 70 (.pointer (some p)) "Swap").run Try.prog w = (loadVar 32 p >>= fun v => pure (80, v)).run Try.prog w := by kernel_rfl
theorem m_push (v : Value) (w : World) : (method 218 70 v "Push").run Try.prog w = .ok (83, v) w := by kernel_rfl
theorem m_pop (v : Value) (w : World) : (method 218 70 v "Pop").run Try.prog w = .ok (82, v) w := by kernel_rfl
theorem m_len (p : Addr) (w : World) (v : Value) (h : w.cell? p = some v) : (method 218 70 (.pointer (some p)) "Len").run Try.prog w = .ok (78, v) w := by
  rw [ml0]; simp [go_sem, h]
theorem m_less (p : Addr) (w : World) (v : Value) (h : w.cell? p = some v) : (method 218 70 (.pointer (some p)) "Less").run Try.prog w = .ok (79, v) w := by
  rw [me0]; simp [go_sem, h]
theorem m_swap (p : Addr) (w : World) (v : Value) (h : w.cell? p = some v) : (method 218 70 (.pointer (some p)) "Swap").run Try.prog w = .ok (80, v) w := by
  rw [ms0]; simp [go_sem, h]
theorem e_len : EntersG 78 := entersG_of Try.func78 (by kernel_rfl) (by kernel_rfl)
theorem e_less : EntersG 79 := entersG_of Try.func79 (by kernel_rfl) (by kernel_rfl)
theorem e_swap : EntersG 80 := entersG_of Try.func80 (by kernel_rfl) (by kernel_rfl)
theorem e_push : EntersG 83 := entersG_of Try.func83 (by kernel_rfl) (by kernel_rfl)
theorem e_pop : EntersG 82 := entersG_of Try.func82 (by kernel_rfl) (by kernel_rfl)

/-- The header of the heap, and its numbers. -/
structure HeapAt (p : Addr) (g N cap : Nat) (F : Nat → Nat) (w : World) : Prop where
  hd : w.cell? p = some (.slice (some ⟨g, 0, none⟩) N cap)
  row : NumRow g N cap F w
theorem HeapAt.keeps {p : Addr} {g N cap : Nat} {F : Nat → Nat} {w w' : World} {S : List Nat} (h : HeapAt p g N cap F w) (k : Keeps S w w') (hp : p.block ∉ S) (hg : g ∉ S) : HeapAt p g N cap F w' :=
  ⟨k.cell h.hd hp, h.row.keeps k hg⟩

/-- Behind a walk through the heap. -/
def SunkC (p : Addr) (g N cap n : Nat) (F : Nat → Nat) (w : World) (e : Ending) (w' : World) : Prop :=
  ∃ G, HeapAt p g N cap G w' ∧ HeapOK n G ∧ (∀ P, Enum n F P → Enum n G P) ∧ (∀ k, n ≤ k → G k = F k) ∧ Keeps [g] w w'

/-- What is known between two rounds. -/
structure SunkI (p : Addr) (g N cap n : Nat) (F G : Nat → Nat) (w W : World) : Prop where
  at_ : HeapAt p g N cap G W
  en : ∀ P, Enum n F P → Enum n G P
  out : ∀ k, n ≤ k → G k = F k
  kept : Keeps [g] w W
theorem SunkI.next {p : Addr} {g N cap n : Nat} {F G : Nat → Nat} {w W W' : World} (h : SunkI p g N cap n F G w W) (k : Keeps [] W W') : SunkI p g N cap n F G w W' :=
  ⟨h.at_.keeps k (by simp) (by simp), h.en, h.out, h.kept.trans (k.mono (by simp))⟩
theorem SunkI.swap {p : Addr} {g N cap n : Nat} {F G : Nat → Nat} {w W W' : World} {i j : Nat} (h : SunkI p g N cap n F G w W) (hp : p.block ≠ g) (hi : i < n) (hj : j < n) (k : Keeps [g] W W') (hr : NumRow g N cap (swapF G i j) W') : SunkI p g N cap n F (swapF G i j) w W' :=
  ⟨⟨k.cell h.at_.hd (by simpa using hp), hr⟩, fun P hP => (h.en P hP).swap hi hj, fun x hx => by rw [swapF_other G i j (by omega) (by omega)]; exact h.out x hx, h.kept.trans k⟩

set_option maxRecDepth 100000 in
set_option maxHeartbeats 1000000 in
theorem heapUp_any (p : Addr) (g N cap : Nat) (F : Nat → Nat) (q : Nat) (jj : Int) (hN : N = q + 1) (hjj : jj = (q : Int)) (hp : p.block ≠ g) (hN2 : N ≤ 100000) (w : World) (H : HeapAt p g N cap F w) (hU : UpI N F q) :
    Calls Try.prog 59 #[.iface 70 (.pointer (some p)), .int .i64 jj] w fun e w' => e = .returned (.tuple #[]) ∧ SunkC p g N cap N F w e w' := by
  subst hjj
  have hI : Hid (SunkI p g N cap N F F w w) := Lib.hid ⟨H, fun _ h => h, fun _ _ => rfl, Keeps.refl _ _⟩
  have HU := Lib.hid hU
  have hq : q < N := by omega
  clear H hU hN
  go_enter Try.func59, Try.ntmps59
  go_wp2_with fail
  go_loopw [1] (fun j wr => ∃ (k : Nat) (G : Nat → Nat), k < N ∧ j = .int .i64 k ∧ SunkI p g N cap N F G w wr ∧ UpI N G k) (fun j _ => (intOf j).toNat)
  case atStart => exact ⟨q, F, hq, rfl, hI.out, HU.out⟩
  case round =>
    obtain ⟨k, G, hk, rfl, hS, hUG⟩ := hrel
    clear hI HU hq
    have HS := Lib.hid hS
    have HG := Lib.hid hUG
    clear hS hUG
    by_cases h0 : k = 0
    · subst h0
      go_wp2_with fail
      go_end0
      exact ⟨rfl, G, HS.out.at_, HG.out.top, HS.out.en, HS.out.out, HS.out.kept⟩
    · have k1 : (1 : Int) ≤ (k : Int) := by omega
      have k2 : (k : Int) ≤ 100000 := by omega
      obtain ⟨i, hi⟩ := ex_hid ((k - 1) / 2)
      have ik : i < k := by have := hi.out; omega
      have hie : ((k : Int) - 1) / 2 = (i : Int) := by have := hi.out; omega
      have d1 : ((i : Int) == (k : Int)) = false := by simp; omega
      have hd := HS.out.at_.hd
      have hm := m_less p wr _ hd
      have he := fun args W => e_less args W
      by_cases hlt : G k < G i
      · go_wp2_with fail
        refine (numsLess_any g N cap G k i _ _ rfl rfl true _ HS.out.at_.row hk (by omega) (by simpa using hlt)).mono ?_
        rintro e w1 ⟨rfl, k1'⟩
        have HS1 := Lib.hid (HS.out.next k1')
        clear k1' hm he hd
        have hd := HS1.out.at_.hd
        have hm := m_swap p w1 _ hd
        have he := fun args W => e_swap args W
        go_wp2_with fail
        refine (numsSwap_any g N cap G i k _ _ rfl rfl _ HS1.out.at_.row (by omega) hk).mono ?_
        rintro e w2 ⟨rfl, k2', hr⟩
        have HS2 := Lib.hid (HS1.out.swap hp (by omega) hk k2' hr)
        clear k2' hr hm he hd
        go_wp2_with fail
        go_roundw
        case rel =>
          refine ⟨i, _, by omega, rfl, HS2.out, ?_⟩
          have := HG.out.step (by omega) hk (by rw [← hi.out]; exact hlt)
          rw [← hi.out] at this
          exact this
        case measure => simp [intOf]; omega
      · go_wp2_with fail
        refine (numsLess_any g N cap G k i _ _ rfl rfl false _ HS.out.at_.row hk (by omega) (by simpa using hlt)).mono ?_
        rintro e w1 ⟨rfl, k1'⟩
        have HS1 := Lib.hid (HS.out.next k1')
        clear k1' hm he hd
        go_wp2_with fail
        go_end0
        exact ⟨rfl, G, HS1.out.at_, HG.out.rest (fun _ => by rw [← hi.out]; omega), HS1.out.en, HS1.out.out, HS1.out.kept⟩

set_option maxRecDepth 100000 in
set_option maxHeartbeats 1000000 in
theorem heapDown_any (p : Addr) (g N cap n : Nat) (F : Nat → Nat) (nn : Int) (hnn : nn = (n : Int)) (hn : n ≤ N) (hp : p.block ≠ g) (hN2 : N ≤ 100000) (w : World) (H : HeapAt p g N cap F w) (hU : DownI n F 0) :
    Calls Try.prog 58 #[.iface 70 (.pointer (some p)), .int .i64 0, .int .i64 nn] w fun e w' => (∃ b, e = .returned (.bool b)) ∧ SunkC p g N cap n F w e w' := by
  subst hnn
  have hI : Hid (SunkI p g N cap n F F w w) := Lib.hid ⟨H, fun _ h => h, fun _ _ => rfl, Keeps.refl _ _⟩
  have HU := Lib.hid hU
  have hN3 : (n : Int) ≤ 100000 := by omega
  clear H hU
  go_enter Try.func58, Try.ntmps58
  go_wp2_with fail
  go_loopw [7] (fun j wr => ∃ (k : Nat) (G : Nat → Nat), (k < n ∨ k = 0) ∧ j = .int .i64 k ∧ SunkI p g N cap n F G w wr ∧ DownI n G k) (fun j _ => n - (intOf j).toNat)
  case atStart => exact ⟨0, F, .inr rfl, rfl, hI.out, HU.out⟩
  case round =>
    obtain ⟨k, G, hk, rfl, hS, hUG⟩ := hrel
    clear hI HU
    have HS := Lib.hid hS
    have HG := Lib.hid hUG
    have k0 : (0 : Int) ≤ (k : Int) := by omega
    have k2 : (k : Int) ≤ 100000 := by omega
    clear hS hUG
    by_cases hleaf : n ≤ 2 * k + 1
    · have d1 : decide ((n : Int) ≤ 2 * (k : Int) + 1) = true := by simp; omega
      go_wp2_with fail
      go_ret
      exact ⟨⟨_, rfl⟩, G, HS.out.at_, HG.out.leaf hleaf, HS.out.en, HS.out.out, HS.out.kept⟩
    · have hkn : k < n := by omega
      obtain ⟨c1, hc1⟩ := ex_hid (2 * k + 1)
      have e1 : 2 * (k : Int) + 1 = (c1 : Int) := by have := hc1.out; omega
      have b1 : c1 < n := by have := hc1.out; omega
      have bk : k < c1 := by have := hc1.out; omega
      have b2 : (c1 : Int) ≤ 100000 := by omega
      have d1 : decide ((n : Int) ≤ (c1 : Int)) = false := by simp; omega
      have d2 : decide ((c1 : Int) < 0) = false := by simp
      have hd := HS.out.at_.hd
      have hm := m_less p wr _ hd
      have he := fun args W => e_less args W
      clear hk hleaf
      -- the smaller child: c
      have hcs : (∃ c, c = c1 ∧ n ≤ c1 + 1) ∨ (∃ c, c = c1 + 1 ∧ c < n ∧ G c < G c1) ∨ (∃ c, c = c1 ∧ c1 + 1 < n ∧ ¬ G (c1 + 1) < G c1) := by
        by_cases q1 : c1 + 1 < n
        · by_cases q2 : G (c1 + 1) < G c1
          · exact .inr (.inl ⟨_, rfl, q1, q2⟩)
          · exact .inr (.inr ⟨_, rfl, q1, q2⟩)
        · exact .inl ⟨_, rfl, by omega⟩
      rcases hcs with ⟨c, rfl, q1⟩ | ⟨c, hc, q1, q2⟩ | ⟨c, rfl, q1, q2⟩
      · have d3 : decide ((c : Int) + 1 < (n : Int)) = false := by simp; omega
        have hsm : G c ≤ G (2 * k + 1) ∧ (2 * k + 2 < n → G c ≤ G (2 * k + 2)) := ⟨Nat.le_of_eq (congrArg G hc1.out), fun h => by have := hc1.out; omega⟩
        have HC := Lib.hid hsm
        have hcc := Lib.hid (show c = 2 * k + 1 ∨ c = 2 * k + 2 from .inl hc1.out)
        clear hsm
        by_cases hlt : G c < G k
        · go_wp2_with fail
          refine (numsLess_any g N cap G c k _ _ rfl rfl true _ HS.out.at_.row (by omega) (by omega) (by simpa using hlt)).mono ?_
          rintro e w1 ⟨rfl, k1'⟩
          have HS1 := Lib.hid (HS.out.next k1')
          clear k1' hm he hd
          have hd := HS1.out.at_.hd
          have hm := m_swap p w1 _ hd
          have he := fun args W => e_swap args W
          go_wp2_with fail
          refine (numsSwap_any g N cap G k c _ _ rfl rfl _ HS1.out.at_.row (by omega) (by omega)).mono ?_
          rintro e w2 ⟨rfl, k2', hr⟩
          have HS2 := Lib.hid (HS1.out.swap hp hkn (by omega) k2' hr)
          clear k2' hr hm he hd
          go_wp2_with fail
          go_roundw
          case rel => exact ⟨c, _, .inl (by omega), rfl, HS2.out, HG.out.step hcc.out (by omega) hlt HC.out.1 HC.out.2⟩
          case measure => simp [intOf]; omega
        · go_wp2_with fail
          refine (numsLess_any g N cap G c k _ _ rfl rfl false _ HS.out.at_.row (by omega) (by omega) (by simpa using hlt)).mono ?_
          rintro e w1 ⟨rfl, k1'⟩
          have HS1 := Lib.hid (HS.out.next k1')
          clear k1' hm he hd
          go_wp2_with fail
          go_ret
          exact ⟨⟨_, rfl⟩, G, HS1.out.at_, HG.out.rest (Nat.le_trans (by omega) HC.out.1) (fun h => Nat.le_trans (by omega) (HC.out.2 h)), HS1.out.en, HS1.out.out, HS1.out.kept⟩
      · have d3 : decide ((c1 : Int) + 1 < (n : Int)) = true := by simp; omega
        have hsm : G c ≤ G (2 * k + 1) ∧ (2 * k + 2 < n → G c ≤ G (2 * k + 2)) := ⟨by rw [← hc1.out]; omega, fun h => by rw [show 2 * k + 2 = c by have := hc1.out; omega]; exact Nat.le_refl _⟩
        have HC := Lib.hid hsm
        have hcc := Lib.hid (show c = 2 * k + 1 ∨ c = 2 * k + 2 by have := hc1.out; omega)
        rw [hc] at q2
        have bkc : k < c := by omega
        have hci : Hid ((c1 : Int) + 1 = (c : Int)) := Lib.hid (by omega)
        have HCC := Lib.hid hc
        clear hsm hc
        go_wp2_with fail
        refine (numsLess_any g N cap G (c1 + 1) c1 _ _ (by have := hci.out; omega) rfl true _ HS.out.at_.row (by have := HCC.out; omega) (by omega) (by simpa using q2)).mono ?_
        rintro e w1 ⟨rfl, k1'⟩
        have HS1 := Lib.hid (HS.out.next k1')
        clear k1' hm he hd
        have hd := HS1.out.at_.hd
        have hm := m_less p w1 _ hd
        have he := fun args W => e_less args W
        by_cases hlt : G c < G k
        · go_wp2_with fail
          refine (numsLess_any g N cap G c k _ _ hci.out rfl true _ HS1.out.at_.row (by omega) (by omega) (by simpa using hlt)).mono ?_
          rintro e w2 ⟨rfl, k2'⟩
          have HS2 := Lib.hid (HS1.out.next k2')
          clear k2' hm he hd
          have hd := HS2.out.at_.hd
          have hm := m_swap p w2 _ hd
          have he := fun args W => e_swap args W
          go_wp2_with fail
          refine (numsSwap_any g N cap G k c _ _ rfl hci.out _ HS2.out.at_.row (by omega) (by omega)).mono ?_
          rintro e w3 ⟨rfl, k3', hr⟩
          have HS3 := Lib.hid (HS2.out.swap hp hkn (by omega) k3' hr)
          clear k3' hr hm he hd
          go_wp2_with fail
          go_roundw
          case rel => exact ⟨c, _, .inl (by omega), (by rw [← hci.out]), HS3.out, HG.out.step hcc.out (by omega) hlt HC.out.1 HC.out.2⟩
          case measure => simp [intOf]; omega
        · go_wp2_with fail
          refine (numsLess_any g N cap G c k _ _ hci.out rfl false _ HS1.out.at_.row (by omega) (by omega) (by simpa using hlt)).mono ?_
          rintro e w2 ⟨rfl, k2'⟩
          have HS2 := Lib.hid (HS1.out.next k2')
          clear k2' hm he hd
          go_wp2_with fail
          go_ret
          exact ⟨⟨_, rfl⟩, G, HS2.out.at_, HG.out.rest (Nat.le_trans (by omega) HC.out.1) (fun h => Nat.le_trans (by omega) (HC.out.2 h)), HS2.out.en, HS2.out.out, HS2.out.kept⟩
      · have d3 : decide ((c : Int) + 1 < (n : Int)) = true := by simp; omega
        have hsm : G c ≤ G (2 * k + 1) ∧ (2 * k + 2 < n → G c ≤ G (2 * k + 2)) := ⟨Nat.le_of_eq (congrArg G hc1.out), fun h => by rw [show 2 * k + 2 = c + 1 by have := hc1.out; omega]; omega⟩
        have HC := Lib.hid hsm
        have hcc := Lib.hid (show c = 2 * k + 1 ∨ c = 2 * k + 2 from .inl hc1.out)
        clear hsm
        go_wp2_with fail
        refine (numsLess_any g N cap G (c + 1) c _ _ (by omega) rfl false _ HS.out.at_.row (by omega) (by omega) (by simpa using q2)).mono ?_
        rintro e w1 ⟨rfl, k1'⟩
        have HS1 := Lib.hid (HS.out.next k1')
        clear k1' hm he hd
        have hd := HS1.out.at_.hd
        have hm := m_less p w1 _ hd
        have he := fun args W => e_less args W
        by_cases hlt : G c < G k
        · go_wp2_with fail
          refine (numsLess_any g N cap G c k _ _ rfl rfl true _ HS1.out.at_.row (by omega) (by omega) (by simpa using hlt)).mono ?_
          rintro e w2 ⟨rfl, k2'⟩
          have HS2 := Lib.hid (HS1.out.next k2')
          clear k2' hm he hd
          have hd := HS2.out.at_.hd
          have hm := m_swap p w2 _ hd
          have he := fun args W => e_swap args W
          go_wp2_with fail
          refine (numsSwap_any g N cap G k c _ _ rfl rfl _ HS2.out.at_.row (by omega) (by omega)).mono ?_
          rintro e w3 ⟨rfl, k3', hr⟩
          have HS3 := Lib.hid (HS2.out.swap hp hkn (by omega) k3' hr)
          clear k3' hr hm he hd
          go_wp2_with fail
          go_roundw
          case rel => exact ⟨c, _, .inl (by omega), rfl, HS3.out, HG.out.step hcc.out (by omega) hlt HC.out.1 HC.out.2⟩
          case measure => simp [intOf]; omega
        · go_wp2_with fail
          refine (numsLess_any g N cap G c k _ _ rfl rfl false _ HS1.out.at_.row (by omega) (by omega) (by simpa using hlt)).mono ?_
          rintro e w2 ⟨rfl, k2'⟩
          have HS2 := Lib.hid (HS1.out.next k2')
          clear k2' hm he hd
          go_wp2_with fail
          go_ret
          exact ⟨⟨_, rfl⟩, G, HS2.out.at_, HG.out.rest (Nat.le_trans (by omega) HC.out.1) (fun h => Nat.le_trans (by omega) (HC.out.2 h)), HS2.out.en, HS2.out.out, HS2.out.kept⟩
end Go.Proofs.Ytompihlckpjbkaa
