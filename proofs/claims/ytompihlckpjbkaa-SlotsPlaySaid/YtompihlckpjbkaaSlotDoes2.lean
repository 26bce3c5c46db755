/- does: the other calls on both (chapter 11). -/
import Derived.Test.YtompihlckpjbkaaSlotDoes
import Derived.Test.YtompihlckpjbkaaSlotsLowest
namespace Go.Proofs.Ytompihlckpjbkaa
open Go.RowKit
open SI
set_option linter.unusedVariables false
attribute [local go_sem ↓] Go.wp_at_zero Go.wp_at_succ

theorem pair_gen {sb wb lo : Nat} {S R Q S1 R2 : List Nat} {m M : Nat} {X X' : Nat → Int} {VL VL' : Nat → Value} {T U : Nat → Bool} {w w1 w2 : World} (H : PairS sb wb lo S R Q m X VL T w) (hQ : ∀ x, x ∈ Q → x < w.heap.size)
    (hM : M ≤ m + 1) (hU : ∀ i, i < M → U i = true → i < m ∧ T i = true ∧ VL' i = VL i ∧ X' i = X i)
    (h1 : SlotSt sb lo S1 M (intV X') U w1) (k1 : Keeps S w w1) (f1 : ∀ x, x ∈ S1 → x ∈ S ∨ w.heap.size ≤ x)
    (k2 : Keeps R w1 w2) (f2 : ∀ x, x ∈ R2 → x ∈ R ∨ w1.heap.size ≤ x) (hR : RefS wb lo R2 M VL' U w2) (hV : ∀ i, i < M → ∃ a n c, VL' i = .slice a n c) :
    DoesC sb wb lo S R Q m w (.returned (.bool true)) w2 := by
  have z1 := k1.size
  have fR := fun x hx => (H.rf.foot x hx).2
  have fS := fun x hx => (H.st.foot x hx).2
  have fS1 := fun x hx => (h1.foot x hx).2
  refine ⟨rfl, S1, R2, M, ⟨X', VL', U, ?_, hR, ?_, ?_, ⟨?_, ?_⟩, hV⟩, hM, ?_, f1, fun x hx => (f2 x hx).imp id (fun h => by omega)⟩
  · exact h1.keeps k2 (fun x hx hy => (f1 x hx).elim (fun h => H.dis x h hy) (fun h => by have := fR x hy; omega))
  · intro i hi hT
    obtain ⟨q1, q2, q3, q4⟩ := hU i hi hT
    obtain ⟨c, a1, a2, a3, a4, a5, a6⟩ := H.one i q1 q2
    have hc := lt_of_block a2
    exact ⟨c, by rw [q3]; exact a1, by rw [q4]; exact k2.has (k1.has a2 a4) a5, a3, fun h => (f1 c h).elim a4 (fun h => by omega), fun h => (f2 c h).elim a5 (fun h => by omega), a6⟩
  · intro x hx hy
    rcases f2 x hy with h | h
    · exact (f1 x hx).elim (fun h' => H.dis x h' h) (fun h' => by have := fR x h; omega)
    · have := fS1 x hx; omega
  · intro x hx hy
    exact (f1 x hx).elim (fun h => H.far.1 x h hy) (fun h => by have := hQ x hy; omega)
  · intro x hx hy
    exact (f2 x hx).elim (fun h => H.far.2 x h hy) (fun h => by have := hQ x hy; omega)
  · exact (k1.mono (fun x hx => by simp [hx])).trans (k2.mono (fun x hx => by simp [hx]))
/-- Nothing is laid into either. -/
theorem pair_same {sb wb lo : Nat} {S R Q : List Nat} {m : Nat} {X : Nat → Int} {VL : Nat → Value} {T : Nat → Bool} {w w' : World} (H : PairS sb wb lo S R Q m X VL T w) (k : Keeps [] w w') : DoesC sb wb lo S R Q m w (.returned (.bool true)) w' :=
  ⟨rfl, S, R, m, ⟨X, VL, T, H.keeps k (by simp)⟩, by omega, k.mono (by simp), fun x hx => .inl hx, fun x hx => .inl hx⟩

set_option maxRecDepth 100000 in
set_option maxHeartbeats 4000000 in
theorem does3_in (sb wb lo : Nat) (S R Q : List Nat) (m : Nat) (X : Nat → Int) (VL : Nat → Value) (T : Nat → Bool) (n v : Int) (w : World) (H : PairS sb wb lo S R Q m X VL T w) (hQ : ∀ x, x ∈ Q → x < w.heap.size) (hlo : lo ≤ w.heap.size) (hm : m ≤ 60000) (hb : isB m T n = true) :
    Calls Try.prog 18 #[.pointer (some ⟨sb, 0, none⟩), .pointer (some ⟨wb, 0, none⟩), .agg #[.int .i64 3, .int .i64 n, .int .i64 v]] w (DoesC sb wb lo S R Q m w) := by
  have HH := Lib.hid H
  have HQ := Lib.hid hQ
  have NS := Lib.hid (show ∀ x, w.heap.size ≤ x → x ∉ S from fun x hx hy => by have := (H.st.foot x hy).2; omega)
  have NR := Lib.hid (show ∀ x, w.heap.size ≤ x → x ∉ R from fun x hx hy => by have := (H.rf.foot x hy).2; omega)
  clear H hQ
  have HB := Lib.hid hb
  clear hb
  go_enter Try.func18, Try.ntmps18
  go_wp2_with fail
  have bx0 := cell_has (has_new w (.cells #[.int .i64 3, .int .i64 n, .int .i64 v] 41)) (i := 1) rfl
  have bx1 := cell_has (has_new w (.cells #[.int .i64 3, .int .i64 n, .int .i64 v] 41)) (i := 2) rfl
  go_region_held3 (fun w' => w'.cell? ⟨w.heap.size, 1, none⟩ = some (.int .i64 n) ∧ w'.cell? ⟨w.heap.size, 2, none⟩ = some (.int .i64 v)) (go_keep)
    (first
      | (go_at_call 23; refine (set_st_in _ _ _ _ _ _ _ _ _ (HH.out.st.keeps (S' := []) (by repeat (first | exact Keeps.refl _ _ | refine Keeps.alloc ?_ _ | refine Keeps.drew ?_)) (by simp)) HB.out).mono ?_; rintro e w1 ⟨rfl, S1, h1, k1, f1⟩; have kk : Keeps S w w1 := Keeps.trans (Keeps.mono (S := []) (by repeat (first | exact Keeps.refl _ _ | refine Keeps.alloc ?_ _ | refine Keeps.drew ?_)) (by simp)) k1; have q0 := kk.size; have q1 : w1.cell? ⟨w.heap.size, 1, none⟩ = some (.int .i64 n) := k1.cell (by first | exact cell_has (has_drew (has_new w _)) (i := 1) rfl | exact cell_has (has_drew (has_alloc (has_new w _) _)) (i := 1) rfl) (NS.out _ (Nat.le_refl _)); have q2 : w1.cell? ⟨w.heap.size, 2, none⟩ = some (.int .i64 v) := k1.cell (by first | exact cell_has (has_drew (has_new w _)) (i := 2) rfl | exact cell_has (has_drew (has_alloc (has_new w _) _)) (i := 2) rfl) (NS.out _ (Nat.le_refl _)); (first | (have hA : w1.heap[w.heap.size + 1]? = some (.cells #[.int .i64 v] 3 (0, 0)) := k1.has (has_drew (has_new' _ _ (by simp))) (NS.out _ (by omega)); have nA : w.heap.size + 1 ∉ S1 := (fun h => (f1 _ h).elim (NS.out _ (by omega)) (fun h => by (try simp at h); omega))) | skip); have F1 := Lib.hid (show ∀ x, x ∈ S1 → x ∈ S ∨ w.heap.size ≤ x from fun x hx => (f1 x hx).imp id (fun h => by (try simp at h); omega)); have H1 := Lib.hid h1; have KK := Lib.hid kk; have RF1 := Lib.hid (HH.out.rf.keeps kk (fun x hx hy => HH.out.dis x hy hx)); have z1 : w.heap.size + 1 < w1.heap.size ∨ w.heap.size + 1 = w1.heap.size ∨ w.heap.size = w1.heap.size := (by omega); clear h1 k1 f1 kk)
      | (go_at_call 45; refine (refSet_in wb lo R m VL T n _ _ _ _ (RF1.out.keeps (S' := []) (by repeat (first | exact Keeps.refl _ _ | refine Keeps.alloc ?_ _ | refine Keeps.drew ?_)) (by simp)) HB.out).mono ?_; rintro e w2 ⟨rfl, R2, g2, k2, f2⟩; have kk2 : Keeps R w1 w2 := Keeps.trans (Keeps.mono (S := []) (by repeat (first | exact Keeps.refl _ _ | refine Keeps.alloc ?_ _ | refine Keeps.drew ?_)) (by simp)) k2; have FIN : ∃ b, RefS wb lo R2 m (putV VL n.toNat (.slice (some ⟨b, 0, none⟩) 1 1)) (T) w2 ∧ w2.heap[b]? = some (.cells #[.int .i64 v] 3 (0, 0)) ∧ w.heap.size ≤ b ∧ b ∉ S1 ∧ b ∉ R2 := (by first | exact ⟨_, g2, k2.has hA (NR.out _ (by omega)), by omega, nA, fun h => (f2 _ h).elim (NR.out _ (by omega)) (fun h => by have := lt_of_block hA; omega)⟩ | exact ⟨_, g2, k2.has (has_new w1 _) (NR.out _ q0), q0, fun h => by have := (H1.out.foot _ h).2; omega, fun h => (f2 _ h).elim (NR.out _ q0) (fun h => by (try simp at h); omega)⟩); have F2 := Lib.hid (show ∀ x, x ∈ R2 → x ∈ R ∨ w1.heap.size ≤ x from fun x hx => (f2 x hx).imp id (fun h => by (try simp at h); omega)); have FF := Lib.hid FIN; have K2 := Lib.hid kk2; have q3 := kk2.cell q1 (NR.out _ (Nat.le_refl _)); have q4 := kk2.cell q2 (NR.out _ (Nat.le_refl _)); clear g2 k2 f2 kk2 FIN))
  all_goals
    go_wp2_with fail
    go_ret
    exact pair_put HH.out HQ.out n.toNat v (by omega) (fun i hi he => hi) (fun i hi hU he => ⟨hi, hU⟩) hlo H1.out KK.out F1.out K2.out F2.out FF.out

set_option maxRecDepth 100000 in
set_option maxHeartbeats 4000000 in
theorem does3_out (sb wb lo : Nat) (S R Q : List Nat) (m : Nat) (X : Nat → Int) (VL : Nat → Value) (T : Nat → Bool) (n v : Int) (w : World) (H : PairS sb wb lo S R Q m X VL T w) (hQ : ∀ x, x ∈ Q → x < w.heap.size) (hlo : lo ≤ w.heap.size) (hm : m ≤ 60000) (hb : isB m T n = false) :
    Calls Try.prog 18 #[.pointer (some ⟨sb, 0, none⟩), .pointer (some ⟨wb, 0, none⟩), .agg #[.int .i64 3, .int .i64 n, .int .i64 v]] w (DoesC sb wb lo S R Q m w) := by
  have HH := Lib.hid H
  have HQ := Lib.hid hQ
  have NS := Lib.hid (show ∀ x, w.heap.size ≤ x → x ∉ S from fun x hx hy => by have := (H.st.foot x hy).2; omega)
  have NR := Lib.hid (show ∀ x, w.heap.size ≤ x → x ∉ R from fun x hx hy => by have := (H.rf.foot x hy).2; omega)
  clear H hQ
  have HB := Lib.hid hb
  clear hb
  go_enter Try.func18, Try.ntmps18
  go_wp2_with fail
  have bx0 := cell_has (has_new w (.cells #[.int .i64 3, .int .i64 n, .int .i64 v] 41)) (i := 1) rfl
  have bx1 := cell_has (has_new w (.cells #[.int .i64 3, .int .i64 n, .int .i64 v] 41)) (i := 2) rfl
  go_region_held3 (fun w' => w'.cell? ⟨w.heap.size, 1, none⟩ = some (.int .i64 n) ∧ w'.cell? ⟨w.heap.size, 2, none⟩ = some (.int .i64 v)) (go_keep)
    (first
      | (go_at_call 23; refine (set_st_out _ _ _ _ _ _ _ _ _ (HH.out.st.keeps (S' := []) (by repeat (first | exact Keeps.refl _ _ | refine Keeps.alloc ?_ _ | refine Keeps.drew ?_)) (by simp)) HB.out).mono ?_; rintro e w1 ⟨rfl, S1, h1, k1, f1⟩; have kk : Keeps S w w1 := Keeps.trans (Keeps.mono (S := []) (by repeat (first | exact Keeps.refl _ _ | refine Keeps.alloc ?_ _ | refine Keeps.drew ?_)) (by simp)) k1; have q0 := kk.size; have q1 : w1.cell? ⟨w.heap.size, 1, none⟩ = some (.int .i64 n) := k1.cell (by first | exact cell_has (has_drew (has_new w _)) (i := 1) rfl | exact cell_has (has_drew (has_alloc (has_new w _) _)) (i := 1) rfl) (NS.out _ (Nat.le_refl _)); have q2 : w1.cell? ⟨w.heap.size, 2, none⟩ = some (.int .i64 v) := k1.cell (by first | exact cell_has (has_drew (has_new w _)) (i := 2) rfl | exact cell_has (has_drew (has_alloc (has_new w _) _)) (i := 2) rfl) (NS.out _ (Nat.le_refl _)); (first | (have hA : w1.heap[w.heap.size + 1]? = some (.cells #[.int .i64 v] 3 (0, 0)) := k1.has (has_drew (has_new' _ _ (by simp))) (NS.out _ (by omega)); have nA : w.heap.size + 1 ∉ S1 := (fun h => (f1 _ h).elim (NS.out _ (by omega)) (fun h => by (try simp at h); omega))) | skip); have F1 := Lib.hid (show ∀ x, x ∈ S1 → x ∈ S ∨ w.heap.size ≤ x from fun x hx => (f1 x hx).imp id (fun h => by (try simp at h); omega)); have H1 := Lib.hid h1; have KK := Lib.hid kk; have RF1 := Lib.hid (HH.out.rf.keeps kk (fun x hx hy => HH.out.dis x hy hx)); have z1 : w.heap.size + 1 < w1.heap.size ∨ w.heap.size + 1 = w1.heap.size ∨ w.heap.size = w1.heap.size := (by omega); clear h1 k1 f1 kk)
      | (go_at_call 45; refine (refSet_out wb lo R m VL T n _ _ _ _ (RF1.out.keeps (S' := []) (by repeat (first | exact Keeps.refl _ _ | refine Keeps.alloc ?_ _ | refine Keeps.drew ?_)) (by simp)) HB.out).mono ?_; rintro e w2 ⟨rfl, R2, g2, k2, f2⟩; have kk2 : Keeps R w1 w2 := Keeps.trans (Keeps.mono (S := []) (by repeat (first | exact Keeps.refl _ _ | refine Keeps.alloc ?_ _ | refine Keeps.drew ?_)) (by simp)) k2; have G2 := Lib.hid g2; have F2 := Lib.hid (show ∀ x, x ∈ R2 → x ∈ R ∨ w1.heap.size ≤ x from fun x hx => (f2 x hx).imp id (fun h => by (try simp at h); omega)); have K2 := Lib.hid kk2; have q3 := kk2.cell q1 (NR.out _ (Nat.le_refl _)); have q4 := kk2.cell q2 (NR.out _ (Nat.le_refl _)); clear g2 k2 f2 kk2))
  all_goals
    go_wp2_with fail
    go_ret
    exact pair_gen HH.out HQ.out (by omega) (fun i hi hU => ⟨hi, hU, rfl, rfl⟩) H1.out KK.out F1.out K2.out F2.out G2.out HH.out.shp

set_option maxRecDepth 100000 in
set_option maxHeartbeats 4000000 in
theorem does4_in (sb wb lo : Nat) (S R Q : List Nat) (m : Nat) (X : Nat → Int) (VL : Nat → Value) (T : Nat → Bool) (n v : Int) (w : World) (H : PairS sb wb lo S R Q m X VL T w) (hQ : ∀ x, x ∈ Q → x < w.heap.size) (hlo : lo ≤ w.heap.size) (hm : m ≤ 60000) (hb : isB m T n = true) :
    Calls Try.prog 18 #[.pointer (some ⟨sb, 0, none⟩), .pointer (some ⟨wb, 0, none⟩), .agg #[.int .i64 4, .int .i64 n, .int .i64 v]] w (DoesC sb wb lo S R Q m w) := by
  have HH := Lib.hid H
  have HQ := Lib.hid hQ
  have NS := Lib.hid (show ∀ x, w.heap.size ≤ x → x ∉ S from fun x hx hy => by have := (H.st.foot x hy).2; omega)
  have NR := Lib.hid (show ∀ x, w.heap.size ≤ x → x ∉ R from fun x hx hy => by have := (H.rf.foot x hy).2; omega)
  clear H hQ
  have HB := Lib.hid hb
  clear hb
  go_enter Try.func18, Try.ntmps18
  go_wp2_with fail
  have bx0 := cell_has (has_new w (.cells #[.int .i64 4, .int .i64 n, .int .i64 v] 41)) (i := 1) rfl
  have bx1 := cell_has (has_new w (.cells #[.int .i64 4, .int .i64 n, .int .i64 v] 41)) (i := 2) rfl
  go_region_held3 (fun w' => w'.cell? ⟨w.heap.size, 1, none⟩ = some (.int .i64 n) ∧ w'.cell? ⟨w.heap.size, 2, none⟩ = some (.int .i64 v)) (go_keep)
    (first
      | (go_at_call 17; refine (free_st_in _ _ _ _ _ _ n.toNat _ (by have := HB.out; simp [isB] at this; omega) _ (HH.out.st.keeps (S' := []) (by repeat (first | exact Keeps.refl _ _ | refine Keeps.alloc ?_ _ | refine Keeps.drew ?_)) (by simp)) HB.out (by omega)).mono ?_; rintro e w1 ⟨rfl, S1, h1, k1, f1⟩; have kk : Keeps S w w1 := Keeps.trans (Keeps.mono (S := []) (by repeat (first | exact Keeps.refl _ _ | refine Keeps.alloc ?_ _ | refine Keeps.drew ?_)) (by simp)) k1; have q0 := kk.size; have q1 : w1.cell? ⟨w.heap.size, 1, none⟩ = some (.int .i64 n) := k1.cell (by first | exact cell_has (has_drew (has_new w _)) (i := 1) rfl | exact cell_has (has_drew (has_alloc (has_new w _) _)) (i := 1) rfl) (NS.out _ (Nat.le_refl _)); have q2 : w1.cell? ⟨w.heap.size, 2, none⟩ = some (.int .i64 v) := k1.cell (by first | exact cell_has (has_drew (has_new w _)) (i := 2) rfl | exact cell_has (has_drew (has_alloc (has_new w _) _)) (i := 2) rfl) (NS.out _ (Nat.le_refl _)); (first | (have hA : w1.heap[w.heap.size + 1]? = some (.cells #[.int .i64 v] 3 (0, 0)) := k1.has (has_drew (has_new' _ _ (by simp))) (NS.out _ (by omega)); have nA : w.heap.size + 1 ∉ S1 := (fun h => (f1 _ h).elim (NS.out _ (by omega)) (fun h => by (try simp at h); omega))) | skip); have F1 := Lib.hid (show ∀ x, x ∈ S1 → x ∈ S ∨ w.heap.size ≤ x from fun x hx => (f1 x hx).imp id (fun h => by (try simp at h); omega)); have H1 := Lib.hid h1; have KK := Lib.hid kk; have RF1 := Lib.hid (HH.out.rf.keeps kk (fun x hx hy => HH.out.dis x hy hx)); have z1 : w.heap.size + 1 < w1.heap.size ∨ w.heap.size + 1 = w1.heap.size ∨ w.heap.size = w1.heap.size := (by omega); clear h1 k1 f1 kk)
      | (go_at_call 46; refine (refFree_in wb lo R m VL T n _ (RF1.out.keeps (S' := []) (by repeat (first | exact Keeps.refl _ _ | refine Keeps.alloc ?_ _ | refine Keeps.drew ?_)) (by simp)) HB.out).mono ?_; rintro e w2 ⟨rfl, R2, g2, k2, f2⟩; have kk2 : Keeps R w1 w2 := Keeps.trans (Keeps.mono (S := []) (by repeat (first | exact Keeps.refl _ _ | refine Keeps.alloc ?_ _ | refine Keeps.drew ?_)) (by simp)) k2; have G2 := Lib.hid g2; have F2 := Lib.hid (show ∀ x, x ∈ R2 → x ∈ R ∨ w1.heap.size ≤ x from fun x hx => (f2 x hx).imp id (fun h => by (try simp at h); omega)); have K2 := Lib.hid kk2; have q3 := kk2.cell q1 (NR.out _ (Nat.le_refl _)); have q4 := kk2.cell q2 (NR.out _ (Nat.le_refl _)); clear g2 k2 f2 kk2))
  all_goals
    go_wp2_with fail
    go_ret
    exact pair_gen (X' := fun k => if k = n.toNat then 0 else X k) HH.out HQ.out (by omega) (fun i hi hU => by by_cases e : i = n.toNat <;> simp [putB, putV, e] at hU ⊢; exact ⟨hi, hU⟩) (by rw [← intV_put]; exact H1.out) KK.out F1.out K2.out F2.out G2.out (fun i hi => by by_cases e : i = n.toNat; (exact ⟨none, 0, 0, by simp [putV, e]⟩); (obtain ⟨a, p, c, h⟩ := HH.out.shp i hi; exact ⟨a, p, c, by simpa [putV, e] using h⟩))

set_option maxRecDepth 100000 in
set_option maxHeartbeats 4000000 in
theorem does4_out (sb wb lo : Nat) (S R Q : List Nat) (m : Nat) (X : Nat → Int) (VL : Nat → Value) (T : Nat → Bool) (n v : Int) (w : World) (H : PairS sb wb lo S R Q m X VL T w) (hQ : ∀ x, x ∈ Q → x < w.heap.size) (hlo : lo ≤ w.heap.size) (hm : m ≤ 60000) (hb : isB m T n = false) :
    Calls Try.prog 18 #[.pointer (some ⟨sb, 0, none⟩), .pointer (some ⟨wb, 0, none⟩), .agg #[.int .i64 4, .int .i64 n, .int .i64 v]] w (DoesC sb wb lo S R Q m w) := by
  have HH := Lib.hid H
  have HQ := Lib.hid hQ
  have NS := Lib.hid (show ∀ x, w.heap.size ≤ x → x ∉ S from fun x hx hy => by have := (H.st.foot x hy).2; omega)
  have NR := Lib.hid (show ∀ x, w.heap.size ≤ x → x ∉ R from fun x hx hy => by have := (H.rf.foot x hy).2; omega)
  clear H hQ
  have HB := Lib.hid hb
  clear hb
  go_enter Try.func18, Try.ntmps18
  go_wp2_with fail
  have bx0 := cell_has (has_new w (.cells #[.int .i64 4, .int .i64 n, .int .i64 v] 41)) (i := 1) rfl
  have bx1 := cell_has (has_new w (.cells #[.int .i64 4, .int .i64 n, .int .i64 v] 41)) (i := 2) rfl
  go_region_held3 (fun w' => w'.cell? ⟨w.heap.size, 1, none⟩ = some (.int .i64 n) ∧ w'.cell? ⟨w.heap.size, 2, none⟩ = some (.int .i64 v)) (go_keep)
    (first
      | (go_at_call 17; refine (free_st_out _ _ _ _ _ _ _ _ (HH.out.st.keeps (S' := []) (by repeat (first | exact Keeps.refl _ _ | refine Keeps.alloc ?_ _ | refine Keeps.drew ?_)) (by simp)) HB.out).mono ?_; rintro e w1 ⟨rfl, S1, h1, k1, f1⟩; have kk : Keeps S w w1 := Keeps.trans (Keeps.mono (S := []) (by repeat (first | exact Keeps.refl _ _ | refine Keeps.alloc ?_ _ | refine Keeps.drew ?_)) (by simp)) k1; have q0 := kk.size; have q1 : w1.cell? ⟨w.heap.size, 1, none⟩ = some (.int .i64 n) := k1.cell (by first | exact cell_has (has_drew (has_new w _)) (i := 1) rfl | exact cell_has (has_drew (has_alloc (has_new w _) _)) (i := 1) rfl) (NS.out _ (Nat.le_refl _)); have q2 : w1.cell? ⟨w.heap.size, 2, none⟩ = some (.int .i64 v) := k1.cell (by first | exact cell_has (has_drew (has_new w _)) (i := 2) rfl | exact cell_has (has_drew (has_alloc (has_new w _) _)) (i := 2) rfl) (NS.out _ (Nat.le_refl _)); (first | (have hA : w1.heap[w.heap.size + 1]? = some (.cells #[.int .i64 v] 3 (0, 0)) := k1.has (has_drew (has_new' _ _ (by simp))) (NS.out _ (by omega)); have nA : w.heap.size + 1 ∉ S1 := (fun h => (f1 _ h).elim (NS.out _ (by omega)) (fun h => by (try simp at h); omega))) | skip); have F1 := Lib.hid (show ∀ x, x ∈ S1 → x ∈ S ∨ w.heap.size ≤ x from fun x hx => (f1 x hx).imp id (fun h => by (try simp at h); omega)); have H1 := Lib.hid h1; have KK := Lib.hid kk; have RF1 := Lib.hid (HH.out.rf.keeps kk (fun x hx hy => HH.out.dis x hy hx)); have z1 : w.heap.size + 1 < w1.heap.size ∨ w.heap.size + 1 = w1.heap.size ∨ w.heap.size = w1.heap.size := (by omega); clear h1 k1 f1 kk)
      | (go_at_call 46; refine (refFree_out wb lo R m VL T n _ (RF1.out.keeps (S' := []) (by repeat (first | exact Keeps.refl _ _ | refine Keeps.alloc ?_ _ | refine Keeps.drew ?_)) (by simp)) HB.out).mono ?_; rintro e w2 ⟨rfl, R2, g2, k2, f2⟩; have kk2 : Keeps R w1 w2 := Keeps.trans (Keeps.mono (S := []) (by repeat (first | exact Keeps.refl _ _ | refine Keeps.alloc ?_ _ | refine Keeps.drew ?_)) (by simp)) k2; have G2 := Lib.hid g2; have F2 := Lib.hid (show ∀ x, x ∈ R2 → x ∈ R ∨ w1.heap.size ≤ x from fun x hx => (f2 x hx).imp id (fun h => by (try simp at h); omega)); have K2 := Lib.hid kk2; have q3 := kk2.cell q1 (NR.out _ (Nat.le_refl _)); have q4 := kk2.cell q2 (NR.out _ (Nat.le_refl _)); clear g2 k2 f2 kk2))
  all_goals
    go_wp2_with fail
    go_ret
    exact pair_gen HH.out HQ.out (by omega) (fun i hi hU => ⟨hi, hU, rfl, rfl⟩) H1.out KK.out F1.out K2.out F2.out G2.out HH.out.shp

set_option maxRecDepth 100000 in
set_option maxHeartbeats 4000000 in
theorem does2_in (sb wb lo : Nat) (S R Q : List Nat) (m : Nat) (X : Nat → Int) (VL : Nat → Value) (T : Nat → Bool) (n v : Int) (w : World) (H : PairS sb wb lo S R Q m X VL T w) (hQ : ∀ x, x ∈ Q → x < w.heap.size) (hlo : lo ≤ w.heap.size) (hm : m ≤ 60000) (hb : isB m T n = true) :
    Calls Try.prog 18 #[.pointer (some ⟨sb, 0, none⟩), .pointer (some ⟨wb, 0, none⟩), .agg #[.int .i64 2, .int .i64 n, .int .i64 v]] w (DoesC sb wb lo S R Q m w) := by
  have HH := Lib.hid H
  have HQ := Lib.hid hQ
  have NS := Lib.hid (show ∀ x, w.heap.size ≤ x → x ∉ S from fun x hx hy => by have := (H.st.foot x hy).2; omega)
  have NR := Lib.hid (show ∀ x, w.heap.size ≤ x → x ∉ R from fun x hx hy => by have := (H.rf.foot x hy).2; omega)
  clear H hQ
  have HB := Lib.hid hb
  have g0 : n.toNat < m ∧ T n.toNat = true := by simp [isB] at hb; exact ⟨by omega, hb.2⟩
  obtain ⟨b, hv, hbl, -⟩ := HH.out.one n.toNat g0.1 g0.2
  obtain ⟨x, hx⟩ := ex_hid (X n.toNat)
  have HV := Lib.hid hv
  have BB := Lib.hid hbl
  clear hb hv hbl g0
  go_enter Try.func18, Try.ntmps18
  go_wp2_with fail
  refine (get_st_in _ _ _ _ _ _ _ (.int .i64 x) _ (HH.out.st.keeps (S' := []) ((Keeps.refl [] w).alloc _) (by simp)) HB.out (Lib.hid (by rw [hx.out]; rfl))).mono ?_
  rintro e w1 ⟨rfl, k1⟩
  have q1 : w1.cell? ⟨w.heap.size, 1, none⟩ = some (.int .i64 n) := k1.cell (cell_has (has_new w _) (i := 1) rfl) (by simp)
  have K1 := Lib.hid (((Keeps.refl [] w).alloc (.cells #[.int .i64 2, .int .i64 n, .int .i64 v] 41)).trans k1)
  clear k1
  go_wp2_with fail
  refine (refGet_in wb lo R m VL T n _ _ _ _ (HH.out.rf.keeps K1.out (by simp)) HB.out HV).mono ?_
  rintro e w2 ⟨rfl, k2⟩
  have K2 := Lib.hid (K1.out.trans k2)
  clear k2
  go_wp2_with fail
  refine (one_any b x _ (by rw [hx.out]; exact cell_has (K2.out.has BB.out (by simp)) rfl)).mono ?_
  rintro e w3 ⟨rfl, rfl⟩
  go_wp2_with fail
  go_ret
  exact pair_same HH.out K2.out

set_option maxRecDepth 100000 in
set_option maxHeartbeats 4000000 in
theorem does2_out (sb wb lo : Nat) (S R Q : List Nat) (m : Nat) (X : Nat → Int) (VL : Nat → Value) (T : Nat → Bool) (n v : Int) (w : World) (H : PairS sb wb lo S R Q m X VL T w) (hQ : ∀ x, x ∈ Q → x < w.heap.size) (hlo : lo ≤ w.heap.size) (hm : m ≤ 60000) (hb : isB m T n = false) :
    Calls Try.prog 18 #[.pointer (some ⟨sb, 0, none⟩), .pointer (some ⟨wb, 0, none⟩), .agg #[.int .i64 2, .int .i64 n, .int .i64 v]] w (DoesC sb wb lo S R Q m w) := by
  have HH := Lib.hid H
  have HQ := Lib.hid hQ
  have NS := Lib.hid (show ∀ x, w.heap.size ≤ x → x ∉ S from fun x hx hy => by have := (H.st.foot x hy).2; omega)
  have NR := Lib.hid (show ∀ x, w.heap.size ≤ x → x ∉ R from fun x hx hy => by have := (H.rf.foot x hy).2; omega)
  clear H hQ
  have HB := Lib.hid hb
  clear hb
  go_enter Try.func18, Try.ntmps18
  go_wp2_with fail
  refine (get_st_out _ _ _ _ _ _ _ _ (HH.out.st.keeps (S' := []) ((Keeps.refl [] w).alloc _) (by simp)) HB.out).mono ?_
  rintro e w1 ⟨rfl, k1⟩
  have q1 : w1.cell? ⟨w.heap.size, 1, none⟩ = some (.int .i64 n) := k1.cell (cell_has (has_new w _) (i := 1) rfl) (by simp)
  have K1 := Lib.hid (((Keeps.refl [] w).alloc (.cells #[.int .i64 2, .int .i64 n, .int .i64 v] 41)).trans k1)
  clear k1
  go_wp2_with fail
  refine (refGet_out wb lo R m VL T n _ (HH.out.rf.keeps K1.out (by simp)) HB.out).mono ?_
  rintro e w2 ⟨rfl, k2⟩
  have K2 := Lib.hid (K1.out.trans k2)
  clear k2
  go_wp2_with fail
  refine (one_nil _).mono ?_
  rintro e w3 ⟨rfl, rfl⟩
  go_wp2_with fail
  go_ret
  exact pair_same HH.out K2.out

set_option maxRecDepth 100000 in
set_option maxHeartbeats 4000000 in
theorem does0 (sb wb lo : Nat) (S R Q : List Nat) (m : Nat) (X : Nat → Int) (VL : Nat → Value) (T : Nat → Bool) (k n v : Int) (w : World) (H : PairS sb wb lo S R Q m X VL T w) (hQ : ∀ x, x ∈ Q → x < w.heap.size) (hlo : lo ≤ w.heap.size) (hm : m ≤ 60000) (hk : k ≠ 1 ∧ k ≠ 2 ∧ k ≠ 3 ∧ k ≠ 4) :
    Calls Try.prog 18 #[.pointer (some ⟨sb, 0, none⟩), .pointer (some ⟨wb, 0, none⟩), .agg #[.int .i64 k, .int .i64 n, .int .i64 v]] w (DoesC sb wb lo S R Q m w) := by
  have HH := Lib.hid H
  have HQ := Lib.hid hQ
  have NS := Lib.hid (show ∀ x, w.heap.size ≤ x → x ∉ S from fun x hx hy => by have := (H.st.foot x hy).2; omega)
  have NR := Lib.hid (show ∀ x, w.heap.size ≤ x → x ∉ R from fun x hx hy => by have := (H.rf.foot x hy).2; omega)
  clear H hQ
  have e1 : (k == 1) = false := by simpa using hk.1
  have e2 : (k == 2) = false := by simpa using hk.2.1
  have e3 : (k == 3) = false := by simpa using hk.2.2.1
  have e4 : (k == 4) = false := by simpa using hk.2.2.2
  clear hk
  go_enter Try.func18, Try.ntmps18
  go_wp2_with fail
  go_ret
  exact pair_same HH.out ((Keeps.refl _ _).alloc _)

/-- Any call on both. -/
theorem does_any (sb wb lo : Nat) (S R Q : List Nat) (m : Nat) (k n v : Int) (w : World) (H : PairT sb wb lo S R Q m w) (hQ : ∀ x, x ∈ Q → x < w.heap.size) (hlo : lo ≤ w.heap.size) (hm : m ≤ 60000) :
    Calls Try.prog 18 #[.pointer (some ⟨sb, 0, none⟩), .pointer (some ⟨wb, 0, none⟩), .agg #[.int .i64 k, .int .i64 n, .int .i64 v]] w (DoesC sb wb lo S R Q m w) := by
  obtain ⟨X, VL, T, H⟩ := H
  by_cases h1 : k = 1
  · subst h1
    obtain ⟨i0, hi0, hlow, hend⟩ := first_free T m
    rcases hend with rfl | ⟨hlt, hT⟩
    · exact does1_new sb wb lo S R Q i0 X VL T n v w H hQ hlo hm hlow
    · exact does1_old sb wb lo S R Q m X VL T n v w H hQ hlo hm i0 hlow hlt hT
  by_cases h2 : k = 2
  · subst h2
    cases hb : isB m T n with
    | true => exact does2_in sb wb lo S R Q m X VL T n v w H hQ hlo hm hb
    | false => exact does2_out sb wb lo S R Q m X VL T n v w H hQ hlo hm hb
  by_cases h3 : k = 3
  · subst h3
    cases hb : isB m T n with
    | true => exact does3_in sb wb lo S R Q m X VL T n v w H hQ hlo hm hb
    | false => exact does3_out sb wb lo S R Q m X VL T n v w H hQ hlo hm hb
  by_cases h4 : k = 4
  · subst h4
    cases hb : isB m T n with
    | true => exact does4_in sb wb lo S R Q m X VL T n v w H hQ hlo hm hb
    | false => exact does4_out sb wb lo S R Q m X VL T n v w H hQ hlo hm hb
  exact does0 sb wb lo S R Q m X VL T k n v w H hQ hlo hm ⟨h1, h2, h3, h4⟩
end Go.Proofs.Ytompihlckpjbkaa
