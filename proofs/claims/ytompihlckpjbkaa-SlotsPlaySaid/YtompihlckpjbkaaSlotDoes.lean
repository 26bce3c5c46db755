/- does: a call on both (chapter 11). -/
import Derived.Test.YtompihlckpjbkaaSlotsNothing
import Derived.Outline
namespace Go.Proofs.Ytompihlckpjbkaa
open Go.RowKit
open SI
set_option linter.unusedVariables false
attribute [local go_sem ↓] Go.wp_at_zero Go.wp_at_succ

/-- Ints as values. -/
def intV (X : Nat → Int) : Nat → Value := fun i => .int .i64 (X i)
theorem intV_put (X : Nat → Int) (i : Nat) (x : Int) : putV (intV X) i (.int .i64 x) = intV (fun k => if k = i then x else X k) := by
  funext k; by_cases h : k = i <;> simp [putV, intV, h]
/-- The program's slots and the document's, alike; Q: blocks of others. -/
structure PairS (sb wb lo : Nat) (S R Q : List Nat) (m : Nat) (X : Nat → Int) (VL : Nat → Value) (T : Nat → Bool) (w : World) : Prop where
  st : SlotSt sb lo S m (intV X) T w
  rf : RefS wb lo R m VL T w
  one : ∀ i, i < m → T i = true → ∃ b, VL i = .slice (some ⟨b, 0, none⟩) 1 1 ∧ w.heap[b]? = some (.cells #[.int .i64 (X i)] 3 (0, 0)) ∧ lo ≤ b ∧ b ∉ S ∧ b ∉ R ∧ b ∉ Q
  dis : ∀ x, x ∈ S → x ∉ R
  far : (∀ x, x ∈ S → x ∉ Q) ∧ (∀ x, x ∈ R → x ∉ Q)
  shp : ∀ i, i < m → ∃ a n c, VL i = .slice a n c
/-- Alike slots, of some shape. -/
def PairT (sb wb lo : Nat) (S R Q : List Nat) (m : Nat) (w : World) : Prop := ∃ X VL T, PairS sb wb lo S R Q m X VL T w
theorem PairS.keeps {sb wb lo : Nat} {S R Q Q' : List Nat} {m : Nat} {X : Nat → Int} {VL : Nat → Value} {T : Nat → Bool} {w w' : World} (h : PairS sb wb lo S R Q m X VL T w) (k : Keeps Q' w w') (hq : ∀ x, x ∈ Q' → x ∈ Q) : PairS sb wb lo S R Q m X VL T w' :=
  ⟨h.st.keeps k (fun x hx hy => h.far.1 x hx (hq x hy)), h.rf.keeps k (fun x hx hy => h.far.2 x hx (hq x hy)), fun i hi hT => by
    obtain ⟨b, h1, h2, h3, h4, h5, h6⟩ := h.one i hi hT
    exact ⟨b, h1, k.has h2 (fun hy => h6 (hq b hy)), h3, h4, h5, h6⟩, h.dis, h.far, h.shp⟩
theorem PairS.other {sb wb lo : Nat} {S R Q Q' : List Nat} {m : Nat} {X : Nat → Int} {VL : Nat → Value} {T : Nat → Bool} {w : World} (h : PairS sb wb lo S R Q m X VL T w) {B : Nat} (hB : w.heap.size ≤ B) (hq : ∀ x, x ∈ Q' → x ∈ Q ∨ B ≤ x) : PairS sb wb lo S R Q' m X VL T w :=
  ⟨h.st, h.rf, fun i hi hT => by
    obtain ⟨b, h1, h2, h3, h4, h5, h6⟩ := h.one i hi hT
    exact ⟨b, h1, h2, h3, h4, h5, fun hy => (hq b hy).elim h6 (fun hl => by have := lt_of_block h2; omega)⟩, h.dis,
    ⟨fun x hx hy => (hq x hy).elim (h.far.1 x hx) (fun hl => by have := (h.st.foot x hx).2; omega), fun x hx hy => (hq x hy).elim (h.far.2 x hx) (fun hl => by have := (h.rf.foot x hx).2; omega)⟩, h.shp⟩

/-- Behind does. -/
def DoesC (sb wb lo : Nat) (S R Q : List Nat) (m : Nat) (w : World) (e : Ending) (w' : World) : Prop :=
  e = .returned (.bool true) ∧ ∃ S' R' m', PairT sb wb lo S' R' Q m' w' ∧ m' ≤ m + 1 ∧ Keeps (S ++ R) w w' ∧ (∀ x, x ∈ S' → x ∈ S ∨ w.heap.size ≤ x) ∧ (∀ x, x ∈ R' → x ∈ R ∨ w.heap.size ≤ x)

/-- A number laid into both. -/
theorem pair_put {sb wb lo : Nat} {S R Q S1 R2 : List Nat} {m M : Nat} {X : Nat → Int} {VL : Nat → Value} {T U : Nat → Bool} {w w1 w2 : World} (H : PairS sb wb lo S R Q m X VL T w) (hQ : ∀ x, x ∈ Q → x < w.heap.size) (i0 : Nat) (v : Int)
    (hM : M ≤ m + 1) (hM2 : ∀ i, i < M → i ≠ i0 → i < m) (hU : ∀ i, i < M → U i = true → i ≠ i0 → i < m ∧ T i = true) (hlo : lo ≤ w.heap.size)
    (h1 : SlotSt sb lo S1 M (putV (intV X) i0 (.int .i64 v)) U w1) (k1 : Keeps S w w1) (f1 : ∀ x, x ∈ S1 → x ∈ S ∨ w.heap.size ≤ x)
    (k2 : Keeps R w1 w2) (f2 : ∀ x, x ∈ R2 → x ∈ R ∨ w1.heap.size ≤ x)
    (hF : ∃ b, RefS wb lo R2 M (putV VL i0 (.slice (some ⟨b, 0, none⟩) 1 1)) U w2 ∧ w2.heap[b]? = some (.cells #[.int .i64 v] 3 (0, 0)) ∧ w.heap.size ≤ b ∧ b ∉ S1 ∧ b ∉ R2) :
    DoesC sb wb lo S R Q m w (.returned (.bool true)) w2 := by
  obtain ⟨b, hR, hb, hbl, hb1, hb2⟩ := hF
  have z1 := k1.size
  have fR := fun x hx => (H.rf.foot x hx).2
  have fS := fun x hx => (H.st.foot x hx).2
  have fS1 := fun x hx => (h1.foot x hx).2
  refine ⟨rfl, S1, R2, M, ⟨fun k => if k = i0 then v else X k, _, U, ?_, hR, ?_, ?_, ⟨?_, ?_⟩, fun i hi => by by_cases e : i = i0; (exact ⟨some ⟨b, 0, none⟩, 1, 1, by simp [putV, e]⟩); (obtain ⟨a, n, c, h⟩ := H.shp i (hM2 i hi e); exact ⟨a, n, c, by simpa [putV, e] using h⟩)⟩, hM, ?_, f1, fun x hx => (f2 x hx).imp id (fun h => by omega)⟩
  · rw [← intV_put]
    exact h1.keeps k2 (fun x hx hy => (f1 x hx).elim (fun h => H.dis x h hy) (fun h => by have := fR x hy; omega))
  · intro i hi hT
    by_cases e : i = i0
    · subst e
      exact ⟨b, by simp [putV], by simpa using hb, by omega, hb1, hb2, fun h => by have := hQ b h; omega⟩
    · obtain ⟨q1, q2⟩ := hU i hi hT e
      obtain ⟨c, a1, a2, a3, a4, a5, a6⟩ := H.one i q1 q2
      have hc := lt_of_block a2
      exact ⟨c, by simpa [putV, e] using a1, by simpa [e] using k2.has (k1.has a2 a4) a5, a3, fun h => (f1 c h).elim a4 (fun h => by omega), fun h => (f2 c h).elim a5 (fun h => by omega), a6⟩
  · intro x hx hy
    rcases f2 x hy with h | h
    · exact (f1 x hx).elim (fun h' => H.dis x h' h) (fun h' => by have := fR x h; omega)
    · have := fS1 x hx; omega
  · intro x hx hy
    exact (f1 x hx).elim (fun h => H.far.1 x h hy) (fun h => by have := hQ x hy; omega)
  · intro x hx hy
    exact (f2 x hx).elim (fun h => H.far.2 x h hy) (fun h => by have := hQ x hy; omega)
  · exact (k1.mono (fun x hx => by simp [hx])).trans (k2.mono (fun x hx => by simp [hx]))

set_option maxRecDepth 100000 in
set_option maxHeartbeats 4000000 in
theorem does1_old (sb wb lo : Nat) (S R Q : List Nat) (m : Nat) (X : Nat → Int) (VL : Nat → Value) (T : Nat → Bool) (n v : Int) (w : World) (H : PairS sb wb lo S R Q m X VL T w) (hQ : ∀ x, x ∈ Q → x < w.heap.size) (hlo : lo ≤ w.heap.size) (hm : m ≤ 60000) (i0 : Nat) (hlow : ∀ j, j < i0 → T j = true) (hi0 : i0 < m) (hT : T i0 = false) :
    Calls Try.prog 18 #[.pointer (some ⟨sb, 0, none⟩), .pointer (some ⟨wb, 0, none⟩), .agg #[.int .i64 1, .int .i64 n, .int .i64 v]] w (DoesC sb wb lo S R Q m w) := by
  have HH := Lib.hid H
  have HQ := Lib.hid hQ
  have NS := Lib.hid (show ∀ x, w.heap.size ≤ x → x ∉ S from fun x hx hy => by have := (H.st.foot x hy).2; omega)
  have NR := Lib.hid (show ∀ x, w.heap.size ≤ x → x ∉ R from fun x hx hy => by have := (H.rf.foot x hy).2; omega)
  clear H hQ
  have HLOW := Lib.hid hlow
  have HT := Lib.hid hT
  clear hlow hT
  go_enter Try.func18, Try.ntmps18
  go_wp2_with fail
  have bx0 := cell_has (has_new w (.cells #[.int .i64 1, .int .i64 n, .int .i64 v] 41)) (i := 1) rfl
  have bx1 := cell_has (has_new w (.cells #[.int .i64 1, .int .i64 n, .int .i64 v] 41)) (i := 2) rfl
  go_region_held3 (fun w' => w'.cell? ⟨w.heap.size, 1, none⟩ = some (.int .i64 n) ∧ w'.cell? ⟨w.heap.size, 2, none⟩ = some (.int .i64 v)) (go_keep)
    (first
      | (go_at_call 14; refine (add_st_old _ _ _ _ _ _ i0 _ _ (HH.out.st.keeps (S' := []) (by repeat (first | exact Keeps.refl _ _ | refine Keeps.alloc ?_ _ | refine Keeps.drew ?_)) (by simp)) (by omega) HLOW.out hi0 HT.out).mono ?_; rintro e w1 ⟨rfl, S1, h1, k1, f1⟩; have kk : Keeps S w w1 := Keeps.trans (Keeps.mono (S := []) (by repeat (first | exact Keeps.refl _ _ | refine Keeps.alloc ?_ _ | refine Keeps.drew ?_)) (by simp)) k1; have q0 := kk.size; have q1 : w1.cell? ⟨w.heap.size, 1, none⟩ = some (.int .i64 n) := k1.cell (by first | exact cell_has (has_drew (has_new w _)) (i := 1) rfl | exact cell_has (has_drew (has_alloc (has_new w _) _)) (i := 1) rfl) (NS.out _ (Nat.le_refl _)); have q2 : w1.cell? ⟨w.heap.size, 2, none⟩ = some (.int .i64 v) := k1.cell (by first | exact cell_has (has_drew (has_new w _)) (i := 2) rfl | exact cell_has (has_drew (has_alloc (has_new w _) _)) (i := 2) rfl) (NS.out _ (Nat.le_refl _)); (first | (have hA : w1.heap[w.heap.size + 1]? = some (.cells #[.int .i64 v] 3 (0, 0)) := k1.has (has_drew (has_new' _ _ (by simp))) (NS.out _ (by omega)); have nA : w.heap.size + 1 ∉ S1 := (fun h => (f1 _ h).elim (NS.out _ (by omega)) (fun h => by (try simp at h); omega))) | skip); have F1 := Lib.hid (show ∀ x, x ∈ S1 → x ∈ S ∨ w.heap.size ≤ x from fun x hx => (f1 x hx).imp id (fun h => by (try simp at h); omega)); have H1 := Lib.hid h1; have KK := Lib.hid kk; have RF1 := Lib.hid (HH.out.rf.keeps kk (fun x hx hy => HH.out.dis x hy hx)); have z1 : w.heap.size + 1 < w1.heap.size ∨ w.heap.size + 1 = w1.heap.size ∨ w.heap.size = w1.heap.size := (by omega); clear h1 k1 f1 kk)
      | (go_at_call 42; refine (refAdd_old wb lo R m VL T i0 _ _ _ _ (RF1.out.keeps (S' := []) (by repeat (first | exact Keeps.refl _ _ | refine Keeps.alloc ?_ _ | refine Keeps.drew ?_)) (by simp)) (by omega) HLOW.out hi0 HT.out).mono ?_; rintro e w2 ⟨rfl, R2, g2, k2, f2⟩; have kk2 : Keeps R w1 w2 := Keeps.trans (Keeps.mono (S := []) (by repeat (first | exact Keeps.refl _ _ | refine Keeps.alloc ?_ _ | refine Keeps.drew ?_)) (by simp)) k2; have FIN : ∃ b, RefS wb lo R2 m (putV VL i0 (.slice (some ⟨b, 0, none⟩) 1 1)) (putB T i0 true) w2 ∧ w2.heap[b]? = some (.cells #[.int .i64 v] 3 (0, 0)) ∧ w.heap.size ≤ b ∧ b ∉ S1 ∧ b ∉ R2 := (by first | exact ⟨_, g2, k2.has hA (NR.out _ (by omega)), by omega, nA, fun h => (f2 _ h).elim (NR.out _ (by omega)) (fun h => by have := lt_of_block hA; omega)⟩ | exact ⟨_, g2, k2.has (has_new w1 _) (NR.out _ q0), q0, fun h => by have := (H1.out.foot _ h).2; omega, fun h => (f2 _ h).elim (NR.out _ q0) (fun h => by (try simp at h); omega)⟩); have F2 := Lib.hid (show ∀ x, x ∈ R2 → x ∈ R ∨ w1.heap.size ≤ x from fun x hx => (f2 x hx).imp id (fun h => by (try simp at h); omega)); have FF := Lib.hid FIN; have K2 := Lib.hid kk2; have q3 := kk2.cell q1 (NR.out _ (Nat.le_refl _)); have q4 := kk2.cell q2 (NR.out _ (Nat.le_refl _)); clear g2 k2 f2 kk2 FIN))
  all_goals
    go_wp2_with fail
    go_ret
    exact pair_put HH.out HQ.out i0 v (by omega) (fun i hi he => by omega) (fun i hi hU he => ⟨hi, by simpa [putB, he] using hU⟩) hlo H1.out KK.out F1.out K2.out F2.out FF.out

set_option maxRecDepth 100000 in
set_option maxHeartbeats 4000000 in
theorem does1_new (sb wb lo : Nat) (S R Q : List Nat) (m : Nat) (X : Nat → Int) (VL : Nat → Value) (T : Nat → Bool) (n v : Int) (w : World) (H : PairS sb wb lo S R Q m X VL T w) (hQ : ∀ x, x ∈ Q → x < w.heap.size) (hlo : lo ≤ w.heap.size) (hm : m ≤ 60000) (hlow : ∀ j, j < m → T j = true) :
    Calls Try.prog 18 #[.pointer (some ⟨sb, 0, none⟩), .pointer (some ⟨wb, 0, none⟩), .agg #[.int .i64 1, .int .i64 n, .int .i64 v]] w (DoesC sb wb lo S R Q m w) := by
  have HH := Lib.hid H
  have HQ := Lib.hid hQ
  have NS := Lib.hid (show ∀ x, w.heap.size ≤ x → x ∉ S from fun x hx hy => by have := (H.st.foot x hy).2; omega)
  have NR := Lib.hid (show ∀ x, w.heap.size ≤ x → x ∉ R from fun x hx hy => by have := (H.rf.foot x hy).2; omega)
  clear H hQ
  have HLOW := Lib.hid hlow
  clear hlow
  go_enter Try.func18, Try.ntmps18
  go_wp2_with fail
  have bx0 := cell_has (has_new w (.cells #[.int .i64 1, .int .i64 n, .int .i64 v] 41)) (i := 1) rfl
  have bx1 := cell_has (has_new w (.cells #[.int .i64 1, .int .i64 n, .int .i64 v] 41)) (i := 2) rfl
  go_region_held3 (fun w' => w'.cell? ⟨w.heap.size, 1, none⟩ = some (.int .i64 n) ∧ w'.cell? ⟨w.heap.size, 2, none⟩ = some (.int .i64 v)) (go_keep)
    (first
      | (go_at_call 14; refine (add_st_new _ _ _ _ _ _ _ _ (HH.out.st.keeps (S' := []) (by repeat (first | exact Keeps.refl _ _ | refine Keeps.alloc ?_ _ | refine Keeps.drew ?_)) (by simp)) (by omega) HLOW.out).mono ?_; rintro e w1 ⟨rfl, S1, h1, k1, f1⟩; have kk : Keeps S w w1 := Keeps.trans (Keeps.mono (S := []) (by repeat (first | exact Keeps.refl _ _ | refine Keeps.alloc ?_ _ | refine Keeps.drew ?_)) (by simp)) k1; have q0 := kk.size; have q1 : w1.cell? ⟨w.heap.size, 1, none⟩ = some (.int .i64 n) := k1.cell (by first | exact cell_has (has_drew (has_new w _)) (i := 1) rfl | exact cell_has (has_drew (has_alloc (has_new w _) _)) (i := 1) rfl) (NS.out _ (Nat.le_refl _)); have q2 : w1.cell? ⟨w.heap.size, 2, none⟩ = some (.int .i64 v) := k1.cell (by first | exact cell_has (has_drew (has_new w _)) (i := 2) rfl | exact cell_has (has_drew (has_alloc (has_new w _) _)) (i := 2) rfl) (NS.out _ (Nat.le_refl _)); (first | (have hA : w1.heap[w.heap.size + 1]? = some (.cells #[.int .i64 v] 3 (0, 0)) := k1.has (has_drew (has_new' _ _ (by simp))) (NS.out _ (by omega)); have nA : w.heap.size + 1 ∉ S1 := (fun h => (f1 _ h).elim (NS.out _ (by omega)) (fun h => by (try simp at h); omega))) | skip); have F1 := Lib.hid (show ∀ x, x ∈ S1 → x ∈ S ∨ w.heap.size ≤ x from fun x hx => (f1 x hx).imp id (fun h => by (try simp at h); omega)); have H1 := Lib.hid h1; have KK := Lib.hid kk; have RF1 := Lib.hid (HH.out.rf.keeps kk (fun x hx hy => HH.out.dis x hy hx)); have z1 : w.heap.size + 1 < w1.heap.size ∨ w.heap.size + 1 = w1.heap.size ∨ w.heap.size = w1.heap.size := (by omega); clear h1 k1 f1 kk)
      | (go_at_call 42; refine (refAdd_new wb lo R m VL T _ _ _ _ (RF1.out.keeps (S' := []) (by repeat (first | exact Keeps.refl _ _ | refine Keeps.alloc ?_ _ | refine Keeps.drew ?_)) (by simp)) (by omega) HLOW.out).mono ?_; rintro e w2 ⟨rfl, R2, g2, k2, f2⟩; have kk2 : Keeps R w1 w2 := Keeps.trans (Keeps.mono (S := []) (by repeat (first | exact Keeps.refl _ _ | refine Keeps.alloc ?_ _ | refine Keeps.drew ?_)) (by simp)) k2; have FIN : ∃ b, RefS wb lo R2 (m + 1) (putV VL m (.slice (some ⟨b, 0, none⟩) 1 1)) (putB T m true) w2 ∧ w2.heap[b]? = some (.cells #[.int .i64 v] 3 (0, 0)) ∧ w.heap.size ≤ b ∧ b ∉ S1 ∧ b ∉ R2 := (by first | exact ⟨_, g2, k2.has hA (NR.out _ (by omega)), by omega, nA, fun h => (f2 _ h).elim (NR.out _ (by omega)) (fun h => by have := lt_of_block hA; omega)⟩ | exact ⟨_, g2, k2.has (has_new w1 _) (NR.out _ q0), q0, fun h => by have := (H1.out.foot _ h).2; omega, fun h => (f2 _ h).elim (NR.out _ q0) (fun h => by (try simp at h); omega)⟩); have F2 := Lib.hid (show ∀ x, x ∈ R2 → x ∈ R ∨ w1.heap.size ≤ x from fun x hx => (f2 x hx).imp id (fun h => by (try simp at h); omega)); have FF := Lib.hid FIN; have K2 := Lib.hid kk2; have q3 := kk2.cell q1 (NR.out _ (Nat.le_refl _)); have q4 := kk2.cell q2 (NR.out _ (Nat.le_refl _)); clear g2 k2 f2 kk2 FIN))
  all_goals
    go_wp2_with fail
    go_ret
    exact pair_put HH.out HQ.out m v (by omega) (fun i hi he => by omega) (fun i hi hU he => ⟨by omega, by simpa [putB, he] using hU⟩) hlo H1.out KK.out F1.out K2.out F2.out FF.out
end Go.Proofs.Ytompihlckpjbkaa
