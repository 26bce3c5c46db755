/- Heaps of numbers, and sets of taken slots: plain facts. No program in sight. -/
import Derived.Test.YtompihlckpjbkaaMem
namespace Go.Proofs.Ytompihlckpjbkaa
set_option linter.unusedVariables false

/-- Two numbers change places. -/
def swapF (F : Nat → Nat) (i j : Nat) : Nat → Nat := fun k => if k = i then F j else if k = j then F i else F k
theorem swapF_left (F : Nat → Nat) (i j : Nat) : swapF F i j i = F j := by simp [swapF]
theorem swapF_right (F : Nat → Nat) (i j : Nat) : swapF F i j j = F i := by
  unfold swapF
  by_cases h : j = i
  · subst h; simp
  · simp [h]
theorem swapF_other (F : Nat → Nat) (i j : Nat) {k : Nat} (h1 : k ≠ i) (h2 : k ≠ j) : swapF F i j k = F k := by simp [swapF, h1, h2]

/-- The first N numbers of F are just those of P, each once. -/
structure Enum (N : Nat) (F : Nat → Nat) (P : Nat → Prop) : Prop where
  sub : ∀ k, k < N → P (F k)
  all : ∀ x, P x → ∃ k, k < N ∧ F k = x
  inj : ∀ i j, i < N → j < N → F i = F j → i = j
theorem Enum.congr {N : Nat} {F : Nat → Nat} {P Q : Nat → Prop} (h : Enum N F P) (hq : ∀ x, P x ↔ Q x) : Enum N F Q :=
  ⟨fun k hk => (hq _).1 (h.sub k hk), fun x hx => h.all x ((hq x).2 hx), h.inj⟩
theorem Enum.swap {N : Nat} {F : Nat → Nat} {P : Nat → Prop} (h : Enum N F P) {i j : Nat} (hi : i < N) (hj : j < N) : Enum N (swapF F i j) P := by
  have hp : ∀ k, k < N → ∃ k', k' < N ∧ swapF F i j k = F k' ∧ (k = i → k' = j) ∧ (k = j → k' = i) ∧ (k ≠ i → k ≠ j → k' = k) := by
    intro k hk
    by_cases h1 : k = i
    · subst h1; exact ⟨j, hj, swapF_left F k j, fun _ => rfl, fun e => e.symm, fun e => absurd rfl e⟩
    · by_cases h2 : k = j
      · subst h2; exact ⟨i, hi, swapF_right F i k, fun e => absurd e h1, fun _ => rfl, fun _ e => absurd rfl e⟩
      · exact ⟨k, hk, swapF_other F i j h1 h2, fun e => absurd e h1, fun e => absurd e h2, fun _ _ => rfl⟩
  refine ⟨fun k hk => ?_, fun x hx => ?_, fun a b ha hb hab => ?_⟩
  · obtain ⟨k', hk', e, _⟩ := hp k hk; rw [e]; exact h.sub k' hk'
  · obtain ⟨k, hk, rfl⟩ := h.all x hx
    by_cases h1 : k = i
    · subst h1; exact ⟨j, hj, swapF_right F k j⟩
    · by_cases h2 : k = j
      · subst h2; exact ⟨i, hi, swapF_left F i k⟩
      · exact ⟨k, hk, swapF_other F i j h1 h2⟩
  · obtain ⟨a', ha', ea, a1, a2, a3⟩ := hp a ha
    obtain ⟨b', hb', eb, b1, b2, b3⟩ := hp b hb
    rw [ea, eb] at hab
    have := h.inj a' b' ha' hb' hab
    omega
/-- One more. -/
theorem Enum.push {N : Nat} {F : Nat → Nat} {P : Nat → Prop} (h : Enum N F P) {x : Nat} (hx : ¬ P x) (G : Nat → Nat) (hG : ∀ k, k < N → G k = F k) (hN : G N = x) : Enum (N + 1) G (fun y => P y ∨ y = x) := by
  refine ⟨fun k hk => ?_, fun y hy => ?_, fun a b ha hb hab => ?_⟩
  · by_cases h1 : k = N
    · subst h1; exact .inr hN
    · rw [hG k (by omega)]; exact .inl (h.sub k (by omega))
  · rcases hy with hy | rfl
    · obtain ⟨k, hk, e⟩ := h.all y hy; exact ⟨k, by omega, by rw [hG k hk]; exact e⟩
    · exact ⟨N, by omega, hN⟩
  · by_cases h1 : a = N <;> by_cases h2 : b = N
    · omega
    · subst h1; rw [hN, hG b (by omega)] at hab; exact absurd (hab ▸ h.sub b (by omega)) hx
    · subst h2; rw [hN, hG a (by omega)] at hab; exact absurd (hab.symm ▸ h.sub a (by omega)) hx
    · rw [hG a (by omega), hG b (by omega)] at hab; exact h.inj a b (by omega) (by omega) hab
/-- The last one goes. -/
theorem Enum.pop {N : Nat} {F : Nat → Nat} {P : Nat → Prop} (h : Enum (N + 1) F P) : Enum N F (fun y => P y ∧ y ≠ F N) := by
  refine ⟨fun k hk => ⟨h.sub k (by omega), fun e => ?_⟩, fun y hy => ?_, fun a b ha hb hab => h.inj a b (by omega) (by omega) hab⟩
  · have := h.inj k N (by omega) (by omega) e; omega
  · obtain ⟨k, hk, e⟩ := h.all y hy.1
    refine ⟨k, ?_, e⟩
    by_cases h1 : k = N
    · subst h1; exact absurd e.symm hy.2
    · omega

/-- A heap: the least one first. -/
def HeapOK (n : Nat) (F : Nat → Nat) : Prop := ∀ k, 0 < k → k < n → F ((k - 1) / 2) ≤ F k
theorem HeapOK.min {n : Nat} {F : Nat → Nat} (h : HeapOK n F) : ∀ k, k < n → F 0 ≤ F k := by
  intro k
  induction k using Nat.strongRecOn with
  | ind k ih =>
    intro hk
    by_cases h0 : k = 0
    · subst h0; exact Nat.le_refl _
    · exact Nat.le_trans (ih ((k - 1) / 2) (by omega) (by omega)) (h k (by omega) hk)
/-- A heap but for number i, which may be too great. -/
structure DownI (n : Nat) (F : Nat → Nat) (i : Nat) : Prop where
  o : ∀ k, 0 < k → k < n → (k - 1) / 2 ≠ i → F ((k - 1) / 2) ≤ F k
  u : ∀ k, 0 < k → k < n → (k - 1) / 2 = i → 0 < i → F ((i - 1) / 2) ≤ F k
theorem DownI.start {n : Nat} {F : Nat → Nat} (h : HeapOK (n + 1) F) (G : Nat → Nat) (hG : ∀ k, 0 < k → k < n → G k = F k) : DownI n G 0 := by
  refine ⟨fun k h0 hk hp => ?_, fun k h0 hk hp hi => by omega⟩
  rw [hG k h0 hk, hG ((k - 1) / 2) (by omega) (by omega)]
  exact h k h0 (by omega)
theorem DownI.leaf {n : Nat} {F : Nat → Nat} {i : Nat} (h : DownI n F i) (hl : n ≤ 2 * i + 1) : HeapOK n F := fun k h0 hk => h.o k h0 hk (by omega)
theorem DownI.rest {n : Nat} {F : Nat → Nat} {i : Nat} (h : DownI n F i) (h1 : F i ≤ F (2 * i + 1)) (h2 : 2 * i + 2 < n → F i ≤ F (2 * i + 2)) : HeapOK n F := by
  intro k h0 hk
  by_cases hp : (k - 1) / 2 = i
  · rw [hp]
    have : k = 2 * i + 1 ∨ k = 2 * i + 2 := by omega
    rcases this with rfl | rfl
    · exact h1
    · exact h2 hk
  · exact h.o k h0 hk hp
theorem DownI.step {n : Nat} {F : Nat → Nat} {i j : Nat} (h : DownI n F i) (hj : j = 2 * i + 1 ∨ j = 2 * i + 2) (hjn : j < n) (hlt : F j < F i) (h1 : F j ≤ F (2 * i + 1)) (h2 : 2 * i + 2 < n → F j ≤ F (2 * i + 2)) : DownI n (swapF F i j) j := by
  have hij : i ≠ j := by omega
  refine ⟨fun k h0 hk hp => ?_, fun k h0 hk hp hj0 => ?_⟩
  · by_cases hk1 : k = i
    · subst hk1
      rw [swapF_left, swapF_other F k j (by omega) hp]
      exact h.u j (by omega) hjn (by omega) (by omega)
    · by_cases hk2 : k = j
      · subst hk2
        rw [swapF_right]
        rw [show (k - 1) / 2 = i by omega, swapF_left]
        omega
      · rw [swapF_other F i j hk1 hk2]
        by_cases hp1 : (k - 1) / 2 = i
        · rw [hp1, swapF_left]
          have : k = 2 * i + 1 ∨ k = 2 * i + 2 := by omega
          rcases this with rfl | rfl
          · exact h1
          · exact h2 hk
        · rw [swapF_other F i j hp1 hp]
          exact h.o k h0 hk hp1
  · rw [show (j - 1) / 2 = i by omega, swapF_left, swapF_other F i j (by omega) (by omega)]
    have := h.o k h0 hk (by omega)
    rw [hp] at this
    exact this
/-- A heap but for number j, which may be too small. -/
structure UpI (n : Nat) (F : Nat → Nat) (j : Nat) : Prop where
  o : ∀ k, 0 < k → k < n → k ≠ j → F ((k - 1) / 2) ≤ F k
  u : ∀ k, 0 < k → k < n → (k - 1) / 2 = j → 0 < j → F ((j - 1) / 2) ≤ F k
theorem UpI.start {n : Nat} {F : Nat → Nat} (h : HeapOK n F) (G : Nat → Nat) (hG : ∀ k, k < n → G k = F k) : UpI (n + 1) G n := by
  refine ⟨fun k h0 hk hp => ?_, fun k h0 hk hp hi => by omega⟩
  rw [hG k (by omega), hG ((k - 1) / 2) (by omega)]
  exact h k h0 (by omega)
theorem UpI.top {n : Nat} {F : Nat → Nat} (h : UpI n F 0) : HeapOK n F := fun k h0 hk => h.o k h0 hk (by omega)
theorem UpI.rest {n : Nat} {F : Nat → Nat} {j : Nat} (h : UpI n F j) (h1 : 0 < j → F ((j - 1) / 2) ≤ F j) : HeapOK n F := by
  intro k h0 hk
  by_cases hp : k = j
  · subst hp; exact h1 h0
  · exact h.o k h0 hk hp
theorem UpI.step {n : Nat} {F : Nat → Nat} {j : Nat} (h : UpI n F j) (hj : 0 < j) (hjn : j < n) (hlt : F j < F ((j - 1) / 2)) : UpI n (swapF F ((j - 1) / 2) j) ((j - 1) / 2) := by
  generalize hi : (j - 1) / 2 = i at *
  have hij : i < j := by omega
  refine ⟨fun k h0 hk hp => ?_, fun k h0 hk hp hj0 => ?_⟩
  · by_cases hk2 : k = j
    · subst hk2
      rw [swapF_right, hi, swapF_left]; omega
    · rw [swapF_other F i j hp hk2]
      by_cases hp1 : (k - 1) / 2 = i
      · rw [hp1, swapF_left]
        have := h.o k h0 hk hk2
        rw [hp1] at this; omega
      · by_cases hp2 : (k - 1) / 2 = j
        · rw [hp2, swapF_right]
          have := h.u k h0 hk hp2 hj
          rw [hi] at this; exact this
        · rw [swapF_other F i j hp1 hp2]
          exact h.o k h0 hk hk2
  · have hkj : k = j ∨ k ≠ j := by omega
    rw [swapF_other F i j (k := (i - 1) / 2) (by omega) (by omega)]
    have hi0 := h.o i hj0 (by omega) (by omega)
    rcases hkj with rfl | hkj
    · rw [swapF_right]; exact hi0
    · rw [swapF_other F i j (by omega) hkj]
      have := h.o k h0 hk hkj
      rw [hp] at this; omega

/-- How many of the first m are taken. -/
def cntT (T : Nat → Bool) : Nat → Nat
  | 0 => 0
  | m + 1 => cntT T m + if T m then 1 else 0
theorem cntT_le (T : Nat → Bool) (m : Nat) : cntT T m ≤ m := by
  induction m with
  | zero => simp [cntT]
  | succ m ih => simp only [cntT]; split <;> omega
theorem cntT_congr {T U : Nat → Bool} {m : Nat} (h : ∀ i, i < m → T i = U i) : cntT T m = cntT U m := by
  induction m with
  | zero => rfl
  | succ m ih => simp only [cntT]; rw [ih (fun i hi => h i (by omega)), h m (by omega)]
/-- One flag laid anew. -/
def putB (T : Nat → Bool) (i : Nat) (x : Bool) : Nat → Bool := fun j => if j = i then x else T j
theorem cntT_put {T : Nat → Bool} {m i : Nat} (x : Bool) (hi : i < m) : cntT (putB T i x) m + (if T i then 1 else 0) = cntT T m + if x then 1 else 0 := by
  induction m with
  | zero => omega
  | succ m ih =>
    simp only [cntT]
    by_cases h : i = m
    · subst h
      rw [cntT_congr (T := putB T i x) (U := T) (fun j hj => by simp [putB, show j ≠ i by omega])]
      simp only [putB, if_true]
      omega
    · have := ih (by omega)
      rw [show putB T i x m = T m by simp [putB, show m ≠ i by omega]]
      omega
/-- A slot that is not taken. -/
def FreeS (m : Nat) (T : Nat → Bool) (x : Nat) : Prop := x < m ∧ T x = false
theorem cntT_all {T : Nat → Bool} {m : Nat} (h : ∀ i, i < m → T i = true) : cntT T m = m := by
  induction m with
  | zero => rfl
  | succ m ih => simp only [cntT]; rw [ih (fun i hi => h i (by omega)), h m (by omega)]; simp
end Go.Proofs.Ytompihlckpjbkaa
