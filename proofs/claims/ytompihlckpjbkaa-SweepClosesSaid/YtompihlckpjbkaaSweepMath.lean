/- What a sweep keeps and what it frees: plain lists (chapter 12). -/
import Derived.Test.YtompihlckpjbkaaSlotIterL
import Derived.Test.YtompihlckpjbkaaRefMark2
namespace Go.Proofs.Ytompihlckpjbkaa
open Go.RowKit
set_option linter.unusedVariables false

theorem idxL_filter {T R : Nat → Bool} (h : ∀ i, R i = true → T i = true) (m : Nat) : idxL R m = (idxL T m).filter R := by
  induction m with
  | zero => rfl
  | succ m ih =>
    simp only [idxL, List.filter_append, ih]
    by_cases hR : R m = true
    · simp [hR, h m hR]
    · by_cases hT : T m = true <;> simp [hR, hT]
/-- What is freed. -/
def freed (T R : Nat → Bool) : Nat → Bool := fun i => T i && !R i
theorem idxL_freed (T R : Nat → Bool) (m : Nat) : idxL (freed T R) m = (idxL T m).filter fun i => !R i := by
  induction m with
  | zero => rfl
  | succ m ih =>
    simp only [idxL, List.filter_append, ih, freed]
    by_cases hR : R m = true <;> by_cases hT : T m = true <;> simp [hR, hT]
/-- What is still kept when i slots are gone through, and what is out. -/
def keptL (T R : Nat → Bool) (m i : Nat) : List Nat := ((idxL T m).drop i).filter R
def outL (T R : Nat → Bool) (m i : Nat) : List Nat := ((idxL T m).take i).filter fun i => !R i
theorem drop_ix {T : Nat → Bool} {m i : Nat} (h : i < cntT T m) : (idxL T m).drop i = SL.ixN T m i :: (idxL T m).drop (i + 1) := by
  have h' := h
  rw [← idxL_len] at h'
  rw [List.drop_eq_getElem_cons h']
  congr 1
  simp [SL.ixN, List.getD_eq_getElem?_getD, List.getElem?_eq_getElem h']
theorem take_ix {T : Nat → Bool} {m i : Nat} (h : i < cntT T m) : (idxL T m).take (i + 1) = (idxL T m).take i ++ [SL.ixN T m i] := by
  have h' := h
  rw [← idxL_len] at h'
  rw [List.take_succ_eq_append_getElem h']
  congr 2
  simp [SL.ixN, List.getD_eq_getElem?_getD, List.getElem?_eq_getElem h']
theorem kept_hit {T R : Nat → Bool} {m i : Nat} (h : i < cntT T m) (hr : R (SL.ixN T m i) = true) : keptL T R m i = SL.ixN T m i :: keptL T R m (i + 1) ∧ outL T R m (i + 1) = outL T R m i := by
  unfold keptL outL
  rw [drop_ix h, take_ix h]
  simp [hr]
theorem kept_miss {T R : Nat → Bool} {m i : Nat} (h : i < cntT T m) (hr : R (SL.ixN T m i) = false) : keptL T R m i = keptL T R m (i + 1) ∧ outL T R m (i + 1) = outL T R m i ++ [SL.ixN T m i] := by
  unfold keptL outL
  rw [drop_ix h, take_ix h]
  simp [hr]
theorem kept_start {T R : Nat → Bool} (h : ∀ i, R i = true → T i = true) (m : Nat) : keptL T R m 0 = idxL R m := by simp [keptL, idxL_filter h]
theorem out_end (T R : Nat → Bool) (m : Nat) : outL T R m (cntT T m) = idxL (freed T R) m := by
  unfold outL
  rw [List.take_of_length_le (by rw [idxL_len]; omega), idxL_freed]
theorem kept_mem {T R : Nat → Bool} {m i x : Nat} (h : x ∈ keptL T R m i) : R x = true := (List.mem_filter.1 h).2
theorem out_len (T R : Nat → Bool) (m i : Nat) : (outL T R m i).length ≤ m := by
  unfold outL
  have h1 := List.length_filter_le (fun i => !R i) ((idxL T m).take i)
  have h2 : ((idxL T m).take i).length ≤ (idxL T m).length := List.length_take_le' _ _
  rw [idxL_len] at h2
  have := cntT_le T m
  omega
theorem intsL_len (l : List Nat) : (intsL l).length = l.length := by simp [intsL]
theorem intsL_snoc (l : List Nat) (x : Nat) : intsL (l ++ [x]) = intsL l ++ [.int .i64 (x : Int)] := by simp [intsL]

theorem idxL_pw (T : Nat → Bool) (m : Nat) : (idxL T m).Pairwise (· < ·) := by
  induction m with
  | zero => simp [idxL]
  | succ m ih =>
    simp only [idxL]
    refine List.pairwise_append.2 ⟨ih, ?_, fun a ha b hb => ?_⟩
    · split <;> simp
    · have := ((SL.idxL_mem T m a).1 ha).1
      split at hb
      · simp at hb; omega
      · simp at hb
theorem ix_notin (T : Nat → Bool) (m k : Nat) (hk : k < cntT T m) : SL.ixN T m k ∉ (idxL T m).take k := by
  intro h
  have hp := idxL_pw T m
  rw [← List.take_append_drop k (idxL T m)] at hp
  have := (List.pairwise_append.1 hp).2.2 _ h (SL.ixN T m k) (by rw [drop_ix hk]; simp)
  omega

/-- A list of numbers that is read. -/
def RowN (w : World) (a : Option Addr) (l : List Nat) : Prop := ∀ k, k < l.length → ∃ b off, a = some ⟨b, off, none⟩ ∧ w.cell? ⟨b, off + k, none⟩ = some (.int .i64 (l.getD k 0 : Int))
theorem RowN.keeps {w w' : World} {a : Option Addr} {l : List Nat} (h : RowN w a l) (k : Keeps [] w w') : RowN w' a l := fun j hj => by
  obtain ⟨b, off, h1, h2⟩ := h j hj
  exact ⟨b, off, h1, k.cell h2 (by simp)⟩
theorem rowN_of {w : World} {base n c : Nat} {E : TypeId} {a : Option Addr} {l : List Nat} (h : w.ownsRow base E 1 (.slice a n c) n (intsL l)) (hl : l.length = n) : RowN w a l := fun k hk => by
  obtain ⟨g, c', hv, _, _⟩ := h.form (by omega)
  simp at hv
  obtain ⟨rfl, rfl⟩ := hv
  refine ⟨g, 0, rfl, ?_⟩
  rw [Nat.zero_add, h.cellAt k (by omega)]
  simp [intsL, List.getElem?_eq_getElem hk, List.getD_eq_getElem?_getD]
theorem RowN.tail {w : World} {b off : Nat} {x : Nat} {l : List Nat} (h : RowN w (some ⟨b, off, none⟩) (x :: l)) : RowN w (some ⟨b, off + 1, none⟩) l := fun k hk => by
  obtain ⟨b', off', h1, h2⟩ := h (k + 1) (by simp; omega)
  simp at h1
  obtain ⟨rfl, rfl⟩ := h1
  refine ⟨_, _, rfl, ?_⟩
  rw [show off + 1 + k = off + (k + 1) by omega]
  simpa using h2

theorem SL.SlotSt.congr {sb lo : Nat} {S : List Nat} {m : Nat} {V : Nat → Value} {T U : Nat → Bool} {w : World} (h : SL.SlotSt sb lo S m V T w) (hT : ∀ i, i < m → T i = U i) : SL.SlotSt sb lo S m V U w := by
  obtain ⟨n, F, ⟨la, lc, ta, tc, fa, fc, h1, h2, h3, h4, h5⟩, h6⟩ := h
  refine ⟨n, F, ⟨la, lc, ta, tc, fa, fc, h1, h2, h3.congr (fun k hk => by simp [flagV, hT k hk]), h4, h5⟩, h6.en.congr (fun x => ?_), h6.hp, ?_⟩
  · unfold FreeS
    constructor
    · rintro ⟨a, b⟩; exact ⟨a, by rw [← hT x a]; exact b⟩
    · rintro ⟨a, b⟩; exact ⟨a, by rw [hT x a]; exact b⟩
  · rw [← cntT_congr hT]; exact h6.ct
end Go.Proofs.Ytompihlckpjbkaa
