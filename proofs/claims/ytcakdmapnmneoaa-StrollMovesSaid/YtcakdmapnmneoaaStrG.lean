/- What holds of a stroll goes on to hold; a Next; what the document fixes of strolls (chapter 9). -/
import Derived.Test.YtcakdmapnmneoaaStrF
namespace Go.Proofs.Ytcakdmapnmneoaa
open Go.RowKit
set_option linter.unusedVariables false
set_option linter.unusedSimpArgs false

/-- The births of a dictionary's pairs go up, from 0 on. -/
structure BirOk (d : Dic) : Prop where
  up : Born d.T.E d.T.births
  pos : ∀ x, x ∈ d.T.E → x.live = true → 0 ≤ x.birth
theorem BirOk.new (m : Int) : BirOk (newD m) := ⟨Born.nil _, fun x hx => by simp [newD, newT] at hx⟩
theorem Born.putT {T : Tab} (h : Born T.E T.births) (e v : Int) : Born (T.put e v).E (T.put e v).births := by
  unfold Tab.put
  split
  · rename_i x hx
    obtain ⟨h0, h1, h2⟩ := ent_some hx
    have old : ∀ (i : Nat) (y : Ent), (T.E.set e.toNat { x with val := v })[i]? = some y → ∃ z, T.E[i]? = some z ∧ z.live = y.live ∧ z.birth = y.birth := fun i y hi => by
      rw [List.getElem?_set] at hi
      split at hi
      · rename_i he
        subst he
        split at hi
        · simp at hi; exact ⟨x, h1, by rw [← hi], by rw [← hi]⟩
        · cases hi
      · exact ⟨y, hi, rfl, rfl⟩
    refine ⟨fun i j y z hij hi hj hy hz => ?_, fun i y hi hy => ?_⟩
    · obtain ⟨y', a1, a2, a3⟩ := old i y hi
      obtain ⟨z', b1, b2, b3⟩ := old j z hj
      rw [← a3, ← b3]; exact h.up i j y' z' hij a1 b1 (a2.trans hy) (b2.trans hz)
    · obtain ⟨y', a1, a2, a3⟩ := old i y hi
      rw [← a3]; exact h.lt i y' a1 (a2.trans hy)
  · exact h
theorem pos_put {T : Tab} (h : ∀ x, x ∈ T.E → x.live = true → 0 ≤ x.birth) (e v : Int) : ∀ x, x ∈ (T.put e v).E → x.live = true → 0 ≤ x.birth := by
  unfold Tab.put
  split
  · rename_i y hy
    intro x hx hl
    obtain ⟨h0, h1, h2⟩ := ent_some hy
    rcases List.mem_or_eq_of_mem_set hx with h3 | h3
    · exact h x h3 hl
    · rw [h3]; exact h y (List.mem_of_getElem? h1) h2
  · exact h
theorem pos_kill {T : Tab} (h : ∀ x, x ∈ T.E → x.live = true → 0 ≤ x.birth) (e : Int) : ∀ x, x ∈ (T.kill e).E → x.live = true → 0 ≤ x.birth := by
  unfold Tab.kill
  split
  · intro x hx hl
    rcases List.mem_or_eq_of_mem_set hx with h3 | h3
    · exact h x h3 hl
    · rw [h3] at hl; cases hl
  · exact h
theorem pos_add {T : Tab} (h : ∀ x, x ∈ T.E → x.live = true → 0 ≤ x.birth) (a k v : Int) : ∀ x, x ∈ (T.add a k v).E → x.live = true → 0 ≤ x.birth := by
  intro x hx hl
  have h1 : x ∈ liveL (T.add a k v).E := List.mem_filter.2 ⟨hx, hl⟩
  rw [add_live, List.mem_append] at h1
  rcases h1 with h1 | h1
  · exact h x (List.mem_filter.1 h1).1 hl
  · simp at h1; rw [h1]; show (0 : Int) ≤ (T.births : Int); omega
theorem BirOk.hit {d : Dic} (h : BirOk d) (m : Mac) (e : Int) : BirOk (d.hit m e) := by
  unfold Dic.hit
  split
  · exact ⟨h.up.putT e m.v, pos_put h.pos e m.v⟩
  · split
    · exact ⟨h.up.killT e, pos_kill h.pos e⟩
    · exact h
theorem BirOk.miss {d : Dic} (h : BirOk d) (m : Mac) : BirOk (d.miss m) := by
  unfold Dic.miss
  split
  · exact h
  · split
    · exact h
    · exact ⟨h.up.add _ _ _, pos_add h.pos _ _ _⟩
theorem BirOk.scan {d : Dic} (h : BirOk d) (m : Mac) : BirOk (scanD d m) := by
  unfold scanD
  simp only
  split
  · exact h.miss m
  · split
    · exact h.hit m _
    · exact h
theorem BirOk.step {d : Dic} (h : BirOk d) (m : Mac) : BirOk (stepD d m) := by
  unfold stepD
  split
  · exact h
  · split
    · exact h.scan _
    · split
      · exact h.hit m _
      · exact h.scan m
theorem BirOk.live {k : Nat} {d : Dic} (h : BirOk d) (hI : DicOk k d) : ∀ x, x ∈ liveL d.T.E → 0 ≤ x.birth ∧ x.birth < (k : Int) := by
  intro x hx
  obtain ⟨h1, h2⟩ := List.mem_filter.1 hx
  obtain ⟨i, hi⟩ := List.getElem?_of_mem h1
  have := h.up.lt i x hi h2
  have := hI.t.bk
  exact ⟨h.pos x h1 h2, by omega⟩
/-- What holds of a stroll. -/
structure StrOk (s : Str) : Prop where
  up : Ups s.prs
  bi : ∀ x, x ∈ s.prs → 0 ≤ x.birth ∧ x.birth ≤ 1000000
  len : s.prs.length ≤ 1000000
  l0 : 0 ≤ s.last
  l1 : s.last ≤ 1000000
theorem StrOk.new {k : Nat} {d : Dic} (h : BirOk d) (hI : DicOk k d) (hk : k ≤ 1000) (db : Nat) (back : Bool) : StrOk (newS db d back) := by
  refine ⟨h.up.ups, fun x hx => ?_, ?_, by show (0 : Int) ≤ 0; omega, by show (0 : Int) ≤ 1000000; omega⟩
  · have := h.live hI x hx; omega
  · show (liveL d.T.E).length ≤ 1000000
    have := hI.t.ek; have := liveN_le d.T.E; rw [liveL_len]; omega
theorem StrOk.seen {k : Nat} {d : Dic} {s : Str} (hs : StrOk s) (h : BirOk d) (hI : DicOk k d) (hk : k ≤ 1000) : StrOk (s.seen d) := by
  unfold Str.seen
  by_cases hv : s.ver = d.ver
  · simp only [if_pos hv]; exact ⟨hs.up, hs.bi, hs.len, hs.l0, hs.l1⟩
  · simp only [if_neg hv]
    have := StrOk.new h hI hk 0 false
    exact ⟨this.up, this.bi, this.len, hs.l0, hs.l1⟩
theorem StrOk.next {k : Nat} {d : Dic} {s : Str} (hs : StrOk s) (h : BirOk d) (hI : DicOk k d) (hk : k ≤ 1000) : StrOk (strN d s) := by
  have h1 := hs.seen h hI hk
  unfold strN
  split
  · exact ⟨hs.up, hs.bi, hs.len, hs.l0, hs.l1⟩
  · split
    · exact ⟨h1.up, h1.bi, h1.len, h1.l0, h1.l1⟩
    · rename_i ho
      have hb : 0 ≤ ((s.seen d).prs.getD (s.seen d).place.toNat noE).birth ∧ ((s.seen d).prs.getD (s.seen d).place.toNat noE).birth ≤ 1000000 := by
        simp only [Str.out, Bool.or_eq_true, decide_eq_true_eq, not_or] at ho
        obtain ⟨g1, g2⟩ := ho
        have h3 : (s.seen d).place.toNat < (s.seen d).prs.length := by omega
        have h4 := h1.bi _ (List.getElem_mem h3)
        simpa [List.getD, List.getElem?_eq_getElem h3] using h4
      exact ⟨h1.up, h1.bi, h1.len, hb.1, hb.2⟩
theorem snext_any (k : Nat) (hk : k ≤ 500) (db t lo2 lo b : Nat) (S F : List Nat) (mv : Value) (d : Dic) (s : Str) (w : World) (HD : DicAt db t lo2 S mv d w) (HS : StrAt lo b F s w) (hd : s.dp = some db) (hI : DicOk k d) (hB : BirOk d) (hs : StrOk s)
    (hap : db ∉ F ∧ ∀ x, x ∈ S → x ∉ F) :
    Calls Try.prog 24 #[.pointer (some ⟨b, 0, none⟩)] w (StrNP lo b F d s w) := by
  by_cases h1 : s.broken = true ∨ liveN d.T.E ≠ s.size
  · exact snext_stop db t lo2 lo b S F mv d s w HD HS hd h1
  · have h2 : s.broken = false ∧ liveN d.T.E = s.size := by
      cases hb : s.broken
      · rw [hb] at h1; simp at h1; exact ⟨rfl, h1⟩
      · rw [hb] at h1; simp at h1
    have h3 := hs.seen hB hI (by omega)
    exact snext_goes db t lo2 lo b S F mv d s w HD HS hd h2.1 h2.2 (by have := hI.t.ek; omega) (by have := hI.v; omega) hap h3.up h3.len hs.l0 hs.l1
/-- A stroll that has ended stays so. -/
theorem snext_over (lo b : Nat) (F : List Nat) (s : Str) (w : World) (HS : StrAt lo b F s w) (hd : s.dp = none) :
    Calls Try.prog 24 #[.pointer (some ⟨b, 0, none⟩)] w fun r w' => r = .returned (.tuple #[noE.agg, .int .i64 10]) ∧ Keeps [] w w' := by
  obtain ⟨⟨a, c, h1, _⟩, _⟩ := HS
  rw [hd] at h1
  exact snext_ended b s.size s.ver _ s.broken _ _ w h1
theorem strE_dp (d : Dic) (s : Str) (x : Option Nat) : strE d { s with dp := x } = strE d s := rfl
theorem strX_dp (d : Dic) (s : Str) (x : Option Nat) : strX d { s with dp := x } = strX d s := rfl
theorem strN_on {d : Dic} {s : Str} (h : strE d s = 0) : (strN d s).dp = s.dp := by
  unfold strE at h
  split at h
  · omega
  · rename_i h1
    split at h
    · omega
    · rename_i h2
      unfold strN; rw [if_neg h1, if_neg h2]; rfl
theorem strE_next_dp (d e : Dic) (s : Str) (x : Option Nat) : strE e (strN d { s with dp := x }) = strE e (strN d s) := by
  unfold strN
  by_cases h1 : s.broken = true ∨ liveN d.T.E ≠ s.size
  · rw [if_pos h1, if_pos (show ({ s with dp := x } : Str).broken = true ∨ liveN d.T.E ≠ ({ s with dp := x } : Str).size from h1)]; rfl
  · rw [if_neg h1, if_neg (show ¬ (({ s with dp := x } : Str).broken = true ∨ liveN d.T.E ≠ ({ s with dp := x } : Str).size) from h1)]
    by_cases h2 : (s.seen d).out (s.seen d).prs (s.seen d).place = true
    · rw [if_pos h2, if_pos (show ((({ s with dp := x } : Str).seen d).out (({ s with dp := x } : Str).seen d).prs (({ s with dp := x } : Str).seen d).place = true) from h2)]; rfl
    · rw [if_neg h2, if_neg (show ¬ ((({ s with dp := x } : Str).seen d).out (({ s with dp := x } : Str).seen d).prs (({ s with dp := x } : Str).seen d).place = true) from h2)]; rfl
def aw9s (db : Nat) : Str := newS db aw80 false
def aw9t (db : Nat) : Str := newS db aw81 true
theorem aw9_0 : (stepM aw80 aw8a).turn.kind = 2 := by decide +kernel
theorem aw9_1 (db : Nat) : strE aw81 (aw9s db) = 9 := (strE_dp aw81 (aw9s 0) (some db)).trans (by decide +kernel)
theorem aw9_2 (db : Nat) : strE aw81 (aw9t db) = 0 := (strE_dp aw81 (aw9t 0) (some db)).trans (by decide +kernel)
theorem aw9_3 (db : Nat) : strX aw81 (aw9t db) = ⟨true, 7, 1, 10, 0⟩ := (strX_dp aw81 (aw9t 0) (some db)).trans (by decide +kernel)
theorem aw9_4 (db : Nat) : strE aw81 (strN aw81 (aw9t db)) = 10 := (strE_next_dp aw81 aw81 (aw9t 0) (some db)).trans (by decide +kernel)
theorem aw9_5 (db : Nat) : (strN aw81 (aw9t db)).dp = some db := strN_on (aw9_2 db)
end Go.Proofs.Ytcakdmapnmneoaa
