/- A table that may be a zero one still: each call on it (chapter 7). -/
import Derived.Test.YtajcbghhpjpmhaaB5
import Derived.Test.YtajcbghhpjpmhaaB6
import Derived.Test.YtajcbghhpjpmhaaTabAddS
import Derived.Test.YtajcbghhpjpmhaaTabAddG
import Derived.Test.YtajcbghhpjpmhaaTabKill
import Derived.Test.YtajcbghhpjpmhaaTabCopy
namespace Go.Proofs.Ytajcbghhpjpmhaa
open Go.RowKit
set_option linter.unusedVariables false
set_option linter.unusedSimpArgs false

/-- A table, or a zero one (where z). -/
def TabZ (z : Prop) (t lo : Nat) (S : List Nat) (m : Option Nat) (T : Tab) (w : World) : Prop :=
  TabAt t lo S (mV m) T w ∨ (z ∧ m = none ∧ T = newT ∧ S = [t] ∧ lo ≤ t ∧ w.heap[t]? = some zeroO)
section
variable {z : Prop} {t lo : Nat} {S R : List Nat} {m : Option Nat} {T : Tab} {w w' : World}
theorem TabZ.keeps (h : TabZ z t lo S m T w) (k : Keeps R w w') (hd : ∀ x, x ∈ S → x ∉ R) : TabZ z t lo S m T w' := by
  rcases h with h | ⟨h1, h2, h3, h4, h5, h6⟩
  · exact .inl (h.keeps k hd)
  · exact .inr ⟨h1, h2, h3, h4, h5, k.has h6 (hd t (by simp [h4]))⟩
theorem TabZ.foot (h : TabZ z t lo S m T w) : ∀ x, x ∈ S → lo ≤ x ∧ x < w.heap.size := by
  rcases h with h | ⟨h1, h2, h3, h4, h5, h6⟩
  · exact h.foot
  · intro x hx; simp [h4] at hx; subst hx; exact ⟨h5, lt_of_block h6⟩
theorem TabZ.begun (h : TabZ z t lo S m T w) (hz : ¬ z) : TabAt t lo S (mV m) T w := by
  rcases h with h | ⟨h1, _⟩
  · exact h
  · exact (hz h1).elim
theorem TabZ.mono {z' : Prop} (h : TabZ z t lo S m T w) (hz : z → z') : TabZ z' t lo S m T w := by
  rcases h with h | ⟨h1, h2⟩
  · exact .inl h
  · exact .inr ⟨hz h1, h2⟩
theorem TabZ.beg (h : TabZ z t lo S m T w) : Calls Try.prog 41 #[.pointer (some ⟨t, 0, none⟩)] w (BegP t lo S S (mV m) T w) := by
  rcases h with h | ⟨h1, rfl, rfl, rfl, h5, h6⟩
  · refine (begin_beg t lo S (mV m) T w h).mono ?_
    rintro r w' ⟨e, S', a, b, c⟩
    exact ⟨e, S', a, b.mono (by simp), c⟩
  · exact begin_zero t lo w h6 h5
/-- The block, with its entries. -/
theorem TabZ.block (h : TabZ z t lo S m T w) : ∃ a c cp ma, w.heap[t]? = some (tabO (mV m) (.slice a T.E.length c) cp (.int .i64 (liveN T.E : Nat)) (.int .i64 T.births) ma (.int .i64 T.turns)) ∧ EntRow lo a c T.E w := by
  rcases h with ⟨a, c, cb, cr, h1, h2, _⟩ | ⟨h1, rfl, rfl, rfl, h5, h6⟩
  · exact ⟨a, c, _, _, h1, h2⟩
  · exact ⟨none, 0, _, _, h6, EntRow.nil _ _⟩
end
theorem ent_new (e : Int) : newT.ent e = none := by unfold Tab.ent newT; simp
section
variable {z : Prop}
theorem add_z (k : Nat) (hk : k ≤ 1000) (t lo : Nat) (S : List Nat) (m : Option Nat) (c : C4) (T : Tab) (w : World) (H : TabZ z t lo S m T w) (hM : MtrAt m c w) (hm : ∀ b, m = some b → b < lo) (hI : TInv k T) (h ky v : Int) :
    Calls Try.prog 34 #[.pointer (some ⟨t, 0, none⟩), .int .i64 h, .int .i64 ky, .int .i64 v] w (AddP t lo S m (if T.E.length = T.room then c.tab else c) T.ready h ky v w) := by
  by_cases he : T.E.length = T.room
  · rw [if_pos he]
    rcases H with H | ⟨_, _, rfl, _⟩
    · exact add_grow k hk t lo S m c T w H hM hm hI he h ky v
    · simp [newT, Tab.room] at he
  · rw [if_neg he]
    have hr : T.ready = T := by unfold Tab.ready; rw [if_neg he]
    rw [hr]
    exact add_stay_gen k hk t lo S S m c T w (H.keeps ((Keeps.refl [] w).alloc _) (by simp)).beg (fun x hx => hx) H.foot hM hm hI he h ky v
/-- Behind a Put. -/
def PutZ (z : Prop) (t lo : Nat) (S : List Nat) (m : Option Nat) (T : Tab) (e v : Int) (w : World) (r : Ending) (w' : World) : Prop := r = .returned (.int .i64 (okE (T.ent e))) ∧ TabZ z t lo S m (T.put e v) w' ∧ Keeps S w w'
theorem put_z (t lo : Nat) (S : List Nat) (m : Option Nat) (T : Tab) (w : World) (H : TabZ z t lo S m T w) (hl : T.E.length ≤ 1000000) (e v : Int) :
    Calls Try.prog 36 #[.pointer (some ⟨t, 0, none⟩), .int .i64 e, .int .i64 v] w (PutZ z t lo S m T e v w) := by
  have HH := Lib.hid H
  rcases H with H | ⟨h1, rfl, rfl, rfl, h5, h6⟩
  · refine (put_any t lo S (mV m) T w H hl e v).mono ?_
    rintro r w' ⟨h1, h2, h3⟩
    exact ⟨h1, .inl h2, h3⟩
  · unfold PutZ Tab.put
    rw [ent_new]
    have H6 := Lib.hid h6
    clear h6
    go_enter Try.func36, Try.ntmps36
    go_wp2_with fail
    refine (wrong_no t lo 0 none [] (.pointer none) _ _ _ _ _ e _ H6.out (EntRow.nil lo _) (by simp) (by unfold entE; simp)).mono ?_
    rintro r w1 ⟨rfl, rfl⟩
    go_wp2_with fail
    go_ret
    exact ⟨rfl, HH.out, Keeps.refl _ _⟩
def KillZ (z : Prop) (t lo : Nat) (S : List Nat) (m : Option Nat) (T : Tab) (e : Int) (w : World) (r : Ending) (w' : World) : Prop := r = .returned (.int .i64 (okE (T.ent e))) ∧ TabZ z t lo S m (T.kill e) w' ∧ Keeps S w w'
theorem kill_z (t lo : Nat) (S : List Nat) (m : Option Nat) (T : Tab) (w : World) (H : TabZ z t lo S m T w) (hI : TInv 1000 T) (e : Int) :
    Calls Try.prog 37 #[.pointer (some ⟨t, 0, none⟩), .int .i64 e] w (KillZ z t lo S m T e w) := by
  have HH := Lib.hid H
  rcases H with H | ⟨h1, rfl, rfl, rfl, h5, h6⟩
  · refine (kill_any t lo S (mV m) T w H hI e).mono ?_
    rintro r w' ⟨h1, h2, h3⟩
    exact ⟨h1, .inl h2, h3⟩
  · unfold KillZ Tab.kill
    rw [ent_new]
    have H6 := Lib.hid h6
    clear h6
    refine calls_of_wp_ranges Try.func37 rfl ?_
    simp only [Try.ntmps37, List.size_toArray, List.length_cons, List.length_nil, Nat.reduceAdd, Nat.reduceSub, Array.replicate_succ, Array.replicate_zero, List.push_toArray, List.append_toArray, List.nil_append, List.cons_append]
    go_wp2_with fail
    apply wp_scope_straight
    go_wp2_with fail
    have kA : Keeps [] w ((w.alloc (.cells #[.pointer (some ⟨t, 0, none⟩)] 24)).alloc (.cells #[.int .i64 e] 3)) := ((Keeps.refl [] w).alloc _).alloc _
    have KA := Lib.hid kA
    clear kA
    refine (wrong_no t lo 0 none [] (.pointer none) _ _ _ _ _ e _ (KA.out.has H6.out (by simp)) (EntRow.nil lo _) (by simp) (by unfold entE; simp)).mono ?_
    rintro r w1 ⟨rfl, rfl⟩
    go_wp2_with fail
    rw [Exit.noGoto_ret]
    refine bodyPostR_ret0 (v := .int .i64 7) (by simp [results, Try.results37, go_sem]) rfl ?_
    exact ⟨rfl, HH.out.keeps KA.out (by simp), KA.out.mono (by simp)⟩
theorem at_z (t lo : Nat) (S : List Nat) (m : Option Nat) (T : Tab) (w : World) (H : TabZ z t lo S m T w) (hl : T.E.length ≤ 1000000) (e : Int) :
    Calls Try.prog 23 #[.pointer (some ⟨t, 0, none⟩), .int .i64 e] w fun r w' => r = .returned (.tuple #[(atE (entE T.E e)).agg, .int .i64 (okE (entE T.E e))]) ∧ Below w.heap.size w w' := by
  obtain ⟨a, c, cp, ma, h1, h2⟩ := H.block
  exact at_any t lo c a T.E _ _ _ _ _ _ e w h1 h2 hl
theorem clear_z (t lo : Nat) (S : List Nat) (m : Option Nat) (c : C4) (T : Tab) (w : World) (H : TabZ z t lo S m T w) (hM : MtrAt m c w) (hm : ∀ b, m = some b → b < lo) (hma : T.made ≤ 100000) (htu : T.turns ≤ 100000) :
    Calls Try.prog 35 #[.pointer (some ⟨t, 0, none⟩)] w (ClearP t lo S m c T w) :=
  clear_gen t lo S S m c T w H.beg (fun x hx => hx) (fun x hx => (H.foot x hx).1) hM hm hma htu
theorem copy_z (t lo : Nat) (S : List Nat) (m : Option Nat) (c4 : C4) (T : Tab) (w : World) (H : TabZ z t lo S m T w) (hM : MtrAt m c4 w) (hI : TInv 1000 T) :
    Calls Try.prog 20 #[.pointer (some ⟨t, 0, none⟩)] w (CopyP m c4 T w) := by
  obtain ⟨a, c, cp, ma, h1, h2⟩ := H.block
  exact copy_gen t lo a c m c4 T w (cell_has h1 (i := 0) rfl) (cell_has h1 (i := 1) rfl) (cell_has h1 (i := 3) rfl) h2 hM hI.ek
theorem seek_z (t lo : Nat) (S : List Nat) (m : Option Nat) (T : Tab) (w : World) (H : TabZ z t lo S m T w) (hL : T.L ≤ 20) (h : Int) :
    Calls Try.prog 21 #[.pointer (some ⟨t, 0, none⟩), .int .i64 h] w (SeekG t lo S S (mV m) T h w) :=
  seek_gen t lo S S (mV m) T w H.beg hL h
theorem len_z (t lo : Nat) (S : List Nat) (m : Option Nat) (T : Tab) (w : World) (H : TabZ z t lo S m T w) :
    Calls Try.prog 17 #[.pointer (some ⟨t, 0, none⟩)] w fun r w' => r = .returned (.int .i64 (liveN T.E : Nat)) ∧ w = w' := by
  obtain ⟨a, c, cp, ma, h1, h2⟩ := H.block
  have c3 : w.cell? ⟨t, 3, none⟩ = some (.int .i64 (liveN T.E : Nat)) := cell_has h1 (i := 3) rfl
  clear h1 h2
  go_enter Try.func17, Try.ntmps17
  go_wp2_with fail
  go_ret
  exact ⟨rfl, rfl⟩
theorem sight_z (t lo : Nat) (S : List Nat) (m : Option Nat) (T : Tab) (w : World) (H : TabZ z t lo S m T w) (hL : T.L ≤ 20) (hF : Fits (2 ^ T.L) T.V) (hl : T.E.length ≤ 1000000) :
    Calls Try.prog 15 #[.pointer (some ⟨t, 0, none⟩)] w (SightG t lo S S (mV m) T w) :=
  sight_gen t lo S S (mV m) T w (H.keeps ((Keeps.refl [] w).alloc _) (by simp)).beg (fun x hx => hx) (fun x hx => (H.foot x hx).2) hL hF hl
end
end Go.Proofs.Ytajcbghhpjpmhaa
