/- In the midst of StrollMoves (chapter 9's laws). -/
import Derived.Test.YtcakdmapnmneoaaStrMv
import Derived.Test.YtcakdmapnmneoaaStrWh
import Derived.Laws.OwnMore
namespace Go.Proofs.Ytcakdmapnmneoaa
open Go.RowKit
set_option linter.unusedVariables false
set_option linter.unusedSimpArgs false

/-- A row of ints is appended to a row of one. -/
theorem int_pre9 (lo : Nat) (a : Option Addr) (c m : Nat) (V : Nat → Int) (x : Int) (W : World) (B : Nat) (h : ValRow 3 lo a m c (intV V) W) (hB : W.heap[B]? = some (.cells #[.int .i64 x] 3 (0, 0))) (hm : m ≤ 1000000) (hlo : lo ≤ B) (hb : lo ≤ W.heap.size) :
    ∃ a' cap w', (Builtin.append_ #[22, 22] 22 #[.slice (some ⟨B, 0, none⟩) 1 1, .slice a m c]).run Try.prog W = .ok (.slice a' (m + 1) cap) w' ∧ ValRow 3 lo a' (m + 1) cap (intV fun k => if k = 0 then x else V (k - 1)) w' ∧ Keeps [B] W w' := by
  obtain ⟨j0, hi, hz0, hz1, hz2⟩ := info_parts info64
  have hown : W.ownsRow lo 3 1 (.slice (some ⟨B, 0, none⟩) 1 1) 1 [.int .i64 x] := ⟨rfl, .inr ⟨B, 1, #[.int .i64 x], rfl, hlo, hB, Nat.le_refl _, by unfold maxLen; omega, rfl, rfl⟩⟩
  rcases h.2 with ⟨q1, q2⟩ | ⟨g, cap, cur, q1, q2, q3, q4⟩
  · simp at q1
    obtain ⟨rfl, rfl, rfl⟩ := q1
    refine ⟨some ⟨B, 0, none⟩, 1, W, run_append_owned_none (P := Try.prog) (w := W) lo 22 22 3 j0 1 Try.underlying22 hi _ _ _ hown, ?_, Keeps.refl _ _⟩
    show W.ownsRow lo 3 1 (.slice (some ⟨B, 0, none⟩) 1 1) 1 _
    simpa [valR, intV] using hown
  · simp at q1
    obtain ⟨rfl, rfl⟩ := q1
    obtain ⟨v', w', hr, h2, h3, _, h5⟩ := run_append_own_at (P := Try.prog) W lo 22 22 3 j0 (.int .i64 0) 1 8 Try.underlying22 hi hz0 hz1 hz2 rfl (by decide) _ 1 _ hown ⟨g, 0, none⟩ m c (valR m (intV V)) (by simp [valR]) (fun j u hu => World.ownsRow.cells h (by simp [Value.ownBlock]) j u hu) (by intro u hu; simp [valR] at hu; obtain ⟨k, hk, rfl⟩ := hu; rfl) (by unfold maxLen; omega) (by omega) hb
    obtain ⟨a', c', rfl⟩ := own_shape h2
    have hr' := hr
    rw [show 1 + m = m + 1 by omega] at hr' h2
    refine ⟨a', c', w', hr', ?_, ⟨h3.os, h3.tape, h3.output, h3.size, fun k hk hn => h3.block k hk (fun e => hn (by simp [Value.ownBlock] at e; simp [e]))⟩⟩
    show w'.ownsRow lo 3 1 (.slice a' (m + 1) c') (m + 1) _
    have e : valR (m + 1) (intV fun k => if k = 0 then x else V (k - 1)) = [.int .i64 x] ++ valR m (intV V) := by
      apply List.ext_getElem?
      intro j
      by_cases hj : j < m + 1
      · rw [valR_get hj]
        cases j with
        | zero => rfl
        | succ j => rw [List.getElem?_append_right (by simp)]; simp only [List.length_singleton, Nat.add_sub_cancel]; rw [valR_get (by omega)]; simp [intV]
      · rw [List.getElem?_eq_none (by rw [valR_len]; omega), List.getElem?_eq_none (by rw [List.length_append, valR_len]; simp; omega)]
    rw [e]; exact h2
/-- A dictionary behind t moves, a stroll through it, the row of what is wanted. -/
structure MovI (F Wf : Nat → Int) (n key t kk : Nat) (back : Bool) (db tb lo b : Nat) (a : Option Addr) (l c : Nat) (S Fs : List Nat) (d : Dic) (s : Str) (W : World) : Prop where
  dic : DicAt db tb lo S (mV none) d W
  ok : DicOk kk d
  mv : Mv9 F n key t d
  str : StrAt lo b Fs s W
  si : StrJ db n back d s
  row : ValRow 3 lo a l c (intV Wf) W
  j1 : db ∉ Fs
  j2 : ∀ x, x ∈ S → x ∉ Fs
  j3 : ∀ x, x ∈ blk a → x ∉ Fs
  j4 : ∀ x, x ∈ blk a → x ∉ db :: S
section
variable {F Wf : Nat → Int} {n key t kk : Nat} {back : Bool} {db tb lo b : Nat} {a : Option Addr} {l c : Nat} {S Fs : List Nat} {d : Dic} {s : Str} {W W' : World}
theorem MovI.keeps (h : MovI F Wf n key t kk back db tb lo b a l c S Fs d s W) (k : Keeps [] W W') : MovI F Wf n key t kk back db tb lo b a l c S Fs d s W' :=
  ⟨h.dic.keeps k (by simp) (by simp), h.ok, h.mv, h.str.keeps k (by simp), h.si, h.row.keeps k (by simp), h.j1, h.j2, h.j3, h.j4⟩
theorem MovI.three (h : MovI F Wf n key t kk back db tb lo b a l c S Fs d s W) : ∀ x, x ∈ [b, b + 2, b + 3] → x ∈ Fs := fun x hx => by
  have h5 := h.str.five
  simp at hx
  rcases hx with rfl | rfl | rfl
  · exact h5 0 (by omega)
  · exact h5 2 (by omega)
  · exact h5 3 (by omega)
theorem MovI.next (h : MovI F Wf n key t kk back db tb lo b a l c S Fs d s W) {Fs' : List Nat} (hj : StrJ db n back d (strN d s)) (hs : StrAt lo b Fs' (strN d s) W') (hg : Grew Fs W Fs') (k : Keeps [b, b + 2, b + 3] W W') : MovI F Wf n key t kk back db tb lo b a l c S Fs' d (strN d s) W' := by
  have hin := h.three
  have hnew : ∀ x, x < W.heap.size → x ∉ Fs → x ∉ Fs' := fun x h1 h2 h3 => by
    rcases hg x h3 with h4 | h4
    · exact h2 h4
    · omega
  have hS := h.dic.foot9
  exact ⟨h.dic.keeps k (fun e => h.j1 (hin _ e)) (fun x hx e => h.j2 x hx (hin _ e)), h.ok, h.mv, hs, hj, h.row.keeps k (fun x hx e => h.j3 x hx (hin _ e)),
    hnew db (hS db (by simp)).2 h.j1, fun x hx => hnew x (hS x (by simp [hx])).2 (h.j2 x hx), fun x hx => hnew x (h.row.blk_lt x hx).2 (h.j3 x hx), h.j4⟩
/-- The dictionary has changed. -/
theorem MovI.moved (h : MovI F Wf n key t kk back db tb lo b a l c S Fs d s W) {S' : List Nat} {d' : Dic} {t' kk' : Nat} (k : Keeps (db :: S) W W') (hd : DicAt db tb lo S' (mV none) d' W') (hg : Grew S W S') (ho : DicOk kk' d') (hm : Mv9 F n key t' d') (hv : d.ver < d'.ver) : MovI F Wf n key t' kk' back db tb lo b a l c S' Fs d' s W' := by
  have hnew : ∀ x, x < W.heap.size → x ∉ S → x ∉ S' := fun x h1 h2 h3 => by
    rcases hg x h3 with h4 | h4
    · exact h2 h4
    · omega
  have hx : ∀ x, x ∈ Fs → x ∉ db :: S := fun x hx e => by
    simp only [List.mem_cons] at e
    rcases e with rfl | e
    · exact h.j1 hx
    · exact h.j2 x e hx
  refine ⟨hd, ho, hm, h.str.keeps k hx, h.si.later hv, h.row.keeps k h.j4, h.j1, fun x h1 h2 => ?_, h.j3, fun x h1 h2 => ?_⟩
  · exact hnew x (h.str.lo x h2).2 (fun e => h.j2 x e h2) h1
  · have := h.j4 x h1
    simp only [List.mem_cons, not_or] at this h2
    rcases h2 with h2 | h2
    · exact this.1 h2
    · exact hnew x (h.row.blk_lt x h1).2 this.2 h2
end
/-- A search, told no so far, as the machine q has it behind a Step; its turn lies in the local tl. -/
def Pc9 (d d1 : Dic) (q0 q : Mac) (tg : Option Nat) (j : Nat) : Prop := (∃ f, Waits d q0 q tg j f ∧ d1 = d ∧ j ≤ liveN (d.T.E.take f)) ∨ Ends d q0 q tg d1
theorem Pc9.first {kk : Nat} {d : Dic} (hI : DicOk kk d) (g : Nat) (h k v : Int) {tg : Option Nat} (ht : Tgt d (newM g h k v) tg) : Pc9 d (stepD d (newM g h k v)) (newM g h k v) (stepM d (newM g h k v)) tg 0 := by
  rcases step_first hI g h k v ht with ⟨f, h1, h2, _⟩ | ⟨h1, _⟩
  · exact .inl ⟨f, h1, h2, Nat.zero_le _⟩
  · exact .inr h1
theorem liveN_take {E : List Ent} {f f' : Nat} {y : Ent} (hf : f < f') (hy : E[f]? = some y) (hl : y.live = true) : liveN (E.take f) + 1 ≤ liveN (E.take f') := by
  have h1 : (E.take (f + 1)).Sublist (E.take f') := by
    have : E.take (f + 1) = (E.take f').take (f + 1) := by rw [List.take_take, Nat.min_eq_left (by omega)]
    rw [this]; exact List.take_sublist _ _
  have h2 := h1.countP_le (p := fun x => x.live)
  have h3 : liveN (E.take (f + 1)) = liveN (E.take f) + 1 := by
    unfold liveN
    rw [List.take_add_one, hy, List.countP_append]
    simp [hl]
  unfold liveN at *
  omega
theorem Pc9.no {kk : Nat} {d : Dic} (hI : DicOk kk d) {q0 q : Mac} {tg : Option Nat} (ht : Tgt d q0 tg) {n f : Nat} (w : Waits d q0 q tg n f) (hn : n ≤ liveN (d.T.E.take f)) (ok : SkOk d.T q.sk) : Pc9 d (stepD d (tellM q false)) q0 (stepM d (tellM q false)) tg (n + 1) := by
  rcases step_no hI ht w ok with ⟨f', h1, h2, h3, _⟩ | ⟨h1, _⟩
  · obtain ⟨y, y1, y2, _⟩ := w.live
    have h4 : f < f' := by have := h3.1; omega
    have := liveN_take h4 y1 y2
    exact .inl ⟨f', h1, h2, by omega⟩
  · exact .inr h1
theorem Waits.few {d : Dic} {q0 q : Mac} {tg : Option Nat} {n f : Nat} (w : Waits d q0 q tg n f) (hn : n ≤ liveN (d.T.E.take f)) : n < liveN d.T.E := by
  obtain ⟨y, y1, y2, _⟩ := w.live
  have := liveN_take (f' := d.T.E.length) w.lt y1 y2
  rw [List.take_length] at this
  omega
structure Del9 (mb db t lo : Nat) (S : List Nat) (d : Dic) (q0 : Mac) (tg : Option Nat) (w : World) (tl j : Nat) (d1 : Dic) (q : Mac) (S5 : List Nat) (sb5 : Nat) (W : World) : Prop where
  dic : DicAt db t lo S5 (mV none) d1 W
  mac : MSt mb sb5 db t lo S5 d1 q W
  tu : W.heap[tl]? = some (trnO q.turn)
  pc : Pc9 d d1 q0 q tg j
  gr : Grew S w S5
  ks : Keeps (db :: S) w W
  sb : w.heap.size ≤ sb5
  tn : tl ∉ S5 ∧ tl ≠ mb ∧ tl ≠ db ∧ tl ≠ sb5
theorem Del9.ft {mb db t lo : Nat} {S : List Nat} {d : Dic} {q0 : Mac} {tg : Option Nat} {w : World} {tl j : Nat} {d1 : Dic} {q : Mac} {S5 : List Nat} {sb5 : Nat} {W : World} (h : Del9 mb db t lo S d q0 tg w tl j d1 q S5 sb5 W) (hm : w.heap.size ≤ mb) (q' : Mac) : (∀ x, x ∈ feet mb sb5 db S5 q' → w.heap.size ≤ x ∨ x ∈ db :: S) ∧ tl ∉ feet mb sb5 db S5 q' := by
  have aux : ∀ x, x ∈ feet mb sb5 db S5 q' → x = mb ∨ x = db ∨ x = sb5 ∨ x ∈ S5 := fun x hx => by
    unfold Go.Proofs.Ytcakdmapnmneoaa.feet skS at hx
    simp only [List.mem_cons, List.mem_append] at hx
    rcases hx with rfl | rfl | hx | hx
    · exact .inl rfl
    · exact .inr (.inl rfl)
    · split at hx
      · simp at hx
      · simp at hx; exact .inr (.inr (.inl hx))
    · exact .inr (.inr (.inr hx))
  refine ⟨fun x hx => ?_, fun hx => ?_⟩
  · rcases aux x hx with rfl | rfl | rfl | hx
    · exact .inl hm
    · exact .inr (by simp)
    · exact .inl h.sb
    · rcases h.gr x hx with h1 | h1
      · exact .inr (by simp [h1])
      · exact .inl h1
  · obtain ⟨h1, h2, h3, h4⟩ := h.tn
    rcases aux _ hx with hx | hx | hx | hx
    · exact h2 hx
    · exact h3 hx
    · exact h4 hx
    · exact h1 hx
end Go.Proofs.Ytcakdmapnmneoaa
