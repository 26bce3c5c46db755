/- A dictionary and its machines in plain numbers (chapter 8). -/
import Derived.Test.YtcakdmapnmneoaaB7
import Derived.Test.YtcakdmapnmneoaaB5
namespace Go.Proofs.Ytcakdmapnmneoaa
open Go.RowKit
set_option linter.unusedVariables false

/-- What comes of a machine's turn. -/
structure Trn where
  kind : Int
  key : Int
  found : Bool
  val : Int
  ent : Int
deriving DecidableEq
def noTrn : Trn := ⟨0, 0, false, 0, 0⟩
/-- A dictionary: its table, how many pairs it may have, its version. -/
structure Dic where
  T : Tab
  most : Int
  ver : Nat
/-- A machine: what it is asked for, its state (0 begins, 1 goes, 2 waits, 3 hits, 4 ended), its Seeker, the entry at which it waits, its scans, the version that it kept, its turn. -/
structure Mac where
  g : Nat
  h : Int
  k : Int
  v : Int
  st : Nat
  sk : Sk
  ent : Int
  scans : Nat
  ver : Nat
  turn : Trn
def Dic.at_ (d : Dic) (e : Int) : Ent := d.T.E.getD e.toNat noE
def Mac.done (m : Mac) (t : Trn) : Mac := { m with st := 4, turn := t }
def hitT (x : Ent) (e : Int) : Trn := ⟨2, 0, true, x.val, e⟩
def Dic.hit (d : Dic) (m : Mac) (e : Int) : Dic :=
  if m.g = 2 then { d with T := d.T.put e m.v, ver := d.ver + 1 } else if m.g = 3 then { d with T := d.T.kill e, ver := d.ver + 1 } else d
def Dic.full (d : Dic) : Bool := decide (d.most ≤ (liveN d.T.E : Int))
def missT (d : Dic) (m : Mac) : Trn :=
  if m.g = 1 ∨ m.g = 3 then ⟨2, 0, false, 0, -1⟩ else if d.full = true then ⟨3, 0, false, 0, 0⟩ else ⟨2, 0, false, m.v, d.T.ready.E.length⟩
def Dic.miss (d : Dic) (m : Mac) : Dic :=
  if m.g = 1 ∨ m.g = 3 then d else if d.full = true then d else { d with T := d.T.add m.h m.k m.v, ver := d.ver + 1 }
def missC (d : Dic) (m : Mac) (c : C4) : C4 :=
  if m.g = 1 ∨ m.g = 3 then c else if d.full = true then c else if d.T.E.length = d.T.room then c.tab else c
/-- On along the trail. -/
def scanM (d : Dic) (m : Mac) : Mac :=
  let n : Mac := { m with sk := d.T.next m.sk }
  if n.sk.over = true then n.done (missT d n) else if (d.at_ n.sk.told).key = m.k then n.done (hitT (d.at_ n.sk.told) n.sk.told) else { n with st := 2, ent := n.sk.told, turn := ⟨1, (d.at_ n.sk.told).key, false, 0, 0⟩ }
def scanD (d : Dic) (m : Mac) : Dic :=
  let n : Mac := { m with sk := d.T.next m.sk }
  if n.sk.over = true then d.miss m else if (d.at_ n.sk.told).key = m.k then d.hit m n.sk.told else d
def scanC (d : Dic) (m : Mac) (c : C4) : C4 :=
  if (d.T.next m.sk).over = true then missC d m (c.visN (d.T.walks m.sk)) else c.visN (d.T.walks m.sk)
/-- A scan from the beginning. -/
def Mac.anew (m : Mac) (d : Dic) : Mac := { m with sk := d.T.seek m.h, ver := d.ver, scans := m.scans + 1, st := 1 }
def Mac.fresh (m : Mac) (d : Dic) : Bool := m.st == 0 || m.ver != d.ver
/-- A Step. -/
def stepM (d : Dic) (m : Mac) : Mac :=
  if m.st = 4 ∨ m.st = 2 then m else if m.fresh d = true then scanM d (m.anew d) else if m.st = 3 then m.done (hitT (d.at_ m.ent) m.ent) else scanM d m
def stepD (d : Dic) (m : Mac) : Dic :=
  if m.st = 4 ∨ m.st = 2 then d else if m.fresh d = true then scanD d (m.anew d) else if m.st = 3 then d.hit m m.ent else scanD d m
def stepC (d : Dic) (m : Mac) (c : C4) : C4 :=
  if m.st = 4 ∨ m.st = 2 then c else if m.fresh d = true then scanC d (m.anew d) c else if m.st = 3 then c else scanC d m c
def tellM (m : Mac) (same : Bool) : Mac := if m.st = 2 then { m with st := if same then 3 else 1 } else m
def tellE (m : Mac) : Int := if m.st = 2 then 0 else 8
/-- What holds of a machine beside its dictionary. -/
structure MacOk (d : Dic) (m : Mac) : Prop where
  g1 : 1 ≤ m.g
  g4 : m.g ≤ 4
  st : m.st ≤ 4
  sk : m.st ≠ 0 → SkOk d.T m.sk
  ent : (m.st = 2 ∨ m.st = 3) → m.ver = d.ver → ∃ x, d.T.ent m.ent = some x
  ver : m.ver ≤ d.ver
/-- What holds of a dictionary that at most k calls have changed. -/
structure DicOk (k : Nat) (d : Dic) : Prop where
  t : TInv k d.T
  v : d.ver ≤ 2 * k
theorem DicOk.mono {k l : Nat} {d : Dic} (h : DicOk k d) (hk : k ≤ l) : DicOk l d := ⟨h.t.mono hk, by have := h.v; omega⟩
theorem Dic.at_of {d : Dic} {e : Int} {x : Ent} (h : d.T.ent e = some x) : d.at_ e = x := by
  obtain ⟨h0, h1, h2⟩ := ent_some h
  simp [Dic.at_, List.getD, h1]
/-- A Seeker that stops tells a live entry. -/
theorem told_live {k : Nat} {T : Tab} (h : TInv k T) {s : Sk} (hs : SkOk T s) (ho : (T.next s).over = false) : ∃ x, T.ent (T.next s).told = some x ∧ x.hash = s.h ∧ s.told < (T.next s).told := by
  unfold Tab.next at ho ⊢
  split at ho
  · cases ho
  · rename_i hsp
    rw [if_neg hsp]
    simp only [Tab.spent, Bool.not_eq_true, Bool.or_eq_false_iff, bne_eq_false_iff_eq] at hsp
    obtain ⟨h1, h2⟩ := hsp
    split at ho
    · cases ho
    · rename_i hv
      rw [if_neg hv]
      have h3 := h.far_is h1 h2 hs
      have hv' : ¬ T.V (trC T.L (uh s.h) (s.i + T.far s)) = -1 := hv
      simp only [stopP, fitE, Bool.or_eq_true, beq_iff_eq, Bool.and_eq_true, decide_eq_true_eq] at h3
      rcases h3 with h3 | h3
      · exact absurd h3 hv'
      · obtain ⟨e, x, h4, h5, h6⟩ := h.live_at (trC_lt T.L (uh s.h) (s.i + T.far s)) hs.low h3.1
        refine ⟨x, ?_, ?_, h3.1⟩
        · show T.ent (T.cellAt s) = some x
          have h7 : T.cellAt s = (e : Int) := h4
          rw [h7]; unfold Tab.ent
          rw [if_pos (by omega)]
          simp [h5, Option.filter, h6]
        · have h8 := h3.2
          rw [h4] at h8
          simpa [List.getD, h5] using h8
theorem DicOk.hit {k : Nat} {d : Dic} (h : DicOk k d) (m : Mac) (e : Int) : DicOk (k + 1) (d.hit m e) := by
  unfold Dic.hit
  split
  · exact ⟨(h.t.put e m.v).mono (by omega), by have := h.v; show d.ver + 1 ≤ _; omega⟩
  · split
    · exact ⟨h.t.kill e, by have := h.v; show d.ver + 1 ≤ _; omega⟩
    · exact h.mono (by omega)
theorem DicOk.miss {k : Nat} (hk : k ≤ 1000) {d : Dic} (h : DicOk k d) (m : Mac) : DicOk (k + 1) (d.miss m) := by
  unfold Dic.miss
  split
  · exact h.mono (by omega)
  · split
    · exact h.mono (by omega)
    · exact ⟨h.t.add hk _ _ _, by have := h.v; show d.ver + 1 ≤ _; omega⟩
theorem DicOk.scan {k : Nat} (hk : k ≤ 1000) {d : Dic} (h : DicOk k d) (m : Mac) : DicOk (k + 1) (scanD d m) := by
  unfold scanD
  simp only
  split
  · exact h.miss hk m
  · split
    · exact h.hit m _
    · exact h.mono (by omega)
theorem DicOk.step {k : Nat} (hk : k ≤ 1000) {d : Dic} (h : DicOk k d) (m : Mac) : DicOk (k + 1) (stepD d m) := by
  unfold stepD
  split
  · exact h.mono (by omega)
  · split
    · exact h.scan hk _
    · split
      · exact h.hit m _
      · exact h.scan hk m
/-- A Seeker goes with its table on. -/
theorem SkOk.turned8 {T U : Tab} {s : Sk} (h : SkOk T s) (hu : T.turns ≤ U.turns) (h2 : U.turns = T.turns → U.L = T.L ∧ U.V = T.V) : SkOk U s := by
  rcases Nat.lt_or_ge T.turns U.turns with h1 | h1
  · exact h.later h1
  · obtain ⟨h3, h4⟩ := h2 (by omega)
    exact h.same (by omega) h3 h4
theorem SkOk.hit8 {d : Dic} {s : Sk} (h : SkOk d.T s) (m : Mac) (e : Int) : SkOk (d.hit m e).T s := by
  unfold Dic.hit
  split
  · show SkOk (d.T.put e m.v) s
    unfold Tab.put; split
    · exact h.same rfl rfl rfl
    · exact h
  · split
    · show SkOk (d.T.kill e) s
      unfold Tab.kill; split
      · exact h.later (by show d.T.turns < d.T.turns + 1; omega)
      · exact h
    · exact h
theorem SkOk.miss8 {d : Dic} {s : Sk} (h : SkOk d.T s) (m : Mac) : SkOk (d.miss m).T s := by
  unfold Dic.miss
  split
  · exact h
  · split
    · exact h
    · exact h.later (by show d.T.turns < d.T.ready.turns + 1; have : d.T.ready.turns = d.T.turns := (by unfold Tab.ready; split <;> rfl); omega)
theorem SkOk.scan8 {d : Dic} {s : Sk} (h : SkOk d.T s) (m : Mac) : SkOk (scanD d m).T s := by
  unfold scanD
  simp only
  split
  · exact h.miss8 m
  · split
    · exact h.hit8 m _
    · exact h
theorem SkOk.step8 {d : Dic} {s : Sk} (h : SkOk d.T s) (m : Mac) : SkOk (stepD d m).T s := by
  unfold stepD
  split
  · exact h
  · split
    · exact h.scan8 _
    · split
      · exact h.hit8 m _
      · exact h.scan8 m
end Go.Proofs.Ytcakdmapnmneoaa
