/- A machine begins; a new dictionary; its pairs (chapter 8). -/
import Derived.Test.YtcakdmapnmneoaaDictC
import Derived.MapKept
import Derived.Carry
namespace Go.Proofs.Ytcakdmapnmneoaa
open Go.RowKit
set_option linter.unusedVariables false
set_option linter.unusedSimpArgs false

def rowV (g : Nat) : Value := .agg #[.func (.func (hitF g)) #[] #[], .func (.func (missF g)) #[] #[]]
def rowsE : List MapEntry := [⟨.int .i64 1, rowV 1, 0⟩, ⟨.int .i64 2, rowV 2, 1⟩, ⟨.int .i64 3, rowV 3, 2⟩, ⟨.int .i64 4, rowV 4, 3⟩]
def rowsO (n : Nat) : Obj := .map (rowsE.take n).toArray n
theorem run_mapIns (w : World) (b clock : Nat) (es : Array MapEntry) (k : Int) (v : Value) (hb : w.heap[b]? = some (.map es clock)) (hf : Instr.findNow (.int .i64) (.int .i64 k) es.toList 0 = some none) :
    (Instr.mapUpdate 93 (.map (some b)) (.int .i64 k) v).run Try.prog w = .ok () { w with heap := w.heap.setIfInBounds b (.map (es.push ⟨.int .i64 k, v, clock⟩) (clock + 1)) } := by
  have hk := Try.underlying3
  have hc : (Instr.checkKey false 10000 3 (.int .i64 k)).run Try.prog w = .ok () w := MapKept.run_checkKey (k := .int .i64 k) hk (by simp [MapKept.IsKey]) false 9999
  simp [Instr.mapUpdate, run_underlying Try.underlying93, MapKept.run_getObj_map hb, hc, MapKept.run_findKey hk hf, MapKept.run_setObj_map _ hb, Result.andThen]
def mapW (w : World) (n : Nat) : World := { (w.alloc (.map #[] 0)) with heap := (w.alloc (.map #[] 0)).heap.setIfInBounds w.heap.size (rowsO n) }
theorem mapW_0 (w : World) : mapW w 0 = w.alloc (.map #[] 0) := by
  unfold mapW rowsO
  have h : (w.alloc (.map #[] 0)).heap[w.heap.size]? = some (.map #[] 0) := has_new _ _
  have hlt := lt_of_block h
  have e : (w.alloc (.map #[] 0)).heap.setIfInBounds w.heap.size (.map #[] 0) = (w.alloc (.map #[] 0)).heap := by
    apply Array.ext_getElem?
    intro i
    rw [Array.getElem?_setIfInBounds]
    split
    · rename_i hi
      subst hi
      exact h.symm
    · rfl
  simp only [List.take_zero]
  show ({ (w.alloc (.map #[] 0)) with heap := (w.alloc (.map #[] 0)).heap.setIfInBounds w.heap.size (.map #[] 0) } : World) = _
  rw [e]
theorem mapW_has (w : World) (n : Nat) : (mapW w n).heap[w.heap.size]? = some (rowsO n) := by
  unfold mapW
  have h : (w.alloc (.map #[] 0)).heap[w.heap.size]? = some (.map #[] 0) := has_new _ _
  have hlt := lt_of_block h
  show ((w.alloc (.map #[] 0)).heap.setIfInBounds w.heap.size (rowsO n))[w.heap.size]? = _
  rw [Array.getElem?_setIfInBounds, if_pos rfl, if_pos hlt]
theorem mapW_keeps (w : World) (n : Nat) : Keeps [] w (mapW w n) := by
  refine ((Keeps.refl [] w).alloc (.map #[] 0)).then (T := [w.heap.size]) ⟨rfl, rfl, rfl, ?_, fun k _ hk => ?_⟩ (by simp)
  · show _ ≤ ((w.alloc (.map #[] 0)).heap.setIfInBounds w.heap.size (rowsO n)).size
    simp
  · show ((w.alloc (.map #[] 0)).heap.setIfInBounds w.heap.size (rowsO n))[k]? = _
    rw [Array.getElem?_setIfInBounds, if_neg (by simp at hk; omega)]
theorem mapW_ins (w : World) (n : Nat) (hn : n < 4) : (Instr.mapUpdate 93 (.map (some w.heap.size)) (.int .i64 ((n + 1 : Nat) : Int)) (rowV (n + 1))).run Try.prog (mapW w n) = .ok () (mapW w (n + 1)) := by
  have hh : (mapW w n).heap[w.heap.size]? = some (.map (rowsE.take n).toArray n) := mapW_has w n
  have hf : Instr.findNow (.int .i64) (.int .i64 ((n + 1 : Nat) : Int)) (rowsE.take n).toArray.toList 0 = some none := by
    match n, hn with
    | 0, _ | 1, _ | 2, _ | 3, _ => rfl
  rw [run_mapIns (mapW w n) w.heap.size n _ _ _ hh hf]
  have e : ((rowsE.take n).toArray.push ⟨.int .i64 ((n + 1 : Nat) : Int), rowV (n + 1), n⟩) = (rowsE.take (n + 1)).toArray := by
    match n, hn with
    | 0, _ | 1, _ | 2, _ | 3, _ => rfl
  rw [e]
  congr 1
  unfold mapW
  simp only [World.mk.injEq]
  simp [rowsO]
set_option maxRecDepth 100000 in
theorem rows_any (w : World) : Calls Try.prog 37 #[] w fun r w' => r = .returned (.map (some w.heap.size)) ∧ w'.heap[w.heap.size]? = some (rowsO 4) ∧ Keeps [] w w' := by
  have hmm := @run_makeMap Try.prog
  have i0 : (Instr.mapUpdate 93 (.map (some w.heap.size)) (.int .i64 1) (.agg #[.func (.func 65) #[] #[], .func (.func 71) #[] #[]])).run Try.prog (w.alloc (.map #[] 0)) = .ok () (mapW w 1) := by
    have h := mapW_ins w 0 (by omega)
    rw [mapW_0 w] at h
    exact h
  have i1 : (Instr.mapUpdate 93 (.map (some w.heap.size)) (.int .i64 2) (.agg #[.func (.func 67) #[] #[], .func (.func 72) #[] #[]])).run Try.prog (mapW w 1) = .ok () (mapW w 2) := by
    have h := mapW_ins w 1 (by omega)
    skip
    exact h
  have i2 : (Instr.mapUpdate 93 (.map (some w.heap.size)) (.int .i64 3) (.agg #[.func (.func 69) #[] #[], .func (.func 71) #[] #[]])).run Try.prog (mapW w 2) = .ok () (mapW w 3) := by
    have h := mapW_ins w 2 (by omega)
    skip
    exact h
  have i3 : (Instr.mapUpdate 93 (.map (some w.heap.size)) (.int .i64 4) (.agg #[.func (.func 65) #[] #[], .func (.func 72) #[] #[]])).run Try.prog (mapW w 3) = .ok () (mapW w 4) := by
    have h := mapW_ins w 3 (by omega)
    skip
    exact h
  have H4 := Lib.hid (And.intro (mapW_has w 4) (mapW_keeps w 4))
  generalize mapW w 1 = W1 at *
  generalize mapW w 2 = W2 at *
  generalize mapW w 3 = W3 at *
  generalize mapW w 4 = W4 at *
  go_enter Try.func37, Try.ntmps37
  go_wp2_with fail
  go_ret
  exact ⟨rfl, H4.out.1, H4.out.2⟩
def noSk : Sk := ⟨0, 0, 0, 0, 0, 0, false⟩
/-- A machine that has not begun. -/
def newM (g : Nat) (h k v : Int) : Mac := ⟨g, h, k, v, 0, noSk, 0, 0, 0, noTrn⟩
def BeginP (db t : Nat) (g : Nat) (h k v : Int) (w : World) (r : Ending) (w' : World) : Prop :=
  ∃ mb, r = .returned (.pointer (some ⟨mb, 0, none⟩)) ∧ (∀ sb, MacAt mb sb db t (newM g h k v) w') ∧ w.heap.size ≤ mb ∧ Keeps [] w w'
theorem rows_get (w : World) (b : Nat) (g : Nat) (h1 : 1 ≤ g) (h4 : g ≤ 4) (hb : w.heap[b]? = some (rowsO 4)) :
    (Instr.lookup 93 (.map (some b)) (.int .i64 g) true).run Try.prog w = .ok (.tuple #[rowV g, .bool true]) w := by
  have hk := Try.underlying3
  have hc : (Instr.checkKey false 10000 3 (.int .i64 g)).run Try.prog w = .ok () w := MapKept.run_checkKey (k := .int .i64 g) hk (by simp [MapKept.IsKey]) false 9999
  have hf : ∃ i, Instr.findNow (.int .i64) (.int .i64 g) rowsE 0 = some (some (i, rowV g)) := by
    rcases (show g = 1 ∨ g = 2 ∨ g = 3 ∨ g = 4 by omega) with rfl | rfl | rfl | rfl
    · exact ⟨0, rfl⟩
    · exact ⟨1, rfl⟩
    · exact ⟨2, rfl⟩
    · exact ⟨3, rfl⟩
  obtain ⟨i, hf⟩ := hf
  have hb2 : w.heap[b]? = some (.map rowsE.toArray 4) := hb
  have hf2 := MapKept.run_findKey (w := w) hk hf
  have he : rowsE.toArray.isEmpty = false := rfl
  simp [Instr.lookup, run_underlying Try.underlying93, MapKept.run_getObj_map hb2, he, hc, hf2, Result.andThen]
set_option maxRecDepth 100000 in
theorem begin_any8 (db t : Nat) (g : Nat) (h k v : Int) (w : World) (h1 : 1 ≤ g) (h4 : g ≤ 4) :
    Calls Try.prog 13 #[.pointer (some ⟨db, 0, none⟩), .int .i64 g, .int .i64 h, .int .i64 k, .int .i64 v] w (BeginP db t g h k v w) := by
  go_enter Try.func13, Try.ntmps13
  go_wp2_with fail
  refine (rows_any w).mono ?_
  rintro r w1 ⟨rfl, b1, k1⟩
  have hget := rows_get w1 w.heap.size g h1 h4 b1
  unfold rowV at hget
  obtain ⟨hf, hhf⟩ : ∃ hf, Hid (hf = hitF g) := ⟨_, Lib.hid rfl⟩
  obtain ⟨mf, hmf⟩ : ∃ mf, Hid (mf = missF g) := ⟨_, Lib.hid rfl⟩
  rw [← hhf.out, ← hmf.out] at hget
  have K1 := Lib.hid k1
  clear b1 k1
  go_wp2_with fail
  go_ret
  have b2 := has_new (w1.alloc (.cells #[.func (.func hf) #[] #[], .func (.func mf) #[] #[]] 91)) (.cells #[.pointer none, .pointer (some ⟨db, 0, none⟩), .func (.func hf) #[] #[], .func (.func mf) #[] #[], .int .i64 h, .int .i64 k, .int .i64 v, .int .i64 0, .int .i64 0, .int .i64 0, .int .u64 0, .int .i64 0, .int .i64 0, .bool false, .int .i64 0, .int .i64 0] 97)
  refine ⟨w1.heap.size + 1, by simp, fun sb => ⟨0, ?_, fun _ => rfl, fun hs => absurd rfl hs⟩, by have := K1.out.size; omega, (K1.out.alloc _).alloc _⟩
  simp only [World.size_alloc] at b2
  rw [b2]
  rw [hhf.out, hmf.out]
  rfl
theorem newM_ok (d : Dic) (g : Nat) (h k v : Int) (h1 : 1 ≤ g) (h4 : g ≤ 4) : MacOk d (newM g h k v) :=
  ⟨h1, h4, by show 0 ≤ 4; omega, fun hs => absurd rfl hs, fun hs => (by rcases hs with hs | hs <;> cases hs), Nat.zero_le _⟩
def newD (most : Int) : Dic := ⟨newT, most, 0⟩
theorem newD_ok (most : Int) : DicOk 0 (newD most) := ⟨TInv.new, by show 0 ≤ 0; omega⟩
def New8P (most : Int) (m : Option Nat) (c : C4) (w : World) (r : Ending) (w' : World) : Prop :=
  ∃ db t S, r = .returned (.tuple #[.pointer (some ⟨db, 0, none⟩), .int .i64 0]) ∧ DicAt db t w.heap.size S (mV m) (newD most) w' ∧ MtrAt m c.tab w' ∧ Keeps (mS m) w w' ∧ db < w'.heap.size
theorem new8_any (most : Int) (m : Option Nat) (c : C4) (w : World) (hM : MtrAt m c w) (h0 : 0 ≤ most) (h1 : most ≤ 65536) :
    Calls Try.prog 12 #[.int .i64 most, mV m] w (New8P most m c w) := by
  have HM := Lib.hid hM
  have d0 : decide (most < 0) = false := by simp; omega
  have d1 : decide ((65536 : Int) < most) = false := by simp; omega
  obtain ⟨v1, hv1⟩ : ∃ v1, Hid (v1 = mV m) := ⟨_, Lib.hid rfl⟩
  rw [← hv1.out]
  clear hM
  go_enter Try.func12, Try.ntmps12
  go_wp2_with fail
  rw [hv1.out]
  refine (newt_any m c _ HM.out).mono ?_
  rintro r w1 ⟨t, S, rfl, t1, m1, k1⟩
  have T1 := Lib.hid t1
  have M1 := Lib.hid m1
  have K1 := Lib.hid k1
  clear t1 m1 k1
  go_wp2_with fail
  go_ret2
  have ka : Keeps [] w1 (w1.alloc (.cells #[.pointer (some ⟨t, 0, none⟩), .int .i64 most, .int .u64 0] 80)) := (Keeps.refl [] w1).alloc _
  exact ⟨w1.heap.size, t, S, rfl, ⟨has_new _ _, T1.out.keeps ka (by simp), fun hx => by have := (T1.out.foot _ hx).2; omega, K1.out.size⟩, M1.out.keeps ka (by simp), K1.out.trans (ka.mono (by simp)), by simp⟩
theorem dsight_any (db t lo : Nat) (S : List Nat) (mv : Value) (d : Dic) (w : World) (H : DicAt db t lo S mv d w) (hL : d.T.L ≤ 20) (hF : Fits (2 ^ d.T.L) d.T.V) (hl : d.T.E.length ≤ 1000000) :
    Calls Try.prog 22 #[.pointer (some ⟨db, 0, none⟩)] w (SightP d.T w) := by
  have HD := Lib.hid H
  have HF := Lib.hid hF
  have k0 : Keeps [] w (w.alloc (.cells #[.int .i64 0, .int .i64 0, .slice none 0 0, .slice none 0 0, .int .i64 0, .int .i64 0, .int .i64 0] 43)) := (Keeps.refl [] w).alloc _
  have K0 := Lib.hid k0
  have b0 : (w.alloc (.cells #[.int .i64 0, .int .i64 0, .slice none 0 0, .slice none 0 0, .int .i64 0, .int .i64 0, .int .i64 0] 43)).heap[w.heap.size]? = some (.cells #[.int .i64 0, .int .i64 0, .slice none 0 0, .slice none 0 0, .int .i64 0, .int .i64 0, .int .i64 0] 43 (0, 0)) := has_new _ _
  have B0 := Lib.hid b0
  clear H hF k0 b0
  go_enter Try.func22, Try.ntmps22
  go_wp2_with fail
  refine (dtable_any db t d.most d.ver _ (K0.out.has HD.out.b (by simp))).mono ?_
  rintro r w1 ⟨rfl, rfl⟩
  go_wp2_with fail
  refine (sight_any t lo S mv d.T _ (HD.out.t.keeps K0.out (by simp)) hL HF.out hl).mono ?_
  rintro r w2 ⟨ca, cc, ea, ec, rfl, g1, g2, b2⟩
  have b3 := (Below.keeps b2 []).has B0.out (by simp)
  have G1 := Lib.hid g1
  have G2 := Lib.hid g2
  have K2 := Lib.hid (Below.keeps b2 [])
  have c0 := cell_has b3 (i := 0) rfl
  have c1 := cell_has b3 (i := 1) rfl
  have c2 := cell_has b3 (i := 2) rfl
  have c3 := cell_has b3 (i := 3) rfl
  have c4 := cell_has b3 (i := 4) rfl
  have c5 := cell_has b3 (i := 5) rfl
  have c6 := cell_has b3 (i := 6) rfl
  have f0 := free_of_has b3 0
  have f1 := free_of_has b3 1
  have f2 := free_of_has b3 2
  have f3 := free_of_has b3 3
  have f4 := free_of_has b3 4
  have f5 := free_of_has b3 5
  have f6 := free_of_has b3 6
  have B3 := Lib.hid b3
  obtain ⟨en, hen⟩ := ex_hid d.T.E.length
  obtain ⟨cn, hcn⟩ := ex_hid (2 ^ d.T.L)
  rw [← hen.out, ← hcn.out]
  unfold sightAgg
  clear g1 g2 b2 b3
  go_wp2_with fail
  have s1 := sight_store d.T (.slice ca cn cc) (.slice ea en ec) B3.out
  have rc := cell_of_has s1
  have k9 : Keeps [w.heap.size] w2 (((((((w2.setCell ⟨w.heap.size, 0, none⟩ (.int .i64 d.T.L)).setCell ⟨w.heap.size, 1, none⟩ (.int .i64 (wdOf d.T.L))).setCell ⟨w.heap.size, 2, none⟩ (.slice ca cn cc)).setCell ⟨w.heap.size, 3, none⟩ (.slice ea en ec)).setCell ⟨w.heap.size, 4, none⟩ (.int .i64 (liveN d.T.E : Nat))).setCell ⟨w.heap.size, 5, none⟩ (.int .i64 d.T.births)).setCell ⟨w.heap.size, 6, none⟩ (.int .i64 d.T.made)) := (((((((Keeps.refl _ _).setCell (.inr (by simp)) _).setCell (.inr (by simp)) _).setCell (.inr (by simp)) _).setCell (.inr (by simp)) _).setCell (.inr (by simp)) _).setCell (.inr (by simp)) _).setCell (.inr (by simp)) _
  refine bodyPost_ret (v := sightAgg d.T (.slice ca cn cc) (.slice ea en ec)) (by simp [results, Try.results22, go_sem, rc, sightAgg]) rfl ⟨ca, cc, ea, ec, by rw [hen.out, hcn.out], ?_, ?_, ?_⟩
  · have h9 := G1.out
    simp only [World.size_alloc] at h9
    exact (h9.keeps k9 (fun x hx => by have := (h9.blk_lt x hx).1; simp; omega)).mono (by omega)
  · have h9 := G2.out
    simp only [World.size_alloc] at h9
    exact (h9.keeps k9 (fun x hx => by have := (h9.blk_lt x hx).1; simp; omega)).lift (fun x hx => by have := (h9.blk_lt x hx).1; omega)
  · exact ((K0.out.trans K2.out).then k9 (S := []) (by intro z hz; simp at hz; left; omega)).below (Nat.le_refl _) (by simp)
end Go.Proofs.Ytcakdmapnmneoaa
