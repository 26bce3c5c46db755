/- An iterator of a table's entries is gone through (chapter 7). -/
import Derived.Test.YtajcbghhpjpmhaaTabCall
namespace Go.Proofs.Ytajcbghhpjpmhaa
open Go.RowKit
set_option linter.unusedVariables false
set_option linter.unusedSimpArgs false

/-- What goes has laid down. -/
structure GoAt (bb bs bl bm bn bo bv lo : Nat) (bk : Bool) (stop : Int) (a1 : Option Addr) (c1 : Nat) (a2 : Option Addr) (c2 : Nat) (N : List (Nat × Ent)) (n : Nat) (over : Bool) (W : World) : Prop where
  b : W.heap[bb]? = some (.cells #[.bool bk] 4 (0, 0))
  s : W.heap[bs]? = some (.cells #[.int .i64 stop] 3 (0, 0))
  l : W.heap[bl]? = some (.cells #[.slice a1 N.length c1] 25 (0, 0))
  m : W.heap[bm]? = some (.cells #[.slice a2 N.length c2] 22 (0, 0))
  n : W.heap[bn]? = some (.cells #[.int .i64 n] 3 (0, 0))
  o : W.heap[bo]? = some (.cells #[.bool true] 4 (0, 0))
  v : W.heap[bv]? = some (.cells #[.bool over] 4 (0, 0))
  rl : EntRow lo a1 c1 (N.map (·.2)) W
  rm : ValRow 3 lo a2 N.length c2 (numV N) W
/-- Where these lie. -/
def GoOrd (bb bs bl bm bn bo bv lo : Nat) (a1 a2 : Option Addr) : Prop := bb < bs ∧ bs < bl ∧ bl < bm ∧ bm < bn ∧ bn < bo ∧ bo < bv ∧ (∀ x, x ∈ blk a1 → x < bn ∧ x ≠ bb) ∧ (∀ x, x ∈ blk a2 → x < bn)
section
variable {bb bs bl bm bn bo bv lo : Nat} {bk : Bool} {stop : Int} {a1 a2 : Option Addr} {c1 c2 : Nat} {N : List (Nat × Ent)} {n : Nat} {over : Bool} {W W' : World}
theorem GoAt.keeps (h : GoAt bb bs bl bm bn bo bv lo bk stop a1 c1 a2 c2 N n over W) (k : Keeps [] W W') : GoAt bb bs bl bm bn bo bv lo bk stop a1 c1 a2 c2 N n over W' :=
  ⟨k.has h.b (by simp), k.has h.s (by simp), k.has h.l (by simp), k.has h.m (by simp), k.has h.n (by simp), k.has h.o (by simp), k.has h.v (by simp), h.rl.keeps k (by simp), h.rm.keeps k (by simp)⟩
end
set_option maxRecDepth 100000 in
set_option maxHeartbeats 4000000 in
/-- One thing is handed. -/
theorem goesf_any (bb bs bl bm bn bo bv lo : Nat) (bk : Bool) (stop : Int) (a1 : Option Addr) (c1 : Nat) (a2 : Option Addr) (c2 : Nat) (N : List (Nat × Ent)) (i k : Nat) (W : World) (hN : N.length ≤ 1000000) (hi : i < N.length) (hk : k = if bk then N.length - 1 - i else i)
    (hO : GoOrd bb bs bl bm bn bo bv lo a1 a2) (H : GoAt bb bs bl bm bn bo bv lo bk stop a1 c1 a2 c2 N i false W) :
    Calls Try.prog 73 (encN N k ++ #[.pointer (some ⟨bn, 0, none⟩), .pointer (some ⟨bb, 0, none⟩), .pointer (some ⟨bl, 0, none⟩), .pointer (some ⟨bo, 0, none⟩), .pointer (some ⟨bv, 0, none⟩), .pointer (some ⟨bm, 0, none⟩), .pointer (some ⟨bs, 0, none⟩)]) W fun e B =>
      GoAt bb bs bl bm bn bo bv lo bk stop a1 c1 a2 c2 N (i + 1) (((i + 1 : Nat) : Int) == stop) B ∧ e = .returned (.bool !(((i + 1 : Nat) : Int) == stop)) ∧ Keeps [bn, bo, bv] W B := by
  have hkN : k < N.length := by rw [hk]; split <;> omega
  obtain ⟨o1, o2, o3, o4, o5, o6, o7, o8⟩ := hO
  obtain ⟨n, hn⟩ := ex_hid N.length
  have hx : (N.map (·.2))[k]? = some (N.getD k (0, noE)).2 := by rw [List.getElem?_map, nuget hkN]; rfl
  obtain ⟨g1, rfl⟩ := H.rl.shape (by simp; omega)
  obtain ⟨g2, rfl⟩ := H.rm.shape (by omega)
  obtain ⟨u0, u1, u2, u3, u4⟩ := H.rl.five hx
  have uv : W.cell? ⟨g2, k, none⟩ = some (.int .i64 ((N.getD k (0, noE)).1 : Nat)) := H.rm.cell hkN
  have HH := Lib.hid H
  have lW : bv < W.heap.size := lt_of_block H.v
  have lg1 : g1 < bn ∧ g1 ≠ bb := o7 g1 (by simp [blk])
  have lg2 : g2 < bn := o8 g2 (by simp [blk])
  have O := Lib.hid (And.intro o7 o8)
  have xb : W.cell? ⟨bb, 0, none⟩ = some (.bool bk) := cell_has H.b (i := 0) rfl
  have xs : W.cell? ⟨bs, 0, none⟩ = some (.int .i64 stop) := cell_has H.s (i := 0) rfl
  have xl : W.cell? ⟨bl, 0, none⟩ = some (.slice (some ⟨g1, 0, none⟩) n c1) := by rw [hn.out]; exact cell_has H.l (i := 0) rfl
  have xm : W.cell? ⟨bm, 0, none⟩ = some (.slice (some ⟨g2, 0, none⟩) n c2) := by rw [hn.out]; exact cell_has H.m (i := 0) rfl
  have xn : W.cell? ⟨bn, 0, none⟩ = some (.int .i64 i) := cell_has H.n (i := 0) rfl
  have xo : W.cell? ⟨bo, 0, none⟩ = some (.bool true) := cell_has H.o (i := 0) rfl
  have xv : W.cell? ⟨bv, 0, none⟩ = some (.bool false) := cell_has H.v (i := 0) rfl
  have hki : (k : Int) = if bk then (n : Int) - 1 - i else i := by rw [hk, hn.out]; cases bk <;> simp <;> omega
  have hq := fun w => eql_ent (N.getD k (0, noE)).2 (N.getD k (0, noE)).2 w
  simp only [decide_true] at hq
  simp only [encN]
  have hkn : (k : Int) < (n : Int) := by rw [hn.out]; omega
  have hkn2 : k < n := by rw [hn.out]; exact hkN
  have hin : (i : Int) < (n : Int) := by rw [hn.out]; omega
  have hn6 : (n : Int) ≤ 1000000 := by rw [hn.out]; omega
  generalize N.getD k (0, noE) = p at *
  obtain ⟨p0, y0, y1, y2, y3, y4⟩ := p
  simp only [Ent.agg] at u0 u1 u2 u3 u4 uv hq ⊢
  have k0 : (0 : Int) ≤ (k : Int) := by omega
  have i0 : (0 : Int) ≤ (i : Int) := by omega
  obtain ⟨W1, hW1⟩ : ∃ W1, W.alloc (.cells #[.bool y0, .int .i64 y1, .int .i64 y2, .int .i64 y3, .int .i64 y4] 32) = W1 := ⟨_, rfl⟩
  have kA : Keeps [] W W1 := by rw [← hW1]; exact (Keeps.refl [] W).alloc _
  have bX : W1.heap[W.heap.size]? = some (.cells #[.bool y0, .int .i64 y1, .int .i64 y2, .int .i64 y3, .int .i64 y4] 32 (0, 0)) := by rw [← hW1]; exact has_new _ _
  have HW1 := Lib.hid hW1
  have KA := Lib.hid kA
  have z0 : W1.cell? ⟨W.heap.size, 0, none⟩ = some (.bool y0) := cell_has bX (i := 0) rfl
  have z1 : W1.cell? ⟨W.heap.size, 1, none⟩ = some (.int .i64 y1) := cell_has bX (i := 1) rfl
  have z2 : W1.cell? ⟨W.heap.size, 2, none⟩ = some (.int .i64 y2) := cell_has bX (i := 2) rfl
  have z3 : W1.cell? ⟨W.heap.size, 3, none⟩ = some (.int .i64 y3) := cell_has bX (i := 3) rfl
  have z4 : W1.cell? ⟨W.heap.size, 4, none⟩ = some (.int .i64 y4) := cell_has bX (i := 4) rfl
  replace u0 := kA.cell u0 (by simp)
  replace u1 := kA.cell u1 (by simp)
  replace u2 := kA.cell u2 (by simp)
  replace u3 := kA.cell u3 (by simp)
  replace u4 := kA.cell u4 (by simp)
  replace uv := kA.cell uv (by simp)
  replace xb := kA.cell xb (by simp)
  replace xs := kA.cell xs (by simp)
  replace xl := kA.cell xl (by simp)
  replace xm := kA.cell xm (by simp)
  replace xn := kA.cell xn (by simp)
  replace xo := kA.cell xo (by simp)
  replace xv := kA.cell xv (by simp)
  have fo : W1.frozen? ⟨bo, 0, none⟩ = false := free_of_has (kA.has HH.out.o (by simp)) 0
  clear H hx hk kA bX hW1 hi hN hkN o7 o8
  go_enter Try.func73, Try.ntmps73
  go_upto_region 1 with (fail)
  rw [HW1.out]
  cases bk
  · simp only [Bool.false_eq_true, if_false] at hki
    have hkk : i = k := by omega
    clear hki
    subst hkk
    go_upto_region 4 with (fail)
    refine wp_regionG (fun w' => w'.cell? ⟨bn, 0, none⟩ = some (.int .i64 i) ∧ w'.cell? ⟨bl, 0, none⟩ = some (.slice (some ⟨g1, 0, none⟩) n c1) ∧ w'.cell? ⟨bm, 0, none⟩ = some (.slice (some ⟨g2, 0, none⟩) n c2) ∧ w'.cell? ⟨bo, 0, none⟩ = some (.bool true) ∧ w'.cell? ⟨bv, 0, none⟩ = some (.bool false) ∧ w'.cell? ⟨g2, i, none⟩ = some (.int .i64 (p0 : Nat)) ∧ w'.cell? ⟨g1, i * 5, none⟩ = some (.bool y0) ∧ w'.cell? ⟨g1, i * 5 + 1, none⟩ = some (.int .i64 y1) ∧ w'.cell? ⟨g1, i * 5 + 2, none⟩ = some (.int .i64 y2) ∧ w'.cell? ⟨g1, i * 5 + 3, none⟩ = some (.int .i64 y3) ∧ w'.cell? ⟨g1, i * 5 + 4, none⟩ = some (.int .i64 y4) ∧ w'.cell? ⟨W.heap.size, 0, none⟩ = some (.bool y0) ∧ w'.cell? ⟨W.heap.size, 1, none⟩ = some (.int .i64 y1) ∧ w'.cell? ⟨W.heap.size, 2, none⟩ = some (.int .i64 y2) ∧ w'.cell? ⟨W.heap.size, 3, none⟩ = some (.int .i64 y3) ∧ w'.cell? ⟨W.heap.size, 4, none⟩ = some (.int .i64 y4)) 27 (by kernel_rfl) ⟨xn, xl, xm, xo, xv, uv, u0, u1, u2, u3, u4, z0, z1, z2, z3, z4⟩ (fun hF => ?_)
    refine wpAnyG_take (i := 0) (v := ?_) rfl (by kernel_rfl) (by decide +kernel) (by decide +kernel) (by decide +kernel) (by decide +kernel) (by rfl) (fun _ _ _ h => h) (by kernel_rfl) ?_ (by assumption) ?_
    rotate_left
    · (intro wz hSw; (try dsimp only at hSw); go_simp; with_reducible rfl)
    try simp only [Act.put, List.setIfInBounds_toArray, List.set_cons_zero, List.set_cons_succ]
    refine wpAnyG_takeY (i := 1) (v := ?_) rfl (by kernel_rfl) (by decide +kernel) (by decide +kernel) (by decide +kernel) (fun _ _ _ h => h) (by kernel_rfl) ?_ (by assumption) ?_
    rotate_left
    · (intro wz; go_simp; with_reducible rfl)
    try simp only [Act.put, List.setIfInBounds_toArray, List.set_cons_zero, List.set_cons_succ]
    refine wpAnyG_take (i := 2) (v := ?_) rfl (by kernel_rfl) (by decide +kernel) (by decide +kernel) (by decide +kernel) (by decide +kernel) (by rfl) (fun _ _ _ h => h) (by kernel_rfl) ?_ (by assumption) ?_
    rotate_left
    · (intro wz hSw; (try dsimp only at hSw); go_simp; with_reducible rfl)
    try simp only [Act.put, List.setIfInBounds_toArray, List.set_cons_zero, List.set_cons_succ]
    refine wpAnyG_takeY (i := 3) (v := ?_) rfl (by kernel_rfl) (by decide +kernel) (by decide +kernel) (by decide +kernel) (fun _ _ _ h => h) (by kernel_rfl) ?_ (by assumption) ?_
    rotate_left
    · (intro wz; go_simp; with_reducible rfl)
    try simp only [Act.put, List.setIfInBounds_toArray, List.set_cons_zero, List.set_cons_succ]
    refine wpAnyG_takeY (i := 4) (v := ?_) rfl (by kernel_rfl) (by decide +kernel) (by decide +kernel) (by decide +kernel) (fun _ _ _ h => h) (by kernel_rfl) ?_ (by assumption) ?_
    rotate_left
    · (intro wz; go_simp; with_reducible rfl)
    try simp only [Act.put, List.setIfInBounds_toArray, List.set_cons_zero, List.set_cons_succ]
    refine wpAnyG_takeY (i := 5) (v := ?_) rfl (by kernel_rfl) (by decide +kernel) (by decide +kernel) (by decide +kernel) (fun _ _ _ h => h) (by kernel_rfl) ?_ (by assumption) ?_
    rotate_left
    · (intro wz; go_simp; with_reducible rfl)
    try simp only [Act.put, List.setIfInBounds_toArray, List.set_cons_zero, List.set_cons_succ]
    refine wpAnyG_take (i := 6) (v := ?_) rfl (by kernel_rfl) (by decide +kernel) (by decide +kernel) (by decide +kernel) (by decide +kernel) (by rfl) (fun _ _ _ h => h) (by kernel_rfl) ?_ (by assumption) ?_
    rotate_left
    · (intro wz hSw; (try dsimp only at hSw); go_simp; with_reducible rfl)
    try simp only [Act.put, List.setIfInBounds_toArray, List.set_cons_zero, List.set_cons_succ]
    refine wpAnyG_take (i := 7) (v := ?_) rfl (by kernel_rfl) (by decide +kernel) (by decide +kernel) (by decide +kernel) (by decide +kernel) (by rfl) (fun _ _ _ h => h) (by kernel_rfl) ?_ (by assumption) ?_
    rotate_left
    · (intro wz hSw; (try dsimp only at hSw); go_simp; with_reducible rfl)
    try simp only [Act.put, List.setIfInBounds_toArray, List.set_cons_zero, List.set_cons_succ]
    refine wpAnyG_takeY (i := 8) (v := ?_) rfl (by kernel_rfl) (by decide +kernel) (by decide +kernel) (by decide +kernel) (fun _ _ _ h => h) (by kernel_rfl) ?_ (by assumption) ?_
    rotate_left
    · (intro wz; go_simp; with_reducible rfl)
    try simp only [Act.put, List.setIfInBounds_toArray, List.set_cons_zero, List.set_cons_succ]
    refine wpAnyG_takeY (i := 9) (v := ?_) rfl (by kernel_rfl) (by decide +kernel) (by decide +kernel) (by decide +kernel) (fun _ _ _ h => h) (by kernel_rfl) ?_ (by assumption) ?_
    rotate_left
    · (intro wz; go_simp; with_reducible rfl)
    try simp only [Act.put, List.setIfInBounds_toArray, List.set_cons_zero, List.set_cons_succ]
    refine wpAnyG_takeY (i := 10) (v := ?_) rfl (by kernel_rfl) (by decide +kernel) (by decide +kernel) (by decide +kernel) (fun _ _ _ h => h) (by kernel_rfl) ?_ (by assumption) ?_
    rotate_left
    · (intro wz; go_simp; with_reducible rfl)
    try simp only [Act.put, List.setIfInBounds_toArray, List.set_cons_zero, List.set_cons_succ]
    refine wpAnyG_takeY (i := 11) (v := ?_) rfl (by kernel_rfl) (by decide +kernel) (by decide +kernel) (by decide +kernel) (fun _ _ _ h => h) (by kernel_rfl) ?_ (by assumption) ?_
    rotate_left
    · (intro wz; go_simp; with_reducible rfl)
    try simp only [Act.put, List.setIfInBounds_toArray, List.set_cons_zero, List.set_cons_succ]
    refine wpAnyG_takeY (i := 12) (v := ?_) rfl (by kernel_rfl) (by decide +kernel) (by decide +kernel) (by decide +kernel) (fun _ _ _ h => h) (by kernel_rfl) ?_ (by assumption) ?_
    rotate_left
    · (intro wz; go_simp; with_reducible rfl)
    try simp only [Act.put, List.setIfInBounds_toArray, List.set_cons_zero, List.set_cons_succ]
    refine wpAnyG_take (i := 13) (v := ?_) rfl (by kernel_rfl) (by decide +kernel) (by decide +kernel) (by decide +kernel) (by decide +kernel) (by rfl) (fun _ _ _ h => h) (by kernel_rfl) ?_ (by assumption) ?_
    rotate_left
    · (intro wz hSw; (try dsimp only at hSw); go_simp; with_reducible rfl)
    try simp only [Act.put, List.setIfInBounds_toArray, List.set_cons_zero, List.set_cons_succ]
    refine wpAnyG_takeY (i := 14) (v := ?_) rfl (by kernel_rfl) (by decide +kernel) (by decide +kernel) (by decide +kernel) (fun _ _ _ h => h) (by kernel_rfl) ?_ (by assumption) ?_
    rotate_left
    · (intro wz; go_simp; with_reducible rfl)
    try simp only [Act.put, List.setIfInBounds_toArray, List.set_cons_zero, List.set_cons_succ]
    refine wpAnyG_takeY (i := 15) (v := ?_) rfl (by kernel_rfl) (by decide +kernel) (by decide +kernel) (by decide +kernel) (fun _ _ _ h => h) (by kernel_rfl) ?_ (by assumption) ?_
    rotate_left
    · (intro wz; go_simp; with_reducible rfl)
    try simp only [Act.put, List.setIfInBounds_toArray, List.set_cons_zero, List.set_cons_succ]
    refine wpAnyG_take (i := 16) (v := ?_) rfl (by kernel_rfl) (by decide +kernel) (by decide +kernel) (by decide +kernel) (by decide +kernel) (by rfl) (fun _ _ _ h => h) (by kernel_rfl) ?_ (by assumption) ?_
    rotate_left
    · (intro wz hSw; (try dsimp only at hSw); go_simp; with_reducible rfl)
    try simp only [Act.put, List.setIfInBounds_toArray, List.set_cons_zero, List.set_cons_succ]
    refine wpAnyG_takeY (i := 17) (v := ?_) rfl (by kernel_rfl) (by decide +kernel) (by decide +kernel) (by decide +kernel) (fun _ _ _ h => h) (by kernel_rfl) ?_ (by assumption) ?_
    rotate_left
    · (intro wz; go_simp; with_reducible rfl)
    try simp only [Act.put, List.setIfInBounds_toArray, List.set_cons_zero, List.set_cons_succ]
    refine wpAnyG_takeY (i := 18) (v := ?_) rfl (by kernel_rfl) (by decide +kernel) (by decide +kernel) (by decide +kernel) (fun _ _ _ h => h) (by kernel_rfl) ?_ (by assumption) ?_
    rotate_left
    · (intro wz; go_simp; with_reducible rfl)
    try simp only [Act.put, List.setIfInBounds_toArray, List.set_cons_zero, List.set_cons_succ]
    refine wpAnyG_takeY (i := 19) (v := ?_) rfl (by kernel_rfl) (by decide +kernel) (by decide +kernel) (by decide +kernel) (fun _ _ _ h => h) (by kernel_rfl) ?_ (by assumption) ?_
    rotate_left
    · (intro wz; go_simp; with_reducible rfl)
    try simp only [Act.put, List.setIfInBounds_toArray, List.set_cons_zero, List.set_cons_succ]
    refine wpAnyG_take (i := 20) (v := ?_) rfl (by kernel_rfl) (by decide +kernel) (by decide +kernel) (by decide +kernel) (by decide +kernel) (by rfl) (fun _ _ _ h => h) (by kernel_rfl) ?_ (by assumption) ?_
    rotate_left
    · (intro wz hSw; (try dsimp only at hSw); go_simp; with_reducible rfl)
    try simp only [Act.put, List.setIfInBounds_toArray, List.set_cons_zero, List.set_cons_succ]
    refine wpAnyG_take (i := 21) (v := ?_) rfl (by kernel_rfl) (by decide +kernel) (by decide +kernel) (by decide +kernel) (by decide +kernel) (by rfl) (fun _ _ _ h => h) (by kernel_rfl) ?_ (by assumption) ?_
    rotate_left
    · (intro wz hSw; (try dsimp only at hSw); go_simp; with_reducible rfl)
    try simp only [Act.put, List.setIfInBounds_toArray, List.set_cons_zero, List.set_cons_succ]
    refine wpAnyG_takeY (i := 22) (v := ?_) rfl (by kernel_rfl) (by decide +kernel) (by decide +kernel) (by decide +kernel) (fun _ _ _ h => h) (by kernel_rfl) ?_ (by assumption) ?_
    rotate_left
    · (intro wz; go_simp; with_reducible rfl)
    try simp only [Act.put, List.setIfInBounds_toArray, List.set_cons_zero, List.set_cons_succ]
    refine wpAnyG_takeY (i := 23) (v := ?_) rfl (by kernel_rfl) (by decide +kernel) (by decide +kernel) (by decide +kernel) (fun _ _ _ h => h) (by kernel_rfl) ?_ (by assumption) ?_
    rotate_left
    · (intro wz; go_simp; with_reducible rfl)
    try simp only [Act.put, List.setIfInBounds_toArray, List.set_cons_zero, List.set_cons_succ]
    refine wpAnyG_take (i := 24) (v := ?_) rfl (by kernel_rfl) (by decide +kernel) (by decide +kernel) (by decide +kernel) (by decide +kernel) (by rfl) (fun _ _ _ h => h) (by kernel_rfl) ?_ (by assumption) ?_
    rotate_left
    · (intro wz hSw; (try dsimp only at hSw); go_simp; with_reducible rfl)
    try simp only [Act.put, List.setIfInBounds_toArray, List.set_cons_zero, List.set_cons_succ]
    refine wpAnyG_takeY (i := 25) (v := ?_) rfl (by kernel_rfl) (by decide +kernel) (by decide +kernel) (by decide +kernel) (fun _ _ _ h => h) (by kernel_rfl) ?_ (by assumption) ?_
    rotate_left
    · (intro wz; go_simp; with_reducible rfl)
    try simp only [Act.put, List.setIfInBounds_toArray, List.set_cons_zero, List.set_cons_succ]
    refine wpAnyG_takeY (i := 26) (v := ?_) rfl (by kernel_rfl) (by decide +kernel) (by decide +kernel) (by decide +kernel) (fun _ _ _ h => h) (by kernel_rfl) ?_ (by assumption) ?_
    rotate_left
    · (intro wz; go_simp; with_reducible rfl)
    try simp only [Act.put, List.setIfInBounds_toArray, List.set_cons_zero, List.set_cons_succ]
    refine wpAnyG_last rfl (by kernel_rfl) (by rfl) (by rfl) (fun K hK => ?_)
    have HK := Lib.hid hK
    clear hK
    go_simp
    refine HK.out _ _ ?_
    clear HK K hF
    refine wpAnyG_done (by kernel_rfl) ?_ _
    go_simp
    go_upto_region 5 with (fail)
    refine wp_gen (fun V => V.heap[bo]? = some (.cells #[.bool true] 4 (0, 0)) ∧ Keeps [bo] W1 V) ?_ ?_
    · first
        | exact ⟨has_drew (has_setCell (KA.out.has HH.out.o (by simp)) 0 (.bool true)), ((Keeps.refl [bo] W1).setCell (p := ⟨bo, 0, none⟩) (.inr (by simp)) _).drew⟩
        | exact ⟨has_setCell (has_drew (KA.out.has HH.out.o (by simp))) 0 (.bool true), ((Keeps.refl [bo] W1).drew).setCell (p := ⟨bo, 0, none⟩) (.inr (by simp)) _⟩
    rintro W2 ⟨v2, k2⟩
    have V2 := Lib.hid v2
    have K2 := Lib.hid k2
    replace xn := k2.cell xn (by simp; omega)
    have fn := free_of_has (k2.has (KA.out.has HH.out.n (by simp)) (by simp; omega)) 0
    clear u0 u1 u2 u3 u4 uv z0 z1 z2 z3 z4 xb xl xm xo fo
    clear v2 k2
    go_upto_region 6 with (fail)
    refine wp_gen (fun V => V.heap[bn]? = some (.cells #[.int .i64 ((i : Int) + 1)] 3 (0, 0)) ∧ Keeps [bn] W2 V) ⟨by exact has_setCell (K2.out.has (KA.out.has HH.out.n (by simp)) (by simp; omega)) 0 _, by exact (Keeps.refl _ _).setCell (.inr (by simp)) _⟩ ?_
    rintro W3 ⟨v3, k3⟩
    have V3 := Lib.hid v3
    have K3 := Lib.hid k3
    have xo : W3.cell? ⟨bo, 0, none⟩ = some (.bool true) := k3.cell (cell_has V2.out (i := 0) rfl) (by simp; omega)
    have xn3 : W3.cell? ⟨bn, 0, none⟩ = some (.int .i64 ((i : Int) + 1)) := cell_has v3 (i := 0) rfl
    replace xs := k3.cell (K2.out.cell xs (by simp; omega)) (by simp; omega)
    have fv := free_of_has (k3.has (K2.out.has (KA.out.has HH.out.v (by simp)) (by simp; omega)) (by simp; omega)) 0
    replace xv := k3.cell (K2.out.cell xv (by simp; omega)) (by simp; omega)
    clear v3 k3 xn fn
    go_upto_region 7 with (fail)
    obtain ⟨q, hq⟩ : ∃ q : Bool, Hid (q = (((i : Int) + 1) == stop)) := ⟨_, Lib.hid rfl⟩
    refine wp_gen (fun V => V.heap[bv]? = some (.cells #[.bool q] 4 (0, 0)) ∧ Keeps [bv] W3 V) ⟨by rw [hq.out]; exact has_setCell (K3.out.has (K2.out.has (KA.out.has HH.out.v (by simp)) (by simp; omega)) (by simp; omega)) 0 _, by exact (Keeps.refl _ _).setCell (.inr (by simp)) _⟩ ?_
    rintro W4 ⟨v4, k4⟩
    have V4 := Lib.hid v4
    have K4 := Lib.hid k4
    have xv4 : W4.cell? ⟨bv, 0, none⟩ = some (.bool q) := cell_has v4 (i := 0) rfl
    clear v4 k4 xo xn3 xs fv xv
    go_wp2_with fail
    go_ret
    have K := (((KA.out.mono (T := [bn, bo, bv]) (by simp)).trans (K2.out.mono (by simp))).trans (K3.out.mono (by simp))).trans (K4.out.mono (T := [bn, bo, bv]) (by simp))
    have ei : (((i + 1 : Nat) : Int) == stop) = q := by rw [hq.out]; simp
    rw [ei]
    refine ⟨⟨K.has HH.out.b (by simp; omega), K.has HH.out.s (by simp; omega), K.has HH.out.l (by simp; omega), K.has HH.out.m (by simp; omega), ?_, ?_, V4.out, HH.out.rl.keeps K (fun x hx hy => ?_), HH.out.rm.keeps K (fun x hx hy => ?_)⟩, rfl, K⟩
    · have h9 := K4.out.has V3.out (by simp; omega)
      simpa using h9
    · exact K4.out.has (K3.out.has V2.out (by simp; omega)) (by simp; omega)
    · have := (O.out.1 x hx).1; simp at hy; omega
    · have := O.out.2 x hx; simp at hy; omega
  · simp only [if_true] at hki
    go_upto_region 4 with (fail)
    rw [← hki]
    clear hki
    refine wp_regionG (fun w' => w'.cell? ⟨bn, 0, none⟩ = some (.int .i64 i) ∧ w'.cell? ⟨bl, 0, none⟩ = some (.slice (some ⟨g1, 0, none⟩) n c1) ∧ w'.cell? ⟨bm, 0, none⟩ = some (.slice (some ⟨g2, 0, none⟩) n c2) ∧ w'.cell? ⟨bo, 0, none⟩ = some (.bool true) ∧ w'.cell? ⟨bv, 0, none⟩ = some (.bool false) ∧ w'.cell? ⟨g2, k, none⟩ = some (.int .i64 (p0 : Nat)) ∧ w'.cell? ⟨g1, k * 5, none⟩ = some (.bool y0) ∧ w'.cell? ⟨g1, k * 5 + 1, none⟩ = some (.int .i64 y1) ∧ w'.cell? ⟨g1, k * 5 + 2, none⟩ = some (.int .i64 y2) ∧ w'.cell? ⟨g1, k * 5 + 3, none⟩ = some (.int .i64 y3) ∧ w'.cell? ⟨g1, k * 5 + 4, none⟩ = some (.int .i64 y4) ∧ w'.cell? ⟨W.heap.size, 0, none⟩ = some (.bool y0) ∧ w'.cell? ⟨W.heap.size, 1, none⟩ = some (.int .i64 y1) ∧ w'.cell? ⟨W.heap.size, 2, none⟩ = some (.int .i64 y2) ∧ w'.cell? ⟨W.heap.size, 3, none⟩ = some (.int .i64 y3) ∧ w'.cell? ⟨W.heap.size, 4, none⟩ = some (.int .i64 y4)) 27 (by kernel_rfl) ⟨xn, xl, xm, xo, xv, uv, u0, u1, u2, u3, u4, z0, z1, z2, z3, z4⟩ (fun hF => ?_)
    refine wpAnyG_take (i := 0) (v := ?_) rfl (by kernel_rfl) (by decide +kernel) (by decide +kernel) (by decide +kernel) (by decide +kernel) (by rfl) (fun _ _ _ h => h) (by kernel_rfl) ?_ (by assumption) ?_
    rotate_left
    · (intro wz hSw; (try dsimp only at hSw); go_simp; with_reducible rfl)
    try simp only [Act.put, List.setIfInBounds_toArray, List.set_cons_zero, List.set_cons_succ]
    refine wpAnyG_takeY (i := 1) (v := ?_) rfl (by kernel_rfl) (by decide +kernel) (by decide +kernel) (by decide +kernel) (fun _ _ _ h => h) (by kernel_rfl) ?_ (by assumption) ?_
    rotate_left
    · (intro wz; go_simp; with_reducible rfl)
    try simp only [Act.put, List.setIfInBounds_toArray, List.set_cons_zero, List.set_cons_succ]
    refine wpAnyG_take (i := 2) (v := ?_) rfl (by kernel_rfl) (by decide +kernel) (by decide +kernel) (by decide +kernel) (by decide +kernel) (by rfl) (fun _ _ _ h => h) (by kernel_rfl) ?_ (by assumption) ?_
    rotate_left
    · (intro wz hSw; (try dsimp only at hSw); go_simp; with_reducible rfl)
    try simp only [Act.put, List.setIfInBounds_toArray, List.set_cons_zero, List.set_cons_succ]
    refine wpAnyG_takeY (i := 3) (v := ?_) rfl (by kernel_rfl) (by decide +kernel) (by decide +kernel) (by decide +kernel) (fun _ _ _ h => h) (by kernel_rfl) ?_ (by assumption) ?_
    rotate_left
    · (intro wz; go_simp; with_reducible rfl)
    try simp only [Act.put, List.setIfInBounds_toArray, List.set_cons_zero, List.set_cons_succ]
    refine wpAnyG_takeY (i := 4) (v := ?_) rfl (by kernel_rfl) (by decide +kernel) (by decide +kernel) (by decide +kernel) (fun _ _ _ h => h) (by kernel_rfl) ?_ (by assumption) ?_
    rotate_left
    · (intro wz; go_simp; with_reducible rfl)
    try simp only [Act.put, List.setIfInBounds_toArray, List.set_cons_zero, List.set_cons_succ]
    refine wpAnyG_takeY (i := 5) (v := ?_) rfl (by kernel_rfl) (by decide +kernel) (by decide +kernel) (by decide +kernel) (fun _ _ _ h => h) (by kernel_rfl) ?_ (by assumption) ?_
    rotate_left
    · (intro wz; go_simp; with_reducible rfl)
    try simp only [Act.put, List.setIfInBounds_toArray, List.set_cons_zero, List.set_cons_succ]
    refine wpAnyG_take (i := 6) (v := ?_) rfl (by kernel_rfl) (by decide +kernel) (by decide +kernel) (by decide +kernel) (by decide +kernel) (by rfl) (fun _ _ _ h => h) (by kernel_rfl) ?_ (by assumption) ?_
    rotate_left
    · (intro wz hSw; (try dsimp only at hSw); go_simp; with_reducible rfl)
    try simp only [Act.put, List.setIfInBounds_toArray, List.set_cons_zero, List.set_cons_succ]
    refine wpAnyG_take (i := 7) (v := ?_) rfl (by kernel_rfl) (by decide +kernel) (by decide +kernel) (by decide +kernel) (by decide +kernel) (by rfl) (fun _ _ _ h => h) (by kernel_rfl) ?_ (by assumption) ?_
    rotate_left
    · (intro wz hSw; (try dsimp only at hSw); go_simp; with_reducible rfl)
    try simp only [Act.put, List.setIfInBounds_toArray, List.set_cons_zero, List.set_cons_succ]
    refine wpAnyG_takeY (i := 8) (v := ?_) rfl (by kernel_rfl) (by decide +kernel) (by decide +kernel) (by decide +kernel) (fun _ _ _ h => h) (by kernel_rfl) ?_ (by assumption) ?_
    rotate_left
    · (intro wz; go_simp; with_reducible rfl)
    try simp only [Act.put, List.setIfInBounds_toArray, List.set_cons_zero, List.set_cons_succ]
    refine wpAnyG_takeY (i := 9) (v := ?_) rfl (by kernel_rfl) (by decide +kernel) (by decide +kernel) (by decide +kernel) (fun _ _ _ h => h) (by kernel_rfl) ?_ (by assumption) ?_
    rotate_left
    · (intro wz; go_simp; with_reducible rfl)
    try simp only [Act.put, List.setIfInBounds_toArray, List.set_cons_zero, List.set_cons_succ]
    refine wpAnyG_takeY (i := 10) (v := ?_) rfl (by kernel_rfl) (by decide +kernel) (by decide +kernel) (by decide +kernel) (fun _ _ _ h => h) (by kernel_rfl) ?_ (by assumption) ?_
    rotate_left
    · (intro wz; go_simp; with_reducible rfl)
    try simp only [Act.put, List.setIfInBounds_toArray, List.set_cons_zero, List.set_cons_succ]
    refine wpAnyG_takeY (i := 11) (v := ?_) rfl (by kernel_rfl) (by decide +kernel) (by decide +kernel) (by decide +kernel) (fun _ _ _ h => h) (by kernel_rfl) ?_ (by assumption) ?_
    rotate_left
    · (intro wz; go_simp; with_reducible rfl)
    try simp only [Act.put, List.setIfInBounds_toArray, List.set_cons_zero, List.set_cons_succ]
    refine wpAnyG_takeY (i := 12) (v := ?_) rfl (by kernel_rfl) (by decide +kernel) (by decide +kernel) (by decide +kernel) (fun _ _ _ h => h) (by kernel_rfl) ?_ (by assumption) ?_
    rotate_left
    · (intro wz; go_simp; with_reducible rfl)
    try simp only [Act.put, List.setIfInBounds_toArray, List.set_cons_zero, List.set_cons_succ]
    refine wpAnyG_take (i := 13) (v := ?_) rfl (by kernel_rfl) (by decide +kernel) (by decide +kernel) (by decide +kernel) (by decide +kernel) (by rfl) (fun _ _ _ h => h) (by kernel_rfl) ?_ (by assumption) ?_
    rotate_left
    · (intro wz hSw; (try dsimp only at hSw); go_simp; with_reducible rfl)
    try simp only [Act.put, List.setIfInBounds_toArray, List.set_cons_zero, List.set_cons_succ]
    refine wpAnyG_takeY (i := 14) (v := ?_) rfl (by kernel_rfl) (by decide +kernel) (by decide +kernel) (by decide +kernel) (fun _ _ _ h => h) (by kernel_rfl) ?_ (by assumption) ?_
    rotate_left
    · (intro wz; go_simp; with_reducible rfl)
    try simp only [Act.put, List.setIfInBounds_toArray, List.set_cons_zero, List.set_cons_succ]
    refine wpAnyG_takeY (i := 15) (v := ?_) rfl (by kernel_rfl) (by decide +kernel) (by decide +kernel) (by decide +kernel) (fun _ _ _ h => h) (by kernel_rfl) ?_ (by assumption) ?_
    rotate_left
    · (intro wz; go_simp; with_reducible rfl)
    try simp only [Act.put, List.setIfInBounds_toArray, List.set_cons_zero, List.set_cons_succ]
    refine wpAnyG_take (i := 16) (v := ?_) rfl (by kernel_rfl) (by decide +kernel) (by decide +kernel) (by decide +kernel) (by decide +kernel) (by rfl) (fun _ _ _ h => h) (by kernel_rfl) ?_ (by assumption) ?_
    rotate_left
    · (intro wz hSw; (try dsimp only at hSw); go_simp; with_reducible rfl)
    try simp only [Act.put, List.setIfInBounds_toArray, List.set_cons_zero, List.set_cons_succ]
    refine wpAnyG_takeY (i := 17) (v := ?_) rfl (by kernel_rfl) (by decide +kernel) (by decide +kernel) (by decide +kernel) (fun _ _ _ h => h) (by kernel_rfl) ?_ (by assumption) ?_
    rotate_left
    · (intro wz; go_simp; with_reducible rfl)
    try simp only [Act.put, List.setIfInBounds_toArray, List.set_cons_zero, List.set_cons_succ]
    refine wpAnyG_takeY (i := 18) (v := ?_) rfl (by kernel_rfl) (by decide +kernel) (by decide +kernel) (by decide +kernel) (fun _ _ _ h => h) (by kernel_rfl) ?_ (by assumption) ?_
    rotate_left
    · (intro wz; go_simp; with_reducible rfl)
    try simp only [Act.put, List.setIfInBounds_toArray, List.set_cons_zero, List.set_cons_succ]
    refine wpAnyG_takeY (i := 19) (v := ?_) rfl (by kernel_rfl) (by decide +kernel) (by decide +kernel) (by decide +kernel) (fun _ _ _ h => h) (by kernel_rfl) ?_ (by assumption) ?_
    rotate_left
    · (intro wz; go_simp; with_reducible rfl)
    try simp only [Act.put, List.setIfInBounds_toArray, List.set_cons_zero, List.set_cons_succ]
    refine wpAnyG_take (i := 20) (v := ?_) rfl (by kernel_rfl) (by decide +kernel) (by decide +kernel) (by decide +kernel) (by decide +kernel) (by rfl) (fun _ _ _ h => h) (by kernel_rfl) ?_ (by assumption) ?_
    rotate_left
    · (intro wz hSw; (try dsimp only at hSw); go_simp; with_reducible rfl)
    try simp only [Act.put, List.setIfInBounds_toArray, List.set_cons_zero, List.set_cons_succ]
    refine wpAnyG_take (i := 21) (v := ?_) rfl (by kernel_rfl) (by decide +kernel) (by decide +kernel) (by decide +kernel) (by decide +kernel) (by rfl) (fun _ _ _ h => h) (by kernel_rfl) ?_ (by assumption) ?_
    rotate_left
    · (intro wz hSw; (try dsimp only at hSw); go_simp; with_reducible rfl)
    try simp only [Act.put, List.setIfInBounds_toArray, List.set_cons_zero, List.set_cons_succ]
    refine wpAnyG_takeY (i := 22) (v := ?_) rfl (by kernel_rfl) (by decide +kernel) (by decide +kernel) (by decide +kernel) (fun _ _ _ h => h) (by kernel_rfl) ?_ (by assumption) ?_
    rotate_left
    · (intro wz; go_simp; with_reducible rfl)
    try simp only [Act.put, List.setIfInBounds_toArray, List.set_cons_zero, List.set_cons_succ]
    refine wpAnyG_takeY (i := 23) (v := ?_) rfl (by kernel_rfl) (by decide +kernel) (by decide +kernel) (by decide +kernel) (fun _ _ _ h => h) (by kernel_rfl) ?_ (by assumption) ?_
    rotate_left
    · (intro wz; go_simp; with_reducible rfl)
    try simp only [Act.put, List.setIfInBounds_toArray, List.set_cons_zero, List.set_cons_succ]
    refine wpAnyG_take (i := 24) (v := ?_) rfl (by kernel_rfl) (by decide +kernel) (by decide +kernel) (by decide +kernel) (by decide +kernel) (by rfl) (fun _ _ _ h => h) (by kernel_rfl) ?_ (by assumption) ?_
    rotate_left
    · (intro wz hSw; (try dsimp only at hSw); go_simp; with_reducible rfl)
    try simp only [Act.put, List.setIfInBounds_toArray, List.set_cons_zero, List.set_cons_succ]
    refine wpAnyG_takeY (i := 25) (v := ?_) rfl (by kernel_rfl) (by decide +kernel) (by decide +kernel) (by decide +kernel) (fun _ _ _ h => h) (by kernel_rfl) ?_ (by assumption) ?_
    rotate_left
    · (intro wz; go_simp; with_reducible rfl)
    try simp only [Act.put, List.setIfInBounds_toArray, List.set_cons_zero, List.set_cons_succ]
    refine wpAnyG_takeY (i := 26) (v := ?_) rfl (by kernel_rfl) (by decide +kernel) (by decide +kernel) (by decide +kernel) (fun _ _ _ h => h) (by kernel_rfl) ?_ (by assumption) ?_
    rotate_left
    · (intro wz; go_simp; with_reducible rfl)
    try simp only [Act.put, List.setIfInBounds_toArray, List.set_cons_zero, List.set_cons_succ]
    refine wpAnyG_last rfl (by kernel_rfl) (by rfl) (by rfl) (fun K hK => ?_)
    have HK := Lib.hid hK
    clear hK
    go_simp
    refine HK.out _ _ ?_
    clear HK K hF
    refine wpAnyG_done (by kernel_rfl) ?_ _
    go_simp
    go_upto_region 5 with (fail)
    refine wp_gen (fun V => V.heap[bo]? = some (.cells #[.bool true] 4 (0, 0)) ∧ Keeps [bo] W1 V) ?_ ?_
    · first
        | exact ⟨has_drew (has_setCell (KA.out.has HH.out.o (by simp)) 0 (.bool true)), ((Keeps.refl [bo] W1).setCell (p := ⟨bo, 0, none⟩) (.inr (by simp)) _).drew⟩
        | exact ⟨has_setCell (has_drew (KA.out.has HH.out.o (by simp))) 0 (.bool true), ((Keeps.refl [bo] W1).drew).setCell (p := ⟨bo, 0, none⟩) (.inr (by simp)) _⟩
    rintro W2 ⟨v2, k2⟩
    have V2 := Lib.hid v2
    have K2 := Lib.hid k2
    replace xn := k2.cell xn (by simp; omega)
    have fn := free_of_has (k2.has (KA.out.has HH.out.n (by simp)) (by simp; omega)) 0
    clear u0 u1 u2 u3 u4 uv z0 z1 z2 z3 z4 xb xl xm xo fo
    clear v2 k2
    go_upto_region 6 with (fail)
    refine wp_gen (fun V => V.heap[bn]? = some (.cells #[.int .i64 ((i : Int) + 1)] 3 (0, 0)) ∧ Keeps [bn] W2 V) ⟨by exact has_setCell (K2.out.has (KA.out.has HH.out.n (by simp)) (by simp; omega)) 0 _, by exact (Keeps.refl _ _).setCell (.inr (by simp)) _⟩ ?_
    rintro W3 ⟨v3, k3⟩
    have V3 := Lib.hid v3
    have K3 := Lib.hid k3
    have xo : W3.cell? ⟨bo, 0, none⟩ = some (.bool true) := k3.cell (cell_has V2.out (i := 0) rfl) (by simp; omega)
    have xn3 : W3.cell? ⟨bn, 0, none⟩ = some (.int .i64 ((i : Int) + 1)) := cell_has v3 (i := 0) rfl
    replace xs := k3.cell (K2.out.cell xs (by simp; omega)) (by simp; omega)
    have fv := free_of_has (k3.has (K2.out.has (KA.out.has HH.out.v (by simp)) (by simp; omega)) (by simp; omega)) 0
    replace xv := k3.cell (K2.out.cell xv (by simp; omega)) (by simp; omega)
    clear v3 k3 xn fn
    go_upto_region 7 with (fail)
    obtain ⟨q, hq⟩ : ∃ q : Bool, Hid (q = (((i : Int) + 1) == stop)) := ⟨_, Lib.hid rfl⟩
    refine wp_gen (fun V => V.heap[bv]? = some (.cells #[.bool q] 4 (0, 0)) ∧ Keeps [bv] W3 V) ⟨by rw [hq.out]; exact has_setCell (K3.out.has (K2.out.has (KA.out.has HH.out.v (by simp)) (by simp; omega)) (by simp; omega)) 0 _, by exact (Keeps.refl _ _).setCell (.inr (by simp)) _⟩ ?_
    rintro W4 ⟨v4, k4⟩
    have V4 := Lib.hid v4
    have K4 := Lib.hid k4
    have xv4 : W4.cell? ⟨bv, 0, none⟩ = some (.bool q) := cell_has v4 (i := 0) rfl
    clear v4 k4 xo xn3 xs fv xv
    go_wp2_with fail
    go_ret
    have K := (((KA.out.mono (T := [bn, bo, bv]) (by simp)).trans (K2.out.mono (by simp))).trans (K3.out.mono (by simp))).trans (K4.out.mono (T := [bn, bo, bv]) (by simp))
    have ei : (((i + 1 : Nat) : Int) == stop) = q := by rw [hq.out]; simp
    rw [ei]
    refine ⟨⟨K.has HH.out.b (by simp; omega), K.has HH.out.s (by simp; omega), K.has HH.out.l (by simp; omega), K.has HH.out.m (by simp; omega), ?_, ?_, V4.out, HH.out.rl.keeps K (fun x hx hy => ?_), HH.out.rm.keeps K (fun x hx hy => ?_)⟩, rfl, K⟩
    · have h9 := K4.out.has V3.out (by simp; omega)
      simpa using h9
    · exact K4.out.has (K3.out.has V2.out (by simp; omega)) (by simp; omega)
    · have := (O.out.1 x hx).1; simp at hy; omega
    · have := O.out.2 x hx; simp at hy; omega
end Go.Proofs.Ytajcbghhpjpmhaa
