/- A private namespace's table: len, find, value, turn, add (chapter 10). -/
import Derived.Test.YtajmfenfajbakaaGreatShV
import Derived.Test.YtajmfenfajbakaaGreatTabKill
namespace Go.Proofs.YtajmfenfajbakaaGreat
open Go.RowKit
set_option linter.unusedVariables false
set_option linter.unusedSimpArgs false

def ownO (t : Nat) : Obj := .cells #[.pointer (some ⟨t, 0, none⟩)] 131 (0, 0)
structure OwnAt (ob t lo : Nat) (S : List Nat) (m : Option Nat) (T : Tab) (W : World) : Prop where
  b : W.heap[ob]? = some (ownO t)
  k : TabAt t lo S (mV m) T W
  d : ob ∉ S
  l : lo ≤ ob
section
variable {ob t lo : Nat} {S R : List Nat} {m : Option Nat} {T : Tab} {W W' : World}
theorem OwnAt.keeps (h : OwnAt ob t lo S m T W) (k : Keeps R W W') (hd : ∀ z, z ∈ ob :: S → z ∉ R) : OwnAt ob t lo S m T W' :=
  ⟨k.has h.b (hd _ (by simp)), h.k.keeps k (fun z hz => hd z (by simp [hz])), h.d, h.l⟩
theorem OwnAt.foot (h : OwnAt ob t lo S m T W) : ∀ z, z ∈ ob :: S → lo ≤ z ∧ z < W.heap.size := by
  intro z hz
  rcases List.mem_cons.1 hz with rfl | hz
  · exact ⟨h.l, lt_of_block h.b⟩
  · exact h.k.foot z hz
theorem OwnAt.cell (h : OwnAt ob t lo S m T W) : W.cell? ⟨ob, 0, none⟩ = some (.pointer (some ⟨t, 0, none⟩)) := cell_has h.b (i := 0) rfl
end
theorem olen_any (ob t lo : Nat) (S : List Nat) (m : Option Nat) (T : Tab) (w : World) (H : OwnAt ob t lo S m T w) :
    Calls Tryz.prog 143 #[.pointer (some ⟨ob, 0, none⟩)] w fun r w' => r = .returned (.int .i64 (liveN T.E : Nat)) ∧ w = w' := by
  have c0 := H.cell
  have LE := len_any t lo S (mV m) T w H.k
  obtain ⟨n, hn⟩ := ex_hid (liveN T.E)
  rw [← hn.out] at LE ⊢
  clear H
  go_enter Tryz.func143, Tryz.ntmps143
  go_wp2_with fail
  refine LE.mono ?_
  rintro r w1 ⟨rfl, rfl⟩
  clear LE
  go_wp2_with fail
  go_ret
  exact ⟨rfl, rfl⟩
theorem ofind_any (k : Nat) (hk : k ≤ 1000) (fb t mb lo : Nat) (a : Option Addr) (ST : List Nat) (m : Option Nat) (f : Fam) (ob t2 lo2 : Nat) (S2 : List Nat) (T : Tab) (c : C4) (s : ByteArray) (w : World) (H : FamAt fb t mb lo a ST m f w) (HO : OwnAt ob t2 lo2 S2 m T w) (hM : MtrAt m c w) (hm : ∀ b, m = some b → b < lo2) (hI : TInv k T) (hs : s.size ≤ 1000000) :
    Calls Tryz.prog 142 #[.pointer (some ⟨ob, 0, none⟩), .pointer (some ⟨fb, 0, none⟩), .string s] w (FindP m c T (numI f.N s) (txtH s) w) := by
  have c0 := HO.cell
  have FA := find_any k hk fb t mb lo a ST m f t2 lo2 S2 T c s w H HO.k hM hm hI hs
  obtain ⟨R, hR⟩ := ex_hid (seekR T (numI f.N s) (txtH s) c)
  unfold FindP at FA ⊢
  rw [← hR.out] at FA ⊢
  clear H HO hM hm hI
  go_enter Tryz.func142, Tryz.ntmps142
  go_wp2_with fail
  refine FA.mono ?_
  rintro r w1 ⟨rfl, m1, k1⟩
  have M1 := Lib.hid m1
  have K1 := Lib.hid k1
  clear m1 k1 FA c0
  go_wp2_with fail
  go_ret
  exact ⟨rfl, M1.out, K1.out⟩
theorem at10_tab (t lo : Nat) (S : List Nat) (m : Value) (T : Tab) (w : World) (H : TabAt t lo S m T w) (hl : T.E.length ≤ 1000000) (e : Int) :
    Calls Tryz.prog 128 #[.pointer (some ⟨t, 0, none⟩), .int .i64 e] w fun r w' => r = .returned (.tuple #[(atE (entE T.E e)).agg, .int .i64 (okE (entE T.E e))]) ∧ Below w.heap.size w w' := by
  obtain ⟨a, c, cb, cr, h1, h2, _⟩ := H
  exact at_any t lo c a T.E m _ _ _ _ _ e w h1 h2 hl
theorem ovalue_any (ob t lo : Nat) (S : List Nat) (m : Option Nat) (T : Tab) (w : World) (H : OwnAt ob t lo S m T w) (hl : T.E.length ≤ 1000000) (e : Int) :
    Calls Tryz.prog 146 #[.pointer (some ⟨ob, 0, none⟩), .int .i64 e] w fun r w' => r = .returned (.int .i64 (atE (entE T.E e)).val) ∧ Keeps [] w w' := by
  have c0 := H.cell
  have AT := at10_tab t lo S (mV m) T w H.k hl e
  obtain ⟨x, hx⟩ := ex_hid (atE (entE T.E e))
  obtain ⟨ok, hok⟩ := ex_hid (okE (entE T.E e))
  rw [← hx.out, ← hok.out] at AT
  rw [← hx.out]
  unfold Ent.agg at AT
  clear H hx hok
  go_enter Tryz.func146, Tryz.ntmps146
  go_wp2_with fail
  refine AT.mono ?_
  rintro r w1 ⟨rfl, b1⟩
  have K1 := Lib.hid (Below.keeps b1 [])
  clear b1 AT c0
  go_upto_region 2 with (fail)
  refine wp_gen (fun V => V.heap[w1.heap.size]? = some (.cells #[.bool x.live, .int .i64 x.hash, .int .i64 x.key, .int .i64 x.val, .int .i64 x.birth] 99 (0, 0)) ∧ Keeps [] w1 V) ⟨has_new _ _, (Keeps.refl [] w1).alloc _⟩ ?_
  rintro w5 ⟨b5, k5⟩
  have y3 : w5.cell? ⟨w1.heap.size, 3, none⟩ = some (.int .i64 x.val) := cell_has b5 (i := 3) rfl
  have K5 := Lib.hid (K1.out.trans k5)
  obtain ⟨xv, hxv⟩ := ex_hid x.val
  rw [← hxv.out] at y3 ⊢
  clear b5 k5
  go_wp2_with fail
  go_ret
  exact ⟨by rw [← hxv.out]; rfl, K5.out⟩
theorem oturn_any (ob t lo : Nat) (S : List Nat) (m : Option Nat) (T : Tab) (w : World) (H : OwnAt ob t lo S m T w) (hl : T.E.length ≤ 1000000) (e v : Int) :
    Calls Tryz.prog 145 #[.pointer (some ⟨ob, 0, none⟩), .int .i64 e, .int .i64 v] w fun r w' => r = .returned (.tuple #[]) ∧ OwnAt ob t lo S m (T.put e v) w' ∧ Keeps S w w' := by
  have c0 := H.cell
  have HH := Lib.hid H
  have PU := put_any t lo S (mV m) T w H.k hl e v
  unfold PutP at PU
  obtain ⟨ok, hok⟩ := ex_hid (okE (T.ent e))
  obtain ⟨T2, hT2⟩ := ex_hid (T.put e v)
  rw [← hok.out, ← hT2.out] at PU
  rw [← hT2.out]
  clear H
  go_enter Tryz.func145, Tryz.ntmps145
  go_wp2_with fail
  refine PU.mono ?_
  rintro r w1 ⟨rfl, t1, k1⟩
  have T1 := Lib.hid t1
  have K1 := Lib.hid k1
  clear t1 k1 PU c0
  go_wp2_with fail
  go_end0
  exact ⟨rfl, ⟨K1.out.has HH.out.b HH.out.d, T1.out, HH.out.d, HH.out.l⟩, K1.out⟩
def OAddP (fb t mb lo : Nat) (a : Option Addr) (ST : List Nat) (m : Option Nat) (f : Fam) (ob t2 lo2 : Nat) (S2 : List Nat) (T : Tab) (c : C4) (s : ByteArray) (v : Int) (w : World) (r : Ending) (w' : World) : Prop :=
  ∃ a' S2', r = .returned (.bool true) ∧ FamAt fb t mb lo a' ST m (giveF f s) w' ∧ OwnAt ob t2 lo2 S2' m (ownAddT f s v T) w' ∧ MtrAt m (ownAddC c T) w' ∧ Keeps (famS fb mb a ST ++ S2 ++ mS m) w w' ∧ Grew (famS fb mb a ST) w (famS fb mb a' ST) ∧ Grew S2 w S2' ∧ ∀ z, z ∈ famS fb mb a' ST → z ∉ ob :: S2'
set_option maxRecDepth 100000 in
set_option maxHeartbeats 8000000 in
theorem oadd_any (k : Nat) (hk : k ≤ 1000) (fb t mb lo : Nat) (a : Option Addr) (ST : List Nat) (m : Option Nat) (f : Fam) (ob t2 lo2 : Nat) (S2 : List Nat) (T : Tab) (c : C4) (s : ByteArray) (v : Int) (w : World) (H : FamAt fb t mb lo a ST m f w) (HO : OwnAt ob t2 lo2 S2 m T w) (hM : MtrAt m c w) (hm : ∀ b, m = some b → b < lo ∧ b < lo2) (hd : ∀ z, z ∈ famS fb mb a ST → z ∉ ob :: S2) (hI : TInv k T) (hs : s.size ≤ 1000000) (hN : f.N.length ≤ 100000) :
    Calls Tryz.prog 68 #[.pointer (some ⟨ob, 0, none⟩), .pointer (some ⟨fb, 0, none⟩), .string s, .int .i64 v] w (OAddP fb t mb lo a ST m f ob t2 lo2 S2 T c s v w) := by
  have HF := Lib.hid H
  have HOO := Lib.hid HO
  have HM := Lib.hid hM
  have HMM := Lib.hid hm
  have HD := Lib.hid hd
  have HI := Lib.hid hI
  have c0 := HO.cell
  have TX := fun W => text_any s W hs
  obtain ⟨hh, hhh⟩ := ex_hid (txtH s)
  rw [← hhh.out] at TX
  have TXH := Lib.hid TX
  have NMM := Lib.hid (show ∀ z, lo ≤ z → z ∉ mS m from fun z hz hy => by
    cases hmm : m with
    | none => rw [hmm] at hy; simp [mS] at hy
    | some b => rw [hmm] at hy; simp [mS] at hy; have := (hm b hmm).1; omega)
  have NM2 := Lib.hid (show ∀ z, lo2 ≤ z → z ∉ mS m from fun z hz hy => by
    cases hmm : m with
    | none => rw [hmm] at hy; simp [mS] at hy
    | some b => rw [hmm] at hy; simp [mS] at hy; have := (hm b hmm).2; omega)
  have GV := Lib.hid (fun (W : World) (h : FamAt fb t mb lo a ST m f W) => give_any fb t mb lo a ST m f s W h hN)
  obtain ⟨C5, hC5⟩ := ex_hid (ownAddC c T)
  obtain ⟨gi, hgi⟩ := ex_hid (giveI f.N s)
  have GF := Lib.hid (show ({ f with N := giveN f.N s } : Fam) = giveF f s from rfl)
  clear H HO hM hm hd hI TX
  go_enter Tryz.func68, Tryz.ntmps68
  go_upto_region 1 with (fail)
  go_region_held3 (fun w' => w'.cell? ⟨ob, 0, none⟩ = some (.pointer (some ⟨t2, 0, none⟩))) (go_keep)
    (first
      | (go_at_call 88; refine (TXH.out _).mono ?_; rintro r w2 ⟨rfl, k2⟩; have K2 := Lib.hid (show Keeps [] w w2 from (Keeps.refl [] w).drew.trans k2); have p3 := k2.cell (w := w.drew) c0 (by simp); clear k2)
      | (go_at_call 89; refine (GV.out w2 (HF.out.keeps K2.out (by simp))).mono ?_; rintro r w3 ⟨a3, rfl, f3, k3, g3⟩; have F3 := Lib.hid f3; have K3 := Lib.hid k3; have G3 := Lib.hid g3; have q3 := k3.cell p3 (fun hx => HD.out ob (by unfold famS; simp only [List.mem_cons, List.mem_append] at hx ⊢; rcases hx with h | h | h <;> simp [h]) (by simp)); rw [← hgi.out]; clear f3 k3 g3)
      | (go_at_call 87; refine (add10_tab k hk t2 lo2 S2 m c T w3 ((HOO.out.k.keeps K2.out (by simp)).keeps K3.out (fun z hz hx => HD.out z (by unfold famS; simp only [List.mem_cons, List.mem_append] at hx ⊢; rcases hx with h | h | h <;> simp [h]) (by simp [hz]))) ((HM.out.keeps K2.out (by simp)).keeps K3.out (fun b hb hx => by have h8 := (HMM.out b hb).1; have h9 := (HF.out.foot b (by unfold famS; simp only [List.mem_cons, List.mem_append] at hx ⊢; rcases hx with h | h | h <;> simp [h])).1; omega)) (fun b hb => (HMM.out b hb).2) HI.out hh (gi : Nat) v).mono ?_; rintro r W5 ⟨S4, rfl, t4, m4, k4, g4⟩; have T4 := Lib.hid t4; have M4 := Lib.hid m4; have K4 := Lib.hid k4; have G4 := Lib.hid g4; have s3 := k4.cell q3 (fun hx => (List.mem_append.1 hx).elim HOO.out.d (NM2.out ob HOO.out.l)); clear t4 m4 k4 g4))
  clear c0 p3 q3 s3
  go_wp2_with fail
  go_ret
  have fo := HF.out.foot
  have oo := HOO.out.foot
  have z2 := K2.out.size
  have z3 := K3.out.size
  have s4n : ∀ z, z ∈ S4 → z ∈ S2 ∨ w3.heap.size ≤ z := G4.out
  have a3n : ∀ z, z ∈ blk a3 → z ∈ blk a ∨ w2.heap.size ≤ z := G3.out
  have f3l := F3.out.foot
  have ho4 : ob ∉ S2 ++ mS m := fun hx => (List.mem_append.1 hx).elim HOO.out.d (NM2.out ob HOO.out.l)
  have f34 : ∀ z, z ∈ famS fb mb a3 ST → z ∈ famS fb mb a ST ∨ w2.heap.size ≤ z := fun z hz => by
    unfold famS at hz ⊢
    simp only [List.mem_cons, List.mem_append] at hz ⊢
    rcases hz with h | h | h | h
    · left; simp [h]
    · left; simp [h]
    · rcases a3n z h with h | h
      · left; simp [h]
      · exact .inr h
    · left; simp [h]
  have d34 : ∀ z, z ∈ famS fb mb a3 ST → z ∉ S2 ++ mS m := fun z hz hx => by
    rcases List.mem_append.1 hx with h | h
    · rcases f34 z hz with h9 | h9
      · exact HD.out z h9 (by simp [h])
      · have := (oo z (by simp [h])).2; omega
    · exact NMM.out z (f3l z hz).1 h
  have obl := (oo ob (by simp)).2
  have k3ob : ob ∉ fb :: mb :: blk a := fun hx => HD.out ob (by unfold famS; simp only [List.mem_cons, List.mem_append] at hx ⊢; rcases hx with h | h | h <;> simp [h]) (by simp)
  refine ⟨a3, S4, rfl, ?_, ⟨?_, ?_, ?_, HOO.out.l⟩, ?_, ?_, ?_, ?_, ?_⟩
  · rw [← GF.out]; exact F3.out.keeps K4.out d34
  · exact K4.out.has (K3.out.has (K2.out.has HOO.out.b (by simp)) k3ob) ho4
  · have h9 := T4.out
    rw [hhh.out, hgi.out] at h9
    exact h9
  · intro h
    rcases s4n _ h with h | h
    · exact HOO.out.d h
    · omega
  · exact M4.out
  · exact ((K2.out.mono (by simp)).trans (K3.out.mono (fun z hz => by unfold famS; simp only [List.mem_cons, List.mem_append] at hz ⊢; rcases hz with h | h | h <;> simp [h]))).trans (K4.out.mono (fun z hz => by simp only [List.mem_append] at hz ⊢; rcases hz with h | h <;> simp [h]))
  · exact fun z hz => by
      rcases f34 z hz with h | h
      · exact .inl h
      · right; omega
  · exact fun z hz => by
      rcases s4n z hz with h | h
      · exact .inl h
      · right; omega
  · intro z hz hy
    rcases List.mem_cons.1 hy with rfl | hy
    · rcases f34 _ hz with h | h
      · exact HD.out _ h (by simp)
      · omega
    · rcases s4n z hy with h | h
      · exact d34 z hz (by simp [h])
      · have := (f3l z hz).2; omega
end Go.Proofs.YtajmfenfajbakaaGreat
