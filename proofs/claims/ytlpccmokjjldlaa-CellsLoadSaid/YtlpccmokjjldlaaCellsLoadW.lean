/- CellsLoad, walked: the ways joined (chapter 6). -/
import Derived.Test.YtlpccmokjjldlaaCellsLoad3
import Derived.Test.YtlpccmokjjldlaaArgs
namespace Go.Proofs.Ytlpccmokjjldlaa
open Go.ChangeShapes Go.WideShapes Go.ChangeAt Go.RowKit Go.Deep
set_option linter.unusedVariables false

/-- A nil slice has no length and no capacity. -/
theorem nil_of_ints {H : Type} {enc : TypeId × Value → H} {P : Program} {w : World} {spare : Nat → Bool} {held : Bool} {t e : TypeId} {a : Option Addr} {len cap : Nat} {k : IntKind} {d : DataW H} {p : List MemPlace} (ht : P.underlying t = some (.slice e)) (he : P.underlying e = some (.int k)) (hc : P.cellsOf e = 1)
    (h : DataW.Trod enc P w 0 spare held t (.slice a len cap) d p) : a = none → len = 0 ∧ cap = 0 := by
  obtain ⟨fuel, hf⟩ := h
  rcases open_ints ht he hc hf with ⟨hcs, _⟩ | ⟨x, l, c, zs, hcs, _⟩
  · simp [Value.cells] at hcs
    exact fun _ => hcs.2
  · simp [Value.cells] at hcs
    obtain ⟨rfl, _⟩ := hcs
    intro h
    cases h

theorem readsB_int {w : World} {a : Option Addr} {len : Nat} {F : Nat → Int} (h : IntRow .u8 1 w a len F) : ReadsB w a len (byV fun i => (F i % 256).toNat) := by
  intro i hi
  rcases h with h | ⟨b, off, h0, hb, hl, hc⟩
  · omega
  · obtain ⟨h1, h2⟩ := hc i (by omega)
    have hb : 0 ≤ F i ∧ F i ≤ 255 := by simpa [Lit.wf, IntKind.min, IntKind.max, IntKind.signed, IntKind.bits] using h2
    have e : byV (fun i => (F i % 256).toNat) i = .int .u8 (F i) := by
      unfold byV
      rw [show (((F i % 256).toNat : Nat) : Int) = F i by omega]
    exact ⟨b, off, h0, by rw [e]; exact h1, _, e⟩

theorem first_false (p : Nat → Bool) (n : Nat) (h : ¬ ∀ i, i < n → p i = true) : ∃ j, j < n ∧ p j = false ∧ ∀ i, i < j → p i = true := by
  induction n with
  | zero => exact absurd (fun i hi => absurd hi (Nat.not_lt_zero _)) h
  | succ n ih =>
    by_cases h1 : ∀ i, i < n → p i = true
    · refine ⟨n, Nat.lt_succ_self n, ?_, h1⟩
      cases hp : p n with
      | false => rfl
      | true =>
        refine absurd (fun i hi => ?_) h
        by_cases h2 : i = n
        · rw [h2]; exact hp
        · exact h1 i (by omega)
    · obtain ⟨j, a, b, c⟩ := ih h1
      exact ⟨j, by omega, b, c⟩

theorem cellsLoad_early (l : Int) (a : Option Addr) (len cap : Nat) (sa : Option Addr) (sl sc : Nat) (w : World) (hc : 20000 < len ∨ (len ≤ 20000 ∧ 300 < sl) ∨ (len ≤ 20000 ∧ sl ≤ 300 ∧ 12 < l ∧ l ≤ 20)) :
    Calls Try.prog 14 #[.int .i64 l, .slice a len cap, .slice sa sl sc] w fun e w' => e = .returned (.bool true) ∧ Below w.heap.size w w' := by
  rcases hc with h | ⟨h, h2⟩ | ⟨h, h2, h3, h4⟩
  · have d1 : decide ((20000 : Int) < (len : Int)) = true := by simp; omega
    go_enter Try.func14, Try.ntmps14
    go_wp2_with (go_at_call 30; refine (awake6 _).mono ?_; rintro e w' ⟨rfl, hb⟩)
    go_ret
    exact ⟨rfl, hb⟩
  · have d1 : decide ((20000 : Int) < (len : Int)) = false := by simp; omega
    have d2 : decide ((300 : Int) < (sl : Int)) = true := by simp; omega
    go_enter Try.func14, Try.ntmps14
    go_wp2_with (go_at_call 30; refine (awake6 _).mono ?_; rintro e w' ⟨rfl, hb⟩)
    go_ret
    exact ⟨rfl, hb⟩
  · have d1 : decide ((20000 : Int) < (len : Int)) = false := by simp; omega
    have d2 : decide ((300 : Int) < (sl : Int)) = false := by simp; omega
    have d3 : decide (12 < l) = true := by simpa using h3
    have d4 : decide (l ≤ 20) = true := by simpa using h4
    go_enter Try.func14, Try.ntmps14
    go_wp2_with (go_at_call 30; refine (awake6 _).mono ?_; rintro e w' ⟨rfl, hb⟩)
    go_ret
    exact ⟨rfl, hb⟩

theorem cellsLoad_walk (l : Int) (a : Option Addr) (len cap : Nat) (G : Nat → Int) (sa : Option Addr) (sl sc : Nat) (F : Nat → Int) (w : World) (_ : (Lit.int .i64 l).wf = true) (hr : IntRow .u8 1 w a len G) (hsr : IntRow .i64 2 w sa sl F) (hnil : a = none → len = 0 ∧ cap = 0) :
    Calls Try.prog 14 #[.int .i64 l, .slice a len cap, .slice sa sl sc] w fun e w' => e = .returned (.bool true) ∧ Below w.heap.size w w' := by
  by_cases h1 : 20000 < len
  · exact cellsLoad_early l a len cap sa sl sc w (.inl h1)
  by_cases h2 : 300 < sl
  · exact cellsLoad_early l a len cap sa sl sc w (.inr (.inl ⟨by omega, h2⟩))
  by_cases h3 : 12 < l ∧ l ≤ 20
  · exact cellsLoad_early l a len cap sa sl sc w (.inr (.inr ⟨by omega, by omega, h3⟩))
  have hR := readsB_int hr
  obtain ⟨B, hB⟩ : ∃ B : Nat → Nat, B = fun i => (G i % 256).toNat := ⟨_, rfl⟩
  rw [← hB] at hR
  have hB1 : ∀ i, B i < 256 := fun i => by rw [hB]; show (G i % 256).toNat < 256; omega
  clear hB
  by_cases h4 : l < 3 ∨ 20 < l
  · exact cellsLoad_nil l 1 (by decide) a len cap B sa sl sc w hnil hR (by omega) (by omega) (by omega) (fun W a' c' _ => load_bad l a' len c' W h4) (fun W a' c' _ => rload_bad l a' len c' W h4)
  obtain ⟨L, rfl⟩ := Int.eq_ofNat_of_zero_le (show 0 ≤ l by omega)
  obtain ⟨n, hn⟩ := ex_hid (2 ^ L)
  have hL3 : 3 ≤ L := by omega
  have hL20 : L ≤ 20 := by omega
  by_cases h5 : len = n * wdOf L
  · by_cases h6 : ∀ i, i < n → mayB n (valB (wdOf L) B i) = true
    · exact cellsLoad_good L n hL3 (by omega) hn.out a len cap B hB1 h5 h6 sa sl sc F w hnil hR hsr (by omega) (by omega)
    · obtain ⟨j, hj, hb, hall⟩ := first_false (fun i => mayB n (valB (wdOf L) B i)) n h6
      exact cellsLoad_nil L 1 (by decide) a len cap B sa sl sc w hnil hR (by omega) (by omega) (by omega)
        (fun W a' c' hr' => (load_any L n j hL3 hL20 hn.out B hB1 (Nat.le_of_lt hj) hall (fun _ => hb) a' len c' h5 W hr').mono fun e w' h => by unfold LoadC at h; rwa [if_neg (by omega)] at h)
        (fun W a' c' hr' => (rload_any L n j hL3 hL20 hn.out B hB1 (Nat.le_of_lt hj) hall (fun _ => hb) a' len c' h5 W hr').mono fun e w' h => by unfold RLoadC at h; rwa [if_neg (by omega)] at h)
  · exact cellsLoad_nil L 4 (by decide) a len cap B sa sl sc w hnil hR (by omega) (by omega) (by omega) (fun W a' c' _ => load_len L n hL3 hL20 hn.out a' len c' h5 (by omega) W) (fun W a' c' _ => rload_len L n hL3 hL20 hn.out a' len c' h5 (by omega) W)
end Go.Proofs.Ytlpccmokjjldlaa
