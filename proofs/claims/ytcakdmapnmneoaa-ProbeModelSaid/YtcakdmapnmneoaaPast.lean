/- A drawn region behind the operation that facts were held for. No program in sight. -/
import Derived.Test.YtcakdmapnmneoaaB1
namespace Go
section
variable {P : Program} {ops : Array Oper} {Q : Exit → Act → World → Prop} {md : Region.Mode} {F : World → Prop} {s : Nat}
theorem getD_stays' {l : Array Bool} {i s : Nat} (h : l.getD s false = true) : (l.setIfInBounds i true).getD s false = true := by
  by_cases e : i = s
  · subst e
    have hs : i < l.size := by
      rcases Nat.lt_or_ge i l.size with h' | h'
      · exact h'
      · simp [Array.getD, Nat.not_lt.2 h'] at h
    simp [Array.getD, hs]
  · rw [getD_set_ne false e]; exact h
/-- Behind the operation that F was held for, nothing more is held. -/
theorem wpAnyG_past : ∀ (fuel : Nat) (listed : Array Bool) (a : Act) (w : World), listed.getD s false = true → wpAny P md ops Q fuel listed a w → wpAnyG P md ops Q F s fuel listed a w
  | 0, _, _, _, _, h => h
  | fuel + 1, listed, a, w, hu, h => ⟨h.1, fun i hi => wpOp_mono (fun a' w' h' => ⟨(fun h9 => by rw [getD_stays' hu] at h9; cases h9), wpAnyG_past fuel _ a' w' (getD_stays' hu) h'⟩) (h.2 i hi)⟩
end
end Go
