/-
  No cell of these rows narrows 'for every input' (looked for: loops, veiled, ifaces, maps, wideKeys, modest, calm, conditions, laid).
  DERIVED. THE GIVEN ROWS OF THIS SEAT. 2 by the template 'for every input the law returns true; each argument reads behind the call as it read before'; 0 by the template 'total and deterministic' (their statements: YtajmfenfajbakaaGreatTotals.lean).
  GIVEN WITH THE SEED: the statements are not yours to turn. If you find one false, say at which input.
  Laid BY PROGRAM, IN A SANDBOX (cutbox-rows.mjs): the forced cells as the released guide's own fill.sh prints them over the translation 3f3ae482e0f5a5bf… (all of the seat's roots in one cut). By AI agents, Wed Nov 11 2026. No macro, syntax, notation, axiom, sorry.
-/
import Derived.Test.YtajmfenfajbakaaGreatChecked
import GoSem.Claim
import GoSem.ClaimJoined
import GoSem.ClaimMapViews
import Derived.JoinedTies
import Derived.KernelRfl
namespace Go.Proofs.YtajmfenfajbakaaGreat
/- THE CELL 'sum', in the pinned program and in every row, IS THE sha256 OF THE DUMP (.gsa) THAT YtajmfenfajbakaaGreatProg.lean LOADS. Nothing in Lean hashes anything: it is a label: what it is worth is what the hold of that sum in a sandbox is worth. -/
noncomputable def Tryz.pinned : Pinned := { name := "ytajmfenfajbakaagreat", sum := "3f3ae482e0f5a5bf0ac25a8bc2ab702cff14eefac2879f42f01f01e1f29a2271", checked := Tryz.checked }
namespace Rows
def none {H : Type} : Left H := { results := [], args := [] }

/-- 'lexiconlaw10.SharedPlays': WHATEVER THE INPUT: true; the input reads as it did. -/
def sharedPlaysSpec : ChangeSpec := { name := "sharedPlays", fn := fun _ => fun
  | [d1, d2, d3] => { results := [.lit (.bool true)], args := [d1, d2, d3] }
  | _ => none }
def sharedPlaysRow : OpenClaim := { program := "ytajmfenfajbakaagreat", sum := "3f3ae482e0f5a5bf0ac25a8bc2ab702cff14eefac2879f42f01f01e1f29a2271", func := "lexicon/lexiconlaw10.SharedPlays", spec := "sharedPlays", inPlace := ["sync/atomic.AddInt64"], unfollowed := true, recurses := true, apart := false }
def SharedPlaysSaid : Prop := sharedPlaysRow.holds Tryz.pinned (OpenSpec.ofChange sharedPlaysSpec)

/-- ITS FALSE NEIGHBOUR: 'it returns false'. Refute it at one input. -/
def sharedPlaysWrong : ChangeSpec := { name := "sharedPlays", fn := fun _ => fun
  | [d1, d2, d3] => { results := [.lit (.bool false)], args := [d1, d2, d3] }
  | _ => none }
def SharedPlaysWrongFalsely : Prop := sharedPlaysRow.holds Tryz.pinned (OpenSpec.ofChange sharedPlaysWrong)

/-- 'lexiconlaw10.SharedMeters': WHATEVER THE INPUT: true; the input reads as it did. -/
def sharedMetersSpec : ChangeSpec := { name := "sharedMeters", fn := fun _ => fun
  | [d1, d2, d3] => { results := [.lit (.bool true)], args := [d1, d2, d3] }
  | _ => none }
def sharedMetersRow : OpenClaim := { program := "ytajmfenfajbakaagreat", sum := "3f3ae482e0f5a5bf0ac25a8bc2ab702cff14eefac2879f42f01f01e1f29a2271", func := "lexicon/lexiconlaw10.SharedMeters", spec := "sharedMeters", inPlace := ["sync/atomic.AddInt64", "sync/atomic.LoadInt64"], unfollowed := true, recurses := true, apart := false }
def SharedMetersSaid : Prop := sharedMetersRow.holds Tryz.pinned (OpenSpec.ofChange sharedMetersSpec)

/-- ITS FALSE NEIGHBOUR: 'it returns false'. Refute it at one input. -/
def sharedMetersWrong : ChangeSpec := { name := "sharedMeters", fn := fun _ => fun
  | [d1, d2, d3] => { results := [.lit (.bool false)], args := [d1, d2, d3] }
  | _ => none }
def SharedMetersWrongFalsely : Prop := sharedMetersRow.holds Tryz.pinned (OpenSpec.ofChange sharedMetersWrong)

/- THE SECOND FORM. 'bulk': how many values and letters a reading holds, each counted each time it is reached (what is shared counts as often as it is met; a slice's spare places count too). A statement '..UptoSaid' is the law's where the arguments, and the package variables that the reading takes, are together of bulk at most 1048576: NARROWER than '..Said'. Prove '..Said' where nothing that the law and all that it calls make is longer than what came in: it says more and counts as full. Else prove '..UptoSaid'. A law counts once. -/
mutual
def uptoBulk {H : Type} : DataW H → Nat
  | .lit (.string bytes) => bytes.length + 1
  | .lit _ => 1
  | .nil => 1
  | .ptr d => uptoBulk d + 1
  | .slice elems spare => uptoBulkAll elems + uptoBulkAll spare + 1
  | .agg parts => uptoBulkAll parts + 1
  | .iface _ d => uptoBulk d + 1
  | .map entries => uptoBulkEntries entries + 1
  | .held _ => 1
def uptoBulkAll {H : Type} : List (DataW H) → Nat
  | [] => 0
  | d :: r => uptoBulk d + uptoBulkAll r
def uptoBulkEntries {H : Type} : List (Lit × DataW H) → Nat
  | [] => 0
  | x :: r => uptoBulkEntry x + uptoBulkEntries r
def uptoBulkEntry {H : Type} : Lit × DataW H → Nat
  | (.string bytes, d) => bytes.length + uptoBulk d + 1
  | (_, d) => uptoBulk d + 1
 end
def uptoSmall : (H : Type) → List (DataW H) → Bool := fun _ ds => decide (uptoBulkAll ds ≤ 1048576)
def OpenSpec.upto (s : _root_.Go.ChangeSpec) : _root_.Go.OpenSpec := { _root_.Go.OpenSpec.ofChange s with cond := some uptoSmall }

/-- 'lexiconlaw10.SharedPlays', WHERE WHAT IT READS IS OF BULK AT MOST 1048576: true; the input reads as it did. -/
def sharedPlaysUptoRow : OpenClaim := { program := "ytajmfenfajbakaagreat", sum := "3f3ae482e0f5a5bf0ac25a8bc2ab702cff14eefac2879f42f01f01e1f29a2271", func := "lexicon/lexiconlaw10.SharedPlays", spec := "sharedPlays", inPlace := ["sync/atomic.AddInt64"], unfollowed := true, recurses := true, apart := false, narrowed := true }
def SharedPlaysUptoSaid : Prop := sharedPlaysUptoRow.holds Tryz.pinned (OpenSpec.upto sharedPlaysSpec)

/-- 'lexiconlaw10.SharedMeters', WHERE WHAT IT READS IS OF BULK AT MOST 1048576: true; the input reads as it did. -/
def sharedMetersUptoRow : OpenClaim := { program := "ytajmfenfajbakaagreat", sum := "3f3ae482e0f5a5bf0ac25a8bc2ab702cff14eefac2879f42f01f01e1f29a2271", func := "lexicon/lexiconlaw10.SharedMeters", spec := "sharedMeters", inPlace := ["sync/atomic.AddInt64", "sync/atomic.LoadInt64"], unfollowed := true, recurses := true, apart := false, narrowed := true }
def SharedMetersUptoSaid : Prop := sharedMetersUptoRow.holds Tryz.pinned (OpenSpec.upto sharedMetersSpec)

end Rows
end Go.Proofs.YtajmfenfajbakaaGreat
