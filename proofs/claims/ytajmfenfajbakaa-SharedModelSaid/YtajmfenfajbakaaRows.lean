/-
  No cell of these rows narrows 'for every input' (looked for: loops, veiled, ifaces, maps, wideKeys, modest, calm, conditions, laid).
  DERIVED. THE GIVEN ROWS OF THIS SEAT. 4 by the template 'for every input the law returns true; each argument reads behind the call as it read before'; 0 by the template 'total and deterministic' (their statements: YtajmfenfajbakaaTotals.lean).
  GIVEN WITH THE SEED: the statements are not yours to turn. If you find one false, say at which input.
  Laid BY PROGRAM, IN A SANDBOX (cutbox-rows.mjs): the forced cells as the released guide's own fill.sh prints them over the translation f3a9662a8e312e2e… (all of the seat's roots in one cut). By AI agents, Wed Nov 11 2026. No macro, syntax, notation, axiom, sorry.
-/
import Derived.Test.YtajmfenfajbakaaChecked
import GoSem.Claim
import GoSem.ClaimJoined
import GoSem.ClaimMapViews
import Derived.JoinedTies
import Derived.KernelRfl
namespace Go.Proofs.Ytajmfenfajbakaa
/- THE CELL 'sum', in the pinned program and in every row, IS THE sha256 OF THE DUMP (.gsa) THAT YtajmfenfajbakaaProg.lean LOADS. Nothing in Lean hashes anything: it is a label: what it is worth is what the hold of that sum in a sandbox is worth. -/
noncomputable def Try.pinned : Pinned := { name := "ytajmfenfajbakaa", sum := "f3a9662a8e312e2e9fa97b11441b6fcfc47fe91c16442aaeb5d586943111d452", checked := Try.checked }
namespace Rows
def none {H : Type} : Left H := { results := [], args := [] }

/-- 'lexiconlaw10.SharedFresh': WHATEVER THE INPUT: true; the input reads as it did. -/
def sharedFreshSpec : ChangeSpec := { name := "sharedFresh", fn := fun _ => fun
  | [d1, d2, d3, d4] => { results := [.lit (.bool true)], args := [d1, d2, d3, d4] }
  | _ => none }
def sharedFreshRow : OpenClaim := { program := "ytajmfenfajbakaa", sum := "f3a9662a8e312e2e9fa97b11441b6fcfc47fe91c16442aaeb5d586943111d452", func := "lexicon/lexiconlaw10.SharedFresh", spec := "sharedFresh", inPlace := ["sync/atomic.AddInt64", "sync/atomic.LoadInt64"], unfollowed := true, recurses := true, apart := false }
def SharedFreshSaid : Prop := sharedFreshRow.holds Try.pinned (OpenSpec.ofChange sharedFreshSpec)

/-- ITS FALSE NEIGHBOUR: 'it returns false'. Refute it at one input. -/
def sharedFreshWrong : ChangeSpec := { name := "sharedFresh", fn := fun _ => fun
  | [d1, d2, d3, d4] => { results := [.lit (.bool false)], args := [d1, d2, d3, d4] }
  | _ => none }
def SharedFreshWrongFalsely : Prop := sharedFreshRow.holds Try.pinned (OpenSpec.ofChange sharedFreshWrong)

/-- 'lexiconlaw10.SharedOwn': WHATEVER THE INPUT: true; the input reads as it did. -/
def sharedOwnSpec : ChangeSpec := { name := "sharedOwn", fn := fun _ => fun
  | [d] => { results := [.lit (.bool true)], args := [d] }
  | _ => none }
def sharedOwnRow : OpenClaim := { program := "ytajmfenfajbakaa", sum := "f3a9662a8e312e2e9fa97b11441b6fcfc47fe91c16442aaeb5d586943111d452", func := "lexicon/lexiconlaw10.SharedOwn", spec := "sharedOwn", inPlace := ["sync/atomic.AddInt64"], unfollowed := true, recurses := true, apart := false }
def SharedOwnSaid : Prop := sharedOwnRow.holds Try.pinned (OpenSpec.ofChange sharedOwnSpec)

/-- ITS FALSE NEIGHBOUR: 'it returns false'. Refute it at one input. -/
def sharedOwnWrong : ChangeSpec := { name := "sharedOwn", fn := fun _ => fun
  | [d] => { results := [.lit (.bool false)], args := [d] }
  | _ => none }
def SharedOwnWrongFalsely : Prop := sharedOwnRow.holds Try.pinned (OpenSpec.ofChange sharedOwnWrong)

/-- 'lexiconlaw10.SharedModel': WHATEVER THE INPUT: true; the input reads as it did. -/
def sharedModelSpec : ChangeSpec := { name := "sharedModel", fn := fun _ => fun
  | [d1, d2, d3] => { results := [.lit (.bool true)], args := [d1, d2, d3] }
  | _ => none }
def sharedModelRow : OpenClaim := { program := "ytajmfenfajbakaa", sum := "f3a9662a8e312e2e9fa97b11441b6fcfc47fe91c16442aaeb5d586943111d452", func := "lexicon/lexiconlaw10.SharedModel", spec := "sharedModel", inPlace := ["sync/atomic.AddInt64"], unfollowed := true, recurses := true, apart := false }
def SharedModelSaid : Prop := sharedModelRow.holds Try.pinned (OpenSpec.ofChange sharedModelSpec)

/-- ITS FALSE NEIGHBOUR: 'it returns false'. Refute it at one input. -/
def sharedModelWrong : ChangeSpec := { name := "sharedModel", fn := fun _ => fun
  | [d1, d2, d3] => { results := [.lit (.bool false)], args := [d1, d2, d3] }
  | _ => none }
def SharedModelWrongFalsely : Prop := sharedModelRow.holds Try.pinned (OpenSpec.ofChange sharedModelWrong)

/-- 'lexiconlaw10.SharedNothing': WHATEVER THE INPUT: true; the input reads as it did. -/
def sharedNothingSpec : ChangeSpec := { name := "sharedNothing", fn := fun _ => fun
  | [d] => { results := [.lit (.bool true)], args := [d] }
  | _ => none }
def sharedNothingRow : OpenClaim := { program := "ytajmfenfajbakaa", sum := "f3a9662a8e312e2e9fa97b11441b6fcfc47fe91c16442aaeb5d586943111d452", func := "lexicon/lexiconlaw10.SharedNothing", spec := "sharedNothing", inPlace := ["sync/atomic.AddInt64"], unfollowed := true, recurses := true, apart := false }
def SharedNothingSaid : Prop := sharedNothingRow.holds Try.pinned (OpenSpec.ofChange sharedNothingSpec)

/-- ITS FALSE NEIGHBOUR: 'it returns false'. Refute it at one input. -/
def sharedNothingWrong : ChangeSpec := { name := "sharedNothing", fn := fun _ => fun
  | [d] => { results := [.lit (.bool false)], args := [d] }
  | _ => none }
def SharedNothingWrongFalsely : Prop := sharedNothingRow.holds Try.pinned (OpenSpec.ofChange sharedNothingWrong)

/- THE SECOND FORM. 'bulk': how many values and letters a reading holds, each counted each time it is reached (what is shared counts as often as it is met; a slice's spare places count too). A statement '..UptoSaid' is the law's where the arguments, and the package variables that the reading takes, are together of bulk at most 1048576: NARROWER than '..Said'. Prove '..Said' where nothing that the law and all that it calls make is longer than what came in: it says more and counts as full. Else prove '..UptoSaid'. A law counts once. -/
mutual
def uptoBulk {H : Type} : DataW H → Nat
  | .lit (.string bytes) => bytes.length + 1
  | .lit _ => 1
  | .nil => 1
  | .ptr d => uptoBulk d + 1
  | .slice elems spare => uptoBulkAll elems + uptoBulkAll spare + 1
  | .agg parts => uptoBulkAll parts + 1
  | .iface _ d => uptoBulk d + 1
  | .map entries => uptoBulkEntries entries + 1
  | .held _ => 1
def uptoBulkAll {H : Type} : List (DataW H) → Nat
  | [] => 0
  | d :: r => uptoBulk d + uptoBulkAll r
def uptoBulkEntries {H : Type} : List (Lit × DataW H) → Nat
  | [] => 0
  | x :: r => uptoBulkEntry x + uptoBulkEntries r
def uptoBulkEntry {H : Type} : Lit × DataW H → Nat
  | (.string bytes, d) => bytes.length + uptoBulk d + 1
  | (_, d) => uptoBulk d + 1
 end
def uptoSmall : (H : Type) → List (DataW H) → Bool := fun _ ds => decide (uptoBulkAll ds ≤ 1048576)
def OpenSpec.upto (s : _root_.Go.ChangeSpec) : _root_.Go.OpenSpec := { _root_.Go.OpenSpec.ofChange s with cond := some uptoSmall }

/-- 'lexiconlaw10.SharedFresh', WHERE WHAT IT READS IS OF BULK AT MOST 1048576: true; the input reads as it did. -/
def sharedFreshUptoRow : OpenClaim := { program := "ytajmfenfajbakaa", sum := "f3a9662a8e312e2e9fa97b11441b6fcfc47fe91c16442aaeb5d586943111d452", func := "lexicon/lexiconlaw10.SharedFresh", spec := "sharedFresh", inPlace := ["sync/atomic.AddInt64", "sync/atomic.LoadInt64"], unfollowed := true, recurses := true, apart := false, narrowed := true }
def SharedFreshUptoSaid : Prop := sharedFreshUptoRow.holds Try.pinned (OpenSpec.upto sharedFreshSpec)

/-- 'lexiconlaw10.SharedOwn', WHERE WHAT IT READS IS OF BULK AT MOST 1048576: true; the input reads as it did. -/
def sharedOwnUptoRow : OpenClaim := { program := "ytajmfenfajbakaa", sum := "f3a9662a8e312e2e9fa97b11441b6fcfc47fe91c16442aaeb5d586943111d452", func := "lexicon/lexiconlaw10.SharedOwn", spec := "sharedOwn", inPlace := ["sync/atomic.AddInt64"], unfollowed := true, recurses := true, apart := false, narrowed := true }
def SharedOwnUptoSaid : Prop := sharedOwnUptoRow.holds Try.pinned (OpenSpec.upto sharedOwnSpec)

/-- 'lexiconlaw10.SharedModel', WHERE WHAT IT READS IS OF BULK AT MOST 1048576: true; the input reads as it did. -/
def sharedModelUptoRow : OpenClaim := { program := "ytajmfenfajbakaa", sum := "f3a9662a8e312e2e9fa97b11441b6fcfc47fe91c16442aaeb5d586943111d452", func := "lexicon/lexiconlaw10.SharedModel", spec := "sharedModel", inPlace := ["sync/atomic.AddInt64"], unfollowed := true, recurses := true, apart := false, narrowed := true }
def SharedModelUptoSaid : Prop := sharedModelUptoRow.holds Try.pinned (OpenSpec.upto sharedModelSpec)

/-- 'lexiconlaw10.SharedNothing', WHERE WHAT IT READS IS OF BULK AT MOST 1048576: true; the input reads as it did. -/
def sharedNothingUptoRow : OpenClaim := { program := "ytajmfenfajbakaa", sum := "f3a9662a8e312e2e9fa97b11441b6fcfc47fe91c16442aaeb5d586943111d452", func := "lexicon/lexiconlaw10.SharedNothing", spec := "sharedNothing", inPlace := ["sync/atomic.AddInt64"], unfollowed := true, recurses := true, apart := false, narrowed := true }
def SharedNothingUptoSaid : Prop := sharedNothingUptoRow.holds Try.pinned (OpenSpec.upto sharedNothingSpec)

end Rows
end Go.Proofs.Ytajmfenfajbakaa
