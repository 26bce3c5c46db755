/-
  No cell of these rows narrows 'for every input' (looked for: loops, veiled, ifaces, maps, wideKeys, modest, calm, conditions, laid).
  DERIVED. THE GIVEN ROWS OF THIS SEAT. 8 by the template 'for every input the law returns true; each argument reads behind the call as it read before'; 0 by the template 'total and deterministic' (their statements: YtcakdmapnmneoaaTotals.lean).
  GIVEN WITH THE SEED: the statements are not yours to turn. If you find one false, say at which input.
  Laid BY PROGRAM, IN A SANDBOX (cutbox-rows.mjs): the forced cells as the released guide's own fill.sh prints them over the translation c5ccc4be22d46a17… (all of the seat's roots in one cut). By AI agents, Wed Nov 11 2026. No macro, syntax, notation, axiom, sorry.
-/
import Derived.Test.YtcakdmapnmneoaaChecked
import GoSem.Claim
import GoSem.ClaimJoined
import GoSem.ClaimMapViews
import Derived.JoinedTies
import Derived.KernelRfl
namespace Go.Proofs.Ytcakdmapnmneoaa
/- THE CELL 'sum', in the pinned program and in every row, IS THE sha256 OF THE DUMP (.gsa) THAT YtcakdmapnmneoaaProg.lean LOADS. Nothing in Lean hashes anything: it is a label: what it is worth is what the hold of that sum in a sandbox is worth. -/
noncomputable def Try.pinned : Pinned := { name := "ytcakdmapnmneoaa", sum := "c5ccc4be22d46a17be122b6bb0881b5067ce189b8194d8307d98db27d39ee888", checked := Try.checked }
namespace Rows
def none {H : Type} : Left H := { results := [], args := [] }

/-- 'lexiconlaw8.ProbeOwn': WHATEVER THE INPUT: true; the input reads as it did. -/
def probeOwnSpec : ChangeSpec := { name := "probeOwn", fn := fun _ => fun
  | [d] => { results := [.lit (.bool true)], args := [d] }
  | _ => none }
def probeOwnRow : OpenClaim := { program := "ytcakdmapnmneoaa", sum := "c5ccc4be22d46a17be122b6bb0881b5067ce189b8194d8307d98db27d39ee888", func := "lexicon/lexiconlaw8.ProbeOwn", spec := "probeOwn", inPlace := ["sync/atomic.AddInt64"], unfollowed := true, recurses := true, apart := false }
def ProbeOwnSaid : Prop := probeOwnRow.holds Try.pinned (OpenSpec.ofChange probeOwnSpec)

/-- ITS FALSE NEIGHBOUR: 'it returns false'. Refute it at one input. -/
def probeOwnWrong : ChangeSpec := { name := "probeOwn", fn := fun _ => fun
  | [d] => { results := [.lit (.bool false)], args := [d] }
  | _ => none }
def ProbeOwnWrongFalsely : Prop := probeOwnRow.holds Try.pinned (OpenSpec.ofChange probeOwnWrong)

/-- 'lexiconlaw8.ProbeFull': WHATEVER THE INPUT: true; the input reads as it did. -/
def probeFullSpec : ChangeSpec := { name := "probeFull", fn := fun _ => fun
  | [d1, d2] => { results := [.lit (.bool true)], args := [d1, d2] }
  | _ => none }
def probeFullRow : OpenClaim := { program := "ytcakdmapnmneoaa", sum := "c5ccc4be22d46a17be122b6bb0881b5067ce189b8194d8307d98db27d39ee888", func := "lexicon/lexiconlaw8.ProbeFull", spec := "probeFull", inPlace := ["sync/atomic.AddInt64"], unfollowed := true, recurses := true, apart := false }
def ProbeFullSaid : Prop := probeFullRow.holds Try.pinned (OpenSpec.ofChange probeFullSpec)

/-- ITS FALSE NEIGHBOUR: 'it returns false'. Refute it at one input. -/
def probeFullWrong : ChangeSpec := { name := "probeFull", fn := fun _ => fun
  | [d1, d2] => { results := [.lit (.bool false)], args := [d1, d2] }
  | _ => none }
def ProbeFullWrongFalsely : Prop := probeFullRow.holds Try.pinned (OpenSpec.ofChange probeFullWrong)

/-- 'lexiconlaw8.ProbeOnce': WHATEVER THE INPUT: true; the input reads as it did. -/
def probeOnceSpec : ChangeSpec := { name := "probeOnce", fn := fun _ => fun
  | [d1, d2, d3] => { results := [.lit (.bool true)], args := [d1, d2, d3] }
  | _ => none }
def probeOnceRow : OpenClaim := { program := "ytcakdmapnmneoaa", sum := "c5ccc4be22d46a17be122b6bb0881b5067ce189b8194d8307d98db27d39ee888", func := "lexicon/lexiconlaw8.ProbeOnce", spec := "probeOnce", inPlace := ["sync/atomic.AddInt64"], unfollowed := true, recurses := true, apart := false }
def ProbeOnceSaid : Prop := probeOnceRow.holds Try.pinned (OpenSpec.ofChange probeOnceSpec)

/-- ITS FALSE NEIGHBOUR: 'it returns false'. Refute it at one input. -/
def probeOnceWrong : ChangeSpec := { name := "probeOnce", fn := fun _ => fun
  | [d1, d2, d3] => { results := [.lit (.bool false)], args := [d1, d2, d3] }
  | _ => none }
def ProbeOnceWrongFalsely : Prop := probeOnceRow.holds Try.pinned (OpenSpec.ofChange probeOnceWrong)

/-- 'lexiconlaw9.StrollNothing': WHATEVER THE INPUT: true; the input reads as it did. -/
def strollNothingSpec : ChangeSpec := { name := "strollNothing", fn := fun _ => fun
  | [d1, d2] => { results := [.lit (.bool true)], args := [d1, d2] }
  | _ => none }
def strollNothingRow : OpenClaim := { program := "ytcakdmapnmneoaa", sum := "c5ccc4be22d46a17be122b6bb0881b5067ce189b8194d8307d98db27d39ee888", func := "lexicon/lexiconlaw9.StrollNothing", spec := "strollNothing", inPlace := ["sync/atomic.AddInt64"], unfollowed := true, recurses := true, apart := false }
def StrollNothingSaid : Prop := strollNothingRow.holds Try.pinned (OpenSpec.ofChange strollNothingSpec)

/-- ITS FALSE NEIGHBOUR: 'it returns false'. Refute it at one input. -/
def strollNothingWrong : ChangeSpec := { name := "strollNothing", fn := fun _ => fun
  | [d1, d2] => { results := [.lit (.bool false)], args := [d1, d2] }
  | _ => none }
def StrollNothingWrongFalsely : Prop := strollNothingRow.holds Try.pinned (OpenSpec.ofChange strollNothingWrong)

/-- 'lexiconlaw9.StrollWhole': WHATEVER THE INPUT: true; the input reads as it did. -/
def strollWholeSpec : ChangeSpec := { name := "strollWhole", fn := fun _ => fun
  | [d1, d2, d3] => { results := [.lit (.bool true)], args := [d1, d2, d3] }
  | _ => none }
def strollWholeRow : OpenClaim := { program := "ytcakdmapnmneoaa", sum := "c5ccc4be22d46a17be122b6bb0881b5067ce189b8194d8307d98db27d39ee888", func := "lexicon/lexiconlaw9.StrollWhole", spec := "strollWhole", inPlace := ["sync/atomic.AddInt64"], unfollowed := true, recurses := true, apart := false }
def StrollWholeSaid : Prop := strollWholeRow.holds Try.pinned (OpenSpec.ofChange strollWholeSpec)

/-- ITS FALSE NEIGHBOUR: 'it returns false'. Refute it at one input. -/
def strollWholeWrong : ChangeSpec := { name := "strollWhole", fn := fun _ => fun
  | [d1, d2, d3] => { results := [.lit (.bool false)], args := [d1, d2, d3] }
  | _ => none }
def StrollWholeWrongFalsely : Prop := strollWholeRow.holds Try.pinned (OpenSpec.ofChange strollWholeWrong)

/-- 'lexiconlaw9.StrollMoves': WHATEVER THE INPUT: true; the input reads as it did. -/
def strollMovesSpec : ChangeSpec := { name := "strollMoves", fn := fun _ => fun
  | [d1, d2, d3, d4, d5] => { results := [.lit (.bool true)], args := [d1, d2, d3, d4, d5] }
  | _ => none }
def strollMovesRow : OpenClaim := { program := "ytcakdmapnmneoaa", sum := "c5ccc4be22d46a17be122b6bb0881b5067ce189b8194d8307d98db27d39ee888", func := "lexicon/lexiconlaw9.StrollMoves", spec := "strollMoves", inPlace := ["sync/atomic.AddInt64"], unfollowed := true, recurses := true, apart := false }
def StrollMovesSaid : Prop := strollMovesRow.holds Try.pinned (OpenSpec.ofChange strollMovesSpec)

/-- ITS FALSE NEIGHBOUR: 'it returns false'. Refute it at one input. -/
def strollMovesWrong : ChangeSpec := { name := "strollMoves", fn := fun _ => fun
  | [d1, d2, d3, d4, d5] => { results := [.lit (.bool false)], args := [d1, d2, d3, d4, d5] }
  | _ => none }
def StrollMovesWrongFalsely : Prop := strollMovesRow.holds Try.pinned (OpenSpec.ofChange strollMovesWrong)

/-- 'lexiconlaw8.ProbeModel': WHATEVER THE INPUT: true; the input reads as it did. -/
def probeModelSpec : ChangeSpec := { name := "probeModel", fn := fun _ => fun
  | [d1, d2, d3, d4] => { results := [.lit (.bool true)], args := [d1, d2, d3, d4] }
  | _ => none }
def probeModelRow : OpenClaim := { program := "ytcakdmapnmneoaa", sum := "c5ccc4be22d46a17be122b6bb0881b5067ce189b8194d8307d98db27d39ee888", func := "lexicon/lexiconlaw8.ProbeModel", spec := "probeModel", inPlace := ["sync/atomic.AddInt64"], unfollowed := true, recurses := true, apart := false }
def ProbeModelSaid : Prop := probeModelRow.holds Try.pinned (OpenSpec.ofChange probeModelSpec)

/-- ITS FALSE NEIGHBOUR: 'it returns false'. Refute it at one input. -/
def probeModelWrong : ChangeSpec := { name := "probeModel", fn := fun _ => fun
  | [d1, d2, d3, d4] => { results := [.lit (.bool false)], args := [d1, d2, d3, d4] }
  | _ => none }
def ProbeModelWrongFalsely : Prop := probeModelRow.holds Try.pinned (OpenSpec.ofChange probeModelWrong)

/-- 'lexiconlaw8.ProbeNothing': WHATEVER THE INPUT: true; the input reads as it did. -/
def probeNothingSpec : ChangeSpec := { name := "probeNothing", fn := fun _ => fun
  | [d] => { results := [.lit (.bool true)], args := [d] }
  | _ => none }
def probeNothingRow : OpenClaim := { program := "ytcakdmapnmneoaa", sum := "c5ccc4be22d46a17be122b6bb0881b5067ce189b8194d8307d98db27d39ee888", func := "lexicon/lexiconlaw8.ProbeNothing", spec := "probeNothing", inPlace := ["sync/atomic.AddInt64"], unfollowed := true, recurses := true, apart := false }
def ProbeNothingSaid : Prop := probeNothingRow.holds Try.pinned (OpenSpec.ofChange probeNothingSpec)

/-- ITS FALSE NEIGHBOUR: 'it returns false'. Refute it at one input. -/
def probeNothingWrong : ChangeSpec := { name := "probeNothing", fn := fun _ => fun
  | [d] => { results := [.lit (.bool false)], args := [d] }
  | _ => none }
def ProbeNothingWrongFalsely : Prop := probeNothingRow.holds Try.pinned (OpenSpec.ofChange probeNothingWrong)

/- THE SECOND FORM. 'bulk': how many values and letters a reading holds, each counted each time it is reached (what is shared counts as often as it is met; a slice's spare places count too). A statement '..UptoSaid' is the law's where the arguments, and the package variables that the reading takes, are together of bulk at most 1048576: NARROWER than '..Said'. Prove '..Said' where nothing that the law and all that it calls make is longer than what came in: it says more and counts as full. Else prove '..UptoSaid'. A law counts once. -/
mutual
def uptoBulk {H : Type} : DataW H → Nat
  | .lit (.string bytes) => bytes.length + 1
  | .lit _ => 1
  | .nil => 1
  | .ptr d => uptoBulk d + 1
  | .slice elems spare => uptoBulkAll elems + uptoBulkAll spare + 1
  | .agg parts => uptoBulkAll parts + 1
  | .iface _ d => uptoBulk d + 1
  | .map entries => uptoBulkEntries entries + 1
  | .held _ => 1
def uptoBulkAll {H : Type} : List (DataW H) → Nat
  | [] => 0
  | d :: r => uptoBulk d + uptoBulkAll r
def uptoBulkEntries {H : Type} : List (Lit × DataW H) → Nat
  | [] => 0
  | x :: r => uptoBulkEntry x + uptoBulkEntries r
def uptoBulkEntry {H : Type} : Lit × DataW H → Nat
  | (.string bytes, d) => bytes.length + uptoBulk d + 1
  | (_, d) => uptoBulk d + 1
 end
def uptoSmall : (H : Type) → List (DataW H) → Bool := fun _ ds => decide (uptoBulkAll ds ≤ 1048576)
def OpenSpec.upto (s : _root_.Go.ChangeSpec) : _root_.Go.OpenSpec := { _root_.Go.OpenSpec.ofChange s with cond := some uptoSmall }

/-- 'lexiconlaw8.ProbeOwn', WHERE WHAT IT READS IS OF BULK AT MOST 1048576: true; the input reads as it did. -/
def probeOwnUptoRow : OpenClaim := { program := "ytcakdmapnmneoaa", sum := "c5ccc4be22d46a17be122b6bb0881b5067ce189b8194d8307d98db27d39ee888", func := "lexicon/lexiconlaw8.ProbeOwn", spec := "probeOwn", inPlace := ["sync/atomic.AddInt64"], unfollowed := true, recurses := true, apart := false, narrowed := true }
def ProbeOwnUptoSaid : Prop := probeOwnUptoRow.holds Try.pinned (OpenSpec.upto probeOwnSpec)

/-- 'lexiconlaw8.ProbeFull', WHERE WHAT IT READS IS OF BULK AT MOST 1048576: true; the input reads as it did. -/
def probeFullUptoRow : OpenClaim := { program := "ytcakdmapnmneoaa", sum := "c5ccc4be22d46a17be122b6bb0881b5067ce189b8194d8307d98db27d39ee888", func := "lexicon/lexiconlaw8.ProbeFull", spec := "probeFull", inPlace := ["sync/atomic.AddInt64"], unfollowed := true, recurses := true, apart := false, narrowed := true }
def ProbeFullUptoSaid : Prop := probeFullUptoRow.holds Try.pinned (OpenSpec.upto probeFullSpec)

/-- 'lexiconlaw8.ProbeOnce', WHERE WHAT IT READS IS OF BULK AT MOST 1048576: true; the input reads as it did. -/
def probeOnceUptoRow : OpenClaim := { program := "ytcakdmapnmneoaa", sum := "c5ccc4be22d46a17be122b6bb0881b5067ce189b8194d8307d98db27d39ee888", func := "lexicon/lexiconlaw8.ProbeOnce", spec := "probeOnce", inPlace := ["sync/atomic.AddInt64"], unfollowed := true, recurses := true, apart := false, narrowed := true }
def ProbeOnceUptoSaid : Prop := probeOnceUptoRow.holds Try.pinned (OpenSpec.upto probeOnceSpec)

/-- 'lexiconlaw9.StrollNothing', WHERE WHAT IT READS IS OF BULK AT MOST 1048576: true; the input reads as it did. -/
def strollNothingUptoRow : OpenClaim := { program := "ytcakdmapnmneoaa", sum := "c5ccc4be22d46a17be122b6bb0881b5067ce189b8194d8307d98db27d39ee888", func := "lexicon/lexiconlaw9.StrollNothing", spec := "strollNothing", inPlace := ["sync/atomic.AddInt64"], unfollowed := true, recurses := true, apart := false, narrowed := true }
def StrollNothingUptoSaid : Prop := strollNothingUptoRow.holds Try.pinned (OpenSpec.upto strollNothingSpec)

/-- 'lexiconlaw9.StrollWhole', WHERE WHAT IT READS IS OF BULK AT MOST 1048576: true; the input reads as it did. -/
def strollWholeUptoRow : OpenClaim := { program := "ytcakdmapnmneoaa", sum := "c5ccc4be22d46a17be122b6bb0881b5067ce189b8194d8307d98db27d39ee888", func := "lexicon/lexiconlaw9.StrollWhole", spec := "strollWhole", inPlace := ["sync/atomic.AddInt64"], unfollowed := true, recurses := true, apart := false, narrowed := true }
def StrollWholeUptoSaid : Prop := strollWholeUptoRow.holds Try.pinned (OpenSpec.upto strollWholeSpec)

/-- 'lexiconlaw9.StrollMoves', WHERE WHAT IT READS IS OF BULK AT MOST 1048576: true; the input reads as it did. -/
def strollMovesUptoRow : OpenClaim := { program := "ytcakdmapnmneoaa", sum := "c5ccc4be22d46a17be122b6bb0881b5067ce189b8194d8307d98db27d39ee888", func := "lexicon/lexiconlaw9.StrollMoves", spec := "strollMoves", inPlace := ["sync/atomic.AddInt64"], unfollowed := true, recurses := true, apart := false, narrowed := true }
def StrollMovesUptoSaid : Prop := strollMovesUptoRow.holds Try.pinned (OpenSpec.upto strollMovesSpec)

/-- 'lexiconlaw8.ProbeModel', WHERE WHAT IT READS IS OF BULK AT MOST 1048576: true; the input reads as it did. -/
def probeModelUptoRow : OpenClaim := { program := "ytcakdmapnmneoaa", sum := "c5ccc4be22d46a17be122b6bb0881b5067ce189b8194d8307d98db27d39ee888", func := "lexicon/lexiconlaw8.ProbeModel", spec := "probeModel", inPlace := ["sync/atomic.AddInt64"], unfollowed := true, recurses := true, apart := false, narrowed := true }
def ProbeModelUptoSaid : Prop := probeModelUptoRow.holds Try.pinned (OpenSpec.upto probeModelSpec)

/-- 'lexiconlaw8.ProbeNothing', WHERE WHAT IT READS IS OF BULK AT MOST 1048576: true; the input reads as it did. -/
def probeNothingUptoRow : OpenClaim := { program := "ytcakdmapnmneoaa", sum := "c5ccc4be22d46a17be122b6bb0881b5067ce189b8194d8307d98db27d39ee888", func := "lexicon/lexiconlaw8.ProbeNothing", spec := "probeNothing", inPlace := ["sync/atomic.AddInt64"], unfollowed := true, recurses := true, apart := false, narrowed := true }
def ProbeNothingUptoSaid : Prop := probeNothingUptoRow.holds Try.pinned (OpenSpec.upto probeNothingSpec)

end Rows
end Go.Proofs.Ytcakdmapnmneoaa
