/-
  No cell of these rows narrows 'for every input' (looked for: loops, veiled, ifaces, maps, wideKeys, modest, calm, conditions, laid).
  DERIVED. THE GIVEN ROWS OF THIS SEAT. 4 by the template 'for every input the law returns true; each argument reads behind the call as it read before'; 0 by the template 'total and deterministic' (their statements: YtcakdmapnmneoaaGreatTotals.lean).
  GIVEN WITH THE SEED: the statements are not yours to turn. If you find one false, say at which input.
  Laid BY PROGRAM, IN A SANDBOX (cutbox-rows.mjs): the forced cells as the released guide's own fill.sh prints them over the translation 93c4d611fdb5b22c… (all of the seat's roots in one cut). By AI agents, Wed Nov 11 2026. No macro, syntax, notation, axiom, sorry.
-/
import Derived.Test.YtcakdmapnmneoaaGreatChecked
import GoSem.Claim
import GoSem.ClaimJoined
import GoSem.ClaimMapViews
import Derived.JoinedTies
import Derived.KernelRfl
namespace Go.Proofs.YtcakdmapnmneoaaGreat
/- THE CELL 'sum', in the pinned program and in every row, IS THE sha256 OF THE DUMP (.gsa) THAT YtcakdmapnmneoaaGreatProg.lean LOADS. Nothing in Lean hashes anything: it is a label: what it is worth is what the hold of that sum in a sandbox is worth. -/
noncomputable def Tryz.pinned : Pinned := { name := "ytcakdmapnmneoaagreat", sum := "93c4d611fdb5b22c936885f1f236b321cd0a73f53a144976815d7d8b792fd847", checked := Tryz.checked }
namespace Rows
def none {H : Type} : Left H := { results := [], args := [] }

/-- 'lexiconlaw9.StrollPlays': WHATEVER THE INPUT: true; the input reads as it did. -/
def strollPlaysSpec : ChangeSpec := { name := "strollPlays", fn := fun _ => fun
  | [d1, d2] => { results := [.lit (.bool true)], args := [d1, d2] }
  | _ => none }
def strollPlaysRow : OpenClaim := { program := "ytcakdmapnmneoaagreat", sum := "93c4d611fdb5b22c936885f1f236b321cd0a73f53a144976815d7d8b792fd847", func := "lexicon/lexiconlaw9.StrollPlays", spec := "strollPlays", inPlace := ["sync/atomic.AddInt64"], unfollowed := true, recurses := true, apart := false }
def StrollPlaysSaid : Prop := strollPlaysRow.holds Tryz.pinned (OpenSpec.ofChange strollPlaysSpec)

/-- ITS FALSE NEIGHBOUR: 'it returns false'. Refute it at one input. -/
def strollPlaysWrong : ChangeSpec := { name := "strollPlays", fn := fun _ => fun
  | [d1, d2] => { results := [.lit (.bool false)], args := [d1, d2] }
  | _ => none }
def StrollPlaysWrongFalsely : Prop := strollPlaysRow.holds Tryz.pinned (OpenSpec.ofChange strollPlaysWrong)

/-- 'lexiconlaw8.ProbePlays': WHATEVER THE INPUT: true; the input reads as it did. -/
def probePlaysSpec : ChangeSpec := { name := "probePlays", fn := fun _ => fun
  | [d1, d2] => { results := [.lit (.bool true)], args := [d1, d2] }
  | _ => none }
def probePlaysRow : OpenClaim := { program := "ytcakdmapnmneoaagreat", sum := "93c4d611fdb5b22c936885f1f236b321cd0a73f53a144976815d7d8b792fd847", func := "lexicon/lexiconlaw8.ProbePlays", spec := "probePlays", inPlace := ["sync/atomic.AddInt64"], unfollowed := true, recurses := true, apart := false }
def ProbePlaysSaid : Prop := probePlaysRow.holds Tryz.pinned (OpenSpec.ofChange probePlaysSpec)

/-- ITS FALSE NEIGHBOUR: 'it returns false'. Refute it at one input. -/
def probePlaysWrong : ChangeSpec := { name := "probePlays", fn := fun _ => fun
  | [d1, d2] => { results := [.lit (.bool false)], args := [d1, d2] }
  | _ => none }
def ProbePlaysWrongFalsely : Prop := probePlaysRow.holds Tryz.pinned (OpenSpec.ofChange probePlaysWrong)

/-- 'lexiconlaw8.ProbeTwo': WHATEVER THE INPUT: true; the input reads as it did. -/
def probeTwoSpec : ChangeSpec := { name := "probeTwo", fn := fun _ => fun
  | [d1, d2, d3, d4] => { results := [.lit (.bool true)], args := [d1, d2, d3, d4] }
  | _ => none }
def probeTwoRow : OpenClaim := { program := "ytcakdmapnmneoaagreat", sum := "93c4d611fdb5b22c936885f1f236b321cd0a73f53a144976815d7d8b792fd847", func := "lexicon/lexiconlaw8.ProbeTwo", spec := "probeTwo", inPlace := ["sync/atomic.AddInt64"], unfollowed := true, recurses := true, apart := false }
def ProbeTwoSaid : Prop := probeTwoRow.holds Tryz.pinned (OpenSpec.ofChange probeTwoSpec)

/-- ITS FALSE NEIGHBOUR: 'it returns false'. Refute it at one input. -/
def probeTwoWrong : ChangeSpec := { name := "probeTwo", fn := fun _ => fun
  | [d1, d2, d3, d4] => { results := [.lit (.bool false)], args := [d1, d2, d3, d4] }
  | _ => none }
def ProbeTwoWrongFalsely : Prop := probeTwoRow.holds Tryz.pinned (OpenSpec.ofChange probeTwoWrong)

/-- 'lexiconlaw8.ProbeMeters': WHATEVER THE INPUT: true; the input reads as it did. -/
def probeMetersSpec : ChangeSpec := { name := "probeMeters", fn := fun _ => fun
  | [d1, d2] => { results := [.lit (.bool true)], args := [d1, d2] }
  | _ => none }
def probeMetersRow : OpenClaim := { program := "ytcakdmapnmneoaagreat", sum := "93c4d611fdb5b22c936885f1f236b321cd0a73f53a144976815d7d8b792fd847", func := "lexicon/lexiconlaw8.ProbeMeters", spec := "probeMeters", inPlace := ["sync/atomic.AddInt64", "sync/atomic.LoadInt64"], unfollowed := true, recurses := true, apart := false }
def ProbeMetersSaid : Prop := probeMetersRow.holds Tryz.pinned (OpenSpec.ofChange probeMetersSpec)

/-- ITS FALSE NEIGHBOUR: 'it returns false'. Refute it at one input. -/
def probeMetersWrong : ChangeSpec := { name := "probeMeters", fn := fun _ => fun
  | [d1, d2] => { results := [.lit (.bool false)], args := [d1, d2] }
  | _ => none }
def ProbeMetersWrongFalsely : Prop := probeMetersRow.holds Tryz.pinned (OpenSpec.ofChange probeMetersWrong)

/- THE SECOND FORM. 'bulk': how many values and letters a reading holds, each counted each time it is reached (what is shared counts as often as it is met; a slice's spare places count too). A statement '..UptoSaid' is the law's where the arguments, and the package variables that the reading takes, are together of bulk at most 1048576: NARROWER than '..Said'. Prove '..Said' where nothing that the law and all that it calls make is longer than what came in: it says more and counts as full. Else prove '..UptoSaid'. A law counts once. -/
mutual
def uptoBulk {H : Type} : DataW H → Nat
  | .lit (.string bytes) => bytes.length + 1
  | .lit _ => 1
  | .nil => 1
  | .ptr d => uptoBulk d + 1
  | .slice elems spare => uptoBulkAll elems + uptoBulkAll spare + 1
  | .agg parts => uptoBulkAll parts + 1
  | .iface _ d => uptoBulk d + 1
  | .map entries => uptoBulkEntries entries + 1
  | .held _ => 1
def uptoBulkAll {H : Type} : List (DataW H) → Nat
  | [] => 0
  | d :: r => uptoBulk d + uptoBulkAll r
def uptoBulkEntries {H : Type} : List (Lit × DataW H) → Nat
  | [] => 0
  | x :: r => uptoBulkEntry x + uptoBulkEntries r
def uptoBulkEntry {H : Type} : Lit × DataW H → Nat
  | (.string bytes, d) => bytes.length + uptoBulk d + 1
  | (_, d) => uptoBulk d + 1
 end
def uptoSmall : (H : Type) → List (DataW H) → Bool := fun _ ds => decide (uptoBulkAll ds ≤ 1048576)
def OpenSpec.upto (s : _root_.Go.ChangeSpec) : _root_.Go.OpenSpec := { _root_.Go.OpenSpec.ofChange s with cond := some uptoSmall }

/-- 'lexiconlaw9.StrollPlays', WHERE WHAT IT READS IS OF BULK AT MOST 1048576: true; the input reads as it did. -/
def strollPlaysUptoRow : OpenClaim := { program := "ytcakdmapnmneoaagreat", sum := "93c4d611fdb5b22c936885f1f236b321cd0a73f53a144976815d7d8b792fd847", func := "lexicon/lexiconlaw9.StrollPlays", spec := "strollPlays", inPlace := ["sync/atomic.AddInt64"], unfollowed := true, recurses := true, apart := false, narrowed := true }
def StrollPlaysUptoSaid : Prop := strollPlaysUptoRow.holds Tryz.pinned (OpenSpec.upto strollPlaysSpec)

/-- 'lexiconlaw8.ProbePlays', WHERE WHAT IT READS IS OF BULK AT MOST 1048576: true; the input reads as it did. -/
def probePlaysUptoRow : OpenClaim := { program := "ytcakdmapnmneoaagreat", sum := "93c4d611fdb5b22c936885f1f236b321cd0a73f53a144976815d7d8b792fd847", func := "lexicon/lexiconlaw8.ProbePlays", spec := "probePlays", inPlace := ["sync/atomic.AddInt64"], unfollowed := true, recurses := true, apart := false, narrowed := true }
def ProbePlaysUptoSaid : Prop := probePlaysUptoRow.holds Tryz.pinned (OpenSpec.upto probePlaysSpec)

/-- 'lexiconlaw8.ProbeTwo', WHERE WHAT IT READS IS OF BULK AT MOST 1048576: true; the input reads as it did. -/
def probeTwoUptoRow : OpenClaim := { program := "ytcakdmapnmneoaagreat", sum := "93c4d611fdb5b22c936885f1f236b321cd0a73f53a144976815d7d8b792fd847", func := "lexicon/lexiconlaw8.ProbeTwo", spec := "probeTwo", inPlace := ["sync/atomic.AddInt64"], unfollowed := true, recurses := true, apart := false, narrowed := true }
def ProbeTwoUptoSaid : Prop := probeTwoUptoRow.holds Tryz.pinned (OpenSpec.upto probeTwoSpec)

/-- 'lexiconlaw8.ProbeMeters', WHERE WHAT IT READS IS OF BULK AT MOST 1048576: true; the input reads as it did. -/
def probeMetersUptoRow : OpenClaim := { program := "ytcakdmapnmneoaagreat", sum := "93c4d611fdb5b22c936885f1f236b321cd0a73f53a144976815d7d8b792fd847", func := "lexicon/lexiconlaw8.ProbeMeters", spec := "probeMeters", inPlace := ["sync/atomic.AddInt64", "sync/atomic.LoadInt64"], unfollowed := true, recurses := true, apart := false, narrowed := true }
def ProbeMetersUptoSaid : Prop := probeMetersUptoRow.holds Tryz.pinned (OpenSpec.upto probeMetersSpec)

end Rows
end Go.Proofs.YtcakdmapnmneoaaGreat
