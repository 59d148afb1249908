/-
  No cell of these rows narrows 'for every input' (looked for: loops, veiled, ifaces, maps, wideKeys, modest, calm, conditions, laid).
  DERIVED. THE GIVEN ROWS OF THIS SEAT. 4 by the template 'for every input the law returns true; each argument reads behind the call as it read before'; 0 by the template 'total and deterministic' (their statements: YtmokpiacioeohaaTotals.lean).
  GIVEN WITH THE SEED: the statements are not yours to turn. If you find one false, say at which input.
  Laid BY PROGRAM, IN A SANDBOX (cutbox-rows.mjs): the forced cells as the released guide's own fill.sh prints them over the translation 878ed749203c0532… (all of the seat's roots in one cut). By AI agents, Wed Nov 11 2026. No macro, syntax, notation, axiom, sorry.
-/
import Derived.Test.YtmokpiacioeohaaChecked
import GoSem.Claim
import GoSem.ClaimJoined
import GoSem.ClaimMapViews
import Derived.JoinedTies
import Derived.KernelRfl
namespace Go.Proofs.Ytmokpiacioeohaa
/- THE CELL 'sum', in the pinned program and in every row, IS THE sha256 OF THE DUMP (.gsa) THAT YtmokpiacioeohaaProg.lean LOADS. Nothing in Lean hashes anything: it is a label: what it is worth is what the hold of that sum in a sandbox is worth. -/
noncomputable def Try.pinned : Pinned := { name := "ytmokpiacioeohaa", sum := "878ed749203c05327970b100880728e2254b0ff14d16ca31c46f2ad98b052255", checked := Try.checked }
namespace Rows
def none {H : Type} : Left H := { results := [], args := [] }

/-- 'soundservicelaw26.LatencyFrames': WHATEVER THE INPUT: true; the input reads as it did. -/
def latencyFramesSpec : ChangeSpec := { name := "latencyFrames", fn := fun _ => fun
  | [d1, d2, d3] => { results := [.lit (.bool true)], args := [d1, d2, d3] }
  | _ => none }
def latencyFramesRow : OpenClaim := { program := "ytmokpiacioeohaa", sum := "878ed749203c05327970b100880728e2254b0ff14d16ca31c46f2ad98b052255", func := "soundservice/soundservicelaw26.LatencyFrames", spec := "latencyFrames", unfollowed := true, recurses := true, apart := false }
def LatencyFramesSaid : Prop := latencyFramesRow.holds Try.pinned (OpenSpec.ofChange latencyFramesSpec)

/-- ITS FALSE NEIGHBOUR: 'it returns false'. Refute it at one input. -/
def latencyFramesWrong : ChangeSpec := { name := "latencyFrames", fn := fun _ => fun
  | [d1, d2, d3] => { results := [.lit (.bool false)], args := [d1, d2, d3] }
  | _ => none }
def LatencyFramesWrongFalsely : Prop := latencyFramesRow.holds Try.pinned (OpenSpec.ofChange latencyFramesWrong)

/-- 'soundservicelaw26.LatencyParts': WHATEVER THE INPUT: true; the input reads as it did. -/
def latencyPartsSpec : ChangeSpec := { name := "latencyParts", fn := fun _ => fun
  | [d1, d2, d3] => { results := [.lit (.bool true)], args := [d1, d2, d3] }
  | _ => none }
def latencyPartsRow : OpenClaim := { program := "ytmokpiacioeohaa", sum := "878ed749203c05327970b100880728e2254b0ff14d16ca31c46f2ad98b052255", func := "soundservice/soundservicelaw26.LatencyParts", spec := "latencyParts", unfollowed := true, recurses := true, apart := false }
def LatencyPartsSaid : Prop := latencyPartsRow.holds Try.pinned (OpenSpec.ofChange latencyPartsSpec)

/-- ITS FALSE NEIGHBOUR: 'it returns false'. Refute it at one input. -/
def latencyPartsWrong : ChangeSpec := { name := "latencyParts", fn := fun _ => fun
  | [d1, d2, d3] => { results := [.lit (.bool false)], args := [d1, d2, d3] }
  | _ => none }
def LatencyPartsWrongFalsely : Prop := latencyPartsRow.holds Try.pinned (OpenSpec.ofChange latencyPartsWrong)

/-- 'soundservicelaw26.LatencyLongest': WHATEVER THE INPUT: true; the input reads as it did. -/
def latencyLongestSpec : ChangeSpec := { name := "latencyLongest", fn := fun _ => fun
  | [d1, d2, d3, d4, d5, d6] => { results := [.lit (.bool true)], args := [d1, d2, d3, d4, d5, d6] }
  | _ => none }
def latencyLongestRow : OpenClaim := { program := "ytmokpiacioeohaa", sum := "878ed749203c05327970b100880728e2254b0ff14d16ca31c46f2ad98b052255", func := "soundservice/soundservicelaw26.LatencyLongest", spec := "latencyLongest", unfollowed := true, recurses := true, apart := false }
def LatencyLongestSaid : Prop := latencyLongestRow.holds Try.pinned (OpenSpec.ofChange latencyLongestSpec)

/-- ITS FALSE NEIGHBOUR: 'it returns false'. Refute it at one input. -/
def latencyLongestWrong : ChangeSpec := { name := "latencyLongest", fn := fun _ => fun
  | [d1, d2, d3, d4, d5, d6] => { results := [.lit (.bool false)], args := [d1, d2, d3, d4, d5, d6] }
  | _ => none }
def LatencyLongestWrongFalsely : Prop := latencyLongestRow.holds Try.pinned (OpenSpec.ofChange latencyLongestWrong)

/-- 'soundservicelaw26.LatencyGrows': WHATEVER THE INPUT: true; the input reads as it did. -/
def latencyGrowsSpec : ChangeSpec := { name := "latencyGrows", fn := fun _ => fun
  | [d1, d2, d3] => { results := [.lit (.bool true)], args := [d1, d2, d3] }
  | _ => none }
def latencyGrowsRow : OpenClaim := { program := "ytmokpiacioeohaa", sum := "878ed749203c05327970b100880728e2254b0ff14d16ca31c46f2ad98b052255", func := "soundservice/soundservicelaw26.LatencyGrows", spec := "latencyGrows", unfollowed := true, recurses := true, apart := false }
def LatencyGrowsSaid : Prop := latencyGrowsRow.holds Try.pinned (OpenSpec.ofChange latencyGrowsSpec)

/-- ITS FALSE NEIGHBOUR: 'it returns false'. Refute it at one input. -/
def latencyGrowsWrong : ChangeSpec := { name := "latencyGrows", fn := fun _ => fun
  | [d1, d2, d3] => { results := [.lit (.bool false)], args := [d1, d2, d3] }
  | _ => none }
def LatencyGrowsWrongFalsely : Prop := latencyGrowsRow.holds Try.pinned (OpenSpec.ofChange latencyGrowsWrong)

/- THE SECOND FORM. 'bulk': how many values and letters a reading holds, each counted each time it is reached (what is shared counts as often as it is met; a slice's spare places count too). A statement '..UptoSaid' is the law's where the arguments, and the package variables that the reading takes, are together of bulk at most 1048576: NARROWER than '..Said'. Prove '..Said' where nothing that the law and all that it calls make is longer than what came in: it says more and counts as full. Else prove '..UptoSaid'. A law counts once. -/
mutual
def uptoBulk {H : Type} : DataW H → Nat
  | .lit (.string bytes) => bytes.length + 1
  | .lit _ => 1
  | .nil => 1
  | .ptr d => uptoBulk d + 1
  | .slice elems spare => uptoBulkAll elems + uptoBulkAll spare + 1
  | .agg parts => uptoBulkAll parts + 1
  | .iface _ d => uptoBulk d + 1
  | .map entries => uptoBulkEntries entries + 1
  | .held _ => 1
def uptoBulkAll {H : Type} : List (DataW H) → Nat
  | [] => 0
  | d :: r => uptoBulk d + uptoBulkAll r
def uptoBulkEntries {H : Type} : List (Lit × DataW H) → Nat
  | [] => 0
  | x :: r => uptoBulkEntry x + uptoBulkEntries r
def uptoBulkEntry {H : Type} : Lit × DataW H → Nat
  | (.string bytes, d) => bytes.length + uptoBulk d + 1
  | (_, d) => uptoBulk d + 1
 end
def uptoSmall : (H : Type) → List (DataW H) → Bool := fun _ ds => decide (uptoBulkAll ds ≤ 1048576)
def OpenSpec.upto (s : _root_.Go.ChangeSpec) : _root_.Go.OpenSpec := { _root_.Go.OpenSpec.ofChange s with cond := some uptoSmall }

/-- 'soundservicelaw26.LatencyFrames', WHERE WHAT IT READS IS OF BULK AT MOST 1048576: true; the input reads as it did. -/
def latencyFramesUptoRow : OpenClaim := { program := "ytmokpiacioeohaa", sum := "878ed749203c05327970b100880728e2254b0ff14d16ca31c46f2ad98b052255", func := "soundservice/soundservicelaw26.LatencyFrames", spec := "latencyFrames", unfollowed := true, recurses := true, apart := false, narrowed := true }
def LatencyFramesUptoSaid : Prop := latencyFramesUptoRow.holds Try.pinned (OpenSpec.upto latencyFramesSpec)

/-- 'soundservicelaw26.LatencyParts', WHERE WHAT IT READS IS OF BULK AT MOST 1048576: true; the input reads as it did. -/
def latencyPartsUptoRow : OpenClaim := { program := "ytmokpiacioeohaa", sum := "878ed749203c05327970b100880728e2254b0ff14d16ca31c46f2ad98b052255", func := "soundservice/soundservicelaw26.LatencyParts", spec := "latencyParts", unfollowed := true, recurses := true, apart := false, narrowed := true }
def LatencyPartsUptoSaid : Prop := latencyPartsUptoRow.holds Try.pinned (OpenSpec.upto latencyPartsSpec)

/-- 'soundservicelaw26.LatencyLongest', WHERE WHAT IT READS IS OF BULK AT MOST 1048576: true; the input reads as it did. -/
def latencyLongestUptoRow : OpenClaim := { program := "ytmokpiacioeohaa", sum := "878ed749203c05327970b100880728e2254b0ff14d16ca31c46f2ad98b052255", func := "soundservice/soundservicelaw26.LatencyLongest", spec := "latencyLongest", unfollowed := true, recurses := true, apart := false, narrowed := true }
def LatencyLongestUptoSaid : Prop := latencyLongestUptoRow.holds Try.pinned (OpenSpec.upto latencyLongestSpec)

/-- 'soundservicelaw26.LatencyGrows', WHERE WHAT IT READS IS OF BULK AT MOST 1048576: true; the input reads as it did. -/
def latencyGrowsUptoRow : OpenClaim := { program := "ytmokpiacioeohaa", sum := "878ed749203c05327970b100880728e2254b0ff14d16ca31c46f2ad98b052255", func := "soundservice/soundservicelaw26.LatencyGrows", spec := "latencyGrows", unfollowed := true, recurses := true, apart := false, narrowed := true }
def LatencyGrowsUptoSaid : Prop := latencyGrowsUptoRow.holds Try.pinned (OpenSpec.upto latencyGrowsSpec)

end Rows
end Go.Proofs.Ytmokpiacioeohaa
