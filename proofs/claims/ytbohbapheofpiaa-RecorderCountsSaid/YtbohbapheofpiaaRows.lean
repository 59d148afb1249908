/-
  No cell of these rows narrows 'for every input' (looked for: loops, veiled, ifaces, maps, wideKeys, modest, calm, conditions, laid).
  DERIVED. THE GIVEN ROWS OF THIS SEAT. 4 by the template 'for every input the law returns true; each argument reads behind the call as it read before'; 0 by the template 'total and deterministic' (their statements: YtbohbapheofpiaaTotals.lean).
  GIVEN WITH THE SEED: the statements are not yours to turn. If you find one false, say at which input.
  Laid BY PROGRAM, IN A SANDBOX (cutbox-rows.mjs): the forced cells as the released guide's own fill.sh prints them over the translation 12bf8ae5d2566c1b… (all of the seat's roots in one cut). By AI agents, Wed Nov 11 2026. No macro, syntax, notation, axiom, sorry.
-/
import Derived.Test.YtbohbapheofpiaaChecked
import GoSem.Claim
import GoSem.ClaimJoined
import GoSem.ClaimMapViews
import Derived.JoinedTies
import Derived.KernelRfl
namespace Go.Proofs.Ytbohbapheofpiaa
/- THE CELL 'sum', in the pinned program and in every row, IS THE sha256 OF THE DUMP (.gsa) THAT YtbohbapheofpiaaProg.lean LOADS. Nothing in Lean hashes anything: it is a label: what it is worth is what the hold of that sum in a sandbox is worth. -/
noncomputable def Try.pinned : Pinned := { name := "ytbohbapheofpiaa", sum := "12bf8ae5d2566c1bf0ab28a1be8aaf5c8431ff427250803944709051d93751ad", checked := Try.checked }
namespace Rows
def none {H : Type} : Left H := { results := [], args := [] }

/-- 'soundservicelaw38.RecorderBounds': WHATEVER THE INPUT: true; the input reads as it did. -/
def recorderBoundsSpec : ChangeSpec := { name := "recorderBounds", fn := fun _ => fun
  | [d1, d2, d3] => { results := [.lit (.bool true)], args := [d1, d2, d3] }
  | _ => none }
def recorderBoundsRow : OpenClaim := { program := "ytbohbapheofpiaa", sum := "12bf8ae5d2566c1bf0ab28a1be8aaf5c8431ff427250803944709051d93751ad", func := "soundservice/soundservicelaw38.RecorderBounds", spec := "recorderBounds", unfollowed := true, recurses := true, apart := false }
def RecorderBoundsSaid : Prop := recorderBoundsRow.holds Try.pinned (OpenSpec.ofChange recorderBoundsSpec)

/-- ITS FALSE NEIGHBOUR: 'it returns false'. Refute it at one input. -/
def recorderBoundsWrong : ChangeSpec := { name := "recorderBounds", fn := fun _ => fun
  | [d1, d2, d3] => { results := [.lit (.bool false)], args := [d1, d2, d3] }
  | _ => none }
def RecorderBoundsWrongFalsely : Prop := recorderBoundsRow.holds Try.pinned (OpenSpec.ofChange recorderBoundsWrong)

/-- 'soundservicelaw38.RecorderFinds': WHATEVER THE INPUT: true; the input reads as it did. -/
def recorderFindsSpec : ChangeSpec := { name := "recorderFinds", fn := fun _ => fun
  | [d1, d2, d3, d4, d5] => { results := [.lit (.bool true)], args := [d1, d2, d3, d4, d5] }
  | _ => none }
def recorderFindsRow : OpenClaim := { program := "ytbohbapheofpiaa", sum := "12bf8ae5d2566c1bf0ab28a1be8aaf5c8431ff427250803944709051d93751ad", func := "soundservice/soundservicelaw38.RecorderFinds", spec := "recorderFinds", unfollowed := true, recurses := true, apart := false }
def RecorderFindsSaid : Prop := recorderFindsRow.holds Try.pinned (OpenSpec.ofChange recorderFindsSpec)

/-- ITS FALSE NEIGHBOUR: 'it returns false'. Refute it at one input. -/
def recorderFindsWrong : ChangeSpec := { name := "recorderFinds", fn := fun _ => fun
  | [d1, d2, d3, d4, d5] => { results := [.lit (.bool false)], args := [d1, d2, d3, d4, d5] }
  | _ => none }
def RecorderFindsWrongFalsely : Prop := recorderFindsRow.holds Try.pinned (OpenSpec.ofChange recorderFindsWrong)

/-- 'soundservicelaw38.RecorderNotes': WHATEVER THE INPUT: true; the input reads as it did. -/
def recorderNotesSpec : ChangeSpec := { name := "recorderNotes", fn := fun _ => fun
  | [d1, d2, d3, d4, d5, d6] => { results := [.lit (.bool true)], args := [d1, d2, d3, d4, d5, d6] }
  | _ => none }
def recorderNotesRow : OpenClaim := { program := "ytbohbapheofpiaa", sum := "12bf8ae5d2566c1bf0ab28a1be8aaf5c8431ff427250803944709051d93751ad", func := "soundservice/soundservicelaw38.RecorderNotes", spec := "recorderNotes", unfollowed := true, recurses := true, apart := false }
def RecorderNotesSaid : Prop := recorderNotesRow.holds Try.pinned (OpenSpec.ofChange recorderNotesSpec)

/-- ITS FALSE NEIGHBOUR: 'it returns false'. Refute it at one input. -/
def recorderNotesWrong : ChangeSpec := { name := "recorderNotes", fn := fun _ => fun
  | [d1, d2, d3, d4, d5, d6] => { results := [.lit (.bool false)], args := [d1, d2, d3, d4, d5, d6] }
  | _ => none }
def RecorderNotesWrongFalsely : Prop := recorderNotesRow.holds Try.pinned (OpenSpec.ofChange recorderNotesWrong)

/-- 'soundservicelaw38.RecorderCounts': WHATEVER THE INPUT: true; the input reads as it did. -/
def recorderCountsSpec : ChangeSpec := { name := "recorderCounts", fn := fun _ => fun
  | [d1, d2] => { results := [.lit (.bool true)], args := [d1, d2] }
  | _ => none }
def recorderCountsRow : OpenClaim := { program := "ytbohbapheofpiaa", sum := "12bf8ae5d2566c1bf0ab28a1be8aaf5c8431ff427250803944709051d93751ad", func := "soundservice/soundservicelaw38.RecorderCounts", spec := "recorderCounts", unfollowed := true, recurses := true, apart := false }
def RecorderCountsSaid : Prop := recorderCountsRow.holds Try.pinned (OpenSpec.ofChange recorderCountsSpec)

/-- ITS FALSE NEIGHBOUR: 'it returns false'. Refute it at one input. -/
def recorderCountsWrong : ChangeSpec := { name := "recorderCounts", fn := fun _ => fun
  | [d1, d2] => { results := [.lit (.bool false)], args := [d1, d2] }
  | _ => none }
def RecorderCountsWrongFalsely : Prop := recorderCountsRow.holds Try.pinned (OpenSpec.ofChange recorderCountsWrong)

/- THE SECOND FORM. 'bulk': how many values and letters a reading holds, each counted each time it is reached (what is shared counts as often as it is met; a slice's spare places count too). A statement '..UptoSaid' is the law's where the arguments, and the package variables that the reading takes, are together of bulk at most 1048576: NARROWER than '..Said'. Prove '..Said' where nothing that the law and all that it calls make is longer than what came in: it says more and counts as full. Else prove '..UptoSaid'. A law counts once. -/
mutual
def uptoBulk {H : Type} : DataW H → Nat
  | .lit (.string bytes) => bytes.length + 1
  | .lit _ => 1
  | .nil => 1
  | .ptr d => uptoBulk d + 1
  | .slice elems spare => uptoBulkAll elems + uptoBulkAll spare + 1
  | .agg parts => uptoBulkAll parts + 1
  | .iface _ d => uptoBulk d + 1
  | .map entries => uptoBulkEntries entries + 1
  | .held _ => 1
def uptoBulkAll {H : Type} : List (DataW H) → Nat
  | [] => 0
  | d :: r => uptoBulk d + uptoBulkAll r
def uptoBulkEntries {H : Type} : List (Lit × DataW H) → Nat
  | [] => 0
  | x :: r => uptoBulkEntry x + uptoBulkEntries r
def uptoBulkEntry {H : Type} : Lit × DataW H → Nat
  | (.string bytes, d) => bytes.length + uptoBulk d + 1
  | (_, d) => uptoBulk d + 1
 end
def uptoSmall : (H : Type) → List (DataW H) → Bool := fun _ ds => decide (uptoBulkAll ds ≤ 1048576)
def OpenSpec.upto (s : _root_.Go.ChangeSpec) : _root_.Go.OpenSpec := { _root_.Go.OpenSpec.ofChange s with cond := some uptoSmall }

/-- 'soundservicelaw38.RecorderBounds', WHERE WHAT IT READS IS OF BULK AT MOST 1048576: true; the input reads as it did. -/
def recorderBoundsUptoRow : OpenClaim := { program := "ytbohbapheofpiaa", sum := "12bf8ae5d2566c1bf0ab28a1be8aaf5c8431ff427250803944709051d93751ad", func := "soundservice/soundservicelaw38.RecorderBounds", spec := "recorderBounds", unfollowed := true, recurses := true, apart := false, narrowed := true }
def RecorderBoundsUptoSaid : Prop := recorderBoundsUptoRow.holds Try.pinned (OpenSpec.upto recorderBoundsSpec)

/-- 'soundservicelaw38.RecorderFinds', WHERE WHAT IT READS IS OF BULK AT MOST 1048576: true; the input reads as it did. -/
def recorderFindsUptoRow : OpenClaim := { program := "ytbohbapheofpiaa", sum := "12bf8ae5d2566c1bf0ab28a1be8aaf5c8431ff427250803944709051d93751ad", func := "soundservice/soundservicelaw38.RecorderFinds", spec := "recorderFinds", unfollowed := true, recurses := true, apart := false, narrowed := true }
def RecorderFindsUptoSaid : Prop := recorderFindsUptoRow.holds Try.pinned (OpenSpec.upto recorderFindsSpec)

/-- 'soundservicelaw38.RecorderNotes', WHERE WHAT IT READS IS OF BULK AT MOST 1048576: true; the input reads as it did. -/
def recorderNotesUptoRow : OpenClaim := { program := "ytbohbapheofpiaa", sum := "12bf8ae5d2566c1bf0ab28a1be8aaf5c8431ff427250803944709051d93751ad", func := "soundservice/soundservicelaw38.RecorderNotes", spec := "recorderNotes", unfollowed := true, recurses := true, apart := false, narrowed := true }
def RecorderNotesUptoSaid : Prop := recorderNotesUptoRow.holds Try.pinned (OpenSpec.upto recorderNotesSpec)

/-- 'soundservicelaw38.RecorderCounts', WHERE WHAT IT READS IS OF BULK AT MOST 1048576: true; the input reads as it did. -/
def recorderCountsUptoRow : OpenClaim := { program := "ytbohbapheofpiaa", sum := "12bf8ae5d2566c1bf0ab28a1be8aaf5c8431ff427250803944709051d93751ad", func := "soundservice/soundservicelaw38.RecorderCounts", spec := "recorderCounts", unfollowed := true, recurses := true, apart := false, narrowed := true }
def RecorderCountsUptoSaid : Prop := recorderCountsUptoRow.holds Try.pinned (OpenSpec.upto recorderCountsSpec)

end Rows
end Go.Proofs.Ytbohbapheofpiaa
