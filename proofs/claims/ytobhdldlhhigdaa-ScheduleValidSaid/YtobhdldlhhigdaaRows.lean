/-
  No cell of these rows narrows 'for every input' (looked for: loops, veiled, ifaces, maps, wideKeys, modest, calm, conditions, laid).
  DERIVED. THE GIVEN ROWS OF THIS SEAT. 5 by the template 'for every input the law returns true; each argument reads behind the call as it read before'; 0 by the template 'total and deterministic' (their statements: YtobhdldlhhigdaaTotals.lean).
  GIVEN WITH THE SEED: the statements are not yours to turn. If you find one false, say at which input.
  Laid BY PROGRAM, IN A SANDBOX (cutbox-rows.mjs): the forced cells as the released guide's own fill.sh prints them over the translation 12d4b9234b5c2f3d… (all of the seat's roots in one cut). By AI agents, Wed Nov 11 2026. No macro, syntax, notation, axiom, sorry.
-/
import Derived.Test.YtobhdldlhhigdaaChecked
import GoSem.Claim
import GoSem.ClaimJoined
import GoSem.ClaimMapViews
import Derived.JoinedTies
import Derived.KernelRfl
namespace Go.Proofs.Ytobhdldlhhigdaa
/- THE CELL 'sum', in the pinned program and in every row, IS THE sha256 OF THE DUMP (.gsa) THAT YtobhdldlhhigdaaProg.lean LOADS. Nothing in Lean hashes anything: it is a label: what it is worth is what the hold of that sum in a sandbox is worth. -/
noncomputable def Try.pinned : Pinned := { name := "ytobhdldlhhigdaa", sum := "12d4b9234b5c2f3d457b042e6bcfd90679f0c0918c32d9c2ad444a0d8c96da45", checked := Try.checked }
namespace Rows
def none {H : Type} : Left H := { results := [], args := [] }

/-- 'soundservicelaw25.ScheduleCompiles': WHATEVER THE INPUT: true; the input reads as it did. -/
def scheduleCompilesSpec : ChangeSpec := { name := "scheduleCompiles", fn := fun _ => fun
  | [d1, d2, d3, d4] => { results := [.lit (.bool true)], args := [d1, d2, d3, d4] }
  | _ => none }
def scheduleCompilesRow : OpenClaim := { program := "ytobhdldlhhigdaa", sum := "12d4b9234b5c2f3d457b042e6bcfd90679f0c0918c32d9c2ad444a0d8c96da45", func := "soundservice/soundservicelaw25.ScheduleCompiles", spec := "scheduleCompiles", unfollowed := true, recurses := true, apart := false }
def ScheduleCompilesSaid : Prop := scheduleCompilesRow.holds Try.pinned (OpenSpec.ofChange scheduleCompilesSpec)

/-- ITS FALSE NEIGHBOUR: 'it returns false'. Refute it at one input. -/
def scheduleCompilesWrong : ChangeSpec := { name := "scheduleCompiles", fn := fun _ => fun
  | [d1, d2, d3, d4] => { results := [.lit (.bool false)], args := [d1, d2, d3, d4] }
  | _ => none }
def ScheduleCompilesWrongFalsely : Prop := scheduleCompilesRow.holds Try.pinned (OpenSpec.ofChange scheduleCompilesWrong)

/-- 'soundservicelaw25.ScheduleNumbers': WHATEVER THE INPUT: true; the input reads as it did. -/
def scheduleNumbersSpec : ChangeSpec := { name := "scheduleNumbers", fn := fun _ => fun
  | [d1, d2, d3, d4, d5] => { results := [.lit (.bool true)], args := [d1, d2, d3, d4, d5] }
  | _ => none }
def scheduleNumbersRow : OpenClaim := { program := "ytobhdldlhhigdaa", sum := "12d4b9234b5c2f3d457b042e6bcfd90679f0c0918c32d9c2ad444a0d8c96da45", func := "soundservice/soundservicelaw25.ScheduleNumbers", spec := "scheduleNumbers", unfollowed := true, recurses := true, apart := false }
def ScheduleNumbersSaid : Prop := scheduleNumbersRow.holds Try.pinned (OpenSpec.ofChange scheduleNumbersSpec)

/-- ITS FALSE NEIGHBOUR: 'it returns false'. Refute it at one input. -/
def scheduleNumbersWrong : ChangeSpec := { name := "scheduleNumbers", fn := fun _ => fun
  | [d1, d2, d3, d4, d5] => { results := [.lit (.bool false)], args := [d1, d2, d3, d4, d5] }
  | _ => none }
def ScheduleNumbersWrongFalsely : Prop := scheduleNumbersRow.holds Try.pinned (OpenSpec.ofChange scheduleNumbersWrong)

/-- 'soundservicelaw25.ScheduleMonotone': WHATEVER THE INPUT: true; the input reads as it did. -/
def scheduleMonotoneSpec : ChangeSpec := { name := "scheduleMonotone", fn := fun _ => fun
  | [d1, d2, d3, d4, d5] => { results := [.lit (.bool true)], args := [d1, d2, d3, d4, d5] }
  | _ => none }
def scheduleMonotoneRow : OpenClaim := { program := "ytobhdldlhhigdaa", sum := "12d4b9234b5c2f3d457b042e6bcfd90679f0c0918c32d9c2ad444a0d8c96da45", func := "soundservice/soundservicelaw25.ScheduleMonotone", spec := "scheduleMonotone", unfollowed := true, recurses := true, apart := false }
def ScheduleMonotoneSaid : Prop := scheduleMonotoneRow.holds Try.pinned (OpenSpec.ofChange scheduleMonotoneSpec)

/-- ITS FALSE NEIGHBOUR: 'it returns false'. Refute it at one input. -/
def scheduleMonotoneWrong : ChangeSpec := { name := "scheduleMonotone", fn := fun _ => fun
  | [d1, d2, d3, d4, d5] => { results := [.lit (.bool false)], args := [d1, d2, d3, d4, d5] }
  | _ => none }
def ScheduleMonotoneWrongFalsely : Prop := scheduleMonotoneRow.holds Try.pinned (OpenSpec.ofChange scheduleMonotoneWrong)

/-- 'soundservicelaw25.ScheduleValid': WHATEVER THE INPUT: true; the input reads as it did. -/
def scheduleValidSpec : ChangeSpec := { name := "scheduleValid", fn := fun _ => fun
  | [d1, d2, d3, d4, d5] => { results := [.lit (.bool true)], args := [d1, d2, d3, d4, d5] }
  | _ => none }
def scheduleValidRow : OpenClaim := { program := "ytobhdldlhhigdaa", sum := "12d4b9234b5c2f3d457b042e6bcfd90679f0c0918c32d9c2ad444a0d8c96da45", func := "soundservice/soundservicelaw25.ScheduleValid", spec := "scheduleValid", unfollowed := true, recurses := true, apart := false }
def ScheduleValidSaid : Prop := scheduleValidRow.holds Try.pinned (OpenSpec.ofChange scheduleValidSpec)

/-- ITS FALSE NEIGHBOUR: 'it returns false'. Refute it at one input. -/
def scheduleValidWrong : ChangeSpec := { name := "scheduleValid", fn := fun _ => fun
  | [d1, d2, d3, d4, d5] => { results := [.lit (.bool false)], args := [d1, d2, d3, d4, d5] }
  | _ => none }
def ScheduleValidWrongFalsely : Prop := scheduleValidRow.holds Try.pinned (OpenSpec.ofChange scheduleValidWrong)

/-- 'soundservicelaw25.ScheduleGraham': WHATEVER THE INPUT: true; the input reads as it did. -/
def scheduleGrahamSpec : ChangeSpec := { name := "scheduleGraham", fn := fun _ => fun
  | [d1, d2] => { results := [.lit (.bool true)], args := [d1, d2] }
  | _ => none }
def scheduleGrahamRow : OpenClaim := { program := "ytobhdldlhhigdaa", sum := "12d4b9234b5c2f3d457b042e6bcfd90679f0c0918c32d9c2ad444a0d8c96da45", func := "soundservice/soundservicelaw25.ScheduleGraham", spec := "scheduleGraham", unfollowed := true, recurses := true, apart := false }
def ScheduleGrahamSaid : Prop := scheduleGrahamRow.holds Try.pinned (OpenSpec.ofChange scheduleGrahamSpec)

/-- ITS FALSE NEIGHBOUR: 'it returns false'. Refute it at one input. -/
def scheduleGrahamWrong : ChangeSpec := { name := "scheduleGraham", fn := fun _ => fun
  | [d1, d2] => { results := [.lit (.bool false)], args := [d1, d2] }
  | _ => none }
def ScheduleGrahamWrongFalsely : Prop := scheduleGrahamRow.holds Try.pinned (OpenSpec.ofChange scheduleGrahamWrong)

/- THE SECOND FORM. 'bulk': how many values and letters a reading holds, each counted each time it is reached (what is shared counts as often as it is met; a slice's spare places count too). A statement '..UptoSaid' is the law's where the arguments, and the package variables that the reading takes, are together of bulk at most 1048576: NARROWER than '..Said'. Prove '..Said' where nothing that the law and all that it calls make is longer than what came in: it says more and counts as full. Else prove '..UptoSaid'. A law counts once. -/
mutual
def uptoBulk {H : Type} : DataW H → Nat
  | .lit (.string bytes) => bytes.length + 1
  | .lit _ => 1
  | .nil => 1
  | .ptr d => uptoBulk d + 1
  | .slice elems spare => uptoBulkAll elems + uptoBulkAll spare + 1
  | .agg parts => uptoBulkAll parts + 1
  | .iface _ d => uptoBulk d + 1
  | .map entries => uptoBulkEntries entries + 1
  | .held _ => 1
def uptoBulkAll {H : Type} : List (DataW H) → Nat
  | [] => 0
  | d :: r => uptoBulk d + uptoBulkAll r
def uptoBulkEntries {H : Type} : List (Lit × DataW H) → Nat
  | [] => 0
  | x :: r => uptoBulkEntry x + uptoBulkEntries r
def uptoBulkEntry {H : Type} : Lit × DataW H → Nat
  | (.string bytes, d) => bytes.length + uptoBulk d + 1
  | (_, d) => uptoBulk d + 1
 end
def uptoSmall : (H : Type) → List (DataW H) → Bool := fun _ ds => decide (uptoBulkAll ds ≤ 1048576)
def OpenSpec.upto (s : _root_.Go.ChangeSpec) : _root_.Go.OpenSpec := { _root_.Go.OpenSpec.ofChange s with cond := some uptoSmall }

/-- 'soundservicelaw25.ScheduleCompiles', WHERE WHAT IT READS IS OF BULK AT MOST 1048576: true; the input reads as it did. -/
def scheduleCompilesUptoRow : OpenClaim := { program := "ytobhdldlhhigdaa", sum := "12d4b9234b5c2f3d457b042e6bcfd90679f0c0918c32d9c2ad444a0d8c96da45", func := "soundservice/soundservicelaw25.ScheduleCompiles", spec := "scheduleCompiles", unfollowed := true, recurses := true, apart := false, narrowed := true }
def ScheduleCompilesUptoSaid : Prop := scheduleCompilesUptoRow.holds Try.pinned (OpenSpec.upto scheduleCompilesSpec)

/-- 'soundservicelaw25.ScheduleNumbers', WHERE WHAT IT READS IS OF BULK AT MOST 1048576: true; the input reads as it did. -/
def scheduleNumbersUptoRow : OpenClaim := { program := "ytobhdldlhhigdaa", sum := "12d4b9234b5c2f3d457b042e6bcfd90679f0c0918c32d9c2ad444a0d8c96da45", func := "soundservice/soundservicelaw25.ScheduleNumbers", spec := "scheduleNumbers", unfollowed := true, recurses := true, apart := false, narrowed := true }
def ScheduleNumbersUptoSaid : Prop := scheduleNumbersUptoRow.holds Try.pinned (OpenSpec.upto scheduleNumbersSpec)

/-- 'soundservicelaw25.ScheduleMonotone', WHERE WHAT IT READS IS OF BULK AT MOST 1048576: true; the input reads as it did. -/
def scheduleMonotoneUptoRow : OpenClaim := { program := "ytobhdldlhhigdaa", sum := "12d4b9234b5c2f3d457b042e6bcfd90679f0c0918c32d9c2ad444a0d8c96da45", func := "soundservice/soundservicelaw25.ScheduleMonotone", spec := "scheduleMonotone", unfollowed := true, recurses := true, apart := false, narrowed := true }
def ScheduleMonotoneUptoSaid : Prop := scheduleMonotoneUptoRow.holds Try.pinned (OpenSpec.upto scheduleMonotoneSpec)

/-- 'soundservicelaw25.ScheduleValid', WHERE WHAT IT READS IS OF BULK AT MOST 1048576: true; the input reads as it did. -/
def scheduleValidUptoRow : OpenClaim := { program := "ytobhdldlhhigdaa", sum := "12d4b9234b5c2f3d457b042e6bcfd90679f0c0918c32d9c2ad444a0d8c96da45", func := "soundservice/soundservicelaw25.ScheduleValid", spec := "scheduleValid", unfollowed := true, recurses := true, apart := false, narrowed := true }
def ScheduleValidUptoSaid : Prop := scheduleValidUptoRow.holds Try.pinned (OpenSpec.upto scheduleValidSpec)

/-- 'soundservicelaw25.ScheduleGraham', WHERE WHAT IT READS IS OF BULK AT MOST 1048576: true; the input reads as it did. -/
def scheduleGrahamUptoRow : OpenClaim := { program := "ytobhdldlhhigdaa", sum := "12d4b9234b5c2f3d457b042e6bcfd90679f0c0918c32d9c2ad444a0d8c96da45", func := "soundservice/soundservicelaw25.ScheduleGraham", spec := "scheduleGraham", unfollowed := true, recurses := true, apart := false, narrowed := true }
def ScheduleGrahamUptoSaid : Prop := scheduleGrahamUptoRow.holds Try.pinned (OpenSpec.upto scheduleGrahamSpec)

end Rows
end Go.Proofs.Ytobhdldlhhigdaa
