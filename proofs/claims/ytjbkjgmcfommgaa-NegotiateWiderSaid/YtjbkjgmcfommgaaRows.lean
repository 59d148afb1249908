/-
  No cell of these rows narrows 'for every input' (looked for: loops, veiled, ifaces, maps, wideKeys, modest, calm, conditions, laid).
  DERIVED. THE GIVEN ROWS OF THIS SEAT. 4 by the template 'for every input the law returns true; each argument reads behind the call as it read before'; 0 by the template 'total and deterministic' (their statements: YtjbkjgmcfommgaaTotals.lean).
  GIVEN WITH THE SEED: the statements are not yours to turn. If you find one false, say at which input.
  Laid BY PROGRAM, IN A SANDBOX (cutbox-rows.mjs): the forced cells as the released guide's own fill.sh prints them over the translation cb80f6b4059a9799… (all of the seat's roots in one cut). By AI agents, Wed Nov 11 2026. No macro, syntax, notation, axiom, sorry.
-/
import Derived.Test.YtjbkjgmcfommgaaChecked
import GoSem.Claim
import GoSem.ClaimJoined
import GoSem.ClaimMapViews
import Derived.JoinedTies
import Derived.KernelRfl
namespace Go.Proofs.Ytjbkjgmcfommgaa
/- THE CELL 'sum', in the pinned program and in every row, IS THE sha256 OF THE DUMP (.gsa) THAT YtjbkjgmcfommgaaProg.lean LOADS. Nothing in Lean hashes anything: it is a label: what it is worth is what the hold of that sum in a sandbox is worth. -/
noncomputable def Try.pinned : Pinned := { name := "ytjbkjgmcfommgaa", sum := "cb80f6b4059a9799cea75442c54baedd0f07476c497284daa67e6cfa55a5304a", checked := Try.checked }
namespace Rows
def none {H : Type} : Left H := { results := [], args := [] }

/-- 'soundservicelaw12.NegotiateRefuses': WHATEVER THE INPUT: true; the input reads as it did. -/
def negotiateRefusesSpec : ChangeSpec := { name := "negotiateRefuses", fn := fun _ => fun
  | [d] => { results := [.lit (.bool true)], args := [d] }
  | _ => none }
def negotiateRefusesRow : OpenClaim := { program := "ytjbkjgmcfommgaa", sum := "cb80f6b4059a9799cea75442c54baedd0f07476c497284daa67e6cfa55a5304a", func := "soundservice/soundservicelaw12.NegotiateRefuses", spec := "negotiateRefuses", unfollowed := true, recurses := true, apart := false }
def NegotiateRefusesSaid : Prop := negotiateRefusesRow.holds Try.pinned (OpenSpec.ofChange negotiateRefusesSpec)

/-- ITS FALSE NEIGHBOUR: 'it returns false'. Refute it at one input. -/
def negotiateRefusesWrong : ChangeSpec := { name := "negotiateRefuses", fn := fun _ => fun
  | [d] => { results := [.lit (.bool false)], args := [d] }
  | _ => none }
def NegotiateRefusesWrongFalsely : Prop := negotiateRefusesRow.holds Try.pinned (OpenSpec.ofChange negotiateRefusesWrong)

/-- 'soundservicelaw12.NegotiateConverts': WHATEVER THE INPUT: true; the input reads as it did. -/
def negotiateConvertsSpec : ChangeSpec := { name := "negotiateConverts", fn := fun _ => fun
  | [d1, d2, d3] => { results := [.lit (.bool true)], args := [d1, d2, d3] }
  | _ => none }
def negotiateConvertsRow : OpenClaim := { program := "ytjbkjgmcfommgaa", sum := "cb80f6b4059a9799cea75442c54baedd0f07476c497284daa67e6cfa55a5304a", func := "soundservice/soundservicelaw12.NegotiateConverts", spec := "negotiateConverts", unfollowed := true, recurses := true, apart := false }
def NegotiateConvertsSaid : Prop := negotiateConvertsRow.holds Try.pinned (OpenSpec.ofChange negotiateConvertsSpec)

/-- ITS FALSE NEIGHBOUR: 'it returns false'. Refute it at one input. -/
def negotiateConvertsWrong : ChangeSpec := { name := "negotiateConverts", fn := fun _ => fun
  | [d1, d2, d3] => { results := [.lit (.bool false)], args := [d1, d2, d3] }
  | _ => none }
def NegotiateConvertsWrongFalsely : Prop := negotiateConvertsRow.holds Try.pinned (OpenSpec.ofChange negotiateConvertsWrong)

/-- 'soundservicelaw12.NegotiateBackwards': WHATEVER THE INPUT: true; the input reads as it did. -/
def negotiateBackwardsSpec : ChangeSpec := { name := "negotiateBackwards", fn := fun _ => fun
  | [d1, d2] => { results := [.lit (.bool true)], args := [d1, d2] }
  | _ => none }
def negotiateBackwardsRow : OpenClaim := { program := "ytjbkjgmcfommgaa", sum := "cb80f6b4059a9799cea75442c54baedd0f07476c497284daa67e6cfa55a5304a", func := "soundservice/soundservicelaw12.NegotiateBackwards", spec := "negotiateBackwards", unfollowed := true, recurses := true, apart := false }
def NegotiateBackwardsSaid : Prop := negotiateBackwardsRow.holds Try.pinned (OpenSpec.ofChange negotiateBackwardsSpec)

/-- ITS FALSE NEIGHBOUR: 'it returns false'. Refute it at one input. -/
def negotiateBackwardsWrong : ChangeSpec := { name := "negotiateBackwards", fn := fun _ => fun
  | [d1, d2] => { results := [.lit (.bool false)], args := [d1, d2] }
  | _ => none }
def NegotiateBackwardsWrongFalsely : Prop := negotiateBackwardsRow.holds Try.pinned (OpenSpec.ofChange negotiateBackwardsWrong)

/-- 'soundservicelaw12.NegotiateWider': WHATEVER THE INPUT: true; the input reads as it did. -/
def negotiateWiderSpec : ChangeSpec := { name := "negotiateWider", fn := fun _ => fun
  | [d1, d2] => { results := [.lit (.bool true)], args := [d1, d2] }
  | _ => none }
def negotiateWiderRow : OpenClaim := { program := "ytjbkjgmcfommgaa", sum := "cb80f6b4059a9799cea75442c54baedd0f07476c497284daa67e6cfa55a5304a", func := "soundservice/soundservicelaw12.NegotiateWider", spec := "negotiateWider", unfollowed := true, recurses := true, apart := false }
def NegotiateWiderSaid : Prop := negotiateWiderRow.holds Try.pinned (OpenSpec.ofChange negotiateWiderSpec)

/-- ITS FALSE NEIGHBOUR: 'it returns false'. Refute it at one input. -/
def negotiateWiderWrong : ChangeSpec := { name := "negotiateWider", fn := fun _ => fun
  | [d1, d2] => { results := [.lit (.bool false)], args := [d1, d2] }
  | _ => none }
def NegotiateWiderWrongFalsely : Prop := negotiateWiderRow.holds Try.pinned (OpenSpec.ofChange negotiateWiderWrong)

/- THE SECOND FORM. 'bulk': how many values and letters a reading holds, each counted each time it is reached (what is shared counts as often as it is met; a slice's spare places count too). A statement '..UptoSaid' is the law's where the arguments, and the package variables that the reading takes, are together of bulk at most 1048576: NARROWER than '..Said'. Prove '..Said' where nothing that the law and all that it calls make is longer than what came in: it says more and counts as full. Else prove '..UptoSaid'. A law counts once. -/
mutual
def uptoBulk {H : Type} : DataW H → Nat
  | .lit (.string bytes) => bytes.length + 1
  | .lit _ => 1
  | .nil => 1
  | .ptr d => uptoBulk d + 1
  | .slice elems spare => uptoBulkAll elems + uptoBulkAll spare + 1
  | .agg parts => uptoBulkAll parts + 1
  | .iface _ d => uptoBulk d + 1
  | .map entries => uptoBulkEntries entries + 1
  | .held _ => 1
def uptoBulkAll {H : Type} : List (DataW H) → Nat
  | [] => 0
  | d :: r => uptoBulk d + uptoBulkAll r
def uptoBulkEntries {H : Type} : List (Lit × DataW H) → Nat
  | [] => 0
  | x :: r => uptoBulkEntry x + uptoBulkEntries r
def uptoBulkEntry {H : Type} : Lit × DataW H → Nat
  | (.string bytes, d) => bytes.length + uptoBulk d + 1
  | (_, d) => uptoBulk d + 1
 end
def uptoSmall : (H : Type) → List (DataW H) → Bool := fun _ ds => decide (uptoBulkAll ds ≤ 1048576)
def OpenSpec.upto (s : _root_.Go.ChangeSpec) : _root_.Go.OpenSpec := { _root_.Go.OpenSpec.ofChange s with cond := some uptoSmall }

/-- 'soundservicelaw12.NegotiateRefuses', WHERE WHAT IT READS IS OF BULK AT MOST 1048576: true; the input reads as it did. -/
def negotiateRefusesUptoRow : OpenClaim := { program := "ytjbkjgmcfommgaa", sum := "cb80f6b4059a9799cea75442c54baedd0f07476c497284daa67e6cfa55a5304a", func := "soundservice/soundservicelaw12.NegotiateRefuses", spec := "negotiateRefuses", unfollowed := true, recurses := true, apart := false, narrowed := true }
def NegotiateRefusesUptoSaid : Prop := negotiateRefusesUptoRow.holds Try.pinned (OpenSpec.upto negotiateRefusesSpec)

/-- 'soundservicelaw12.NegotiateConverts', WHERE WHAT IT READS IS OF BULK AT MOST 1048576: true; the input reads as it did. -/
def negotiateConvertsUptoRow : OpenClaim := { program := "ytjbkjgmcfommgaa", sum := "cb80f6b4059a9799cea75442c54baedd0f07476c497284daa67e6cfa55a5304a", func := "soundservice/soundservicelaw12.NegotiateConverts", spec := "negotiateConverts", unfollowed := true, recurses := true, apart := false, narrowed := true }
def NegotiateConvertsUptoSaid : Prop := negotiateConvertsUptoRow.holds Try.pinned (OpenSpec.upto negotiateConvertsSpec)

/-- 'soundservicelaw12.NegotiateBackwards', WHERE WHAT IT READS IS OF BULK AT MOST 1048576: true; the input reads as it did. -/
def negotiateBackwardsUptoRow : OpenClaim := { program := "ytjbkjgmcfommgaa", sum := "cb80f6b4059a9799cea75442c54baedd0f07476c497284daa67e6cfa55a5304a", func := "soundservice/soundservicelaw12.NegotiateBackwards", spec := "negotiateBackwards", unfollowed := true, recurses := true, apart := false, narrowed := true }
def NegotiateBackwardsUptoSaid : Prop := negotiateBackwardsUptoRow.holds Try.pinned (OpenSpec.upto negotiateBackwardsSpec)

/-- 'soundservicelaw12.NegotiateWider', WHERE WHAT IT READS IS OF BULK AT MOST 1048576: true; the input reads as it did. -/
def negotiateWiderUptoRow : OpenClaim := { program := "ytjbkjgmcfommgaa", sum := "cb80f6b4059a9799cea75442c54baedd0f07476c497284daa67e6cfa55a5304a", func := "soundservice/soundservicelaw12.NegotiateWider", spec := "negotiateWider", unfollowed := true, recurses := true, apart := false, narrowed := true }
def NegotiateWiderUptoSaid : Prop := negotiateWiderUptoRow.holds Try.pinned (OpenSpec.upto negotiateWiderSpec)

end Rows
end Go.Proofs.Ytjbkjgmcfommgaa
