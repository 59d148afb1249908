/-
  No cell of these rows narrows 'for every input' (looked for: loops, veiled, ifaces, maps, wideKeys, modest, calm, conditions, laid).
  DERIVED. THE GIVEN ROWS OF THIS SEAT. 3 by the template 'for every input the law returns true; each argument reads behind the call as it read before'; 0 by the template 'total and deterministic' (their statements: YtjbkjgmcfommgaaGreatTotals.lean).
  GIVEN WITH THE SEED: the statements are not yours to turn. If you find one false, say at which input.
  Laid BY PROGRAM, IN A SANDBOX (cutbox-rows.mjs): the forced cells as the released guide's own fill.sh prints them over the translation 314ca6f746d07aaf… (all of the seat's roots in one cut). By AI agents, Wed Nov 11 2026. No macro, syntax, notation, axiom, sorry.
-/
import Derived.Test.YtjbkjgmcfommgaaGreatChecked
import GoSem.Claim
import GoSem.ClaimJoined
import GoSem.ClaimMapViews
import Derived.JoinedTies
import Derived.KernelRfl
namespace Go.Proofs.YtjbkjgmcfommgaaGreat
/- THE CELL 'sum', in the pinned program and in every row, IS THE sha256 OF THE DUMP (.gsa) THAT YtjbkjgmcfommgaaGreatProg.lean LOADS. Nothing in Lean hashes anything: it is a label: what it is worth is what the hold of that sum in a sandbox is worth. -/
noncomputable def Tryz.pinned : Pinned := { name := "ytjbkjgmcfommgaagreat", sum := "314ca6f746d07aaff5c29cfd9abefbfd2beb13c3548af7f7cf7f8b82c50390da", checked := Tryz.checked }
namespace Rows
def none {H : Type} : Left H := { results := [], args := [] }

/-- 'soundservicelaw12.NegotiateForward': WHATEVER THE INPUT: true; the input reads as it did. -/
def negotiateForwardSpec : ChangeSpec := { name := "negotiateForward", fn := fun _ => fun
  | [d1, d2] => { results := [.lit (.bool true)], args := [d1, d2] }
  | _ => none }
def negotiateForwardRow : OpenClaim := { program := "ytjbkjgmcfommgaagreat", sum := "314ca6f746d07aaff5c29cfd9abefbfd2beb13c3548af7f7cf7f8b82c50390da", func := "soundservice/soundservicelaw12.NegotiateForward", spec := "negotiateForward", unfollowed := true, recurses := true, apart := false }
def NegotiateForwardSaid : Prop := negotiateForwardRow.holds Tryz.pinned (OpenSpec.ofChange negotiateForwardSpec)

/-- ITS FALSE NEIGHBOUR: 'it returns false'. Refute it at one input. -/
def negotiateForwardWrong : ChangeSpec := { name := "negotiateForward", fn := fun _ => fun
  | [d1, d2] => { results := [.lit (.bool false)], args := [d1, d2] }
  | _ => none }
def NegotiateForwardWrongFalsely : Prop := negotiateForwardRow.holds Tryz.pinned (OpenSpec.ofChange negotiateForwardWrong)

/-- 'soundservicelaw12.NegotiateChooses': WHATEVER THE INPUT: true; the input reads as it did. -/
def negotiateChoosesSpec : ChangeSpec := { name := "negotiateChooses", fn := fun _ => fun
  | [d1, d2, d3, d4] => { results := [.lit (.bool true)], args := [d1, d2, d3, d4] }
  | _ => none }
def negotiateChoosesRow : OpenClaim := { program := "ytjbkjgmcfommgaagreat", sum := "314ca6f746d07aaff5c29cfd9abefbfd2beb13c3548af7f7cf7f8b82c50390da", func := "soundservice/soundservicelaw12.NegotiateChooses", spec := "negotiateChooses", unfollowed := true, recurses := true, apart := false }
def NegotiateChoosesSaid : Prop := negotiateChoosesRow.holds Tryz.pinned (OpenSpec.ofChange negotiateChoosesSpec)

/-- ITS FALSE NEIGHBOUR: 'it returns false'. Refute it at one input. -/
def negotiateChoosesWrong : ChangeSpec := { name := "negotiateChooses", fn := fun _ => fun
  | [d1, d2, d3, d4] => { results := [.lit (.bool false)], args := [d1, d2, d3, d4] }
  | _ => none }
def NegotiateChoosesWrongFalsely : Prop := negotiateChoosesRow.holds Tryz.pinned (OpenSpec.ofChange negotiateChoosesWrong)

/-- 'soundservicelaw12.NegotiateExact': WHATEVER THE INPUT: true; the input reads as it did. -/
def negotiateExactSpec : ChangeSpec := { name := "negotiateExact", fn := fun _ => fun
  | [d] => { results := [.lit (.bool true)], args := [d] }
  | _ => none }
def negotiateExactRow : OpenClaim := { program := "ytjbkjgmcfommgaagreat", sum := "314ca6f746d07aaff5c29cfd9abefbfd2beb13c3548af7f7cf7f8b82c50390da", func := "soundservice/soundservicelaw12.NegotiateExact", spec := "negotiateExact", unfollowed := true, recurses := true, apart := false }
def NegotiateExactSaid : Prop := negotiateExactRow.holds Tryz.pinned (OpenSpec.ofChange negotiateExactSpec)

/-- ITS FALSE NEIGHBOUR: 'it returns false'. Refute it at one input. -/
def negotiateExactWrong : ChangeSpec := { name := "negotiateExact", fn := fun _ => fun
  | [d] => { results := [.lit (.bool false)], args := [d] }
  | _ => none }
def NegotiateExactWrongFalsely : Prop := negotiateExactRow.holds Tryz.pinned (OpenSpec.ofChange negotiateExactWrong)

/- THE SECOND FORM. 'bulk': how many values and letters a reading holds, each counted each time it is reached (what is shared counts as often as it is met; a slice's spare places count too). A statement '..UptoSaid' is the law's where the arguments, and the package variables that the reading takes, are together of bulk at most 1048576: NARROWER than '..Said'. Prove '..Said' where nothing that the law and all that it calls make is longer than what came in: it says more and counts as full. Else prove '..UptoSaid'. A law counts once. -/
mutual
def uptoBulk {H : Type} : DataW H → Nat
  | .lit (.string bytes) => bytes.length + 1
  | .lit _ => 1
  | .nil => 1
  | .ptr d => uptoBulk d + 1
  | .slice elems spare => uptoBulkAll elems + uptoBulkAll spare + 1
  | .agg parts => uptoBulkAll parts + 1
  | .iface _ d => uptoBulk d + 1
  | .map entries => uptoBulkEntries entries + 1
  | .held _ => 1
def uptoBulkAll {H : Type} : List (DataW H) → Nat
  | [] => 0
  | d :: r => uptoBulk d + uptoBulkAll r
def uptoBulkEntries {H : Type} : List (Lit × DataW H) → Nat
  | [] => 0
  | x :: r => uptoBulkEntry x + uptoBulkEntries r
def uptoBulkEntry {H : Type} : Lit × DataW H → Nat
  | (.string bytes, d) => bytes.length + uptoBulk d + 1
  | (_, d) => uptoBulk d + 1
 end
def uptoSmall : (H : Type) → List (DataW H) → Bool := fun _ ds => decide (uptoBulkAll ds ≤ 1048576)
def OpenSpec.upto (s : _root_.Go.ChangeSpec) : _root_.Go.OpenSpec := { _root_.Go.OpenSpec.ofChange s with cond := some uptoSmall }

/-- 'soundservicelaw12.NegotiateForward', WHERE WHAT IT READS IS OF BULK AT MOST 1048576: true; the input reads as it did. -/
def negotiateForwardUptoRow : OpenClaim := { program := "ytjbkjgmcfommgaagreat", sum := "314ca6f746d07aaff5c29cfd9abefbfd2beb13c3548af7f7cf7f8b82c50390da", func := "soundservice/soundservicelaw12.NegotiateForward", spec := "negotiateForward", unfollowed := true, recurses := true, apart := false, narrowed := true }
def NegotiateForwardUptoSaid : Prop := negotiateForwardUptoRow.holds Tryz.pinned (OpenSpec.upto negotiateForwardSpec)

/-- 'soundservicelaw12.NegotiateChooses', WHERE WHAT IT READS IS OF BULK AT MOST 1048576: true; the input reads as it did. -/
def negotiateChoosesUptoRow : OpenClaim := { program := "ytjbkjgmcfommgaagreat", sum := "314ca6f746d07aaff5c29cfd9abefbfd2beb13c3548af7f7cf7f8b82c50390da", func := "soundservice/soundservicelaw12.NegotiateChooses", spec := "negotiateChooses", unfollowed := true, recurses := true, apart := false, narrowed := true }
def NegotiateChoosesUptoSaid : Prop := negotiateChoosesUptoRow.holds Tryz.pinned (OpenSpec.upto negotiateChoosesSpec)

/-- 'soundservicelaw12.NegotiateExact', WHERE WHAT IT READS IS OF BULK AT MOST 1048576: true; the input reads as it did. -/
def negotiateExactUptoRow : OpenClaim := { program := "ytjbkjgmcfommgaagreat", sum := "314ca6f746d07aaff5c29cfd9abefbfd2beb13c3548af7f7cf7f8b82c50390da", func := "soundservice/soundservicelaw12.NegotiateExact", spec := "negotiateExact", unfollowed := true, recurses := true, apart := false, narrowed := true }
def NegotiateExactUptoSaid : Prop := negotiateExactUptoRow.holds Tryz.pinned (OpenSpec.upto negotiateExactSpec)

end Rows
end Go.Proofs.YtjbkjgmcfommgaaGreat
