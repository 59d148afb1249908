/-
  No cell of these rows narrows 'for every input' (looked for: loops, veiled, ifaces, maps, wideKeys, modest, calm, conditions, laid).
  DERIVED. THE GIVEN ROWS OF THIS SEAT. 3 by the template 'for every input the law returns true; each argument reads behind the call as it read before'; 0 by the template 'total and deterministic' (their statements: YtmipggfcdmmpfaaTotals.lean).
  GIVEN WITH THE SEED: the statements are not yours to turn. If you find one false, say at which input.
  Laid BY PROGRAM, IN A SANDBOX (cutbox-rows.mjs): the forced cells as the released guide's own fill.sh prints them over the translation d226fc15f90c1e8a… (all of the seat's roots in one cut). By AI agents, Wed Nov 11 2026. No macro, syntax, notation, axiom, sorry.
-/
import Derived.Test.YtmipggfcdmmpfaaChecked
import GoSem.Claim
import GoSem.ClaimJoined
import GoSem.ClaimMapViews
import Derived.JoinedTies
import Derived.KernelRfl
namespace Go.Proofs.Ytmipggfcdmmpfaa
/- THE CELL 'sum', in the pinned program and in every row, IS THE sha256 OF THE DUMP (.gsa) THAT YtmipggfcdmmpfaaProg.lean LOADS. Nothing in Lean hashes anything: it is a label: what it is worth is what the hold of that sum in a sandbox is worth. -/
noncomputable def Try.pinned : Pinned := { name := "ytmipggfcdmmpfaa", sum := "d226fc15f90c1e8a78bf53733381ac94bd9ab9c0978c0bce98c01e2a13073921", checked := Try.checked }
namespace Rows
def none {H : Type} : Left H := { results := [], args := [] }

/-- 'soundservicelaw36.ClientSteps': WHATEVER THE INPUT: true; the input reads as it did. -/
def clientStepsSpec : ChangeSpec := { name := "clientSteps", fn := fun _ => fun
  | [d1, d2, d3, d4] => { results := [.lit (.bool true)], args := [d1, d2, d3, d4] }
  | _ => none }
def clientStepsRow : OpenClaim := { program := "ytmipggfcdmmpfaa", sum := "d226fc15f90c1e8a78bf53733381ac94bd9ab9c0978c0bce98c01e2a13073921", func := "soundservice/soundservicelaw36.ClientSteps", spec := "clientSteps", apart := false }
def ClientStepsSaid : Prop := clientStepsRow.holds Try.pinned (OpenSpec.ofChange clientStepsSpec)

/-- ITS FALSE NEIGHBOUR: 'it returns false'. Refute it at one input. -/
def clientStepsWrong : ChangeSpec := { name := "clientSteps", fn := fun _ => fun
  | [d1, d2, d3, d4] => { results := [.lit (.bool false)], args := [d1, d2, d3, d4] }
  | _ => none }
def ClientStepsWrongFalsely : Prop := clientStepsRow.holds Try.pinned (OpenSpec.ofChange clientStepsWrong)

/-- 'soundservicelaw36.ClientBalances': WHATEVER THE INPUT: true; the input reads as it did. -/
def clientBalancesSpec : ChangeSpec := { name := "clientBalances", fn := fun _ => fun
  | [d1, d2] => { results := [.lit (.bool true)], args := [d1, d2] }
  | _ => none }
def clientBalancesRow : OpenClaim := { program := "ytmipggfcdmmpfaa", sum := "d226fc15f90c1e8a78bf53733381ac94bd9ab9c0978c0bce98c01e2a13073921", func := "soundservice/soundservicelaw36.ClientBalances", spec := "clientBalances", apart := false }
def ClientBalancesSaid : Prop := clientBalancesRow.holds Try.pinned (OpenSpec.ofChange clientBalancesSpec)

/-- ITS FALSE NEIGHBOUR: 'it returns false'. Refute it at one input. -/
def clientBalancesWrong : ChangeSpec := { name := "clientBalances", fn := fun _ => fun
  | [d1, d2] => { results := [.lit (.bool false)], args := [d1, d2] }
  | _ => none }
def ClientBalancesWrongFalsely : Prop := clientBalancesRow.holds Try.pinned (OpenSpec.ofChange clientBalancesWrong)

/-- 'soundservicelaw36.ClientWhole': WHATEVER THE INPUT: true; the input reads as it did. -/
def clientWholeSpec : ChangeSpec := { name := "clientWhole", fn := fun _ => fun
  | [d1, d2] => { results := [.lit (.bool true)], args := [d1, d2] }
  | _ => none }
def clientWholeRow : OpenClaim := { program := "ytmipggfcdmmpfaa", sum := "d226fc15f90c1e8a78bf53733381ac94bd9ab9c0978c0bce98c01e2a13073921", func := "soundservice/soundservicelaw36.ClientWhole", spec := "clientWhole", apart := false }
def ClientWholeSaid : Prop := clientWholeRow.holds Try.pinned (OpenSpec.ofChange clientWholeSpec)

/-- ITS FALSE NEIGHBOUR: 'it returns false'. Refute it at one input. -/
def clientWholeWrong : ChangeSpec := { name := "clientWhole", fn := fun _ => fun
  | [d1, d2] => { results := [.lit (.bool false)], args := [d1, d2] }
  | _ => none }
def ClientWholeWrongFalsely : Prop := clientWholeRow.holds Try.pinned (OpenSpec.ofChange clientWholeWrong)

/- THE SECOND FORM. 'bulk': how many values and letters a reading holds, each counted each time it is reached (what is shared counts as often as it is met; a slice's spare places count too). A statement '..UptoSaid' is the law's where the arguments, and the package variables that the reading takes, are together of bulk at most 1048576: NARROWER than '..Said'. Prove '..Said' where nothing that the law and all that it calls make is longer than what came in: it says more and counts as full. Else prove '..UptoSaid'. A law counts once. -/
mutual
def uptoBulk {H : Type} : DataW H → Nat
  | .lit (.string bytes) => bytes.length + 1
  | .lit _ => 1
  | .nil => 1
  | .ptr d => uptoBulk d + 1
  | .slice elems spare => uptoBulkAll elems + uptoBulkAll spare + 1
  | .agg parts => uptoBulkAll parts + 1
  | .iface _ d => uptoBulk d + 1
  | .map entries => uptoBulkEntries entries + 1
  | .held _ => 1
def uptoBulkAll {H : Type} : List (DataW H) → Nat
  | [] => 0
  | d :: r => uptoBulk d + uptoBulkAll r
def uptoBulkEntries {H : Type} : List (Lit × DataW H) → Nat
  | [] => 0
  | x :: r => uptoBulkEntry x + uptoBulkEntries r
def uptoBulkEntry {H : Type} : Lit × DataW H → Nat
  | (.string bytes, d) => bytes.length + uptoBulk d + 1
  | (_, d) => uptoBulk d + 1
 end
def uptoSmall : (H : Type) → List (DataW H) → Bool := fun _ ds => decide (uptoBulkAll ds ≤ 1048576)
def OpenSpec.upto (s : _root_.Go.ChangeSpec) : _root_.Go.OpenSpec := { _root_.Go.OpenSpec.ofChange s with cond := some uptoSmall }

/-- 'soundservicelaw36.ClientSteps', WHERE WHAT IT READS IS OF BULK AT MOST 1048576: true; the input reads as it did. -/
def clientStepsUptoRow : OpenClaim := { program := "ytmipggfcdmmpfaa", sum := "d226fc15f90c1e8a78bf53733381ac94bd9ab9c0978c0bce98c01e2a13073921", func := "soundservice/soundservicelaw36.ClientSteps", spec := "clientSteps", apart := false, narrowed := true }
def ClientStepsUptoSaid : Prop := clientStepsUptoRow.holds Try.pinned (OpenSpec.upto clientStepsSpec)

/-- 'soundservicelaw36.ClientBalances', WHERE WHAT IT READS IS OF BULK AT MOST 1048576: true; the input reads as it did. -/
def clientBalancesUptoRow : OpenClaim := { program := "ytmipggfcdmmpfaa", sum := "d226fc15f90c1e8a78bf53733381ac94bd9ab9c0978c0bce98c01e2a13073921", func := "soundservice/soundservicelaw36.ClientBalances", spec := "clientBalances", apart := false, narrowed := true }
def ClientBalancesUptoSaid : Prop := clientBalancesUptoRow.holds Try.pinned (OpenSpec.upto clientBalancesSpec)

/-- 'soundservicelaw36.ClientWhole', WHERE WHAT IT READS IS OF BULK AT MOST 1048576: true; the input reads as it did. -/
def clientWholeUptoRow : OpenClaim := { program := "ytmipggfcdmmpfaa", sum := "d226fc15f90c1e8a78bf53733381ac94bd9ab9c0978c0bce98c01e2a13073921", func := "soundservice/soundservicelaw36.ClientWhole", spec := "clientWhole", apart := false, narrowed := true }
def ClientWholeUptoSaid : Prop := clientWholeUptoRow.holds Try.pinned (OpenSpec.upto clientWholeSpec)

end Rows
end Go.Proofs.Ytmipggfcdmmpfaa
