/-
  No cell of these rows narrows 'for every input' (looked for: loops, veiled, ifaces, maps, wideKeys, modest, calm, conditions, laid).
  DERIVED. THE GIVEN ROWS OF THIS SEAT. 3 by the template 'for every input the law returns true; each argument reads behind the call as it read before'; 0 by the template 'total and deterministic' (their statements: YtbmoiokpkcaccaaTotals.lean).
  GIVEN WITH THE SEED: the statements are not yours to turn. If you find one false, say at which input.
  Laid BY PROGRAM, IN A SANDBOX (cutbox-rows.mjs): the forced cells as the released guide's own fill.sh prints them over the translation 951db0195132e96e… (all of the seat's roots in one cut). By AI agents, Wed Nov 11 2026. No macro, syntax, notation, axiom, sorry.
-/
import Derived.Test.YtbmoiokpkcaccaaChecked
import GoSem.Claim
import GoSem.ClaimJoined
import GoSem.ClaimMapViews
import Derived.JoinedTies
import Derived.KernelRfl
namespace Go.Proofs.Ytbmoiokpkcaccaa
/- THE CELL 'sum', in the pinned program and in every row, IS THE sha256 OF THE DUMP (.gsa) THAT YtbmoiokpkcaccaaProg.lean LOADS. Nothing in Lean hashes anything: it is a label: what it is worth is what the hold of that sum in a sandbox is worth. -/
noncomputable def Try.pinned : Pinned := { name := "ytbmoiokpkcaccaa", sum := "951db0195132e96e947c892f4e407dbdae40cc28f67bcf5968b17503a0575665", checked := Try.checked }
namespace Rows
def none {H : Type} : Left H := { results := [], args := [] }

/-- 'soundservicelaw37.GlitchSums': WHATEVER THE INPUT: true; the input reads as it did. -/
def glitchSumsSpec : ChangeSpec := { name := "glitchSums", fn := fun _ => fun
  | [d1, d2] => { results := [.lit (.bool true)], args := [d1, d2] }
  | _ => none }
def glitchSumsRow : OpenClaim := { program := "ytbmoiokpkcaccaa", sum := "951db0195132e96e947c892f4e407dbdae40cc28f67bcf5968b17503a0575665", func := "soundservice/soundservicelaw37.GlitchSums", spec := "glitchSums", unfollowed := true, recurses := true, plainKeys := false, apart := false }
def GlitchSumsSaid : Prop := glitchSumsRow.holds Try.pinned (OpenSpec.ofChange glitchSumsSpec)

/-- ITS FALSE NEIGHBOUR: 'it returns false'. Refute it at one input. -/
def glitchSumsWrong : ChangeSpec := { name := "glitchSums", fn := fun _ => fun
  | [d1, d2] => { results := [.lit (.bool false)], args := [d1, d2] }
  | _ => none }
def GlitchSumsWrongFalsely : Prop := glitchSumsRow.holds Try.pinned (OpenSpec.ofChange glitchSumsWrong)

/-- 'soundservicelaw37.GlitchOrders': WHATEVER THE INPUT: true; the input reads as it did. -/
def glitchOrdersSpec : ChangeSpec := { name := "glitchOrders", fn := fun _ => fun
  | [d1, d2] => { results := [.lit (.bool true)], args := [d1, d2] }
  | _ => none }
def glitchOrdersRow : OpenClaim := { program := "ytbmoiokpkcaccaa", sum := "951db0195132e96e947c892f4e407dbdae40cc28f67bcf5968b17503a0575665", func := "soundservice/soundservicelaw37.GlitchOrders", spec := "glitchOrders", unfollowed := true, recurses := true, plainKeys := false, apart := false }
def GlitchOrdersSaid : Prop := glitchOrdersRow.holds Try.pinned (OpenSpec.ofChange glitchOrdersSpec)

/-- ITS FALSE NEIGHBOUR: 'it returns false'. Refute it at one input. -/
def glitchOrdersWrong : ChangeSpec := { name := "glitchOrders", fn := fun _ => fun
  | [d1, d2] => { results := [.lit (.bool false)], args := [d1, d2] }
  | _ => none }
def GlitchOrdersWrongFalsely : Prop := glitchOrdersRow.holds Try.pinned (OpenSpec.ofChange glitchOrdersWrong)

/-- 'soundservicelaw37.GlitchTotal': WHATEVER THE INPUT: true; the input reads as it did. -/
def glitchTotalSpec : ChangeSpec := { name := "glitchTotal", fn := fun _ => fun
  | [d] => { results := [.lit (.bool true)], args := [d] }
  | _ => none }
def glitchTotalRow : OpenClaim := { program := "ytbmoiokpkcaccaa", sum := "951db0195132e96e947c892f4e407dbdae40cc28f67bcf5968b17503a0575665", func := "soundservice/soundservicelaw37.GlitchTotal", spec := "glitchTotal", unfollowed := true, recurses := true, plainKeys := false, apart := false }
def GlitchTotalSaid : Prop := glitchTotalRow.holds Try.pinned (OpenSpec.ofChange glitchTotalSpec)

/-- ITS FALSE NEIGHBOUR: 'it returns false'. Refute it at one input. -/
def glitchTotalWrong : ChangeSpec := { name := "glitchTotal", fn := fun _ => fun
  | [d] => { results := [.lit (.bool false)], args := [d] }
  | _ => none }
def GlitchTotalWrongFalsely : Prop := glitchTotalRow.holds Try.pinned (OpenSpec.ofChange glitchTotalWrong)

/- THE SECOND FORM. 'bulk': how many values and letters a reading holds, each counted each time it is reached (what is shared counts as often as it is met; a slice's spare places count too). A statement '..UptoSaid' is the law's where the arguments, and the package variables that the reading takes, are together of bulk at most 1048576: NARROWER than '..Said'. Prove '..Said' where nothing that the law and all that it calls make is longer than what came in: it says more and counts as full. Else prove '..UptoSaid'. A law counts once. -/
mutual
def uptoBulk {H : Type} : DataW H → Nat
  | .lit (.string bytes) => bytes.length + 1
  | .lit _ => 1
  | .nil => 1
  | .ptr d => uptoBulk d + 1
  | .slice elems spare => uptoBulkAll elems + uptoBulkAll spare + 1
  | .agg parts => uptoBulkAll parts + 1
  | .iface _ d => uptoBulk d + 1
  | .map entries => uptoBulkEntries entries + 1
  | .held _ => 1
def uptoBulkAll {H : Type} : List (DataW H) → Nat
  | [] => 0
  | d :: r => uptoBulk d + uptoBulkAll r
def uptoBulkEntries {H : Type} : List (Lit × DataW H) → Nat
  | [] => 0
  | x :: r => uptoBulkEntry x + uptoBulkEntries r
def uptoBulkEntry {H : Type} : Lit × DataW H → Nat
  | (.string bytes, d) => bytes.length + uptoBulk d + 1
  | (_, d) => uptoBulk d + 1
 end
def uptoSmall : (H : Type) → List (DataW H) → Bool := fun _ ds => decide (uptoBulkAll ds ≤ 1048576)
def OpenSpec.upto (s : _root_.Go.ChangeSpec) : _root_.Go.OpenSpec := { _root_.Go.OpenSpec.ofChange s with cond := some uptoSmall }

/-- 'soundservicelaw37.GlitchSums', WHERE WHAT IT READS IS OF BULK AT MOST 1048576: true; the input reads as it did. -/
def glitchSumsUptoRow : OpenClaim := { program := "ytbmoiokpkcaccaa", sum := "951db0195132e96e947c892f4e407dbdae40cc28f67bcf5968b17503a0575665", func := "soundservice/soundservicelaw37.GlitchSums", spec := "glitchSums", unfollowed := true, recurses := true, plainKeys := false, apart := false, narrowed := true }
def GlitchSumsUptoSaid : Prop := glitchSumsUptoRow.holds Try.pinned (OpenSpec.upto glitchSumsSpec)

/-- 'soundservicelaw37.GlitchOrders', WHERE WHAT IT READS IS OF BULK AT MOST 1048576: true; the input reads as it did. -/
def glitchOrdersUptoRow : OpenClaim := { program := "ytbmoiokpkcaccaa", sum := "951db0195132e96e947c892f4e407dbdae40cc28f67bcf5968b17503a0575665", func := "soundservice/soundservicelaw37.GlitchOrders", spec := "glitchOrders", unfollowed := true, recurses := true, plainKeys := false, apart := false, narrowed := true }
def GlitchOrdersUptoSaid : Prop := glitchOrdersUptoRow.holds Try.pinned (OpenSpec.upto glitchOrdersSpec)

/-- 'soundservicelaw37.GlitchTotal', WHERE WHAT IT READS IS OF BULK AT MOST 1048576: true; the input reads as it did. -/
def glitchTotalUptoRow : OpenClaim := { program := "ytbmoiokpkcaccaa", sum := "951db0195132e96e947c892f4e407dbdae40cc28f67bcf5968b17503a0575665", func := "soundservice/soundservicelaw37.GlitchTotal", spec := "glitchTotal", unfollowed := true, recurses := true, plainKeys := false, apart := false, narrowed := true }
def GlitchTotalUptoSaid : Prop := glitchTotalUptoRow.holds Try.pinned (OpenSpec.upto glitchTotalSpec)

end Rows
end Go.Proofs.Ytbmoiokpkcaccaa
