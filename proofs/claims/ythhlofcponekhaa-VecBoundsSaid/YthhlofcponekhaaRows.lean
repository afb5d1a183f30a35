/-
  No cell of these rows narrows 'for every input' (looked for: loops, veiled, ifaces, maps, wideKeys, modest, calm, conditions, laid).
  DERIVED. THE GIVEN ROWS OF THIS SEAT. 6 by the template 'for every input the law returns true; each argument reads behind the call as it read before'; 0 by the template 'total and deterministic' (their statements: YthhlofcponekhaaTotals.lean).
  GIVEN WITH THE SEED: the statements are not yours to turn. If you find one false, say at which input.
  Laid BY PROGRAM, IN A SANDBOX (cutbox-rows.mjs): the forced cells as the released guide's own fill.sh prints them over the translation 68f6106a6a93e10f… (all of the seat's roots in one cut). By AI agents, Wed Nov 11 2026. No macro, syntax, notation, axiom, sorry.
-/
import Derived.Test.YthhlofcponekhaaChecked
import GoSem.Claim
import GoSem.ClaimJoined
import GoSem.ClaimMapViews
import Derived.JoinedTies
import Derived.KernelRfl
namespace Go.Proofs.Ythhlofcponekhaa
/- THE CELL 'sum', in the pinned program and in every row, IS THE sha256 OF THE DUMP (.gsa) THAT YthhlofcponekhaaProg.lean LOADS. Nothing in Lean hashes anything: it is a label: what it is worth is what the hold of that sum in a sandbox is worth. -/
noncomputable def Try.pinned : Pinned := { name := "ythhlofcponekhaa", sum := "68f6106a6a93e10f794b150c74fe89910dbd7ddb6c3b6164944125dfd36ba536", checked := Try.checked }
namespace Rows
def none {H : Type} : Left H := { results := [], args := [] }

/-- 'additivelaw04.VecProducts': WHATEVER THE INPUT: true; the input reads as it did. -/
def vecProductsSpec : ChangeSpec := { name := "vecProducts", fn := fun _ => fun
  | [d1, d2] => { results := [.lit (.bool true)], args := [d1, d2] }
  | _ => none }
def vecProductsRow : OpenClaim := { program := "ythhlofcponekhaa", sum := "68f6106a6a93e10f794b150c74fe89910dbd7ddb6c3b6164944125dfd36ba536", func := "additive/additivelaw04.VecProducts", spec := "vecProducts", unfollowed := true, recurses := true, apart := false }
def VecProductsSaid : Prop := vecProductsRow.holds Try.pinned (OpenSpec.ofChange vecProductsSpec)

/-- ITS FALSE NEIGHBOUR: 'it returns false'. Refute it at one input. -/
def vecProductsWrong : ChangeSpec := { name := "vecProducts", fn := fun _ => fun
  | [d1, d2] => { results := [.lit (.bool false)], args := [d1, d2] }
  | _ => none }
def VecProductsWrongFalsely : Prop := vecProductsRow.holds Try.pinned (OpenSpec.ofChange vecProductsWrong)

/-- 'additivelaw04.VecDet': WHATEVER THE INPUT: true; the input reads as it did. -/
def vecDetSpec : ChangeSpec := { name := "vecDet", fn := fun _ => fun
  | [d1, d2, d3] => { results := [.lit (.bool true)], args := [d1, d2, d3] }
  | _ => none }
def vecDetRow : OpenClaim := { program := "ythhlofcponekhaa", sum := "68f6106a6a93e10f794b150c74fe89910dbd7ddb6c3b6164944125dfd36ba536", func := "additive/additivelaw04.VecDet", spec := "vecDet", unfollowed := true, recurses := true, apart := false }
def VecDetSaid : Prop := vecDetRow.holds Try.pinned (OpenSpec.ofChange vecDetSpec)

/-- ITS FALSE NEIGHBOUR: 'it returns false'. Refute it at one input. -/
def vecDetWrong : ChangeSpec := { name := "vecDet", fn := fun _ => fun
  | [d1, d2, d3] => { results := [.lit (.bool false)], args := [d1, d2, d3] }
  | _ => none }
def VecDetWrongFalsely : Prop := vecDetRow.holds Try.pinned (OpenSpec.ofChange vecDetWrong)

/-- 'additivelaw04.VecLinear': WHATEVER THE INPUT: true; the input reads as it did. -/
def vecLinearSpec : ChangeSpec := { name := "vecLinear", fn := fun _ => fun
  | [d] => { results := [.lit (.bool true)], args := [d] }
  | _ => none }
def vecLinearRow : OpenClaim := { program := "ythhlofcponekhaa", sum := "68f6106a6a93e10f794b150c74fe89910dbd7ddb6c3b6164944125dfd36ba536", func := "additive/additivelaw04.VecLinear", spec := "vecLinear", unfollowed := true, recurses := true, apart := false }
def VecLinearSaid : Prop := vecLinearRow.holds Try.pinned (OpenSpec.ofChange vecLinearSpec)

/-- ITS FALSE NEIGHBOUR: 'it returns false'. Refute it at one input. -/
def vecLinearWrong : ChangeSpec := { name := "vecLinear", fn := fun _ => fun
  | [d] => { results := [.lit (.bool false)], args := [d] }
  | _ => none }
def VecLinearWrongFalsely : Prop := vecLinearRow.holds Try.pinned (OpenSpec.ofChange vecLinearWrong)

/-- 'additivelaw04.VecOrders': WHATEVER THE INPUT: true; the input reads as it did. -/
def vecOrdersSpec : ChangeSpec := { name := "vecOrders", fn := fun _ => fun
  | [d1, d2, d3] => { results := [.lit (.bool true)], args := [d1, d2, d3] }
  | _ => none }
def vecOrdersRow : OpenClaim := { program := "ythhlofcponekhaa", sum := "68f6106a6a93e10f794b150c74fe89910dbd7ddb6c3b6164944125dfd36ba536", func := "additive/additivelaw04.VecOrders", spec := "vecOrders", unfollowed := true, recurses := true, apart := false }
def VecOrdersSaid : Prop := vecOrdersRow.holds Try.pinned (OpenSpec.ofChange vecOrdersSpec)

/-- ITS FALSE NEIGHBOUR: 'it returns false'. Refute it at one input. -/
def vecOrdersWrong : ChangeSpec := { name := "vecOrders", fn := fun _ => fun
  | [d1, d2, d3] => { results := [.lit (.bool false)], args := [d1, d2, d3] }
  | _ => none }
def VecOrdersWrongFalsely : Prop := vecOrdersRow.holds Try.pinned (OpenSpec.ofChange vecOrdersWrong)

/-- 'additivelaw04.VecBounds': WHATEVER THE INPUT: true; the input reads as it did. -/
def vecBoundsSpec : ChangeSpec := { name := "vecBounds", fn := fun _ => fun
  | [d] => { results := [.lit (.bool true)], args := [d] }
  | _ => none }
def vecBoundsRow : OpenClaim := { program := "ythhlofcponekhaa", sum := "68f6106a6a93e10f794b150c74fe89910dbd7ddb6c3b6164944125dfd36ba536", func := "additive/additivelaw04.VecBounds", spec := "vecBounds", unfollowed := true, recurses := true, apart := false }
def VecBoundsSaid : Prop := vecBoundsRow.holds Try.pinned (OpenSpec.ofChange vecBoundsSpec)

/-- ITS FALSE NEIGHBOUR: 'it returns false'. Refute it at one input. -/
def vecBoundsWrong : ChangeSpec := { name := "vecBounds", fn := fun _ => fun
  | [d] => { results := [.lit (.bool false)], args := [d] }
  | _ => none }
def VecBoundsWrongFalsely : Prop := vecBoundsRow.holds Try.pinned (OpenSpec.ofChange vecBoundsWrong)

/-- 'additivelaw04.VecLines': WHATEVER THE INPUT: true; the input reads as it did. -/
def vecLinesSpec : ChangeSpec := { name := "vecLines", fn := fun _ => fun
  | [d1, d2, d3] => { results := [.lit (.bool true)], args := [d1, d2, d3] }
  | _ => none }
def vecLinesRow : OpenClaim := { program := "ythhlofcponekhaa", sum := "68f6106a6a93e10f794b150c74fe89910dbd7ddb6c3b6164944125dfd36ba536", func := "additive/additivelaw04.VecLines", spec := "vecLines", unfollowed := true, recurses := true, apart := false }
def VecLinesSaid : Prop := vecLinesRow.holds Try.pinned (OpenSpec.ofChange vecLinesSpec)

/-- ITS FALSE NEIGHBOUR: 'it returns false'. Refute it at one input. -/
def vecLinesWrong : ChangeSpec := { name := "vecLines", fn := fun _ => fun
  | [d1, d2, d3] => { results := [.lit (.bool false)], args := [d1, d2, d3] }
  | _ => none }
def VecLinesWrongFalsely : Prop := vecLinesRow.holds Try.pinned (OpenSpec.ofChange vecLinesWrong)

/- THE SECOND FORM. 'bulk': how many values and letters a reading holds, each counted each time it is reached (what is shared counts as often as it is met; a slice's spare places count too). A statement '..UptoSaid' is the law's where the arguments, and the package variables that the reading takes, are together of bulk at most 1048576: NARROWER than '..Said'. Prove '..Said' where nothing that the law and all that it calls make is longer than what came in: it says more and counts as full. Else prove '..UptoSaid'. A law counts once. -/
mutual
def uptoBulk {H : Type} : DataW H → Nat
  | .lit (.string bytes) => bytes.length + 1
  | .lit _ => 1
  | .nil => 1
  | .ptr d => uptoBulk d + 1
  | .slice elems spare => uptoBulkAll elems + uptoBulkAll spare + 1
  | .agg parts => uptoBulkAll parts + 1
  | .iface _ d => uptoBulk d + 1
  | .map entries => uptoBulkEntries entries + 1
  | .held _ => 1
def uptoBulkAll {H : Type} : List (DataW H) → Nat
  | [] => 0
  | d :: r => uptoBulk d + uptoBulkAll r
def uptoBulkEntries {H : Type} : List (Lit × DataW H) → Nat
  | [] => 0
  | x :: r => uptoBulkEntry x + uptoBulkEntries r
def uptoBulkEntry {H : Type} : Lit × DataW H → Nat
  | (.string bytes, d) => bytes.length + uptoBulk d + 1
  | (_, d) => uptoBulk d + 1
 end
def uptoSmall : (H : Type) → List (DataW H) → Bool := fun _ ds => decide (uptoBulkAll ds ≤ 1048576)
def OpenSpec.upto (s : _root_.Go.ChangeSpec) : _root_.Go.OpenSpec := { _root_.Go.OpenSpec.ofChange s with cond := some uptoSmall }

/-- 'additivelaw04.VecProducts', WHERE WHAT IT READS IS OF BULK AT MOST 1048576: true; the input reads as it did. -/
def vecProductsUptoRow : OpenClaim := { program := "ythhlofcponekhaa", sum := "68f6106a6a93e10f794b150c74fe89910dbd7ddb6c3b6164944125dfd36ba536", func := "additive/additivelaw04.VecProducts", spec := "vecProducts", unfollowed := true, recurses := true, apart := false, narrowed := true }
def VecProductsUptoSaid : Prop := vecProductsUptoRow.holds Try.pinned (OpenSpec.upto vecProductsSpec)

/-- 'additivelaw04.VecDet', WHERE WHAT IT READS IS OF BULK AT MOST 1048576: true; the input reads as it did. -/
def vecDetUptoRow : OpenClaim := { program := "ythhlofcponekhaa", sum := "68f6106a6a93e10f794b150c74fe89910dbd7ddb6c3b6164944125dfd36ba536", func := "additive/additivelaw04.VecDet", spec := "vecDet", unfollowed := true, recurses := true, apart := false, narrowed := true }
def VecDetUptoSaid : Prop := vecDetUptoRow.holds Try.pinned (OpenSpec.upto vecDetSpec)

/-- 'additivelaw04.VecLinear', WHERE WHAT IT READS IS OF BULK AT MOST 1048576: true; the input reads as it did. -/
def vecLinearUptoRow : OpenClaim := { program := "ythhlofcponekhaa", sum := "68f6106a6a93e10f794b150c74fe89910dbd7ddb6c3b6164944125dfd36ba536", func := "additive/additivelaw04.VecLinear", spec := "vecLinear", unfollowed := true, recurses := true, apart := false, narrowed := true }
def VecLinearUptoSaid : Prop := vecLinearUptoRow.holds Try.pinned (OpenSpec.upto vecLinearSpec)

/-- 'additivelaw04.VecOrders', WHERE WHAT IT READS IS OF BULK AT MOST 1048576: true; the input reads as it did. -/
def vecOrdersUptoRow : OpenClaim := { program := "ythhlofcponekhaa", sum := "68f6106a6a93e10f794b150c74fe89910dbd7ddb6c3b6164944125dfd36ba536", func := "additive/additivelaw04.VecOrders", spec := "vecOrders", unfollowed := true, recurses := true, apart := false, narrowed := true }
def VecOrdersUptoSaid : Prop := vecOrdersUptoRow.holds Try.pinned (OpenSpec.upto vecOrdersSpec)

/-- 'additivelaw04.VecBounds', WHERE WHAT IT READS IS OF BULK AT MOST 1048576: true; the input reads as it did. -/
def vecBoundsUptoRow : OpenClaim := { program := "ythhlofcponekhaa", sum := "68f6106a6a93e10f794b150c74fe89910dbd7ddb6c3b6164944125dfd36ba536", func := "additive/additivelaw04.VecBounds", spec := "vecBounds", unfollowed := true, recurses := true, apart := false, narrowed := true }
def VecBoundsUptoSaid : Prop := vecBoundsUptoRow.holds Try.pinned (OpenSpec.upto vecBoundsSpec)

/-- 'additivelaw04.VecLines', WHERE WHAT IT READS IS OF BULK AT MOST 1048576: true; the input reads as it did. -/
def vecLinesUptoRow : OpenClaim := { program := "ythhlofcponekhaa", sum := "68f6106a6a93e10f794b150c74fe89910dbd7ddb6c3b6164944125dfd36ba536", func := "additive/additivelaw04.VecLines", spec := "vecLines", unfollowed := true, recurses := true, apart := false, narrowed := true }
def VecLinesUptoSaid : Prop := vecLinesUptoRow.holds Try.pinned (OpenSpec.upto vecLinesSpec)

end Rows
end Go.Proofs.Ythhlofcponekhaa
