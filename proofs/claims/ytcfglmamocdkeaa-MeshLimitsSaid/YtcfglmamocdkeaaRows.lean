/-
  No cell of these rows narrows 'for every input' (looked for: loops, veiled, ifaces, maps, wideKeys, modest, calm, conditions, laid).
  DERIVED. THE GIVEN ROWS OF THIS SEAT. 7 by the template 'for every input the law returns true; each argument reads behind the call as it read before'; 0 by the template 'total and deterministic' (their statements: YtcfglmamocdkeaaTotals.lean).
  GIVEN WITH THE SEED: the statements are not yours to turn. If you find one false, say at which input.
  Laid BY PROGRAM, IN A SANDBOX (cutbox-rows.mjs): the forced cells as the released guide's own fill.sh prints them over the translation dc5b85b5286b5f1f… (all of the seat's roots in one cut). By AI agents, Wed Nov 11 2026. No macro, syntax, notation, axiom, sorry.
-/
import Derived.Test.YtcfglmamocdkeaaChecked
import GoSem.Claim
import GoSem.ClaimJoined
import GoSem.ClaimMapViews
import Derived.JoinedTies
import Derived.KernelRfl
namespace Go.Proofs.Ytcfglmamocdkeaa
/- THE CELL 'sum', in the pinned program and in every row, IS THE sha256 OF THE DUMP (.gsa) THAT YtcfglmamocdkeaaProg.lean LOADS. Nothing in Lean hashes anything: it is a label: what it is worth is what the hold of that sum in a sandbox is worth. -/
noncomputable def Try.pinned : Pinned := { name := "ytcfglmamocdkeaa", sum := "dc5b85b5286b5f1f63b8fc721d5088f5fe0ba70ca7b7c0778b3fcc2c2f6e8e0b", checked := Try.checked }
namespace Rows
def none {H : Type} : Left H := { results := [], args := [] }

/-- 'additivelaw07.MeshVolumes': WHATEVER THE INPUT: true; the input reads as it did. -/
def meshVolumesSpec : ChangeSpec := { name := "meshVolumes", fn := fun _ => fun
  | [d1, d2] => { results := [.lit (.bool true)], args := [d1, d2] }
  | _ => none }
def meshVolumesRow : OpenClaim := { program := "ytcfglmamocdkeaa", sum := "dc5b85b5286b5f1f63b8fc721d5088f5fe0ba70ca7b7c0778b3fcc2c2f6e8e0b", func := "additive/additivelaw07.MeshVolumes", spec := "meshVolumes", unfollowed := true, recurses := true, apart := false }
def MeshVolumesSaid : Prop := meshVolumesRow.holds Try.pinned (OpenSpec.ofChange meshVolumesSpec)

/-- ITS FALSE NEIGHBOUR: 'it returns false'. Refute it at one input. -/
def meshVolumesWrong : ChangeSpec := { name := "meshVolumes", fn := fun _ => fun
  | [d1, d2] => { results := [.lit (.bool false)], args := [d1, d2] }
  | _ => none }
def MeshVolumesWrongFalsely : Prop := meshVolumesRow.holds Try.pinned (OpenSpec.ofChange meshVolumesWrong)

/-- 'additivelaw07.MeshTurns': WHATEVER THE INPUT: true; the input reads as it did. -/
def meshTurnsSpec : ChangeSpec := { name := "meshTurns", fn := fun _ => fun
  | [d] => { results := [.lit (.bool true)], args := [d] }
  | _ => none }
def meshTurnsRow : OpenClaim := { program := "ytcfglmamocdkeaa", sum := "dc5b85b5286b5f1f63b8fc721d5088f5fe0ba70ca7b7c0778b3fcc2c2f6e8e0b", func := "additive/additivelaw07.MeshTurns", spec := "meshTurns", unfollowed := true, recurses := true, apart := false }
def MeshTurnsSaid : Prop := meshTurnsRow.holds Try.pinned (OpenSpec.ofChange meshTurnsSpec)

/-- ITS FALSE NEIGHBOUR: 'it returns false'. Refute it at one input. -/
def meshTurnsWrong : ChangeSpec := { name := "meshTurns", fn := fun _ => fun
  | [d] => { results := [.lit (.bool false)], args := [d] }
  | _ => none }
def MeshTurnsWrongFalsely : Prop := meshTurnsRow.holds Try.pinned (OpenSpec.ofChange meshTurnsWrong)

/-- 'additivelaw07.MeshChecks': WHATEVER THE INPUT: true; the input reads as it did. -/
def meshChecksSpec : ChangeSpec := { name := "meshChecks", fn := fun _ => fun
  | [d1, d2] => { results := [.lit (.bool true)], args := [d1, d2] }
  | _ => none }
def meshChecksRow : OpenClaim := { program := "ytcfglmamocdkeaa", sum := "dc5b85b5286b5f1f63b8fc721d5088f5fe0ba70ca7b7c0778b3fcc2c2f6e8e0b", func := "additive/additivelaw07.MeshChecks", spec := "meshChecks", unfollowed := true, recurses := true, apart := false }
def MeshChecksSaid : Prop := meshChecksRow.holds Try.pinned (OpenSpec.ofChange meshChecksSpec)

/-- ITS FALSE NEIGHBOUR: 'it returns false'. Refute it at one input. -/
def meshChecksWrong : ChangeSpec := { name := "meshChecks", fn := fun _ => fun
  | [d1, d2] => { results := [.lit (.bool false)], args := [d1, d2] }
  | _ => none }
def MeshChecksWrongFalsely : Prop := meshChecksRow.holds Try.pinned (OpenSpec.ofChange meshChecksWrong)

/-- 'additivelaw07.MeshBoxes': WHATEVER THE INPUT: true; the input reads as it did. -/
def meshBoxesSpec : ChangeSpec := { name := "meshBoxes", fn := fun _ => fun
  | [d] => { results := [.lit (.bool true)], args := [d] }
  | _ => none }
def meshBoxesRow : OpenClaim := { program := "ytcfglmamocdkeaa", sum := "dc5b85b5286b5f1f63b8fc721d5088f5fe0ba70ca7b7c0778b3fcc2c2f6e8e0b", func := "additive/additivelaw07.MeshBoxes", spec := "meshBoxes", unfollowed := true, recurses := true, apart := false }
def MeshBoxesSaid : Prop := meshBoxesRow.holds Try.pinned (OpenSpec.ofChange meshBoxesSpec)

/-- ITS FALSE NEIGHBOUR: 'it returns false'. Refute it at one input. -/
def meshBoxesWrong : ChangeSpec := { name := "meshBoxes", fn := fun _ => fun
  | [d] => { results := [.lit (.bool false)], args := [d] }
  | _ => none }
def MeshBoxesWrongFalsely : Prop := meshBoxesRow.holds Try.pinned (OpenSpec.ofChange meshBoxesWrong)

/-- 'additivelaw07.MeshJoins': WHATEVER THE INPUT: true; the input reads as it did. -/
def meshJoinsSpec : ChangeSpec := { name := "meshJoins", fn := fun _ => fun
  | [d1, d2] => { results := [.lit (.bool true)], args := [d1, d2] }
  | _ => none }
def meshJoinsRow : OpenClaim := { program := "ytcfglmamocdkeaa", sum := "dc5b85b5286b5f1f63b8fc721d5088f5fe0ba70ca7b7c0778b3fcc2c2f6e8e0b", func := "additive/additivelaw07.MeshJoins", spec := "meshJoins", unfollowed := true, recurses := true, apart := false }
def MeshJoinsSaid : Prop := meshJoinsRow.holds Try.pinned (OpenSpec.ofChange meshJoinsSpec)

/-- ITS FALSE NEIGHBOUR: 'it returns false'. Refute it at one input. -/
def meshJoinsWrong : ChangeSpec := { name := "meshJoins", fn := fun _ => fun
  | [d1, d2] => { results := [.lit (.bool false)], args := [d1, d2] }
  | _ => none }
def MeshJoinsWrongFalsely : Prop := meshJoinsRow.holds Try.pinned (OpenSpec.ofChange meshJoinsWrong)

/-- 'additivelaw07.MeshSames': WHATEVER THE INPUT: true; the input reads as it did. -/
def meshSamesSpec : ChangeSpec := { name := "meshSames", fn := fun _ => fun
  | [d1, d2] => { results := [.lit (.bool true)], args := [d1, d2] }
  | _ => none }
def meshSamesRow : OpenClaim := { program := "ytcfglmamocdkeaa", sum := "dc5b85b5286b5f1f63b8fc721d5088f5fe0ba70ca7b7c0778b3fcc2c2f6e8e0b", func := "additive/additivelaw07.MeshSames", spec := "meshSames", unfollowed := true, recurses := true, apart := false }
def MeshSamesSaid : Prop := meshSamesRow.holds Try.pinned (OpenSpec.ofChange meshSamesSpec)

/-- ITS FALSE NEIGHBOUR: 'it returns false'. Refute it at one input. -/
def meshSamesWrong : ChangeSpec := { name := "meshSames", fn := fun _ => fun
  | [d1, d2] => { results := [.lit (.bool false)], args := [d1, d2] }
  | _ => none }
def MeshSamesWrongFalsely : Prop := meshSamesRow.holds Try.pinned (OpenSpec.ofChange meshSamesWrong)

/-- 'additivelaw07.MeshLimits': WHATEVER THE INPUT: true; the input reads as it did. -/
def meshLimitsSpec : ChangeSpec := { name := "meshLimits", fn := fun _ => fun
  | [d1, d2] => { results := [.lit (.bool true)], args := [d1, d2] }
  | _ => none }
def meshLimitsRow : OpenClaim := { program := "ytcfglmamocdkeaa", sum := "dc5b85b5286b5f1f63b8fc721d5088f5fe0ba70ca7b7c0778b3fcc2c2f6e8e0b", func := "additive/additivelaw07.MeshLimits", spec := "meshLimits", unfollowed := true, recurses := true, apart := false }
def MeshLimitsSaid : Prop := meshLimitsRow.holds Try.pinned (OpenSpec.ofChange meshLimitsSpec)

/-- ITS FALSE NEIGHBOUR: 'it returns false'. Refute it at one input. -/
def meshLimitsWrong : ChangeSpec := { name := "meshLimits", fn := fun _ => fun
  | [d1, d2] => { results := [.lit (.bool false)], args := [d1, d2] }
  | _ => none }
def MeshLimitsWrongFalsely : Prop := meshLimitsRow.holds Try.pinned (OpenSpec.ofChange meshLimitsWrong)

/- THE SECOND FORM. 'bulk': how many values and letters a reading holds, each counted each time it is reached (what is shared counts as often as it is met; a slice's spare places count too). A statement '..UptoSaid' is the law's where the arguments, and the package variables that the reading takes, are together of bulk at most 1048576: NARROWER than '..Said'. Prove '..Said' where nothing that the law and all that it calls make is longer than what came in: it says more and counts as full. Else prove '..UptoSaid'. A law counts once. -/
mutual
def uptoBulk {H : Type} : DataW H → Nat
  | .lit (.string bytes) => bytes.length + 1
  | .lit _ => 1
  | .nil => 1
  | .ptr d => uptoBulk d + 1
  | .slice elems spare => uptoBulkAll elems + uptoBulkAll spare + 1
  | .agg parts => uptoBulkAll parts + 1
  | .iface _ d => uptoBulk d + 1
  | .map entries => uptoBulkEntries entries + 1
  | .held _ => 1
def uptoBulkAll {H : Type} : List (DataW H) → Nat
  | [] => 0
  | d :: r => uptoBulk d + uptoBulkAll r
def uptoBulkEntries {H : Type} : List (Lit × DataW H) → Nat
  | [] => 0
  | x :: r => uptoBulkEntry x + uptoBulkEntries r
def uptoBulkEntry {H : Type} : Lit × DataW H → Nat
  | (.string bytes, d) => bytes.length + uptoBulk d + 1
  | (_, d) => uptoBulk d + 1
 end
def uptoSmall : (H : Type) → List (DataW H) → Bool := fun _ ds => decide (uptoBulkAll ds ≤ 1048576)
def OpenSpec.upto (s : _root_.Go.ChangeSpec) : _root_.Go.OpenSpec := { _root_.Go.OpenSpec.ofChange s with cond := some uptoSmall }

/-- 'additivelaw07.MeshVolumes', WHERE WHAT IT READS IS OF BULK AT MOST 1048576: true; the input reads as it did. -/
def meshVolumesUptoRow : OpenClaim := { program := "ytcfglmamocdkeaa", sum := "dc5b85b5286b5f1f63b8fc721d5088f5fe0ba70ca7b7c0778b3fcc2c2f6e8e0b", func := "additive/additivelaw07.MeshVolumes", spec := "meshVolumes", unfollowed := true, recurses := true, apart := false, narrowed := true }
def MeshVolumesUptoSaid : Prop := meshVolumesUptoRow.holds Try.pinned (OpenSpec.upto meshVolumesSpec)

/-- 'additivelaw07.MeshTurns', WHERE WHAT IT READS IS OF BULK AT MOST 1048576: true; the input reads as it did. -/
def meshTurnsUptoRow : OpenClaim := { program := "ytcfglmamocdkeaa", sum := "dc5b85b5286b5f1f63b8fc721d5088f5fe0ba70ca7b7c0778b3fcc2c2f6e8e0b", func := "additive/additivelaw07.MeshTurns", spec := "meshTurns", unfollowed := true, recurses := true, apart := false, narrowed := true }
def MeshTurnsUptoSaid : Prop := meshTurnsUptoRow.holds Try.pinned (OpenSpec.upto meshTurnsSpec)

/-- 'additivelaw07.MeshChecks', WHERE WHAT IT READS IS OF BULK AT MOST 1048576: true; the input reads as it did. -/
def meshChecksUptoRow : OpenClaim := { program := "ytcfglmamocdkeaa", sum := "dc5b85b5286b5f1f63b8fc721d5088f5fe0ba70ca7b7c0778b3fcc2c2f6e8e0b", func := "additive/additivelaw07.MeshChecks", spec := "meshChecks", unfollowed := true, recurses := true, apart := false, narrowed := true }
def MeshChecksUptoSaid : Prop := meshChecksUptoRow.holds Try.pinned (OpenSpec.upto meshChecksSpec)

/-- 'additivelaw07.MeshBoxes', WHERE WHAT IT READS IS OF BULK AT MOST 1048576: true; the input reads as it did. -/
def meshBoxesUptoRow : OpenClaim := { program := "ytcfglmamocdkeaa", sum := "dc5b85b5286b5f1f63b8fc721d5088f5fe0ba70ca7b7c0778b3fcc2c2f6e8e0b", func := "additive/additivelaw07.MeshBoxes", spec := "meshBoxes", unfollowed := true, recurses := true, apart := false, narrowed := true }
def MeshBoxesUptoSaid : Prop := meshBoxesUptoRow.holds Try.pinned (OpenSpec.upto meshBoxesSpec)

/-- 'additivelaw07.MeshJoins', WHERE WHAT IT READS IS OF BULK AT MOST 1048576: true; the input reads as it did. -/
def meshJoinsUptoRow : OpenClaim := { program := "ytcfglmamocdkeaa", sum := "dc5b85b5286b5f1f63b8fc721d5088f5fe0ba70ca7b7c0778b3fcc2c2f6e8e0b", func := "additive/additivelaw07.MeshJoins", spec := "meshJoins", unfollowed := true, recurses := true, apart := false, narrowed := true }
def MeshJoinsUptoSaid : Prop := meshJoinsUptoRow.holds Try.pinned (OpenSpec.upto meshJoinsSpec)

/-- 'additivelaw07.MeshSames', WHERE WHAT IT READS IS OF BULK AT MOST 1048576: true; the input reads as it did. -/
def meshSamesUptoRow : OpenClaim := { program := "ytcfglmamocdkeaa", sum := "dc5b85b5286b5f1f63b8fc721d5088f5fe0ba70ca7b7c0778b3fcc2c2f6e8e0b", func := "additive/additivelaw07.MeshSames", spec := "meshSames", unfollowed := true, recurses := true, apart := false, narrowed := true }
def MeshSamesUptoSaid : Prop := meshSamesUptoRow.holds Try.pinned (OpenSpec.upto meshSamesSpec)

/-- 'additivelaw07.MeshLimits', WHERE WHAT IT READS IS OF BULK AT MOST 1048576: true; the input reads as it did. -/
def meshLimitsUptoRow : OpenClaim := { program := "ytcfglmamocdkeaa", sum := "dc5b85b5286b5f1f63b8fc721d5088f5fe0ba70ca7b7c0778b3fcc2c2f6e8e0b", func := "additive/additivelaw07.MeshLimits", spec := "meshLimits", unfollowed := true, recurses := true, apart := false, narrowed := true }
def MeshLimitsUptoSaid : Prop := meshLimitsUptoRow.holds Try.pinned (OpenSpec.upto meshLimitsSpec)

end Rows
end Go.Proofs.Ytcfglmamocdkeaa
