/-
  No cell of these rows narrows 'for every input' (looked for: loops, veiled, ifaces, maps, wideKeys, modest, calm, conditions, laid).
  DERIVED. THE GIVEN ROWS OF THIS SEAT. 5 by the template 'for every input the law returns true; each argument reads behind the call as it read before'; 0 by the template 'total and deterministic' (their statements: YtgkbgfmgbmjdiaaTotals.lean).
  GIVEN WITH THE SEED: the statements are not yours to turn. If you find one false, say at which input.
  Laid BY PROGRAM, IN A SANDBOX (cutbox-rows.mjs): the forced cells as the released guide's own fill.sh prints them over the translation 323de6df95d107e1… (all of the seat's roots in one cut). By AI agents, Wed Nov 11 2026. No macro, syntax, notation, axiom, sorry.
-/
import Derived.Test.YtgkbgfmgbmjdiaaChecked
import GoSem.Claim
import GoSem.ClaimJoined
import GoSem.ClaimMapViews
import Derived.JoinedTies
import Derived.KernelRfl
namespace Go.Proofs.Ytgkbgfmgbmjdiaa
/- THE CELL 'sum', in the pinned program and in every row, IS THE sha256 OF THE DUMP (.gsa) THAT YtgkbgfmgbmjdiaaProg.lean LOADS. Nothing in Lean hashes anything: it is a label: what it is worth is what the hold of that sum in a sandbox is worth. -/
noncomputable def Try.pinned : Pinned := { name := "ytgkbgfmgbmjdiaa", sum := "323de6df95d107e1c44c49db2e49a7870dc710ce5fc5970eced0797ca4411534", checked := Try.checked }
namespace Rows
def none {H : Type} : Left H := { results := [], args := [] }

/-- 'additivelaw03.SumValues': WHATEVER THE INPUT: true; the input reads as it did. -/
def sumValuesSpec : ChangeSpec := { name := "sumValues", fn := fun _ => fun
  | [d] => { results := [.lit (.bool true)], args := [d] }
  | _ => none }
def sumValuesRow : OpenClaim := { program := "ytgkbgfmgbmjdiaa", sum := "323de6df95d107e1c44c49db2e49a7870dc710ce5fc5970eced0797ca4411534", func := "additive/additivelaw03.SumValues", spec := "sumValues", apart := false }
def SumValuesSaid : Prop := sumValuesRow.holds Try.pinned (OpenSpec.ofChange sumValuesSpec)

/-- ITS FALSE NEIGHBOUR: 'it returns false'. Refute it at one input. -/
def sumValuesWrong : ChangeSpec := { name := "sumValues", fn := fun _ => fun
  | [d] => { results := [.lit (.bool false)], args := [d] }
  | _ => none }
def SumValuesWrongFalsely : Prop := sumValuesRow.holds Try.pinned (OpenSpec.ofChange sumValuesWrong)

/-- 'additivelaw03.SumJoins': WHATEVER THE INPUT: true; the input reads as it did. -/
def sumJoinsSpec : ChangeSpec := { name := "sumJoins", fn := fun _ => fun
  | [d1, d2] => { results := [.lit (.bool true)], args := [d1, d2] }
  | _ => none }
def sumJoinsRow : OpenClaim := { program := "ytgkbgfmgbmjdiaa", sum := "323de6df95d107e1c44c49db2e49a7870dc710ce5fc5970eced0797ca4411534", func := "additive/additivelaw03.SumJoins", spec := "sumJoins", apart := false }
def SumJoinsSaid : Prop := sumJoinsRow.holds Try.pinned (OpenSpec.ofChange sumJoinsSpec)

/-- ITS FALSE NEIGHBOUR: 'it returns false'. Refute it at one input. -/
def sumJoinsWrong : ChangeSpec := { name := "sumJoins", fn := fun _ => fun
  | [d1, d2] => { results := [.lit (.bool false)], args := [d1, d2] }
  | _ => none }
def SumJoinsWrongFalsely : Prop := sumJoinsRow.holds Try.pinned (OpenSpec.ofChange sumJoinsWrong)

/-- 'additivelaw03.SumMixes': WHATEVER THE INPUT: true; the input reads as it did. -/
def sumMixesSpec : ChangeSpec := { name := "sumMixes", fn := fun _ => fun
  | [d1, d2] => { results := [.lit (.bool true)], args := [d1, d2] }
  | _ => none }
def sumMixesRow : OpenClaim := { program := "ytgkbgfmgbmjdiaa", sum := "323de6df95d107e1c44c49db2e49a7870dc710ce5fc5970eced0797ca4411534", func := "additive/additivelaw03.SumMixes", spec := "sumMixes", apart := false }
def SumMixesSaid : Prop := sumMixesRow.holds Try.pinned (OpenSpec.ofChange sumMixesSpec)

/-- ITS FALSE NEIGHBOUR: 'it returns false'. Refute it at one input. -/
def sumMixesWrong : ChangeSpec := { name := "sumMixes", fn := fun _ => fun
  | [d1, d2] => { results := [.lit (.bool false)], args := [d1, d2] }
  | _ => none }
def SumMixesWrongFalsely : Prop := sumMixesRow.holds Try.pinned (OpenSpec.ofChange sumMixesWrong)

/-- 'additivelaw03.SumSeals': WHATEVER THE INPUT: true; the input reads as it did. -/
def sumSealsSpec : ChangeSpec := { name := "sumSeals", fn := fun _ => fun
  | [d] => { results := [.lit (.bool true)], args := [d] }
  | _ => none }
def sumSealsRow : OpenClaim := { program := "ytgkbgfmgbmjdiaa", sum := "323de6df95d107e1c44c49db2e49a7870dc710ce5fc5970eced0797ca4411534", func := "additive/additivelaw03.SumSeals", spec := "sumSeals", apart := false }
def SumSealsSaid : Prop := sumSealsRow.holds Try.pinned (OpenSpec.ofChange sumSealsSpec)

/-- ITS FALSE NEIGHBOUR: 'it returns false'. Refute it at one input. -/
def sumSealsWrong : ChangeSpec := { name := "sumSeals", fn := fun _ => fun
  | [d] => { results := [.lit (.bool false)], args := [d] }
  | _ => none }
def SumSealsWrongFalsely : Prop := sumSealsRow.holds Try.pinned (OpenSpec.ofChange sumSealsWrong)

/-- 'additivelaw03.SumDetects': WHATEVER THE INPUT: true; the input reads as it did. -/
def sumDetectsSpec : ChangeSpec := { name := "sumDetects", fn := fun _ => fun
  | [d1, d2, d3, d4] => { results := [.lit (.bool true)], args := [d1, d2, d3, d4] }
  | _ => none }
def sumDetectsRow : OpenClaim := { program := "ytgkbgfmgbmjdiaa", sum := "323de6df95d107e1c44c49db2e49a7870dc710ce5fc5970eced0797ca4411534", func := "additive/additivelaw03.SumDetects", spec := "sumDetects", apart := false }
def SumDetectsSaid : Prop := sumDetectsRow.holds Try.pinned (OpenSpec.ofChange sumDetectsSpec)

/-- ITS FALSE NEIGHBOUR: 'it returns false'. Refute it at one input. -/
def sumDetectsWrong : ChangeSpec := { name := "sumDetects", fn := fun _ => fun
  | [d1, d2, d3, d4] => { results := [.lit (.bool false)], args := [d1, d2, d3, d4] }
  | _ => none }
def SumDetectsWrongFalsely : Prop := sumDetectsRow.holds Try.pinned (OpenSpec.ofChange sumDetectsWrong)

/- THE SECOND FORM. 'bulk': how many values and letters a reading holds, each counted each time it is reached (what is shared counts as often as it is met; a slice's spare places count too). A statement '..UptoSaid' is the law's where the arguments, and the package variables that the reading takes, are together of bulk at most 1048576: NARROWER than '..Said'. Prove '..Said' where nothing that the law and all that it calls make is longer than what came in: it says more and counts as full. Else prove '..UptoSaid'. A law counts once. -/
mutual
def uptoBulk {H : Type} : DataW H → Nat
  | .lit (.string bytes) => bytes.length + 1
  | .lit _ => 1
  | .nil => 1
  | .ptr d => uptoBulk d + 1
  | .slice elems spare => uptoBulkAll elems + uptoBulkAll spare + 1
  | .agg parts => uptoBulkAll parts + 1
  | .iface _ d => uptoBulk d + 1
  | .map entries => uptoBulkEntries entries + 1
  | .held _ => 1
def uptoBulkAll {H : Type} : List (DataW H) → Nat
  | [] => 0
  | d :: r => uptoBulk d + uptoBulkAll r
def uptoBulkEntries {H : Type} : List (Lit × DataW H) → Nat
  | [] => 0
  | x :: r => uptoBulkEntry x + uptoBulkEntries r
def uptoBulkEntry {H : Type} : Lit × DataW H → Nat
  | (.string bytes, d) => bytes.length + uptoBulk d + 1
  | (_, d) => uptoBulk d + 1
 end
def uptoSmall : (H : Type) → List (DataW H) → Bool := fun _ ds => decide (uptoBulkAll ds ≤ 1048576)
def OpenSpec.upto (s : _root_.Go.ChangeSpec) : _root_.Go.OpenSpec := { _root_.Go.OpenSpec.ofChange s with cond := some uptoSmall }

/-- 'additivelaw03.SumValues', WHERE WHAT IT READS IS OF BULK AT MOST 1048576: true; the input reads as it did. -/
def sumValuesUptoRow : OpenClaim := { program := "ytgkbgfmgbmjdiaa", sum := "323de6df95d107e1c44c49db2e49a7870dc710ce5fc5970eced0797ca4411534", func := "additive/additivelaw03.SumValues", spec := "sumValues", apart := false, narrowed := true }
def SumValuesUptoSaid : Prop := sumValuesUptoRow.holds Try.pinned (OpenSpec.upto sumValuesSpec)

/-- 'additivelaw03.SumJoins', WHERE WHAT IT READS IS OF BULK AT MOST 1048576: true; the input reads as it did. -/
def sumJoinsUptoRow : OpenClaim := { program := "ytgkbgfmgbmjdiaa", sum := "323de6df95d107e1c44c49db2e49a7870dc710ce5fc5970eced0797ca4411534", func := "additive/additivelaw03.SumJoins", spec := "sumJoins", apart := false, narrowed := true }
def SumJoinsUptoSaid : Prop := sumJoinsUptoRow.holds Try.pinned (OpenSpec.upto sumJoinsSpec)

/-- 'additivelaw03.SumMixes', WHERE WHAT IT READS IS OF BULK AT MOST 1048576: true; the input reads as it did. -/
def sumMixesUptoRow : OpenClaim := { program := "ytgkbgfmgbmjdiaa", sum := "323de6df95d107e1c44c49db2e49a7870dc710ce5fc5970eced0797ca4411534", func := "additive/additivelaw03.SumMixes", spec := "sumMixes", apart := false, narrowed := true }
def SumMixesUptoSaid : Prop := sumMixesUptoRow.holds Try.pinned (OpenSpec.upto sumMixesSpec)

/-- 'additivelaw03.SumSeals', WHERE WHAT IT READS IS OF BULK AT MOST 1048576: true; the input reads as it did. -/
def sumSealsUptoRow : OpenClaim := { program := "ytgkbgfmgbmjdiaa", sum := "323de6df95d107e1c44c49db2e49a7870dc710ce5fc5970eced0797ca4411534", func := "additive/additivelaw03.SumSeals", spec := "sumSeals", apart := false, narrowed := true }
def SumSealsUptoSaid : Prop := sumSealsUptoRow.holds Try.pinned (OpenSpec.upto sumSealsSpec)

/-- 'additivelaw03.SumDetects', WHERE WHAT IT READS IS OF BULK AT MOST 1048576: true; the input reads as it did. -/
def sumDetectsUptoRow : OpenClaim := { program := "ytgkbgfmgbmjdiaa", sum := "323de6df95d107e1c44c49db2e49a7870dc710ce5fc5970eced0797ca4411534", func := "additive/additivelaw03.SumDetects", spec := "sumDetects", apart := false, narrowed := true }
def SumDetectsUptoSaid : Prop := sumDetectsUptoRow.holds Try.pinned (OpenSpec.upto sumDetectsSpec)

end Rows
end Go.Proofs.Ytgkbgfmgbmjdiaa
