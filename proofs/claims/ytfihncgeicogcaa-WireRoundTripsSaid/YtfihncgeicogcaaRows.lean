/-
  No cell of these rows narrows 'for every input' (looked for: loops, veiled, ifaces, maps, wideKeys, modest, calm, conditions, laid).
  DERIVED. THE GIVEN ROWS OF THIS SEAT. 8 by the template 'for every input the law returns true; each argument reads behind the call as it read before'; 0 by the template 'total and deterministic' (their statements: YtfihncgeicogcaaTotals.lean).
  GIVEN WITH THE SEED: the statements are not yours to turn. If you find one false, say at which input.
  Laid BY PROGRAM, IN A SANDBOX (cutbox-rows.mjs): the forced cells as the released guide's own fill.sh prints them over the translation 9f160ecd681421e0… (all of the seat's roots in one cut). By AI agents, Wed Nov 11 2026. No macro, syntax, notation, axiom, sorry.
-/
import Derived.Test.YtfihncgeicogcaaChecked
import GoSem.Claim
import GoSem.ClaimJoined
import GoSem.ClaimMapViews
import Derived.JoinedTies
import Derived.KernelRfl
namespace Go.Proofs.Ytfihncgeicogcaa
/- THE CELL 'sum', in the pinned program and in every row, IS THE sha256 OF THE DUMP (.gsa) THAT YtfihncgeicogcaaProg.lean LOADS. Nothing in Lean hashes anything: it is a label: what it is worth is what the hold of that sum in a sandbox is worth. -/
noncomputable def Try.pinned : Pinned := { name := "ytfihncgeicogcaa", sum := "9f160ecd681421e0a5dfc589ffcf3a5eeda0228657f8e383fa93646f6491fc5d", checked := Try.checked }
namespace Rows
def none {H : Type} : Left H := { results := [], args := [] }

/-- 'additivelaw02.WireUints': WHATEVER THE INPUT: true; the input reads as it did. -/
def wireUintsSpec : ChangeSpec := { name := "wireUints", fn := fun _ => fun
  | [d1, d2] => { results := [.lit (.bool true)], args := [d1, d2] }
  | _ => none }
def wireUintsRow : OpenClaim := { program := "ytfihncgeicogcaa", sum := "9f160ecd681421e0a5dfc589ffcf3a5eeda0228657f8e383fa93646f6491fc5d", func := "additive/additivelaw02.WireUints", spec := "wireUints", apart := false }
def WireUintsSaid : Prop := wireUintsRow.holds Try.pinned (OpenSpec.ofChange wireUintsSpec)

/-- ITS FALSE NEIGHBOUR: 'it returns false'. Refute it at one input. -/
def wireUintsWrong : ChangeSpec := { name := "wireUints", fn := fun _ => fun
  | [d1, d2] => { results := [.lit (.bool false)], args := [d1, d2] }
  | _ => none }
def WireUintsWrongFalsely : Prop := wireUintsRow.holds Try.pinned (OpenSpec.ofChange wireUintsWrong)

/-- 'additivelaw02.WireOrders': WHATEVER THE INPUT: true; the input reads as it did. -/
def wireOrdersSpec : ChangeSpec := { name := "wireOrders", fn := fun _ => fun
  | [d1, d2, d3] => { results := [.lit (.bool true)], args := [d1, d2, d3] }
  | _ => none }
def wireOrdersRow : OpenClaim := { program := "ytfihncgeicogcaa", sum := "9f160ecd681421e0a5dfc589ffcf3a5eeda0228657f8e383fa93646f6491fc5d", func := "additive/additivelaw02.WireOrders", spec := "wireOrders", apart := false }
def WireOrdersSaid : Prop := wireOrdersRow.holds Try.pinned (OpenSpec.ofChange wireOrdersSpec)

/-- ITS FALSE NEIGHBOUR: 'it returns false'. Refute it at one input. -/
def wireOrdersWrong : ChangeSpec := { name := "wireOrders", fn := fun _ => fun
  | [d1, d2, d3] => { results := [.lit (.bool false)], args := [d1, d2, d3] }
  | _ => none }
def WireOrdersWrongFalsely : Prop := wireOrdersRow.holds Try.pinned (OpenSpec.ofChange wireOrdersWrong)

/-- 'additivelaw02.WireLong': WHATEVER THE INPUT: true; the input reads as it did. -/
def wireLongSpec : ChangeSpec := { name := "wireLong", fn := fun _ => fun
  | [d] => { results := [.lit (.bool true)], args := [d] }
  | _ => none }
def wireLongRow : OpenClaim := { program := "ytfihncgeicogcaa", sum := "9f160ecd681421e0a5dfc589ffcf3a5eeda0228657f8e383fa93646f6491fc5d", func := "additive/additivelaw02.WireLong", spec := "wireLong", apart := false }
def WireLongSaid : Prop := wireLongRow.holds Try.pinned (OpenSpec.ofChange wireLongSpec)

/-- ITS FALSE NEIGHBOUR: 'it returns false'. Refute it at one input. -/
def wireLongWrong : ChangeSpec := { name := "wireLong", fn := fun _ => fun
  | [d] => { results := [.lit (.bool false)], args := [d] }
  | _ => none }
def WireLongWrongFalsely : Prop := wireLongRow.holds Try.pinned (OpenSpec.ofChange wireLongWrong)

/-- 'additivelaw02.WireInts': WHATEVER THE INPUT: true; the input reads as it did. -/
def wireIntsSpec : ChangeSpec := { name := "wireInts", fn := fun _ => fun
  | [d1, d2] => { results := [.lit (.bool true)], args := [d1, d2] }
  | _ => none }
def wireIntsRow : OpenClaim := { program := "ytfihncgeicogcaa", sum := "9f160ecd681421e0a5dfc589ffcf3a5eeda0228657f8e383fa93646f6491fc5d", func := "additive/additivelaw02.WireInts", spec := "wireInts", apart := false }
def WireIntsSaid : Prop := wireIntsRow.holds Try.pinned (OpenSpec.ofChange wireIntsSpec)

/-- ITS FALSE NEIGHBOUR: 'it returns false'. Refute it at one input. -/
def wireIntsWrong : ChangeSpec := { name := "wireInts", fn := fun _ => fun
  | [d1, d2] => { results := [.lit (.bool false)], args := [d1, d2] }
  | _ => none }
def WireIntsWrongFalsely : Prop := wireIntsRow.holds Try.pinned (OpenSpec.ofChange wireIntsWrong)

/-- 'additivelaw02.WirePads': WHATEVER THE INPUT: true; the input reads as it did. -/
def wirePadsSpec : ChangeSpec := { name := "wirePads", fn := fun _ => fun
  | [d1, d2] => { results := [.lit (.bool true)], args := [d1, d2] }
  | _ => none }
def wirePadsRow : OpenClaim := { program := "ytfihncgeicogcaa", sum := "9f160ecd681421e0a5dfc589ffcf3a5eeda0228657f8e383fa93646f6491fc5d", func := "additive/additivelaw02.WirePads", spec := "wirePads", apart := false }
def WirePadsSaid : Prop := wirePadsRow.holds Try.pinned (OpenSpec.ofChange wirePadsSpec)

/-- ITS FALSE NEIGHBOUR: 'it returns false'. Refute it at one input. -/
def wirePadsWrong : ChangeSpec := { name := "wirePads", fn := fun _ => fun
  | [d1, d2] => { results := [.lit (.bool false)], args := [d1, d2] }
  | _ => none }
def WirePadsWrongFalsely : Prop := wirePadsRow.holds Try.pinned (OpenSpec.ofChange wirePadsWrong)

/-- 'additivelaw02.WireTakes': WHATEVER THE INPUT: true; the input reads as it did. -/
def wireTakesSpec : ChangeSpec := { name := "wireTakes", fn := fun _ => fun
  | [d1, d2, d3] => { results := [.lit (.bool true)], args := [d1, d2, d3] }
  | _ => none }
def wireTakesRow : OpenClaim := { program := "ytfihncgeicogcaa", sum := "9f160ecd681421e0a5dfc589ffcf3a5eeda0228657f8e383fa93646f6491fc5d", func := "additive/additivelaw02.WireTakes", spec := "wireTakes", apart := false }
def WireTakesSaid : Prop := wireTakesRow.holds Try.pinned (OpenSpec.ofChange wireTakesSpec)

/-- ITS FALSE NEIGHBOUR: 'it returns false'. Refute it at one input. -/
def wireTakesWrong : ChangeSpec := { name := "wireTakes", fn := fun _ => fun
  | [d1, d2, d3] => { results := [.lit (.bool false)], args := [d1, d2, d3] }
  | _ => none }
def WireTakesWrongFalsely : Prop := wireTakesRow.holds Try.pinned (OpenSpec.ofChange wireTakesWrong)

/-- 'additivelaw02.WireTexts': WHATEVER THE INPUT: true; the input reads as it did. -/
def wireTextsSpec : ChangeSpec := { name := "wireTexts", fn := fun _ => fun
  | [d1, d2, d3] => { results := [.lit (.bool true)], args := [d1, d2, d3] }
  | _ => none }
def wireTextsRow : OpenClaim := { program := "ytfihncgeicogcaa", sum := "9f160ecd681421e0a5dfc589ffcf3a5eeda0228657f8e383fa93646f6491fc5d", func := "additive/additivelaw02.WireTexts", spec := "wireTexts", apart := false }
def WireTextsSaid : Prop := wireTextsRow.holds Try.pinned (OpenSpec.ofChange wireTextsSpec)

/-- ITS FALSE NEIGHBOUR: 'it returns false'. Refute it at one input. -/
def wireTextsWrong : ChangeSpec := { name := "wireTexts", fn := fun _ => fun
  | [d1, d2, d3] => { results := [.lit (.bool false)], args := [d1, d2, d3] }
  | _ => none }
def WireTextsWrongFalsely : Prop := wireTextsRow.holds Try.pinned (OpenSpec.ofChange wireTextsWrong)

/-- 'additivelaw02.WireRoundTrips': WHATEVER THE INPUT: true; the input reads as it did. -/
def wireRoundTripsSpec : ChangeSpec := { name := "wireRoundTrips", fn := fun _ => fun
  | [d] => { results := [.lit (.bool true)], args := [d] }
  | _ => none }
def wireRoundTripsRow : OpenClaim := { program := "ytfihncgeicogcaa", sum := "9f160ecd681421e0a5dfc589ffcf3a5eeda0228657f8e383fa93646f6491fc5d", func := "additive/additivelaw02.WireRoundTrips", spec := "wireRoundTrips", apart := false }
def WireRoundTripsSaid : Prop := wireRoundTripsRow.holds Try.pinned (OpenSpec.ofChange wireRoundTripsSpec)

/-- ITS FALSE NEIGHBOUR: 'it returns false'. Refute it at one input. -/
def wireRoundTripsWrong : ChangeSpec := { name := "wireRoundTrips", fn := fun _ => fun
  | [d] => { results := [.lit (.bool false)], args := [d] }
  | _ => none }
def WireRoundTripsWrongFalsely : Prop := wireRoundTripsRow.holds Try.pinned (OpenSpec.ofChange wireRoundTripsWrong)

/- THE SECOND FORM. 'bulk': how many values and letters a reading holds, each counted each time it is reached (what is shared counts as often as it is met; a slice's spare places count too). A statement '..UptoSaid' is the law's where the arguments, and the package variables that the reading takes, are together of bulk at most 1048576: NARROWER than '..Said'. Prove '..Said' where nothing that the law and all that it calls make is longer than what came in: it says more and counts as full. Else prove '..UptoSaid'. A law counts once. -/
mutual
def uptoBulk {H : Type} : DataW H → Nat
  | .lit (.string bytes) => bytes.length + 1
  | .lit _ => 1
  | .nil => 1
  | .ptr d => uptoBulk d + 1
  | .slice elems spare => uptoBulkAll elems + uptoBulkAll spare + 1
  | .agg parts => uptoBulkAll parts + 1
  | .iface _ d => uptoBulk d + 1
  | .map entries => uptoBulkEntries entries + 1
  | .held _ => 1
def uptoBulkAll {H : Type} : List (DataW H) → Nat
  | [] => 0
  | d :: r => uptoBulk d + uptoBulkAll r
def uptoBulkEntries {H : Type} : List (Lit × DataW H) → Nat
  | [] => 0
  | x :: r => uptoBulkEntry x + uptoBulkEntries r
def uptoBulkEntry {H : Type} : Lit × DataW H → Nat
  | (.string bytes, d) => bytes.length + uptoBulk d + 1
  | (_, d) => uptoBulk d + 1
 end
def uptoSmall : (H : Type) → List (DataW H) → Bool := fun _ ds => decide (uptoBulkAll ds ≤ 1048576)
def OpenSpec.upto (s : _root_.Go.ChangeSpec) : _root_.Go.OpenSpec := { _root_.Go.OpenSpec.ofChange s with cond := some uptoSmall }

/-- 'additivelaw02.WireUints', WHERE WHAT IT READS IS OF BULK AT MOST 1048576: true; the input reads as it did. -/
def wireUintsUptoRow : OpenClaim := { program := "ytfihncgeicogcaa", sum := "9f160ecd681421e0a5dfc589ffcf3a5eeda0228657f8e383fa93646f6491fc5d", func := "additive/additivelaw02.WireUints", spec := "wireUints", apart := false, narrowed := true }
def WireUintsUptoSaid : Prop := wireUintsUptoRow.holds Try.pinned (OpenSpec.upto wireUintsSpec)

/-- 'additivelaw02.WireOrders', WHERE WHAT IT READS IS OF BULK AT MOST 1048576: true; the input reads as it did. -/
def wireOrdersUptoRow : OpenClaim := { program := "ytfihncgeicogcaa", sum := "9f160ecd681421e0a5dfc589ffcf3a5eeda0228657f8e383fa93646f6491fc5d", func := "additive/additivelaw02.WireOrders", spec := "wireOrders", apart := false, narrowed := true }
def WireOrdersUptoSaid : Prop := wireOrdersUptoRow.holds Try.pinned (OpenSpec.upto wireOrdersSpec)

/-- 'additivelaw02.WireLong', WHERE WHAT IT READS IS OF BULK AT MOST 1048576: true; the input reads as it did. -/
def wireLongUptoRow : OpenClaim := { program := "ytfihncgeicogcaa", sum := "9f160ecd681421e0a5dfc589ffcf3a5eeda0228657f8e383fa93646f6491fc5d", func := "additive/additivelaw02.WireLong", spec := "wireLong", apart := false, narrowed := true }
def WireLongUptoSaid : Prop := wireLongUptoRow.holds Try.pinned (OpenSpec.upto wireLongSpec)

/-- 'additivelaw02.WireInts', WHERE WHAT IT READS IS OF BULK AT MOST 1048576: true; the input reads as it did. -/
def wireIntsUptoRow : OpenClaim := { program := "ytfihncgeicogcaa", sum := "9f160ecd681421e0a5dfc589ffcf3a5eeda0228657f8e383fa93646f6491fc5d", func := "additive/additivelaw02.WireInts", spec := "wireInts", apart := false, narrowed := true }
def WireIntsUptoSaid : Prop := wireIntsUptoRow.holds Try.pinned (OpenSpec.upto wireIntsSpec)

/-- 'additivelaw02.WirePads', WHERE WHAT IT READS IS OF BULK AT MOST 1048576: true; the input reads as it did. -/
def wirePadsUptoRow : OpenClaim := { program := "ytfihncgeicogcaa", sum := "9f160ecd681421e0a5dfc589ffcf3a5eeda0228657f8e383fa93646f6491fc5d", func := "additive/additivelaw02.WirePads", spec := "wirePads", apart := false, narrowed := true }
def WirePadsUptoSaid : Prop := wirePadsUptoRow.holds Try.pinned (OpenSpec.upto wirePadsSpec)

/-- 'additivelaw02.WireTakes', WHERE WHAT IT READS IS OF BULK AT MOST 1048576: true; the input reads as it did. -/
def wireTakesUptoRow : OpenClaim := { program := "ytfihncgeicogcaa", sum := "9f160ecd681421e0a5dfc589ffcf3a5eeda0228657f8e383fa93646f6491fc5d", func := "additive/additivelaw02.WireTakes", spec := "wireTakes", apart := false, narrowed := true }
def WireTakesUptoSaid : Prop := wireTakesUptoRow.holds Try.pinned (OpenSpec.upto wireTakesSpec)

/-- 'additivelaw02.WireTexts', WHERE WHAT IT READS IS OF BULK AT MOST 1048576: true; the input reads as it did. -/
def wireTextsUptoRow : OpenClaim := { program := "ytfihncgeicogcaa", sum := "9f160ecd681421e0a5dfc589ffcf3a5eeda0228657f8e383fa93646f6491fc5d", func := "additive/additivelaw02.WireTexts", spec := "wireTexts", apart := false, narrowed := true }
def WireTextsUptoSaid : Prop := wireTextsUptoRow.holds Try.pinned (OpenSpec.upto wireTextsSpec)

/-- 'additivelaw02.WireRoundTrips', WHERE WHAT IT READS IS OF BULK AT MOST 1048576: true; the input reads as it did. -/
def wireRoundTripsUptoRow : OpenClaim := { program := "ytfihncgeicogcaa", sum := "9f160ecd681421e0a5dfc589ffcf3a5eeda0228657f8e383fa93646f6491fc5d", func := "additive/additivelaw02.WireRoundTrips", spec := "wireRoundTrips", apart := false, narrowed := true }
def WireRoundTripsUptoSaid : Prop := wireRoundTripsUptoRow.holds Try.pinned (OpenSpec.upto wireRoundTripsSpec)

end Rows
end Go.Proofs.Ytfihncgeicogcaa
