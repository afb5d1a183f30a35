/-
  No cell of these rows narrows 'for every input' (looked for: loops, veiled, ifaces, maps, wideKeys, modest, calm, conditions, laid).
  DERIVED. THE GIVEN ROWS OF THIS SEAT. 5 by the template 'for every input the law returns true; each argument reads behind the call as it read before'; 0 by the template 'total and deterministic' (their statements: YtffmmfeedfdlaaaTotals.lean).
  GIVEN WITH THE SEED: the statements are not yours to turn. If you find one false, say at which input.
  Laid BY PROGRAM, IN A SANDBOX (cutbox-rows.mjs): the forced cells as the released guide's own fill.sh prints them over the translation 6a09d1dd499da8fd… (all of the seat's roots in one cut). By AI agents, Wed Nov 11 2026. No macro, syntax, notation, axiom, sorry.
-/
import Derived.Test.YtffmmfeedfdlaaaChecked
import GoSem.Claim
import GoSem.ClaimJoined
import GoSem.ClaimMapViews
import Derived.JoinedTies
import Derived.KernelRfl
namespace Go.Proofs.Ytffmmfeedfdlaaa
/- THE CELL 'sum', in the pinned program and in every row, IS THE sha256 OF THE DUMP (.gsa) THAT YtffmmfeedfdlaaaProg.lean LOADS. Nothing in Lean hashes anything: it is a label: what it is worth is what the hold of that sum in a sandbox is worth. -/
noncomputable def Try.pinned : Pinned := { name := "ytffmmfeedfdlaaa", sum := "6a09d1dd499da8fd0e0c7a90145da169f5226eba35676e39dac98711b5b27f8d", checked := Try.checked }
namespace Rows
def none {H : Type} : Left H := { results := [], args := [] }

/-- 'additivelaw17.WindPoints': WHATEVER THE INPUT: true; the input reads as it did. -/
def windPointsSpec : ChangeSpec := { name := "windPoints", fn := fun _ => fun
  | [d1, d2] => { results := [.lit (.bool true)], args := [d1, d2] }
  | _ => none }
def windPointsRow : OpenClaim := { program := "ytffmmfeedfdlaaa", sum := "6a09d1dd499da8fd0e0c7a90145da169f5226eba35676e39dac98711b5b27f8d", func := "additive/additivelaw17.WindPoints", spec := "windPoints", unfollowed := true, recurses := true, apart := false }
def WindPointsSaid : Prop := windPointsRow.holds Try.pinned (OpenSpec.ofChange windPointsSpec)

/-- ITS FALSE NEIGHBOUR: 'it returns false'. Refute it at one input. -/
def windPointsWrong : ChangeSpec := { name := "windPoints", fn := fun _ => fun
  | [d1, d2] => { results := [.lit (.bool false)], args := [d1, d2] }
  | _ => none }
def WindPointsWrongFalsely : Prop := windPointsRow.holds Try.pinned (OpenSpec.ofChange windPointsWrong)

/-- 'additivelaw17.WindAdds': WHATEVER THE INPUT: true; the input reads as it did. -/
def windAddsSpec : ChangeSpec := { name := "windAdds", fn := fun _ => fun
  | [d1, d2, d3] => { results := [.lit (.bool true)], args := [d1, d2, d3] }
  | _ => none }
def windAddsRow : OpenClaim := { program := "ytffmmfeedfdlaaa", sum := "6a09d1dd499da8fd0e0c7a90145da169f5226eba35676e39dac98711b5b27f8d", func := "additive/additivelaw17.WindAdds", spec := "windAdds", unfollowed := true, recurses := true, apart := false }
def WindAddsSaid : Prop := windAddsRow.holds Try.pinned (OpenSpec.ofChange windAddsSpec)

/-- ITS FALSE NEIGHBOUR: 'it returns false'. Refute it at one input. -/
def windAddsWrong : ChangeSpec := { name := "windAdds", fn := fun _ => fun
  | [d1, d2, d3] => { results := [.lit (.bool false)], args := [d1, d2, d3] }
  | _ => none }
def WindAddsWrongFalsely : Prop := windAddsRow.holds Try.pinned (OpenSpec.ofChange windAddsWrong)

/-- 'additivelaw17.WindTurns': WHATEVER THE INPUT: true; the input reads as it did. -/
def windTurnsSpec : ChangeSpec := { name := "windTurns", fn := fun _ => fun
  | [d1, d2, d3] => { results := [.lit (.bool true)], args := [d1, d2, d3] }
  | _ => none }
def windTurnsRow : OpenClaim := { program := "ytffmmfeedfdlaaa", sum := "6a09d1dd499da8fd0e0c7a90145da169f5226eba35676e39dac98711b5b27f8d", func := "additive/additivelaw17.WindTurns", spec := "windTurns", unfollowed := true, recurses := true, apart := false }
def WindTurnsSaid : Prop := windTurnsRow.holds Try.pinned (OpenSpec.ofChange windTurnsSpec)

/-- ITS FALSE NEIGHBOUR: 'it returns false'. Refute it at one input. -/
def windTurnsWrong : ChangeSpec := { name := "windTurns", fn := fun _ => fun
  | [d1, d2, d3] => { results := [.lit (.bool false)], args := [d1, d2, d3] }
  | _ => none }
def WindTurnsWrongFalsely : Prop := windTurnsRow.holds Try.pinned (OpenSpec.ofChange windTurnsWrong)

/-- 'additivelaw17.WindRects': WHATEVER THE INPUT: true; the input reads as it did. -/
def windRectsSpec : ChangeSpec := { name := "windRects", fn := fun _ => fun
  | [d] => { results := [.lit (.bool true)], args := [d] }
  | _ => none }
def windRectsRow : OpenClaim := { program := "ytffmmfeedfdlaaa", sum := "6a09d1dd499da8fd0e0c7a90145da169f5226eba35676e39dac98711b5b27f8d", func := "additive/additivelaw17.WindRects", spec := "windRects", unfollowed := true, recurses := true, apart := false }
def WindRectsSaid : Prop := windRectsRow.holds Try.pinned (OpenSpec.ofChange windRectsSpec)

/-- ITS FALSE NEIGHBOUR: 'it returns false'. Refute it at one input. -/
def windRectsWrong : ChangeSpec := { name := "windRects", fn := fun _ => fun
  | [d] => { results := [.lit (.bool false)], args := [d] }
  | _ => none }
def WindRectsWrongFalsely : Prop := windRectsRow.holds Try.pinned (OpenSpec.ofChange windRectsWrong)

/-- 'additivelaw17.WindFar': WHATEVER THE INPUT: true; the input reads as it did. -/
def windFarSpec : ChangeSpec := { name := "windFar", fn := fun _ => fun
  | [d1, d2] => { results := [.lit (.bool true)], args := [d1, d2] }
  | _ => none }
def windFarRow : OpenClaim := { program := "ytffmmfeedfdlaaa", sum := "6a09d1dd499da8fd0e0c7a90145da169f5226eba35676e39dac98711b5b27f8d", func := "additive/additivelaw17.WindFar", spec := "windFar", unfollowed := true, recurses := true, apart := false }
def WindFarSaid : Prop := windFarRow.holds Try.pinned (OpenSpec.ofChange windFarSpec)

/-- ITS FALSE NEIGHBOUR: 'it returns false'. Refute it at one input. -/
def windFarWrong : ChangeSpec := { name := "windFar", fn := fun _ => fun
  | [d1, d2] => { results := [.lit (.bool false)], args := [d1, d2] }
  | _ => none }
def WindFarWrongFalsely : Prop := windFarRow.holds Try.pinned (OpenSpec.ofChange windFarWrong)

/- THE SECOND FORM. 'bulk': how many values and letters a reading holds, each counted each time it is reached (what is shared counts as often as it is met; a slice's spare places count too). A statement '..UptoSaid' is the law's where the arguments, and the package variables that the reading takes, are together of bulk at most 1048576: NARROWER than '..Said'. Prove '..Said' where nothing that the law and all that it calls make is longer than what came in: it says more and counts as full. Else prove '..UptoSaid'. A law counts once. -/
mutual
def uptoBulk {H : Type} : DataW H → Nat
  | .lit (.string bytes) => bytes.length + 1
  | .lit _ => 1
  | .nil => 1
  | .ptr d => uptoBulk d + 1
  | .slice elems spare => uptoBulkAll elems + uptoBulkAll spare + 1
  | .agg parts => uptoBulkAll parts + 1
  | .iface _ d => uptoBulk d + 1
  | .map entries => uptoBulkEntries entries + 1
  | .held _ => 1
def uptoBulkAll {H : Type} : List (DataW H) → Nat
  | [] => 0
  | d :: r => uptoBulk d + uptoBulkAll r
def uptoBulkEntries {H : Type} : List (Lit × DataW H) → Nat
  | [] => 0
  | x :: r => uptoBulkEntry x + uptoBulkEntries r
def uptoBulkEntry {H : Type} : Lit × DataW H → Nat
  | (.string bytes, d) => bytes.length + uptoBulk d + 1
  | (_, d) => uptoBulk d + 1
 end
def uptoSmall : (H : Type) → List (DataW H) → Bool := fun _ ds => decide (uptoBulkAll ds ≤ 1048576)
def OpenSpec.upto (s : _root_.Go.ChangeSpec) : _root_.Go.OpenSpec := { _root_.Go.OpenSpec.ofChange s with cond := some uptoSmall }

/-- 'additivelaw17.WindPoints', WHERE WHAT IT READS IS OF BULK AT MOST 1048576: true; the input reads as it did. -/
def windPointsUptoRow : OpenClaim := { program := "ytffmmfeedfdlaaa", sum := "6a09d1dd499da8fd0e0c7a90145da169f5226eba35676e39dac98711b5b27f8d", func := "additive/additivelaw17.WindPoints", spec := "windPoints", unfollowed := true, recurses := true, apart := false, narrowed := true }
def WindPointsUptoSaid : Prop := windPointsUptoRow.holds Try.pinned (OpenSpec.upto windPointsSpec)

/-- 'additivelaw17.WindAdds', WHERE WHAT IT READS IS OF BULK AT MOST 1048576: true; the input reads as it did. -/
def windAddsUptoRow : OpenClaim := { program := "ytffmmfeedfdlaaa", sum := "6a09d1dd499da8fd0e0c7a90145da169f5226eba35676e39dac98711b5b27f8d", func := "additive/additivelaw17.WindAdds", spec := "windAdds", unfollowed := true, recurses := true, apart := false, narrowed := true }
def WindAddsUptoSaid : Prop := windAddsUptoRow.holds Try.pinned (OpenSpec.upto windAddsSpec)

/-- 'additivelaw17.WindTurns', WHERE WHAT IT READS IS OF BULK AT MOST 1048576: true; the input reads as it did. -/
def windTurnsUptoRow : OpenClaim := { program := "ytffmmfeedfdlaaa", sum := "6a09d1dd499da8fd0e0c7a90145da169f5226eba35676e39dac98711b5b27f8d", func := "additive/additivelaw17.WindTurns", spec := "windTurns", unfollowed := true, recurses := true, apart := false, narrowed := true }
def WindTurnsUptoSaid : Prop := windTurnsUptoRow.holds Try.pinned (OpenSpec.upto windTurnsSpec)

/-- 'additivelaw17.WindRects', WHERE WHAT IT READS IS OF BULK AT MOST 1048576: true; the input reads as it did. -/
def windRectsUptoRow : OpenClaim := { program := "ytffmmfeedfdlaaa", sum := "6a09d1dd499da8fd0e0c7a90145da169f5226eba35676e39dac98711b5b27f8d", func := "additive/additivelaw17.WindRects", spec := "windRects", unfollowed := true, recurses := true, apart := false, narrowed := true }
def WindRectsUptoSaid : Prop := windRectsUptoRow.holds Try.pinned (OpenSpec.upto windRectsSpec)

/-- 'additivelaw17.WindFar', WHERE WHAT IT READS IS OF BULK AT MOST 1048576: true; the input reads as it did. -/
def windFarUptoRow : OpenClaim := { program := "ytffmmfeedfdlaaa", sum := "6a09d1dd499da8fd0e0c7a90145da169f5226eba35676e39dac98711b5b27f8d", func := "additive/additivelaw17.WindFar", spec := "windFar", unfollowed := true, recurses := true, apart := false, narrowed := true }
def WindFarUptoSaid : Prop := windFarUptoRow.holds Try.pinned (OpenSpec.upto windFarSpec)

end Rows
end Go.Proofs.Ytffmmfeedfdlaaa
