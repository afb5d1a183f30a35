/- The walk of WindRects. -/
import Derived.Test.YtffmmfeedfdlaaaWRects0
import Derived.Test.YtffmmfeedfdlaaaWRects1
import Derived.Test.YtffmmfeedfdlaaaWRects2
import Derived.Test.YtffmmfeedfdlaaaWRects3
import Derived.Test.YtffmmfeedfdlaaaWRects4
namespace Go.Proofs.Ytffmmfeedfdlaaa
open Go.ChangeShapes Go.WideShapes Go.ChangeAt Go.RowKit
set_option linter.unusedVariables false

theorem windRects_walk (X Y W H PX PY : Int) (w : World) :
    Calls Try.prog 6 #[.agg #[.int .i64 X, .int .i64 Y, .int .i64 W, .int .i64 H, .int .i64 PX, .int .i64 PY]] w fun e w' => e = .returned (.bool true) ∧ Below w.heap.size w w' := by
  by_cases q1 : X ≤ PX
  · by_cases q2 : PX < X + W
    · by_cases q3 : Y ≤ PY
      · by_cases q4 : PY < Y + H
        · exact windRects_c0 X Y W H PX PY w q1 q2 q3 q4
        · exact windRects_c1 X Y W H PX PY w q1 q2 q3 q4
      · exact windRects_c2 X Y W H PX PY w q1 q2 q3
    · exact windRects_c3 X Y W H PX PY w q1 q2
  · exact windRects_c4 X Y W H PX PY w q1
end Go.Proofs.Ytffmmfeedfdlaaa
