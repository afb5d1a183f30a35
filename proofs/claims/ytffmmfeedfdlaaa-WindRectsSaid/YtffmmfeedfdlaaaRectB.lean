/- The boxes of WindRects. -/
import Derived.Test.YtffmmfeedfdlaaaRect
namespace Go.Proofs.Ytffmmfeedfdlaaa
open Go.ChangeShapes Go.WideShapes Go.ChangeAt Go.RowKit
set_option linter.unusedVariables false

def six (X Y W H PX PY : Int) : Nat → Int | 0 => X | 1 => Y | 2 => W | 3 => H | 4 => PX | _ => PY
/-- The rectangle in its box. -/
structure Rb (b : Nat) (X Y W H PX PY : Int) (w : World) : Prop where
  row : w.heap[b]? = some (.cells #[.int .i64 X, .int .i64 Y, .int .i64 W, .int .i64 H, .int .i64 PX, .int .i64 PY] 37)
theorem Rb.next {b : Nat} {X Y W H PX PY : Int} {w w' : World} (h : Rb b X Y W H PX PY w) (hb : Below w.heap.size w w') : Rb b X Y W H PX PY w' := ⟨(hb.block b (lt_of_row h.row)).trans h.row⟩
theorem Rb.c (i : Nat) {b : Nat} {X Y W H PX PY : Int} {w : World} (h : Rb b X Y W H PX PY w) (hi : i < 6) : w.cell? ⟨b, i, none⟩ = some (.int .i64 (six X Y W H PX PY i)) := by
  obtain rfl | rfl | rfl | rfl | rfl | rfl : i = 0 ∨ i = 1 ∨ i = 2 ∨ i = 3 ∨ i = 4 ∨ i = 5 := by omega
  all_goals exact cell_of_row _ _ _ _ _ _ h.row
structure Ib (b : Nat) (X Y W H PX PY : Int) (w : World) : Prop where
  row : w.heap[b]? = some (.cells #[.int .i64 X, .int .i64 Y, .int .i64 W, .int .i64 H, .int .i64 PX, .int .i64 PY] 3)
theorem Ib.c (i : Nat) {b : Nat} {X Y W H PX PY : Int} {w : World} (h : Ib b X Y W H PX PY w) (hi : i < 6) : w.cell? ⟨b, i, none⟩ = some (.int .i64 (six X Y W H PX PY i)) := by
  obtain rfl | rfl | rfl | rfl | rfl | rfl : i = 0 ∨ i = 1 ∨ i = 2 ∨ i = 3 ∨ i = 4 ∨ i = 5 := by omega
  all_goals exact cell_of_row _ _ _ _ _ _ h.row
theorem pl_rect (X Y W H : Int) (w : World) : Pl (some ⟨w.heap.size, 0, none⟩) 4 (rf X Y W H) (w.alloc (.cells #[.int .i64 X, .int .i64 Y, .int .i64 (X + W), .int .i64 Y, .int .i64 (X + W), .int .i64 (Y + H), .int .i64 X, .int .i64 (Y + H)] 24)) :=
  .inr ⟨_, 0, rfl, by simp, fun i hi => by
    have h := heap_alloc_new w (.cells #[.int .i64 X, .int .i64 Y, .int .i64 (X + W), .int .i64 Y, .int .i64 (X + W), .int .i64 (Y + H), .int .i64 X, .int .i64 (Y + H)] 24)
    obtain rfl | rfl | rfl | rfl : i = 0 ∨ i = 1 ∨ i = 2 ∨ i = 3 := by omega
    all_goals exact ⟨cell_of_row _ _ _ _ _ _ h, cell_of_row _ _ _ _ _ _ h⟩⟩
end Go.Proofs.Ytffmmfeedfdlaaa
