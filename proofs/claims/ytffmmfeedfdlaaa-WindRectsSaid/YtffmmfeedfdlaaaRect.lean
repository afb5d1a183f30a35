/- Plain laws of a rectangle. -/
import Derived.Test.YtffmmfeedfdlaaaSums2
import Derived.Test.YtffmmfeedfdlaaaAwake
namespace Go.Proofs.Ytffmmfeedfdlaaa
open Go.ChangeShapes Go.WideShapes Go.ChangeAt Go.RowKit
set_option linter.unusedVariables false

def rf (X Y W H : Int) : Nat → P | 0 => ⟨X, Y⟩ | 1 => ⟨X + W, Y⟩ | 2 => ⟨X + W, Y + H⟩ | _ => ⟨X, Y + H⟩
theorem cr_up (x y h : Int) (p : P) (ha : P.Ok ⟨x, y⟩) (hb : P.Ok ⟨x, y + h⟩) (hp : p.Ok) (hh : 0 < h) : cr ⟨x, y⟩ ⟨x, y + h⟩ p = if (y ≤ p.y ∧ p.y < y + h) ∧ p.x < x then 1 else 0 := by
  have e : X3 ⟨x, y⟩ ⟨x, y + h⟩ p = h * (x - p.x) := by
    unfold X3
    dsimp only
    rw [show x - x = (0 : Int) by omega, show y + h - y = h by omega, show p.x - x = -(x - p.x) by omega, Int.zero_mul, Int.mul_neg]
    omega
  rw [cr_is]
  unfold pturn sgn
  rw [pcross_yes ha hb hp, e]
  dsimp only
  by_cases c : y ≤ p.y ∧ p.y < y + h
  · by_cases d : p.x < x
    · have := Int.mul_pos hh (show 0 < x - p.x by omega)
      rw [if_pos this, if_pos ⟨c, by omega⟩, if_pos ⟨c, d⟩]
    · have := Int.mul_nonneg (show 0 ≤ h by omega) (show 0 ≤ p.x - x by omega)
      rw [show x - p.x = -(p.x - x) by omega, Int.mul_neg, if_neg (show ¬ 0 < -(h * (p.x - x)) by omega)]
      rw [if_neg (show ¬ ((y ≤ p.y ∧ p.y < y + h) ∧ 0 < if -(h * (p.x - x)) < 0 then (-1 : Int) else 0) by split <;> omega), if_neg (by omega), if_neg (by omega)]
  · rw [if_neg (fun k => c k.1), if_neg (by omega), if_neg (fun k => c k.1)]
theorem cr_flat (x x' y : Int) (p : P) : cr ⟨x, y⟩ ⟨x', y⟩ p = 0 := by
  rw [cr_is]
  dsimp only
  rw [if_neg (by omega), if_neg (by omega)]
theorem rect_wind (X Y W H : Int) (p : P) (a : Option Addr) (c : Nat) (hX : -1048576 ≤ X ∧ X ≤ 1048576) (hY : -1048576 ≤ Y ∧ Y ≤ 1048576) (hW : 1 ≤ W ∧ W ≤ 1048576) (hH : 1 ≤ H ∧ H ≤ 1048576) (hp : (-1048576 ≤ p.x ∧ p.x ≤ 1048576) ∧ (-1048576 ≤ p.y ∧ p.y ≤ 1048576)) :
    wind 1 (fun _ => ⟨a, 4, c, rf X Y W H⟩) p = if ((X ≤ p.x ∧ p.x < X + W) ∧ Y ≤ p.y) ∧ p.y < Y + H then 1 else 0 := by
  have hpo : p.Ok := by unfold P.Ok; omega
  have e : wind 1 (fun _ => ⟨a, 4, c, rf X Y W H⟩) p = 0 + (0 + cr ⟨X, Y⟩ ⟨X + W, Y⟩ p + cr ⟨X + W, Y⟩ ⟨X + W, Y + H⟩ p + cr ⟨X + W, Y + H⟩ ⟨X, Y + H⟩ p + cr ⟨X, Y + H⟩ ⟨X, Y⟩ p) := by
    unfold wind
    rw [if_pos hpo]
    kernel_rfl
  rw [e, cr_flat, cr_flat, cr_anti p ⟨X, Y⟩ ⟨X, Y + H⟩, cr_up (X + W) Y H p (by unfold P.Ok; dsimp only; omega) (by unfold P.Ok; dsimp only; omega) hpo (by omega), cr_up X Y H p (by unfold P.Ok; dsimp only; omega) (by unfold P.Ok; dsimp only; omega) hpo (by omega)]
  split <;> split <;> split <;> omega
theorem rect_area (X Y W H : Int) (a : Option Addr) (c : Nat) (hX : -1048576 ≤ X ∧ X ≤ 1048576) (hY : -1048576 ≤ Y ∧ Y ≤ 1048576) (hW : 1 ≤ W ∧ W ≤ 1048576) (hH : 1 ≤ H ∧ H ≤ 1048576) :
    pal (fun _ => ⟨a, 4, c, rf X Y W H⟩) 1 = 2 * W * H := by
  have hall : AllP 4 (rf X Y W H) := fun i hi => by
    obtain rfl | rfl | rfl | rfl : i = 0 ∨ i = 1 ∨ i = 2 ∨ i = 3 := by omega
    all_goals (simp only [P.Ok, rf]; omega)
  have e : pal (fun _ => ⟨a, 4, c, rf X Y W H⟩) 1 = 0 + (0 + (X * Y - Y * (X + W)) + ((X + W) * (Y + H) - Y * (X + W)) + ((X + W) * (Y + H) - (Y + H) * X) + (X * Y - (Y + H) * X)) := by
    show 0 + parea _ = _
    unfold parea
    rw [if_pos (show AllP ((fun _ => (⟨a, 4, c, rf X Y W H⟩ : Pg)) 0).n ((fun _ => (⟨a, 4, c, rf X Y W H⟩ : Pg)) 0).f from hall)]
    kernel_rfl
  rw [e]
  simp only [Int.add_mul, Int.mul_add, Int.mul_comm Y X, Int.mul_comm Y W, Int.mul_comm H X, Int.mul_assoc]
  omega
end Go.Proofs.Ytffmmfeedfdlaaa
