/- heavy; the contracts of Corners. -/
import Derived.Test.YtcfglmamocdkeaaChkR
namespace Go.Proofs.Ytcfglmamocdkeaa
open Go.ChangeShapes Go.WideShapes Go.ChangeAt Go.RowKit

theorem heavy_any (a b : Option Addr) (n k cap cap' : Nat) (w : World) :
    Calls Try.prog 10 #[.agg #[.slice a n cap, .slice b k cap']] w fun e w' => e = .returned (.bool (decide (200 < n ∨ 200 < k))) ∧ Below w.heap.size w w' := by
  by_cases hn : 200 < n
  · have d1 : decide ((200 : Int) < n) = true := by simp; omega
    have e : decide (200 < n ∨ 200 < k) = true := by simp [hn]
    rw [e]
    go_enter Try.func10, Try.ntmps10
    go_wp2_with fail
    go_ret
    exact ⟨rfl, below_alloc _ _⟩
  · have d1 : decide ((200 : Int) < n) = false := by simp; omega
    by_cases hk : 200 < k
    · have d2 : decide ((200 : Int) < k) = true := by simp; omega
      have e : decide (200 < n ∨ 200 < k) = true := by simp [hk]
      rw [e]
      go_enter Try.func10, Try.ntmps10
      go_wp2_with fail
      go_ret
      exact ⟨rfl, below_alloc _ _⟩
    · have d2 : decide ((200 : Int) < k) = false := by simp; omega
      have e : decide (200 < n ∨ 200 < k) = false := by simp; omega
      rw [e]
      go_enter Try.func10, Try.ntmps10
      go_wp2_with fail
      go_ret
      exact ⟨rfl, below_alloc _ _⟩
end Go.Proofs.Ytcfglmamocdkeaa
