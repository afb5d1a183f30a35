/- The walk of SumSeals: the law returns true, and nothing that was in memory has changed. -/
import Derived.Test.YtgkbgfmgbmjdiaaSeals
namespace Go.Proofs.Ytgkbgfmgbmjdiaa
open Go.ChangeShapes Go.WideShapes Go.ChangeAt Go.RowKit

theorem below_next {a b c : World} (h : Below a.heap.size a b) (k : Below b.heap.size b c) : Below a.heap.size a c := h.trans (k.mono h.size)
theorem seal_size (s : ByteArray) (hs : s.size ≤ 200) : (str (sealL s.data.toList)).size ≤ 1000 := by
  rw [str_size]; simp [sealL, tailL]; omega
theorem open_sealed (s : ByteArray) (w : World) (hs : s.size ≤ 200) :
    Calls Try.prog 21 #[.string (str (sealL s.data.toList))] w fun e w' => e = .returned (.tuple #[.string s, .int .i64 0]) ∧ Below w.heap.size w w' :=
  (open_any _ w (seal_size s hs)).mono fun _ _ ⟨he, hw⟩ => ⟨he.trans (ret2 (by rw [str_list, openR_sealed]; rfl) (by rw [str_list, openR_sealed]; rfl)), hw⟩

theorem sumSeals_walk (a0 : ByteArray) (w : World) (_w0 : a0.size ≤ maxLen) :
    Calls Try.prog 6 #[.string a0] w fun e w' => e = .returned (.bool true) ∧ Below w.heap.size w w' := by
  go_enter Try.func6, Try.ntmps6
  go_wp2_with fail
  refine (short_any _ _).mono ?_
  rintro e w' ⟨s, rfl, hs, rfl⟩
  go_wp2_with fail
  refine (open_any _ _ (by omega)).mono ?_
  rintro e w1 ⟨rfl, hb1⟩
  go_wp2_with fail
  refine (open_ref _ _ (by omega)).mono ?_
  rintro e w2 ⟨rfl, hb2⟩
  go_wp2_with fail
  refine (seal_any _ _ (by omega)).mono ?_
  rintro e w3 ⟨rfl, hb3⟩
  go_wp2_with fail
  refine (open_sealed _ _ (by omega)).mono ?_
  rintro e w4 ⟨rfl, hb4⟩
  go_wp2_with fail
  refine (seal_any _ _ (by omega)).mono ?_
  rintro e w5 ⟨rfl, hb5⟩
  go_wp2_with fail
  refine (seal_ref _ _ (by omega)).mono ?_
  rintro e w6 ⟨rfl, hb6⟩
  go_wp2_with fail
  refine (awake_any _).mono ?_
  rintro e w' ⟨rfl, rfl⟩
  go_wp2
  go_ret
  exact ⟨rfl, below_next (below_next (below_next (below_next (below_next hb1 hb2) hb3) hb4) hb5) hb6⟩
end Go.Proofs.Ytgkbgfmgbmjdiaa
