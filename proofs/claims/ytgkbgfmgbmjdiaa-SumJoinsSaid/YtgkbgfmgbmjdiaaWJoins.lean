/- The walk of SumJoins: the law returns true, and nothing that was in memory has changed. -/
import Derived.Test.YtgkbgfmgbmjdiaaSeals
namespace Go.Proofs.Ytgkbgfmgbmjdiaa
open Go.ChangeShapes Go.WideShapes Go.ChangeAt Go.RowKit

theorem xor_two (s t : ByteArray) : bits .xor .i64 (xorN s.data.toList : Int) (xorN t.data.toList : Int) = ((xorN (s.data.toList ++ t.data.toList) : Nat) : Int) := by
  have h1 := xorN_lt s.data.toList
  have h2 := xorN_lt t.data.toList
  rw [xorN_append, i64_xor_nat _ _ (by omega) (by omega)]
theorem crc16_sealed (s : ByteArray) (w : World) (hs : s.size ≤ 1000) :
    Calls Try.prog 11 #[.string (str (sealL s.data.toList))] w fun e w' => e = .returned (.int .i64 0) ∧ w = w' :=
  (crc16_any _ w (by rw [str_size]; simp [sealL, tailL, maxLen]; omega)).mono fun _ _ ⟨he, hw⟩ => ⟨he.trans (ret_int (by rw [str_list, sealed_zero]; rfl)), hw⟩

theorem sumJoins_walk (a0 : ByteArray) (a1 : ByteArray) (w : World) (_w0 : a0.size ≤ maxLen) (_w1 : a1.size ≤ maxLen) :
    Calls Try.prog 4 #[.string a0, .string a1] w fun e w' => e = .returned (.bool true) ∧ Below w.heap.size w w' := by
  go_enter Try.func4, Try.ntmps4
  go_wp2_with fail
  refine (short_any _ _).mono ?_
  rintro e w' ⟨s, rfl, hs, rfl⟩
  go_wp2_with fail
  refine (short_any _ _).mono ?_
  rintro e w' ⟨t, rfl, ht, rfl⟩
  have hms : s.size ≤ maxLen := by unfold maxLen; omega
  have hmt : t.size ≤ maxLen := by unfold maxLen; omega
  have hx := xor_two s t
  go_wp2_with fail
  refine (xor_any _ _ (by simp [maxLen]; omega)).mono ?_
  rintro e w' ⟨rfl, rfl⟩
  go_wp2_with fail
  refine (xor_any _ _ hms).mono ?_
  rintro e w' ⟨rfl, rfl⟩
  go_wp2_with fail
  refine (xor_any _ _ hmt).mono ?_
  rintro e w' ⟨rfl, rfl⟩
  go_wp2_with (first | (go_at_call 18; refine (seal_any _ _ (by omega)).mono ?_; rintro e w1 ⟨rfl, hb⟩) | (go_at_call 11; refine (crc16_sealed _ _ (by omega)).mono ?_; rintro e w' ⟨rfl, rfl⟩) | (go_at_call 17; refine (awake_any _).mono ?_; rintro e w' ⟨rfl, rfl⟩))
  go_ret
  exact ⟨rfl, hb⟩
end Go.Proofs.Ytgkbgfmgbmjdiaa
