/- The walk of SumValues: the law returns true, and nothing that was in memory has changed. -/
import Derived.Test.YtgkbgfmgbmjdiaaSums
namespace Go.Proofs.Ytgkbgfmgbmjdiaa
open Go.ChangeShapes Go.WideShapes Go.ChangeAt Go.RowKit

theorem sumValues_walk (a0 : ByteArray) (w : World) (_w0 : a0.size ≤ maxLen) :
    Calls Try.prog 3 #[.string a0] w fun e w' => e = .returned (.bool true) ∧ Below w.heap.size w w' := by
  go_enter Try.func3, Try.ntmps3
  go_wp2_with (go_at_call 8; refine (short_any _ _).mono ?_; rintro e w' ⟨t, rfl, ht, rfl⟩; have hm : t.size ≤ maxLen := by (unfold maxLen; omega))
  go_wp2_with (first | (go_at_call 9; refine (xor_any _ _ hm).mono ?_; rintro e w' ⟨rfl, rfl⟩) | (go_at_call 10; refine (xor_ref _ _ hm).mono ?_; rintro e w' ⟨rfl, rfl⟩) | (go_at_call 11; refine (crc16_any _ _ hm).mono ?_; rintro e w' ⟨rfl, rfl⟩) | (go_at_call 12; refine (crc16_ref _ _ hm).mono ?_; rintro e w' ⟨rfl, rfl⟩) | (go_at_call 13; refine (crc32_any _ _ hm).mono ?_; rintro e w' ⟨rfl, rfl⟩) | (go_at_call 14; refine (crc32_ref _ _ hm).mono ?_; rintro e w' ⟨rfl, rfl⟩) | (go_at_call 15; refine (hash_any _ _ hm).mono ?_; rintro e w' ⟨rfl, rfl⟩) | (go_at_call 16; refine (hash_ref _ _ hm).mono ?_; rintro e w' ⟨rfl, rfl⟩) | (go_at_call 17; refine (awake_any _).mono ?_; rintro e w' ⟨rfl, rfl⟩))
  go_ret
  exact ⟨rfl, Below.refl _ _⟩
end Go.Proofs.Ytgkbgfmgbmjdiaa
