import Derived.Test.YtgkbgfmgbmjdiaaRows
import Derived.Test.YtgkbgfmgbmjdiaaPlain
import Derived.WalkKit
import Derived.ProofKit
import Derived.OpenShut
import Derived.Lib.Hide
import Derived.WalkLawsBesides
import Derived.WalkSpells
namespace Go.Proofs.Ytgkbgfmgbmjdiaa
open Go.ChangeShapes Go.WideShapes Go.ChangeAt Go.RowKit

theorem xor_any (s : ByteArray) (w : World) (hs : s.size ≤ maxLen) :
    Calls Try.prog 9 #[.string s] w fun e w' => e = .returned (.int .i64 (xorN s.data.toList : Nat)) ∧ w = w' := by
  unfold maxLen at hs
  go_enter Try.func9, Try.ntmps9
  go_wp2
  go_loop [3, 4, 7] (fun n _ i => ∃ k : Nat, k ≤ s.size ∧ i = .int .i64 k ∧ n = .int .u8 (xorN (s.data.toList.take k) : Nat)) (fun _ _ i => s.size - (intOf i).toNat)
  case atStart => exact ⟨0, Nat.zero_le _, rfl, rfl⟩
  case round =>
    obtain ⟨k, hk, rfl, rfl⟩ := hrel
    have hd := xorN_lt (s.data.toList.take k)
    by_cases hlt : k < s.size
    · go_wp2
      go_round
      case rel => exact ⟨k + 1, by omega, by go_num, by rw [take_snoc s k hlt, xorN_snoc, u8_xor_nat _ _ hd s[k].toNat_lt]⟩
      case measure => simp [intOf]; omega
    · go_wp2
      go_ret
      exact ⟨ret_int (by rw [take_all hk hlt]), rfl⟩

theorem xor_ref (s : ByteArray) (w : World) (hs : s.size ≤ maxLen) :
    Calls Try.prog 10 #[.string s] w fun e w' => e = .returned (.int .i64 (xorN s.data.toList : Nat)) ∧ w = w' := by
  unfold maxLen at hs
  go_enter Try.func10, Try.ntmps10
  go_wp2
  go_loop [3, 4] (fun n i => ∃ k : Nat, k ≤ s.size ∧ i = .int .i64 k ∧ n = .int .i64 (xorN (s.data.toList.take k) : Nat)) (fun _ i => s.size - (intOf i).toNat)
  case atStart => exact ⟨0, Nat.zero_le _, rfl, rfl⟩
  case round =>
    obtain ⟨k, hk, rfl, rfl⟩ := hrel
    have hd := xorN_lt (s.data.toList.take k)
    by_cases hlt : k < s.size
    · go_wp2
      go_round
      case rel => exact ⟨k + 1, by omega, by go_num, by rw [take_snoc s k hlt, xorN_snoc, w64_byte, i64_xor_nat _ _ (by omega) (by have := s[k].toNat_lt; omega)]⟩
      case measure => simp [intOf]; omega
    · go_wp2
      go_ret
      exact ⟨ret_int (by rw [take_all hk hlt]), rfl⟩

theorem bit_hi (n : Nat) (h : (32768 : Int) ≤ n) (h1 : n < 65536) : bits .xor .i64 (((n : Int) - 32768) * 2) 4129 = ((bit16 n : Nat) : Int) := by
  rw [bit16_hi (by omega), ← i64_xor_nat _ _ (by omega) (by omega), show (((n - 32768) * 2 : Nat) : Int) = ((n : Int) - 32768) * 2 from by omega]; rfl
theorem bit_lo (n : Nat) (h : ¬ (32768 : Int) ≤ n) : (n : Int) * 2 = ((bit16 n : Nat) : Int) := by
  rw [bit16_lo (by omega)]; omega
theorem bit_any (n : Nat) (w : World) (h1 : n < 65536) :
    Calls Try.prog 25 #[.int .i64 n] w fun e w' => e = .returned (.int .i64 (bit16 n : Nat)) ∧ w = w' := by
  by_cases h : (32768 : Int) ≤ n
  · go_enter Try.func25, Try.ntmps25
    go_wp2
    go_ret
    exact ⟨ret_int (bit_hi n h h1), rfl⟩
  · go_enter Try.func25, Try.ntmps25
    go_wp2
    go_ret
    exact ⟨ret_int (bit_lo n (by omega)), rfl⟩

theorem crc16_any (s : ByteArray) (w : World) (hs : s.size ≤ maxLen) :
    Calls Try.prog 11 #[.string s] w fun e w' => e = .returned (.int .i64 (crc16 s.data.toList : Nat)) ∧ w = w' := by
  unfold maxLen at hs
  go_enter Try.func11, Try.ntmps11
  go_wp2
  go_loop [3, 4, 5, 8, 18] (fun n _ _ i _ => ∃ k : Nat, k ≤ s.size ∧ i = .int .i64 k ∧ n = .int .u16 (crc16 (s.data.toList.take k) : Nat)) (fun _ _ _ i _ => s.size - (intOf i).toNat)
  case atStart => exact ⟨0, Nat.zero_le _, rfl, rfl⟩
  case round =>
    obtain ⟨k, hk, rfl, rfl⟩ := hrel
    have hd := crc16_lt (s.data.toList.take k)
    by_cases hlt : k < s.size
    · go_wp2
      have hR := in16_lt hd s[k]
      rw [u16_fold _ _ hd]
      go_loop [3, 5, 18] (fun n _ j => ∃ i : Nat, i ≤ 8 ∧ j = .int .i64 i ∧ n = .int .u16 (it16 (crc16 (s.data.toList.take k) ^^^ (s[k].toNat * 256)) i : Nat)) (fun _ _ j => 8 - (intOf j).toNat)
      case atStart => exact ⟨0, by omega, rfl, rfl⟩
      case round =>
        obtain ⟨i, hi, rfl, rfl⟩ := hrel
        have hI := it16_lt hR i
        by_cases hj : i < 8
        · go_wp2
          · have ht : (bits BinOp.and IntKind.u16 (↑(it16 (crc16 (List.take k s.data.toList) ^^^ s[k].toNat * 256) i)) 32768 != 0) = true := by assumption
            go_round
            case rel => exact ⟨i + 1, by omega, by go_num, val_int (step16_hi hI ht)⟩
            case measure => simp [intOf]; omega
          · have ht : (bits BinOp.and IntKind.u16 (↑(it16 (crc16 (List.take k s.data.toList) ^^^ s[k].toNat * 256) i)) 32768 != 0) = false := by assumption
            go_round
            case rel => exact ⟨i + 1, by omega, by go_num, val_int (step16_lo hI ht)⟩
            case measure => simp [intOf]; omega
        · obtain rfl : i = 8 := by omega
          go_wp2
          go_round
          case rel => exact ⟨k + 1, by omega, by go_num, by rw [take_snoc s k hlt, crc16_snoc]; rfl⟩
          case measure => simp [intOf]; omega
    · go_wp2
      go_ret
      exact ⟨ret_int (by rw [take_all hk hlt]), rfl⟩

theorem i64_in (r : Nat) (b : UInt8) (h : r < 65536) : bits .xor .i64 (r : Int) (wrap64 (wrap64 (b.toNat : Int) * 256)) = ((r ^^^ (b.toNat * 256) : Nat) : Int) := by
  have := b.toNat_lt
  rw [w64_byte, show wrap64 ((b.toNat : Int) * 256) = ((b.toNat * 256 : Nat) : Int) from by unfold wrap64; omega, i64_xor_nat _ _ (by omega) (by omega)]
theorem crc16_ref (s : ByteArray) (w : World) (hs : s.size ≤ maxLen) :
    Calls Try.prog 12 #[.string s] w fun e w' => e = .returned (.int .i64 (crc16 s.data.toList : Nat)) ∧ w = w' := by
  unfold maxLen at hs
  go_enter Try.func12, Try.ntmps12
  go_wp2
  go_loop [3, 4, 5] (fun n i _ => ∃ k : Nat, k ≤ s.size ∧ i = .int .i64 k ∧ n = .int .i64 (crc16 (s.data.toList.take k) : Nat)) (fun _ i _ => s.size - (intOf i).toNat)
  case atStart => exact ⟨0, Nat.zero_le _, rfl, rfl⟩
  case round =>
    obtain ⟨k, hk, rfl, rfl⟩ := hrel
    have hd := crc16_lt (s.data.toList.take k)
    by_cases hlt : k < s.size
    · go_wp2
      have hR := in16_lt hd s[k]
      rw [i64_in _ _ hd]
      go_loop [3, 5] (fun n j => ∃ i : Nat, i ≤ 8 ∧ j = .int .i64 i ∧ n = .int .i64 (it16 (crc16 (s.data.toList.take k) ^^^ (s[k].toNat * 256)) i : Nat)) (fun _ j => 8 - (intOf j).toNat)
      case atStart => exact ⟨0, by omega, rfl, rfl⟩
      case round =>
        obtain ⟨i, hi, rfl, rfl⟩ := hrel
        have hI := it16_lt hR i
        by_cases hj : i < 8
        · go_wp2_with (go_at_call 25; refine (bit_any _ _ hI).mono ?_; rintro e w' ⟨rfl, rfl⟩)
          go_round
          case rel => exact ⟨i + 1, by omega, by go_num, rfl⟩
          case measure => simp [intOf]; omega
        · obtain rfl : i = 8 := by omega
          go_wp2
          go_round
          case rel => exact ⟨k + 1, by omega, by go_num, by rw [take_snoc s k hlt, crc16_snoc]; rfl⟩
          case measure => simp [intOf]; omega
    · go_wp2
      go_ret
      exact ⟨ret_int (by rw [take_all hk hlt]), rfl⟩

theorem crc32_any (s : ByteArray) (w : World) (hs : s.size ≤ maxLen) :
    Calls Try.prog 13 #[.string s] w fun e w' => e = .returned (.int .u32 (crc32 s.data.toList : Nat)) ∧ w = w' := by
  unfold maxLen at hs
  go_enter Try.func13, Try.ntmps13
  go_wp2
  go_loop [3, 4, 5, 8, 17] (fun n _ _ i _ => ∃ k : Nat, k ≤ s.size ∧ i = .int .i64 k ∧ n = .int .u32 (reg32 (s.data.toList.take k) : Nat)) (fun _ _ _ i _ => s.size - (intOf i).toNat)
  case atStart => exact ⟨0, Nat.zero_le _, rfl, rfl⟩
  case round =>
    obtain ⟨k, hk, rfl, rfl⟩ := hrel
    have hd := reg32_lt (s.data.toList.take k)
    by_cases hlt : k < s.size
    · go_wp2
      have hR := in32_lt hd s[k]
      rw [u32_fold _ _ hd]
      go_loop [3, 5, 17] (fun n _ j => ∃ i : Nat, i ≤ 8 ∧ j = .int .i64 i ∧ n = .int .u32 (it32 (reg32 (s.data.toList.take k) ^^^ s[k].toNat) i : Nat)) (fun _ _ j => 8 - (intOf j).toNat)
      case atStart => exact ⟨0, by omega, rfl, rfl⟩
      case round =>
        obtain ⟨i, hi, rfl, rfl⟩ := hrel
        have hI := it32_lt hR i
        by_cases hj : i < 8
        · go_wp2
          · have ht : (bits BinOp.and IntKind.u32 (↑(it32 (reg32 (List.take k s.data.toList) ^^^ s[k].toNat) i)) 1 != 0) = true := by assumption
            go_round
            case rel => exact ⟨i + 1, by omega, by go_num, val_int (step32_odd hI ht)⟩
            case measure => simp [intOf]; omega
          · have ht : (bits BinOp.and IntKind.u32 (↑(it32 (reg32 (List.take k s.data.toList) ^^^ s[k].toNat) i)) 1 != 0) = false := by assumption
            go_round
            case rel => exact ⟨i + 1, by omega, by go_num, val_int (step32_even hI ht)⟩
            case measure => simp [intOf]; omega
        · obtain rfl : i = 8 := by omega
          go_wp2
          go_round
          case rel => exact ⟨k + 1, by omega, by go_num, by rw [take_snoc s k hlt, reg32_snoc]; rfl⟩
          case measure => simp [intOf]; omega
    · go_wp2
      go_ret
      exact ⟨ret_int (by rw [take_all hk hlt, not32 _ (reg32_lt _)]; rfl), rfl⟩

theorem hash_any (s : ByteArray) (w : World) (hs : s.size ≤ maxLen) :
    Calls Try.prog 15 #[.string s] w fun e w' => e = .returned (.int .u64 (hashN s.data.toList : Nat)) ∧ w = w' := by
  unfold maxLen at hs
  go_enter Try.func15, Try.ntmps15
  go_wp2
  go_loop [3, 4, 7] (fun n _ i => ∃ k : Nat, k ≤ s.size ∧ i = .int .i64 k ∧ n = .int .u64 (hashN (s.data.toList.take k) : Nat)) (fun _ _ i => s.size - (intOf i).toNat)
  case atStart => exact ⟨0, Nat.zero_le _, rfl, rfl⟩
  case round =>
    obtain ⟨k, hk, rfl, rfl⟩ := hrel
    by_cases hlt : k < s.size
    · go_wp2
      go_round
      case rel => exact ⟨k + 1, by omega, by go_num, by rw [take_snoc s k hlt, hashN_snoc]; exact val_int (u64_step _ _ (hashN_lt _))⟩
      case measure => simp [intOf]; omega
    · go_wp2
      go_ret
      exact ⟨ret_int (by rw [take_all hk hlt]), rfl⟩

theorem hash_ref (s : ByteArray) (w : World) (hs : s.size ≤ maxLen) :
    Calls Try.prog 16 #[.string s] w fun e w' => e = .returned (.int .u64 (hashN s.data.toList : Nat)) ∧ w = w' := by
  unfold maxLen at hs
  go_enter Try.func16, Try.ntmps16
  go_wp2
  go_loop [3, 4] (fun n i => ∃ k : Nat, k ≤ s.size ∧ i = .int .i64 k ∧ n = .int .u64 (hashN (s.data.toList.take k) : Nat)) (fun _ i => s.size - (intOf i).toNat)
  case atStart => exact ⟨0, Nat.zero_le _, rfl, rfl⟩
  case round =>
    obtain ⟨k, hk, rfl, rfl⟩ := hrel
    by_cases hlt : k < s.size
    · go_wp2
      go_round
      case rel => exact ⟨k + 1, by omega, by go_num, by rw [take_snoc s k hlt, hashN_snoc]; exact val_int (u64_step _ _ (hashN_lt _))⟩
      case measure => simp [intOf]; omega
    · go_wp2
      go_ret
      exact ⟨ret_int (by rw [take_all hk hlt]), rfl⟩

theorem crc32_ref (s : ByteArray) (w : World) (hs : s.size ≤ maxLen) :
    Calls Try.prog 14 #[.string s] w fun e w' => e = .returned (.int .u32 (crc32 s.data.toList : Nat)) ∧ w = w' := by
  unfold maxLen at hs
  go_enter Try.func14, Try.ntmps14
  go_wp2
  go_loop [3, 4, 5] (fun n i _ => ∃ k : Nat, k ≤ s.size ∧ i = .int .i64 k ∧ n = .int .i64 (reg32 (s.data.toList.take k) : Nat)) (fun _ i _ => s.size - (intOf i).toNat)
  case atStart => exact ⟨0, Nat.zero_le _, rfl, rfl⟩
  case round =>
    obtain ⟨k, hk, rfl, rfl⟩ := hrel
    have hd := reg32_lt (s.data.toList.take k)
    by_cases hlt : k < s.size
    · go_wp2
      have hR := in32_lt hd s[k]
      rw [i64_fold _ _ hd]
      go_loop [3, 5] (fun n j => ∃ i : Nat, i ≤ 8 ∧ j = .int .i64 i ∧ n = .int .i64 (it32 (reg32 (s.data.toList.take k) ^^^ s[k].toNat) i : Nat)) (fun _ j => 8 - (intOf j).toNat)
      case atStart => exact ⟨0, by omega, rfl, rfl⟩
      case round =>
        obtain ⟨i, hi, rfl, rfl⟩ := hrel
        have hI := it32_lt hR i
        by_cases hj : i < 8
        · go_wp2
          · have ht : ((↑(it32 (reg32 (List.take k s.data.toList) ^^^ s[k].toNat) i) : Int) % 2 == 1) = true := by assumption
            go_round
            case rel => exact ⟨i + 1, by omega, by go_num, val_int (istep32_odd hI (by rw [beq_iff_eq] at ht; omega))⟩
            case measure => simp [intOf]; omega
          · have ht : ((↑(it32 (reg32 (List.take k s.data.toList) ^^^ s[k].toNat) i) : Int) % 2 == 1) = false := by assumption
            go_round
            case rel => exact ⟨i + 1, by omega, by go_num, val_int (istep32_even (by rw [beq_eq_false_iff_ne] at ht; omega))⟩
            case measure => simp [intOf]; omega
        · obtain rfl : i = 8 := by omega
          go_wp2
          go_round
          case rel => exact ⟨k + 1, by omega, by go_num, by rw [take_snoc s k hlt, reg32_snoc]; rfl⟩
          case measure => simp [intOf]; omega
    · go_wp2
      go_ret
      exact ⟨ret_int (by rw [take_all hk hlt] at hd ⊢; unfold crc32; omega), rfl⟩

theorem short_any (s : ByteArray) (w : World) :
    Calls Try.prog 8 #[.string s] w fun e w' => ∃ t : ByteArray, e = .returned (.string t) ∧ t.size ≤ 200 ∧ w = w' := by
  by_cases h : (200 : Int) < s.size
  · go_enter Try.func8, Try.ntmps8
    go_wp2
    go_ret
    exact ⟨_, rfl, by simp; omega, rfl⟩
  · go_enter Try.func8, Try.ntmps8
    go_wp2
    go_ret
    exact ⟨_, rfl, by omega, rfl⟩

def nine : ByteArray := ⟨#[49, 50, 51, 52, 53, 54, 55, 56, 57]⟩
theorem crc16_nine (w : World) : Calls Try.prog 11 #[.string ⟨#[49, 50, 51, 52, 53, 54, 55, 56, 57]⟩] w fun e w' => e = .returned (.int .i64 10673) ∧ w = w' :=
  (crc16_any nine w (by decide)).mono fun _ _ ⟨he, hw⟩ => ⟨he.trans (ret_int (by decide +kernel)), hw⟩
theorem crc32_nine (w : World) : Calls Try.prog 13 #[.string ⟨#[49, 50, 51, 52, 53, 54, 55, 56, 57]⟩] w fun e w' => e = .returned (.int .u32 3421780262) ∧ w = w' :=
  (crc32_any nine w (by decide)).mono fun _ _ ⟨he, hw⟩ => ⟨he.trans (ret_int (by decide +kernel)), hw⟩
theorem xor_nine (w : World) : Calls Try.prog 9 #[.string ⟨#[49, 50, 51, 52, 53, 54, 55, 56, 57]⟩] w fun e w' => e = .returned (.int .i64 49) ∧ w = w' :=
  (xor_any nine w (by decide)).mono fun _ _ ⟨he, hw⟩ => ⟨he.trans (ret_int (by decide +kernel)), hw⟩
theorem hash_none (w : World) : Calls Try.prog 15 #[.string ⟨#[]⟩] w fun e w' => e = .returned (.int .u64 14695981039346656037) ∧ w = w' :=
  (hash_any ⟨#[]⟩ w (by decide)).mono fun _ _ ⟨he, hw⟩ => ⟨he.trans (ret_int (by decide +kernel)), hw⟩

theorem awake_any (w : World) : Calls Try.prog 17 #[] w fun e w' => e = .returned (.bool true) ∧ w = w' := by
  go_enter Try.func17, Try.ntmps17
  go_wp2_with (first | (go_at_call 11; refine (crc16_nine _).mono ?_; rintro e w' ⟨rfl, rfl⟩) | (go_at_call 13; refine (crc32_nine _).mono ?_; rintro e w' ⟨rfl, rfl⟩) | (go_at_call 9; refine (xor_nine _).mono ?_; rintro e w' ⟨rfl, rfl⟩) | (go_at_call 15; refine (hash_none _).mono ?_; rintro e w' ⟨rfl, rfl⟩))
  go_ret
  exact ⟨rfl, rfl⟩

end Go.Proofs.Ytgkbgfmgbmjdiaa
