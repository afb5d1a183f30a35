/- The contracts of TakeUint and TakeInt, of the program and of the reference; the walk of WireTakes. -/
import Derived.Test.YtfihncgeicogcaaUints
namespace Go.Proofs.Ytfihncgeicogcaa
open Go.ChangeShapes Go.WideShapes Go.ChangeAt Go.RowKit

/-- The bytes at an offset. -/
def sub (s : ByteArray) (i k : Nat) : List UInt8 := (s.data.toList.drop i).take k
theorem sub_length (s : ByteArray) (i k : Nat) (h : i + k ≤ s.size) : (sub s i k).length = k := by
  unfold sub; rw [List.length_take, List.length_drop, ← Lib.size_eq]; omega
theorem sub_succ (s : ByteArray) (i k : Nat) (h : i + k < s.size) : sub s i (k + 1) = sub s i k ++ [s[i + k]] := by
  unfold sub
  rw [List.take_succ_eq_append_getElem (by rw [List.length_drop, ← Lib.size_eq]; omega), List.getElem_drop]
  rfl
theorem sub_zero (s : ByteArray) (i : Nat) : sub s i 0 = [] := by unfold sub; rw [List.take_zero]
theorem num_sub_lt (s : ByteArray) (i k : Nat) : numOf (sub s i k) < 256 ^ k := by unfold sub; exact num_take_lt _ _
theorem or_round {n k : Nat} {b : UInt8} (h : n < 256 ^ k) (hk : k ≤ 7) :
    bits .or .u64 (IntKind.u64.wrap ((n : Int) * 256)) (IntKind.u64.wrap (b.toNat : Int)) = ((n * 256 + b.toNat : Nat) : Int) := by
  have h1 := pow_le64 hk
  have h2 := b.toNat_lt
  rw [show IntKind.u64.wrap ((n : Int) * 256) = ((n * 256 : Nat) : Int) from by rw [IntKind.wrap_u64]; generalize 256 ^ k = x at *; omega,
    show IntKind.u64.wrap (b.toNat : Int) = ((b.toNat : Nat) : Int) from by rw [IntKind.wrap_u64]; omega,
    u64_or_nat _ _ (by generalize 256 ^ k = x at *; omega) (by omega), nat_join 8 (n * 256) b.toNat (by rw [show (2 : Nat) ^ 8 = 256 from rfl]; omega) (by rw [show (2 : Nat) ^ 8 = 256 from rfl]; exact h2)]

theorem take_ok (s : ByteArray) (i k : Nat) (w : World) (h1 : 1 ≤ k) (h8 : k ≤ 8) (h : i + k ≤ s.size) (hs : s.size ≤ 100000) :
    Calls Try.prog 31 #[.string s, .int .i64 i, .int .i64 k] w fun e w' => e = .returned (.tuple #[.int .u64 (numOf (sub s i k) : Nat), .int .i64 0]) ∧ w = w' := by
  have hd0 : decide ((i : Int) < 0) = false := by simp
  have hd : decide (s.size < i) = false := by simp; omega
  go_enter Try.func31, Try.ntmps31
  go_wp2_with (go_at_call 26; refine (valid_yes _ _ (by omega) (by omega)).mono ?_; rintro e w' ⟨rfl, rfl⟩)
  go_loop [8, 9, 32] (fun n _ j => ∃ r : Nat, r ≤ k ∧ j = .int .i64 r ∧ n = .int .u64 (numOf (sub s i r) : Nat)) (fun _ _ j => k - (intOf j).toNat)
  case atStart => exact ⟨0, by omega, rfl, by rw [sub_zero]; unfold numOf; rfl⟩
  case round =>
    obtain ⟨r, hr, rfl, rfl⟩ := hrel
    by_cases hlt : r < k
    · have hin : i + r < s.size := by omega
      go_wp2
      go_round
      case rel => exact ⟨r + 1, by omega, by go_num, by rw [sub_succ s i r hin, numOf_snoc]; exact val_int (or_round (num_sub_lt s i r) (by omega))⟩
      case measure => simp [intOf]; omega
    · obtain rfl : r = k := by omega
      go_wp2
      go_ret2
      exact ⟨rfl, rfl⟩
def ArgBad (s : ByteArray) (i k : Int) : Prop := i < 0 ∨ (s.size : Int) < i ∨ k < 1 ∨ 8 < k
theorem take_arg (s : ByteArray) (i k : Int) (w : World) (h : i < 0 ∨ (s.size : Int) < i ∨ k < 1 ∨ 8 < k) :
    Calls Try.prog 31 #[.string s, .int .i64 i, .int .i64 k] w fun e w' => e = .returned (.tuple #[.int .u64 0, .int .i64 1]) ∧ w = w' := by
  by_cases h0 : i < 0
  · have hd : decide (i < 0) = true := by simpa using h0
    go_enter Try.func31, Try.ntmps31
    go_wp2
    go_ret2
    exact ⟨rfl, rfl⟩
  · have hd : decide (i < 0) = false := by simpa using h0
    by_cases h2 : (s.size : Int) < i
    · have hd2 : decide ((s.size : Int) < i) = true := by simpa using h2
      go_enter Try.func31, Try.ntmps31
      go_wp2
      go_ret2
      exact ⟨rfl, rfl⟩
    · have hd2 : decide ((s.size : Int) < i) = false := by simpa using h2
      have H : Hid (k < 1 ∨ 8 < k) := Lib.hid (by omega)
      clear h
      go_enter Try.func31, Try.ntmps31
      go_wp2_with (go_at_call 26; refine (valid_no _ _ H.out).mono ?_; rintro e w' ⟨rfl, rfl⟩)
      go_ret2
      exact ⟨rfl, rfl⟩
theorem take_short (s : ByteArray) (i k : Int) (w : World) (h0 : 0 ≤ i) (hi : i ≤ s.size) (h1 : 1 ≤ k) (h8 : k ≤ 8) (h : (s.size : Int) - i < k) (hs : s.size ≤ 100000) :
    Calls Try.prog 31 #[.string s, .int .i64 i, .int .i64 k] w fun e w' => e = .returned (.tuple #[.int .u64 0, .int .i64 6]) ∧ w = w' := by
  have hd : decide (i < 0) = false := by simp; omega
  have hd2 : decide ((s.size : Int) < i) = false := by simp; omega
  go_enter Try.func31, Try.ntmps31
  go_wp2_with (go_at_call 26; refine (valid_yes _ _ (by omega) (by omega)).mono ?_; rintro e w' ⟨rfl, rfl⟩)
  go_ret2
  exact ⟨rfl, rfl⟩

theorem taken_ok (s : ByteArray) (i k : Nat) (w : World) (h1 : 1 ≤ k) (h8 : k ≤ 8) (h : i + k ≤ s.size) (hs : s.size ≤ 100000) :
    Calls Try.prog 32 #[.string s, .int .i64 i, .int .i64 k] w fun e w' => e = .returned (.tuple #[.string (str (sub s i k)), .int .i64 0]) ∧ w = w' := by
  have hd0 : decide ((i : Int) < 0) = false := by simp
  have hd : decide (s.size < i) = false := by simp; omega
  have hN : ((i : Int) + k).toNat = i + k := by omega
  go_enter Try.func32, Try.ntmps32
  go_wp2_with (go_at_call 29; refine (vfits_yes _ _ (by omega) (by omega)).mono ?_; rintro e w' ⟨rfl, rfl⟩)
  go_ret2
  exact ⟨ret2 (by rw [Lib.extract_eq, Nat.add_sub_cancel_left]; rfl) rfl, rfl⟩
theorem taken_arg (s : ByteArray) (i k : Int) (w : World) (h : i < 0 ∨ (s.size : Int) < i ∨ k < 1 ∨ 8 < k) :
    Calls Try.prog 32 #[.string s, .int .i64 i, .int .i64 k] w fun e w' => e = .returned (.tuple #[.string ⟨#[]⟩, .int .i64 1]) ∧ w = w' := by
  by_cases h0 : i < 0
  · have hd : decide (i < 0) = true := by simpa using h0
    go_enter Try.func32, Try.ntmps32
    go_wp2
    go_ret2
    exact ⟨rfl, rfl⟩
  · have hd : decide (i < 0) = false := by simpa using h0
    by_cases h2 : (s.size : Int) < i
    · have hd2 : decide ((s.size : Int) < i) = true := by simpa using h2
      go_enter Try.func32, Try.ntmps32
      go_wp2
      go_ret2
      exact ⟨rfl, rfl⟩
    · have hd2 : decide ((s.size : Int) < i) = false := by simpa using h2
      have H : Hid (k < 1 ∨ 8 < k) := Lib.hid (by omega)
      clear h
      go_enter Try.func32, Try.ntmps32
      go_wp2_with (go_at_call 29; refine (vfits_no _ _ H.out).mono ?_; rintro e w' ⟨rfl, rfl⟩)
      go_ret2
      exact ⟨rfl, rfl⟩
theorem taken_short (s : ByteArray) (i k : Int) (w : World) (h0 : 0 ≤ i) (hi : i ≤ s.size) (h1 : 1 ≤ k) (h8 : k ≤ 8) (h : (s.size : Int) - i < k) (hs : s.size ≤ 100000) :
    Calls Try.prog 32 #[.string s, .int .i64 i, .int .i64 k] w fun e w' => e = .returned (.tuple #[.string ⟨#[]⟩, .int .i64 6]) ∧ w = w' := by
  have hd : decide (i < 0) = false := by simp; omega
  have hd2 : decide ((s.size : Int) < i) = false := by simp; omega
  go_enter Try.func32, Try.ntmps32
  go_wp2_with (go_at_call 29; refine (vfits_yes _ _ (by omega) (by omega)).mono ?_; rintro e w' ⟨rfl, rfl⟩)
  go_ret2
  exact ⟨rfl, rfl⟩

theorem ret3 {a b c a' b' c' : Int} (h1 : a = a') (h2 : b = b') (h3 : c = c') : Ending.returned (.tuple #[.int .i64 a, .int .i64 b, .int .i64 c]) = .returned (.tuple #[.int .i64 a', .int .i64 b', .int .i64 c']) := by rw [h1, h2, h3]
theorem takeUint_arg (s : ByteArray) (i k : Int) (w : World) (h : i < 0 ∨ (s.size : Int) < i ∨ k < 1 ∨ 8 < k) :
    Calls Try.prog 19 #[.string s, .int .i64 i, .int .i64 k] w fun e w' => e = .returned (.tuple #[.int .i64 0, .int .i64 0, .int .i64 1]) ∧ w = w' := by
  have H := Lib.hid h
  clear h
  go_enter Try.func19, Try.ntmps19
  go_wp2_with (go_at_call 31; refine (take_arg _ _ _ _ H.out).mono ?_; rintro e w' ⟨rfl, rfl⟩)
  go_ret3
  exact ⟨rfl, rfl⟩
theorem takeUint_short (s : ByteArray) (i k : Int) (w : World) (h0 : 0 ≤ i) (hi : i ≤ s.size) (h1 : 1 ≤ k) (h8 : k ≤ 8) (h : (s.size : Int) - i < k) (hs : s.size ≤ 100000) :
    Calls Try.prog 19 #[.string s, .int .i64 i, .int .i64 k] w fun e w' => e = .returned (.tuple #[.int .i64 0, .int .i64 0, .int .i64 6]) ∧ w = w' := by
  go_enter Try.func19, Try.ntmps19
  go_wp2_with (go_at_call 31; refine (take_short _ _ _ _ h0 hi h1 h8 h hs).mono ?_; rintro e w' ⟨rfl, rfl⟩)
  go_ret3
  exact ⟨rfl, rfl⟩
theorem takeUint_over (s : ByteArray) (i k : Nat) (w : World) (h1 : 1 ≤ k) (h8 : k ≤ 8) (h : i + k ≤ s.size) (hs : s.size ≤ 100000) (hn : (9223372036854775808 : Int) ≤ (numOf (sub s i k) : Nat)) :
    Calls Try.prog 19 #[.string s, .int .i64 i, .int .i64 k] w fun e w' => e = .returned (.tuple #[.int .i64 0, .int .i64 0, .int .i64 3]) ∧ w = w' := by
  go_enter Try.func19, Try.ntmps19
  go_wp2_with (go_at_call 31; refine (take_ok _ _ _ _ h1 h8 h hs).mono ?_; rintro e w' ⟨rfl, rfl⟩)
  go_ret3
  exact ⟨rfl, rfl⟩
theorem takeUint_ok (s : ByteArray) (i k : Nat) (w : World) (h1 : 1 ≤ k) (h8 : k ≤ 8) (h : i + k ≤ s.size) (hs : s.size ≤ 100000) (hn : Hid (((numOf (sub s i k) : Nat) : Int) < 9223372036854775808)) :
    Calls Try.prog 19 #[.string s, .int .i64 i, .int .i64 k] w fun e w' => e = .returned (.tuple #[.int .i64 (numOf (sub s i k) : Nat), .int .i64 ((i : Int) + k), .int .i64 0]) ∧ w = w' := by
  have hw : wrap64 ((numOf (sub s i k) : Nat) : Int) = (numOf (sub s i k) : Nat) := by have := hn.out; unfold wrap64; omega
  have hd : decide ((9223372036854775808 : Int) ≤ ((numOf (sub s i k) : Nat) : Int)) = false := decide_eq_false (by have := hn.out; omega)
  go_enter Try.func19, Try.ntmps19
  go_wp2_with (go_at_call 31; refine (take_ok _ _ _ _ h1 h8 h hs).mono ?_; rintro e w' ⟨rfl, rfl⟩)
  go_ret3
  exact ⟨ret3 hw rfl rfl, rfl⟩
theorem number_sub (s : ByteArray) (i k : Nat) (w : World) (h8 : k ≤ 8) (h : i + k ≤ s.size) :
    Calls Try.prog 33 #[.string (str (sub s i k))] w fun e w' => e = .returned (.int .u64 (numOf (sub s i k) : Nat)) ∧ w = w' :=
  number_any (str (sub s i k)) w (by rw [str_size, sub_length s i k h]; exact h8)
theorem takeUintR_arg (s : ByteArray) (i k : Int) (w : World) (h : i < 0 ∨ (s.size : Int) < i ∨ k < 1 ∨ 8 < k) :
    Calls Try.prog 20 #[.string s, .int .i64 i, .int .i64 k] w fun e w' => e = .returned (.tuple #[.int .i64 0, .int .i64 0, .int .i64 1]) ∧ w = w' := by
  have H := Lib.hid h
  clear h
  go_enter Try.func20, Try.ntmps20
  go_wp2_with (go_at_call 32; refine (taken_arg _ _ _ _ H.out).mono ?_; rintro e w' ⟨rfl, rfl⟩)
  go_ret3
  exact ⟨rfl, rfl⟩
theorem takeUintR_short (s : ByteArray) (i k : Int) (w : World) (h0 : 0 ≤ i) (hi : i ≤ s.size) (h1 : 1 ≤ k) (h8 : k ≤ 8) (h : (s.size : Int) - i < k) (hs : s.size ≤ 100000) :
    Calls Try.prog 20 #[.string s, .int .i64 i, .int .i64 k] w fun e w' => e = .returned (.tuple #[.int .i64 0, .int .i64 0, .int .i64 6]) ∧ w = w' := by
  go_enter Try.func20, Try.ntmps20
  go_wp2_with (go_at_call 32; refine (taken_short _ _ _ _ h0 hi h1 h8 h hs).mono ?_; rintro e w' ⟨rfl, rfl⟩)
  go_ret3
  exact ⟨rfl, rfl⟩
theorem takeUintR_over (s : ByteArray) (i k : Nat) (w : World) (h1 : 1 ≤ k) (h8 : k ≤ 8) (h : i + k ≤ s.size) (hs : s.size ≤ 100000) (hn : (9223372036854775808 : Int) ≤ (numOf (sub s i k) : Nat)) :
    Calls Try.prog 20 #[.string s, .int .i64 i, .int .i64 k] w fun e w' => e = .returned (.tuple #[.int .i64 0, .int .i64 0, .int .i64 3]) ∧ w = w' := by
  go_enter Try.func20, Try.ntmps20
  go_wp2_with (first | (go_at_call 32; refine (taken_ok _ _ _ _ h1 h8 h hs).mono ?_; rintro e w' ⟨rfl, rfl⟩) | (go_at_call 33; refine (number_sub _ _ _ _ h8 h).mono ?_; rintro e w' ⟨rfl, rfl⟩))
  go_ret3
  exact ⟨rfl, rfl⟩
theorem takeUintR_ok (s : ByteArray) (i k : Nat) (w : World) (h1 : 1 ≤ k) (h8 : k ≤ 8) (h : i + k ≤ s.size) (hs : s.size ≤ 100000) (hn : Hid (((numOf (sub s i k) : Nat) : Int) < 9223372036854775808)) :
    Calls Try.prog 20 #[.string s, .int .i64 i, .int .i64 k] w fun e w' => e = .returned (.tuple #[.int .i64 (numOf (sub s i k) : Nat), .int .i64 ((i : Int) + k), .int .i64 0]) ∧ w = w' := by
  have hw : wrap64 ((numOf (sub s i k) : Nat) : Int) = (numOf (sub s i k) : Nat) := by have := hn.out; unfold wrap64; omega
  have hd : decide ((9223372036854775808 : Int) ≤ ((numOf (sub s i k) : Nat) : Int)) = false := decide_eq_false (by have := hn.out; omega)
  go_enter Try.func20, Try.ntmps20
  go_wp2_with (first | (go_at_call 32; refine (taken_ok _ _ _ _ h1 h8 h hs).mono ?_; rintro e w' ⟨rfl, rfl⟩) | (go_at_call 33; refine (number_sub _ _ _ _ h8 h).mono ?_; rintro e w' ⟨rfl, rfl⟩))
  go_ret3
  exact ⟨ret3 hw rfl rfl, rfl⟩

theorem takeInt_arg (s : ByteArray) (i k : Int) (w : World) (h : i < 0 ∨ (s.size : Int) < i ∨ k < 1 ∨ 8 < k) :
    Calls Try.prog 21 #[.string s, .int .i64 i, .int .i64 k] w fun e w' => e = .returned (.tuple #[.int .i64 0, .int .i64 0, .int .i64 1]) ∧ w = w' := by
  have H := Lib.hid h
  clear h
  go_enter Try.func21, Try.ntmps21
  go_wp2_with (go_at_call 31; refine (take_arg _ _ _ _ H.out).mono ?_; rintro e w' ⟨rfl, rfl⟩)
  go_ret3
  exact ⟨rfl, rfl⟩
theorem takeInt_short (s : ByteArray) (i k : Int) (w : World) (h0 : 0 ≤ i) (hi : i ≤ s.size) (h1 : 1 ≤ k) (h8 : k ≤ 8) (h : (s.size : Int) - i < k) (hs : s.size ≤ 100000) :
    Calls Try.prog 21 #[.string s, .int .i64 i, .int .i64 k] w fun e w' => e = .returned (.tuple #[.int .i64 0, .int .i64 0, .int .i64 6]) ∧ w = w' := by
  go_enter Try.func21, Try.ntmps21
  go_wp2_with (go_at_call 31; refine (take_short _ _ _ _ h0 hi h1 h8 h hs).mono ?_; rintro e w' ⟨rfl, rfl⟩)
  go_ret3
  exact ⟨rfl, rfl⟩
/-- The number that so many bytes encode with a sign. -/
def sg (n k : Nat) : Int := if n < 2 ^ (8 * k - 1) then (n : Int) else (n : Int) - 2 ^ (8 * k)
theorem prog_signed {n k : Nat} (h1 : 1 ≤ k) (h8 : k ≤ 8) (h : n < 256 ^ k) :
    wrap64 (IntKind.u64.wrap ((n : Int) * 2 ^ (64 - 8 * k)) / 1) / 2 ^ (64 - 8 * k) = sg n k := by
  rw [IntKind.wrap_u64]
  unfold wrap64 sg
  obtain rfl | rfl | rfl | rfl | rfl | rfl | rfl | rfl : k = 1 ∨ k = 2 ∨ k = 3 ∨ k = 4 ∨ k = 5 ∨ k = 6 ∨ k = 7 ∨ k = 8 := by omega
  all_goals
    simp only [Nat.reduceMul, Nat.reduceSub, Int.reducePow, Nat.reducePow] at h ⊢
    split <;> omega
theorem takeInt_ok (s : ByteArray) (i k : Nat) (w : World) (h1 : 1 ≤ k) (h8 : k ≤ 8) (h : i + k ≤ s.size) (hs : s.size ≤ 100000) :
    Calls Try.prog 21 #[.string s, .int .i64 i, .int .i64 k] w fun e w' => e = .returned (.tuple #[.int .i64 (sg (numOf (sub s i k)) k), .int .i64 ((i : Int) + k), .int .i64 0]) ∧ w = w' := by
  have hN : (64 - 8 * (k : Int)).toNat = 64 - 8 * k := by omega
  have hp := prog_signed h1 h8 (num_sub_lt s i k)
  rw [Int.ediv_one] at hp
  have HP := Lib.hid hp
  clear hp
  go_enter Try.func21, Try.ntmps21
  go_wp2_with (go_at_call 31; refine (take_ok _ _ _ _ h1 h8 h hs).mono ?_; rintro e w' ⟨rfl, rfl⟩)
  go_ret3
  exact ⟨ret3 HP.out rfl rfl, rfl⟩
theorem half_bytes (k : Nat) : 2 ^ (8 * (k + 1) - 1) = 128 * 256 ^ k := by
  rw [pow_256, show 8 * (k + 1) - 1 = 7 + 8 * k from by omega, Nat.pow_add]
theorem first_byte (s : ByteArray) (i k : Nat) (h1 : 1 ≤ k) (h : i + k ≤ s.size) (hh : 0 < (str (sub s i k)).size) :
    (128 ≤ ((str (sub s i k))[0]'hh).toNat) ↔ ¬ numOf (sub s i k) < 2 ^ (8 * k - 1) := by
  have hl := sub_length s i k h
  generalize sub s i k = l at *
  cases l with
  | nil => simp at hl; omega
  | cons b l =>
    have hk : k = l.length + 1 := by simpa using hl.symm
    subst hk
    show 128 ≤ b.toNat ↔ _
    rw [numOf_cons, half_bytes]
    have h2 := numOf_lt l
    generalize 256 ^ l.length = p at *
    generalize numOf l = u at *
    constructor
    · intro hb
      have : 128 * p ≤ b.toNat * p := Nat.mul_le_mul_right _ hb
      omega
    · intro hb
      by_cases hlt : 128 ≤ b.toNat
      · exact hlt
      · have : (b.toNat + 1) * p ≤ 128 * p := Nat.mul_le_mul_right _ (by omega)
        rw [Nat.add_mul, Nat.one_mul] at this
        omega
theorem takeIntR_arg (s : ByteArray) (i k : Int) (w : World) (h : i < 0 ∨ (s.size : Int) < i ∨ k < 1 ∨ 8 < k) :
    Calls Try.prog 22 #[.string s, .int .i64 i, .int .i64 k] w fun e w' => e = .returned (.tuple #[.int .i64 0, .int .i64 0, .int .i64 1]) ∧ w = w' := by
  have H := Lib.hid h
  clear h
  go_enter Try.func22, Try.ntmps22
  go_wp2_with (go_at_call 32; refine (taken_arg _ _ _ _ H.out).mono ?_; rintro e w' ⟨rfl, rfl⟩)
  go_ret3
  exact ⟨rfl, rfl⟩
theorem takeIntR_short (s : ByteArray) (i k : Int) (w : World) (h0 : 0 ≤ i) (hi : i ≤ s.size) (h1 : 1 ≤ k) (h8 : k ≤ 8) (h : (s.size : Int) - i < k) (hs : s.size ≤ 100000) :
    Calls Try.prog 22 #[.string s, .int .i64 i, .int .i64 k] w fun e w' => e = .returned (.tuple #[.int .i64 0, .int .i64 0, .int .i64 6]) ∧ w = w' := by
  go_enter Try.func22, Try.ntmps22
  go_wp2_with (go_at_call 32; refine (taken_short _ _ _ _ h0 hi h1 h8 h hs).mono ?_; rintro e w' ⟨rfl, rfl⟩)
  go_ret3
  exact ⟨rfl, rfl⟩
theorem sg_eight {n k : Nat} (h7 : ¬ (k : Int) < 8) (h8 : k ≤ 8) (h : n < 256 ^ k) : wrap64 (n : Int) = sg n k := by
  obtain rfl : k = 8 := by omega
  unfold wrap64 sg
  simp only [Nat.reduceMul, Nat.reduceSub, Int.reducePow, Nat.reducePow] at h ⊢
  split <;> omega
theorem sg_neg {n k : Nat} (h1 : 1 ≤ k) (h7 : k ≤ 7) (h : n < 256 ^ k) (hn : ¬ n < 2 ^ (8 * k - 1)) : wrap64 (wrap64 (n : Int) - wrap64 (2 ^ (8 * k))) = sg n k := by
  unfold wrap64 sg
  rw [if_neg hn]
  obtain rfl | rfl | rfl | rfl | rfl | rfl | rfl : k = 1 ∨ k = 2 ∨ k = 3 ∨ k = 4 ∨ k = 5 ∨ k = 6 ∨ k = 7 := by omega
  all_goals
    simp only [Nat.reduceMul, Nat.reduceSub, Int.reducePow, Nat.reducePow] at h hn ⊢
    omega
theorem sg_pos {n k : Nat} (h1 : 1 ≤ k) (h7 : k ≤ 7) (hn : n < 2 ^ (8 * k - 1)) : wrap64 (n : Int) = sg n k := by
  unfold wrap64 sg
  rw [if_pos hn]
  obtain rfl | rfl | rfl | rfl | rfl | rfl | rfl : k = 1 ∨ k = 2 ∨ k = 3 ∨ k = 4 ∨ k = 5 ∨ k = 6 ∨ k = 7 := by omega
  all_goals
    simp only [Nat.reduceMul, Nat.reduceSub, Nat.reducePow] at hn ⊢
    omega
theorem takeIntR_eight (s : ByteArray) (i k : Nat) (w : World) (h7 : ¬ (k : Int) < 8) (h8 : k ≤ 8) (h : i + k ≤ s.size) (hs : s.size ≤ 100000) :
    Calls Try.prog 22 #[.string s, .int .i64 i, .int .i64 k] w fun e w' => e = .returned (.tuple #[.int .i64 (sg (numOf (sub s i k)) k), .int .i64 ((i : Int) + k), .int .i64 0]) ∧ w = w' := by
  have HP := Lib.hid (sg_eight h7 h8 (num_sub_lt s i k))
  go_enter Try.func22, Try.ntmps22
  go_wp2_with (first | (go_at_call 32; refine (taken_ok _ _ _ _ (by omega) h8 h hs).mono ?_; rintro e w' ⟨rfl, rfl⟩) | (go_at_call 33; refine (number_sub _ _ _ _ h8 h).mono ?_; rintro e w' ⟨rfl, rfl⟩))
  go_ret3
  exact ⟨ret3 HP.out rfl rfl, rfl⟩
theorem takeIntR_neg (s : ByteArray) (i k : Nat) (w : World) (h1 : 1 ≤ k) (h7 : k ≤ 7) (h : i + k ≤ s.size) (hs : s.size ≤ 100000) (hn : ¬ numOf (sub s i k) < 2 ^ (8 * k - 1)) :
    Calls Try.prog 22 #[.string s, .int .i64 i, .int .i64 k] w fun e w' => e = .returned (.tuple #[.int .i64 (sg (numOf (sub s i k)) k), .int .i64 ((i : Int) + k), .int .i64 0]) ∧ w = w' := by
  have HP := Lib.hid (sg_neg h1 h7 (num_sub_lt s i k) hn)
  have hb : ∀ h, (128 : Int) ≤ ((str (sub s i k))[0]'h).toNat := fun hh => by have := (first_byte s i k h1 h hh).2 hn; omega
  clear hn
  have hz : (str (sub s i k)).size = k := by rw [str_size, sub_length s i k h]
  go_enter Try.func22, Try.ntmps22
  go_wp2_with (first | (go_at_call 32; refine (taken_ok _ _ _ _ (by omega) (by omega) h hs).mono ?_; rintro e w' ⟨rfl, rfl⟩) | (go_at_call 33; refine (number_sub _ _ _ _ (by omega) h).mono ?_; rintro e w' ⟨rfl, rfl⟩))
  go_ret3
  exact ⟨ret3 HP.out rfl rfl, rfl⟩
theorem takeIntR_pos (s : ByteArray) (i k : Nat) (w : World) (h1 : 1 ≤ k) (h7 : k ≤ 7) (h : i + k ≤ s.size) (hs : s.size ≤ 100000) (hn : numOf (sub s i k) < 2 ^ (8 * k - 1)) :
    Calls Try.prog 22 #[.string s, .int .i64 i, .int .i64 k] w fun e w' => e = .returned (.tuple #[.int .i64 (sg (numOf (sub s i k)) k), .int .i64 ((i : Int) + k), .int .i64 0]) ∧ w = w' := by
  have HP := Lib.hid (sg_pos h1 h7 hn)
  have hb : ∀ h, decide ((128 : Int) ≤ (((str (sub s i k))[0]'h).toNat : Nat)) = false := fun hh => decide_eq_false (by have := (not_congr (first_byte s i k h1 h hh)).2 (fun h => h hn); omega)
  clear hn
  have hz : (str (sub s i k)).size = k := by rw [str_size, sub_length s i k h]
  go_enter Try.func22, Try.ntmps22
  go_wp2_with (first | (go_at_call 32; refine (taken_ok _ _ _ _ (by omega) (by omega) h hs).mono ?_; rintro e w' ⟨rfl, rfl⟩) | (go_at_call 33; refine (number_sub _ _ _ _ (by omega) h).mono ?_; rintro e w' ⟨rfl, rfl⟩))
  go_ret3
  exact ⟨ret3 HP.out rfl rfl, rfl⟩
theorem takeIntR_ok (s : ByteArray) (i k : Nat) (w : World) (h1 : 1 ≤ k) (h8 : k ≤ 8) (h : i + k ≤ s.size) (hs : s.size ≤ 100000) :
    Calls Try.prog 22 #[.string s, .int .i64 i, .int .i64 k] w fun e w' => e = .returned (.tuple #[.int .i64 (sg (numOf (sub s i k)) k), .int .i64 ((i : Int) + k), .int .i64 0]) ∧ w = w' := by
  by_cases h7 : k ≤ 7
  · by_cases hn : numOf (sub s i k) < 2 ^ (8 * k - 1)
    · exact takeIntR_pos s i k w h1 h7 h hs hn
    · exact takeIntR_neg s i k w h1 h7 h hs hn
  · exact takeIntR_eight s i k w (by omega) h8 h hs
end Go.Proofs.Ytfihncgeicogcaa
