/- The contracts of Uint, of the program and of the reference. -/
import Derived.Test.YtfihncgeicogcaaBase
namespace Go.Proofs.Ytfihncgeicogcaa
open Go.ChangeShapes Go.WideShapes Go.ChangeAt Go.RowKit

theorem uint_width (n k : Int) (w : World) (h : k < 1 ∨ 8 < k) :
    Calls Try.prog 11 #[.int .i64 n, .int .i64 k] w fun e w' => e = .returned (.tuple #[.string ⟨#[]⟩, .int .i64 1]) ∧ w = w' := by
  go_enter Try.func11, Try.ntmps11
  go_wp2_with (go_at_call 26; refine (valid_no _ _ h).mono ?_; rintro e w' ⟨rfl, rfl⟩)
  go_ret2
  exact ⟨rfl, rfl⟩
theorem uint_neg (n k : Int) (w : World) (h1 : 1 ≤ k) (h8 : k ≤ 8) (hn : n < 0) :
    Calls Try.prog 11 #[.int .i64 n, .int .i64 k] w fun e w' => e = .returned (.tuple #[.string ⟨#[]⟩, .int .i64 3]) ∧ w = w' := by
  go_enter Try.func11, Try.ntmps11
  go_wp2_with (go_at_call 26; refine (valid_yes _ _ h1 h8).mono ?_; rintro e w' ⟨rfl, rfl⟩)
  go_ret2
  exact ⟨rfl, rfl⟩
theorem fits_no (n k : Nat) (w : World) (h8 : k ≤ 8) (hn : n < 18446744073709551616) (h : ¬ n < 256 ^ k) :
    Calls Try.prog 27 #[.int .u64 n, .int .i64 k] w fun e w' => e = .returned (.bool false) ∧ w = w' :=
  (fits_any n k w h8 hn).mono fun _ _ ⟨he, hw⟩ => ⟨he.trans (ret_bool (decide_eq_false h)), hw⟩
theorem fits_yes (n k : Nat) (w : World) (h8 : k ≤ 8) (hn : n < 18446744073709551616) (h : n < 256 ^ k) :
    Calls Try.prog 27 #[.int .u64 n, .int .i64 k] w fun e w' => e = .returned (.bool true) ∧ w = w' :=
  (fits_any n k w h8 hn).mono fun _ _ ⟨he, hw⟩ => ⟨he.trans (ret_bool (decide_eq_true h)), hw⟩
theorem uint_over (n k : Nat) (w : World) (h1 : 1 ≤ k) (h8 : k ≤ 8) (hn : n < 9223372036854775808) (h : Hid (¬ n < 256 ^ k)) :
    Calls Try.prog 11 #[.int .i64 n, .int .i64 k] w fun e w' => e = .returned (.tuple #[.string ⟨#[]⟩, .int .i64 3]) ∧ w = w' := by
  go_enter Try.func11, Try.ntmps11
  go_wp2_with (first | (go_at_call 26; refine (valid_yes _ _ (by omega) (by omega)).mono ?_; rintro e w' ⟨rfl, rfl⟩) | (go_at_call 27; refine (fits_no _ _ _ h8 (by omega) h.out).mono ?_; rintro e w' ⟨rfl, rfl⟩))
  go_ret2
  exact ⟨rfl, rfl⟩
theorem uint_good (n k : Nat) (w : World) (h1 : 1 ≤ k) (h8 : k ≤ 8) (hn : n < 9223372036854775808) (h : Hid (n < 256 ^ k)) :
    Calls Try.prog 11 #[.int .i64 n, .int .i64 k] w fun e w' => e = .returned (.tuple #[.string (str (be n k)), .int .i64 0]) ∧ Below w.heap.size w w' := by
  go_enter Try.func11, Try.ntmps11
  go_wp2_with (first | (go_at_call 26; refine (valid_yes _ _ (by omega) (by omega)).mono ?_; rintro e w' ⟨rfl, rfl⟩) | (go_at_call 27; refine (fits_yes _ _ _ h8 (by omega) h.out).mono ?_; rintro e w' ⟨rfl, rfl⟩) | (go_at_call 28; refine (put_any _ _ _ h1 h8).mono ?_; rintro e w1 ⟨v, rfl, hown, hb⟩; obtain ⟨g, cap, rfl⟩ := own_form hown h1; have hback := back_own hown))
  go_ret2
  exact ⟨rfl, hb⟩

theorem uintR_width (n k : Int) (w : World) (h : k < 1 ∨ 8 < k) :
    Calls Try.prog 12 #[.int .i64 n, .int .i64 k] w fun e w' => e = .returned (.tuple #[.string ⟨#[]⟩, .int .i64 1]) ∧ w = w' := by
  go_enter Try.func12, Try.ntmps12
  go_wp2_with (go_at_call 29; refine (vfits_no _ _ h).mono ?_; rintro e w' ⟨rfl, rfl⟩)
  go_ret2
  exact ⟨rfl, rfl⟩
theorem uintR_neg (n k : Int) (w : World) (h1 : 1 ≤ k) (h8 : k ≤ 8) (hn : n < 0) :
    Calls Try.prog 12 #[.int .i64 n, .int .i64 k] w fun e w' => e = .returned (.tuple #[.string ⟨#[]⟩, .int .i64 3]) ∧ w = w' := by
  go_enter Try.func12, Try.ntmps12
  go_wp2_with (go_at_call 29; refine (vfits_yes _ _ h1 h8).mono ?_; rintro e w' ⟨rfl, rfl⟩)
  go_ret2
  exact ⟨rfl, rfl⟩
theorem wrap64_pow {k : Nat} (h : k ≤ 7) : wrap64 ((2 : Int) ^ (8 * k)) = ((256 ^ k : Nat) : Int) := by
  have h1 := pow_le64 h
  rw [show ((2 : Int) ^ (8 * k)) = ((256 ^ k : Nat) : Int) from by rw [pow_256, Int.natCast_pow]; rfl]
  generalize 256 ^ k = x at *
  unfold wrap64
  omega
theorem over_true {n k : Nat} (h7 : k ≤ 7) (h : ¬ n < 256 ^ k) : decide (wrap64 ((2 : Int) ^ (8 * k)) ≤ (n : Int)) = true := by
  rw [wrap64_pow h7]
  generalize 256 ^ k = x at *
  exact decide_eq_true (by omega)
theorem over_false {n k : Nat} (h7 : k ≤ 7) (h : n < 256 ^ k) : decide (wrap64 ((2 : Int) ^ (8 * k)) ≤ (n : Int)) = false := by
  rw [wrap64_pow h7]
  generalize 256 ^ k = x at *
  exact decide_eq_false (by omega)
theorem not_over8 {n k : Nat} (hn : n < 9223372036854775808) (h : ¬ n < 256 ^ k) (h8 : k ≤ 8) : k ≤ 7 := by
  by_cases e : k = 8
  · subst e
    have e : (256 : Nat) ^ 8 = 18446744073709551616 := by decide
    rw [e] at h
    omega
  · omega
theorem uintR_over (n k : Nat) (w : World) (h1 : 1 ≤ k) (h8 : k ≤ 8) (hn : n < 9223372036854775808) (h : Hid (¬ n < 256 ^ k)) :
    Calls Try.prog 12 #[.int .i64 n, .int .i64 k] w fun e w' => e = .returned (.tuple #[.string ⟨#[]⟩, .int .i64 3]) ∧ w = w' := by
  have h7 := not_over8 hn h.out h8
  have hd := over_true h7 h.out
  go_enter Try.func12, Try.ntmps12
  go_wp2_with (go_at_call 29; refine (vfits_yes _ _ (by omega) (by omega)).mono ?_; rintro e w' ⟨rfl, rfl⟩)
  go_ret2
  exact ⟨rfl, rfl⟩
theorem uintR_good (n k : Nat) (w : World) (h1 : 1 ≤ k) (h8 : k ≤ 8) (hn : n < 9223372036854775808) (h : Hid (n < 256 ^ k)) :
    Calls Try.prog 12 #[.int .i64 n, .int .i64 k] w fun e w' => e = .returned (.tuple #[.string (str (be n k)), .int .i64 0]) ∧ Below w.heap.size w w' := by
  by_cases e : k = 8
  · subst e
    go_enter Try.func12, Try.ntmps12
    go_wp2_with (first | (go_at_call 29; refine (vfits_yes _ _ (by omega) (by omega)).mono ?_; rintro e w' ⟨rfl, rfl⟩) | (go_at_call 30; refine (bytes_any _ _ _ h1 h8 (by omega)).mono ?_; rintro e w1 ⟨rfl, hb⟩))
    go_ret2
    exact ⟨rfl, hb⟩
  · have h7 : k ≤ 7 := by omega
    have hd := over_false h7 h.out
    go_enter Try.func12, Try.ntmps12
    go_wp2_with (first | (go_at_call 29; refine (vfits_yes _ _ (by omega) (by omega)).mono ?_; rintro e w' ⟨rfl, rfl⟩) | (go_at_call 30; refine (bytes_any _ _ _ h1 h8 (by omega)).mono ?_; rintro e w1 ⟨rfl, hb⟩))
    go_ret2
    exact ⟨rfl, hb⟩

theorem be_258 : str (be 258 2) = ⟨#[1, 2]⟩ := by unfold be; unfold be; unfold be; unfold byteAt; decide +kernel
theorem awake_any (w : World) : Calls Try.prog 13 #[] w fun e w' => e = .returned (.bool true) ∧ Below w.heap.size w w' := by
  have hg := uint_good 258 2 w (by decide) (by decide) (by decide) (Lib.hid (by decide))
  rw [be_258] at hg
  have HG := Lib.hid hg
  clear hg
  go_enter Try.func13, Try.ntmps13
  go_wp2_with (go_at_call 11; refine (HG.out).mono ?_; rintro e w1 ⟨rfl, hb⟩)
  go_ret
  exact ⟨rfl, hb⟩

theorem below_next {a b c : World} (h : Below a.heap.size a b) (k : Below b.heap.size b c) : Below a.heap.size a c := h.trans (k.mono h.size)
theorem wireUints_walk (a0 : Int) (a1 : Int) (w : World) (w0 : (Lit.int .i64 a0).wf = true) (_w1 : (Lit.int .i64 a1).wf = true) :
    Calls Try.prog 3 #[.int .i64 a0, .int .i64 a1] w fun e w' => e = .returned (.bool true) ∧ Below w.heap.size w w' := by
  have b0 := bounds_i64 w0
  clear w0
  by_cases hk : a1 < 1 ∨ 8 < a1
  · have HK := Lib.hid hk
    clear hk
    go_enter Try.func3, Try.ntmps3
    go_wp2_with (first | (go_at_call 11; refine (uint_width _ _ _ HK.out).mono ?_; rintro e w' ⟨rfl, rfl⟩) | (go_at_call 12; refine (uintR_width _ _ _ HK.out).mono ?_; rintro e w' ⟨rfl, rfl⟩) | (go_at_call 13; refine (awake_any _).mono ?_; rintro e w1 ⟨rfl, hb⟩))
    go_ret
    exact ⟨rfl, hb⟩
  · have k1 : 1 ≤ a1 := by omega
    have k8 : a1 ≤ 8 := by omega
    by_cases hn : a0 < 0
    · go_enter Try.func3, Try.ntmps3
      go_wp2_with (first | (go_at_call 11; refine (uint_neg _ _ _ k1 k8 hn).mono ?_; rintro e w' ⟨rfl, rfl⟩) | (go_at_call 12; refine (uintR_neg _ _ _ k1 k8 hn).mono ?_; rintro e w' ⟨rfl, rfl⟩) | (go_at_call 13; refine (awake_any _).mono ?_; rintro e w1 ⟨rfl, hb⟩))
      go_ret
      exact ⟨rfl, hb⟩
    · obtain ⟨n, rfl⟩ := Int.eq_ofNat_of_zero_le (show 0 ≤ a0 by omega)
      obtain ⟨k, rfl⟩ := Int.eq_ofNat_of_zero_le (show 0 ≤ a1 by omega)
      have m1 : 1 ≤ k := by omega
      have m8 : k ≤ 8 := by omega
      have mn : n < 9223372036854775808 := by omega
      clear hn hk b0
      by_cases h : n < 256 ^ k
      · have H := Lib.hid h
        clear h
        go_enter Try.func3, Try.ntmps3
        go_wp2_with (first | (go_at_call 11; refine (uint_good _ _ _ m1 m8 mn H).mono ?_; rintro e w1 ⟨rfl, hb1⟩) | (go_at_call 12; refine (uintR_good _ _ _ m1 m8 mn H).mono ?_; rintro e w2 ⟨rfl, hb2⟩) | (go_at_call 13; refine (awake_any _).mono ?_; rintro e w3 ⟨rfl, hb3⟩))
        go_ret
        exact ⟨rfl, below_next (below_next hb1 hb2) hb3⟩
      · have H := Lib.hid h
        clear h
        go_enter Try.func3, Try.ntmps3
        go_wp2_with (first | (go_at_call 11; refine (uint_over _ _ _ m1 m8 mn H).mono ?_; rintro e w' ⟨rfl, rfl⟩) | (go_at_call 12; refine (uintR_over _ _ _ m1 m8 mn H).mono ?_; rintro e w' ⟨rfl, rfl⟩) | (go_at_call 13; refine (awake_any _).mono ?_; rintro e w1 ⟨rfl, hb⟩))
        go_ret
        exact ⟨rfl, hb⟩
end Go.Proofs.Ytfihncgeicogcaa
