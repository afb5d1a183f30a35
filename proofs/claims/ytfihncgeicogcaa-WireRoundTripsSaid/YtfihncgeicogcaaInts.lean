/- The contracts of Int, of the program and of the reference; the walk of WireInts. -/
import Derived.Test.YtfihncgeicogcaaWOrders
namespace Go.Proofs.Ytfihncgeicogcaa
open Go.ChangeShapes Go.WideShapes Go.ChangeAt Go.RowKit

theorem int_width (n k : Int) (w : World) (h : k < 1 ∨ 8 < k) :
    Calls Try.prog 15 #[.int .i64 n, .int .i64 k] w fun e w' => e = .returned (.tuple #[.string ⟨#[]⟩, .int .i64 1]) ∧ w = w' := by
  go_enter Try.func15, Try.ntmps15
  go_wp2_with (go_at_call 26; refine (valid_no _ _ h).mono ?_; rintro e w' ⟨rfl, rfl⟩)
  go_ret2
  exact ⟨rfl, rfl⟩
theorem intR_width (n k : Int) (w : World) (h : k < 1 ∨ 8 < k) :
    Calls Try.prog 16 #[.int .i64 n, .int .i64 k] w fun e w' => e = .returned (.tuple #[.string ⟨#[]⟩, .int .i64 1]) ∧ w = w' := by
  go_enter Try.func16, Try.ntmps16
  go_wp2_with (go_at_call 29; refine (vfits_no _ _ h).mono ?_; rintro e w' ⟨rfl, rfl⟩)
  go_ret2
  exact ⟨rfl, rfl⟩
theorem put_at (i : Int) (n k : Nat) (w : World) (hi : i = n) (h1 : 1 ≤ k) (h8 : k ≤ 8) :
    Calls Try.prog 28 #[.slice none 0 0, .int .u64 i, .int .i64 k] w fun e w' => ∃ v, e = .returned v ∧ w'.ownsRow w.heap.size 5 1 v k (cellsB (be n k)) ∧ Below w.heap.size w w' := by
  subst hi; exact put_any n k w h1 h8
theorem bytes_at (i : Int) (n k : Nat) (w : World) (hi : i = n) (h1 : 1 ≤ k) (h8 : k ≤ 8) (hn : n < 18446744073709551616) :
    Calls Try.prog 30 #[.int .u64 i, .int .i64 k] w fun e w' => e = .returned (.string (str (be n k))) ∧ Below w.heap.size w w' := by
  subst hi; exact bytes_any n k w h1 h8 hn
/-- Half of the range of so many bytes. -/
def half (k : Nat) : Int := 2 ^ (8 * k - 1)
theorem half_le {k : Nat} (h1 : 1 ≤ k) (h7 : k ≤ 7) : 1 ≤ half k ∧ half k ≤ 36028797018963968 := by
  unfold half
  have e : ((2 : Int) ^ (8 * k - 1)) = ((2 ^ (8 * k - 1) : Nat) : Int) := by rw [Int.natCast_pow]; rfl
  have a : 0 < 2 ^ (8 * k - 1) := Nat.pow_pos (by decide)
  have b : 2 ^ (8 * k - 1) ≤ 2 ^ 55 := Nat.pow_le_pow_right (by decide) (by omega)
  have c : (2 : Nat) ^ 55 = 36028797018963968 := by decide
  rw [e]
  omega
theorem half_wrap {k : Nat} (h1 : 1 ≤ k) (h7 : k ≤ 7) : wrap64 ((2 : Int) ^ (8 * k - 1)) = half k := by
  have h := half_le h1 h7
  show wrap64 (half k) = half k
  unfold wrap64
  omega
attribute [irreducible] half
def u64 (n : Int) : Nat := (n % 18446744073709551616).toNat
theorem u64_eq (n : Int) : IntKind.u64.wrap n = (u64 n : Nat) := by rw [IntKind.wrap_u64]; unfold u64; omega
theorem u64_lt (n : Int) : u64 n < 18446744073709551616 := by unfold u64; omega
attribute [irreducible] u64
theorem int_low (n : Int) (k : Nat) (w : World) (h1 : 1 ≤ k) (h7 : k ≤ 7) (h : n < -half k) :
    Calls Try.prog 15 #[.int .i64 n, .int .i64 k] w fun e w' => e = .returned (.tuple #[.string ⟨#[]⟩, .int .i64 3]) ∧ w = w' := by
  have hN : (8 * (k : Int) - 1).toNat = 8 * k - 1 := by omega
  have hw := half_wrap h1 h7
  have hh := half_le h1 h7
  obtain ⟨ha, hb⟩ := hh
  go_enter Try.func15, Try.ntmps15
  go_wp2_with (go_at_call 26; refine (valid_yes _ _ (by omega) (by omega)).mono ?_; rintro e w' ⟨rfl, rfl⟩)
  go_ret2
  exact ⟨rfl, rfl⟩
theorem int_high (n : Int) (k : Nat) (w : World) (h1 : 1 ≤ k) (h7 : k ≤ 7) (h : half k ≤ n) :
    Calls Try.prog 15 #[.int .i64 n, .int .i64 k] w fun e w' => e = .returned (.tuple #[.string ⟨#[]⟩, .int .i64 3]) ∧ w = w' := by
  have hN : (8 * (k : Int) - 1).toNat = 8 * k - 1 := by omega
  have hw := half_wrap h1 h7
  have hh := half_le h1 h7
  obtain ⟨ha, hb⟩ := hh
  go_enter Try.func15, Try.ntmps15
  go_wp2_with (go_at_call 26; refine (valid_yes _ _ (by omega) (by omega)).mono ?_; rintro e w' ⟨rfl, rfl⟩)
  go_ret2
  exact ⟨rfl, rfl⟩
theorem int_mid (n : Int) (k : Nat) (w : World) (h1 : 1 ≤ k) (h7 : k ≤ 7) (hl : -half k ≤ n) (hr : n < half k) :
    Calls Try.prog 15 #[.int .i64 n, .int .i64 k] w fun e w' => e = .returned (.tuple #[.string (str (be (u64 n) k)), .int .i64 0]) ∧ Below w.heap.size w w' := by
  have hN : (8 * (k : Int) - 1).toNat = 8 * k - 1 := by omega
  have hw := half_wrap h1 h7
  have hh := half_le h1 h7
  obtain ⟨ha, hb⟩ := hh
  have hu := u64_eq n
  go_enter Try.func15, Try.ntmps15
  go_wp2_with (first | (go_at_call 26; refine (valid_yes _ _ (by omega) (by omega)).mono ?_; rintro e w' ⟨rfl, rfl⟩) | (go_at_call 28; refine (put_at _ (u64 n) _ _ rfl h1 (by omega)).mono ?_; rintro e w1 ⟨v, rfl, hown, hb⟩; obtain ⟨g, cap, rfl⟩ := own_form hown h1; have hback := back_own hown))
  go_ret2
  exact ⟨rfl, by assumption⟩
theorem int_eight (n : Int) (k : Nat) (w : World) (h8 : (8 : Int) ≤ k) (h9 : k ≤ 8) :
    Calls Try.prog 15 #[.int .i64 n, .int .i64 k] w fun e w' => e = .returned (.tuple #[.string (str (be (u64 n) k)), .int .i64 0]) ∧ Below w.heap.size w w' := by
  have hN : (8 * (k : Int) - 1).toNat = 8 * k - 1 := by omega
  have hu := u64_eq n
  go_enter Try.func15, Try.ntmps15
  go_wp2_with (first | (go_at_call 26; refine (valid_yes _ _ (by omega) (by omega)).mono ?_; rintro e w' ⟨rfl, rfl⟩) | (go_at_call 28; refine (put_at _ (u64 n) _ _ rfl (by omega) (by omega)).mono ?_; rintro e w1 ⟨v, rfl, hown, hb⟩; obtain ⟨g, cap, rfl⟩ := own_form hown (by omega); have hback := back_own hown))
  go_ret2
  exact ⟨rfl, by assumption⟩
theorem intR_low (n : Int) (k : Nat) (w : World) (h1 : 1 ≤ k) (h7 : k ≤ 7) (h : n < -half k) :
    Calls Try.prog 16 #[.int .i64 n, .int .i64 k] w fun e w' => e = .returned (.tuple #[.string ⟨#[]⟩, .int .i64 3]) ∧ w = w' := by
  have hN : (8 * (k : Int) - 1).toNat = 8 * k - 1 := by omega
  have hw := half_wrap h1 h7
  have hh := half_le h1 h7
  obtain ⟨ha, hb⟩ := hh
  go_enter Try.func16, Try.ntmps16
  go_wp2_with (go_at_call 29; refine (vfits_yes _ _ (by omega) (by omega)).mono ?_; rintro e w' ⟨rfl, rfl⟩)
  go_ret2
  exact ⟨rfl, rfl⟩
theorem intR_high (n : Int) (k : Nat) (w : World) (h1 : 1 ≤ k) (h7 : k ≤ 7) (h : half k ≤ n) :
    Calls Try.prog 16 #[.int .i64 n, .int .i64 k] w fun e w' => e = .returned (.tuple #[.string ⟨#[]⟩, .int .i64 3]) ∧ w = w' := by
  have hN : (8 * (k : Int) - 1).toNat = 8 * k - 1 := by omega
  have hw := half_wrap h1 h7
  have hh := half_le h1 h7
  obtain ⟨ha, hb⟩ := hh
  go_enter Try.func16, Try.ntmps16
  go_wp2_with (go_at_call 29; refine (vfits_yes _ _ (by omega) (by omega)).mono ?_; rintro e w' ⟨rfl, rfl⟩)
  go_ret2
  exact ⟨rfl, rfl⟩
theorem intR_mid (n : Int) (k : Nat) (w : World) (h1 : 1 ≤ k) (h7 : k ≤ 7) (hl : -half k ≤ n) (hr : n < half k) :
    Calls Try.prog 16 #[.int .i64 n, .int .i64 k] w fun e w' => e = .returned (.tuple #[.string (str (be (u64 n) k)), .int .i64 0]) ∧ Below w.heap.size w w' := by
  have hN : (8 * (k : Int) - 1).toNat = 8 * k - 1 := by omega
  have hw := half_wrap h1 h7
  have hh := half_le h1 h7
  obtain ⟨ha, hb⟩ := hh
  have hu := u64_eq n
  go_enter Try.func16, Try.ntmps16
  go_wp2_with (first | (go_at_call 29; refine (vfits_yes _ _ (by omega) (by omega)).mono ?_; rintro e w' ⟨rfl, rfl⟩) | (go_at_call 30; refine (bytes_at _ (u64 n) _ _ rfl h1 (by omega) (u64_lt n)).mono ?_; rintro e w1 ⟨rfl, hb⟩))
  go_ret2
  exact ⟨rfl, by assumption⟩
theorem intR_eight (n : Int) (k : Nat) (w : World) (h8 : (8 : Int) ≤ k) (h9 : k ≤ 8) :
    Calls Try.prog 16 #[.int .i64 n, .int .i64 k] w fun e w' => e = .returned (.tuple #[.string (str (be (u64 n) k)), .int .i64 0]) ∧ Below w.heap.size w w' := by
  have hN : (8 * (k : Int) - 1).toNat = 8 * k - 1 := by omega
  have hu := u64_eq n
  go_enter Try.func16, Try.ntmps16
  go_wp2_with (first | (go_at_call 29; refine (vfits_yes _ _ (by omega) (by omega)).mono ?_; rintro e w' ⟨rfl, rfl⟩) | (go_at_call 30; refine (bytes_at _ (u64 n) _ _ rfl (by omega) (by omega) (u64_lt n)).mono ?_; rintro e w1 ⟨rfl, hb⟩))
  go_ret2
  exact ⟨rfl, by assumption⟩

theorem wireInts_walk (a0 : Int) (a1 : Int) (w : World) (_w0 : (Lit.int .i64 a0).wf = true) (_w1 : (Lit.int .i64 a1).wf = true) :
    Calls Try.prog 6 #[.int .i64 a0, .int .i64 a1] w fun e w' => e = .returned (.bool true) ∧ Below w.heap.size w w' := by
  by_cases hk : a1 < 1 ∨ 8 < a1
  · have HK := Lib.hid hk
    clear hk
    go_enter Try.func6, Try.ntmps6
    go_wp2_with (first | (go_at_call 15; refine (int_width _ _ _ HK.out).mono ?_; rintro e w' ⟨rfl, rfl⟩) | (go_at_call 16; refine (intR_width _ _ _ HK.out).mono ?_; rintro e w' ⟨rfl, rfl⟩) | (go_at_call 13; refine (awake_any _).mono ?_; rintro e w3 ⟨rfl, hb3⟩))
    go_ret
    exact ⟨rfl, hb3⟩
  · obtain ⟨k, rfl⟩ := Int.eq_ofNat_of_zero_le (show 0 ≤ a1 by omega)
    have m1 : 1 ≤ k := by omega
    have m8 : k ≤ 8 := by omega
    clear hk
    by_cases h8 : (k : Int) < 8
    · have m7 : k ≤ 7 := by omega
      by_cases hl : a0 < -half k
      · have HL := Lib.hid hl
        clear hl
        go_enter Try.func6, Try.ntmps6
        go_wp2_with (first | (go_at_call 15; refine (int_low _ _ _ m1 m7 HL.out).mono ?_; rintro e w' ⟨rfl, rfl⟩) | (go_at_call 16; refine (intR_low _ _ _ m1 m7 HL.out).mono ?_; rintro e w' ⟨rfl, rfl⟩) | (go_at_call 13; refine (awake_any _).mono ?_; rintro e w3 ⟨rfl, hb3⟩))
        go_ret
        exact ⟨rfl, hb3⟩
      · by_cases hr : half k ≤ a0
        · have HR := Lib.hid hr
          clear hr hl
          go_enter Try.func6, Try.ntmps6
          go_wp2_with (first | (go_at_call 15; refine (int_high _ _ _ m1 m7 HR.out).mono ?_; rintro e w' ⟨rfl, rfl⟩) | (go_at_call 16; refine (intR_high _ _ _ m1 m7 HR.out).mono ?_; rintro e w' ⟨rfl, rfl⟩) | (go_at_call 13; refine (awake_any _).mono ?_; rintro e w3 ⟨rfl, hb3⟩))
          go_ret
          exact ⟨rfl, hb3⟩
        · have HL : Hid (-half k ≤ a0) := Lib.hid (by omega)
          have HR : Hid (a0 < half k) := Lib.hid (by omega)
          clear hr hl
          go_enter Try.func6, Try.ntmps6
          go_wp2_with (first | (go_at_call 15; refine (int_mid _ _ _ m1 m7 HL.out HR.out).mono ?_; rintro e w1 ⟨rfl, hb1⟩) | (go_at_call 16; refine (intR_mid _ _ _ m1 m7 HL.out HR.out).mono ?_; rintro e w2 ⟨rfl, hb2⟩) | (go_at_call 13; refine (awake_any _).mono ?_; rintro e w3 ⟨rfl, hb3⟩))
          go_ret
          exact ⟨rfl, below_next (below_next hb1 hb2) hb3⟩
    · have h8' : (8 : Int) ≤ k := by omega
      clear h8
      go_enter Try.func6, Try.ntmps6
      go_wp2_with (first | (go_at_call 15; refine (int_eight _ _ _ h8' m8).mono ?_; rintro e w1 ⟨rfl, hb1⟩) | (go_at_call 16; refine (intR_eight _ _ _ h8' m8).mono ?_; rintro e w2 ⟨rfl, hb2⟩) | (go_at_call 13; refine (awake_any _).mono ?_; rintro e w3 ⟨rfl, hb3⟩))
      go_ret
      exact ⟨rfl, below_next (below_next hb1 hb2) hb3⟩
end Go.Proofs.Ytfihncgeicogcaa
