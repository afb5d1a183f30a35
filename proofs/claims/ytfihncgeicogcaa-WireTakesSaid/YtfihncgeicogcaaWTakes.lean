/- The walk of WireTakes: the law returns true, and nothing that was in memory has changed. -/
import Derived.Test.YtfihncgeicogcaaTakes
namespace Go.Proofs.Ytfihncgeicogcaa
open Go.ChangeShapes Go.WideShapes Go.ChangeAt Go.RowKit

theorem wireTakes_walk (a0 : ByteArray) (a1 : Int) (a2 : Int) (w : World) (_w0 : a0.size ≤ maxLen) (_w1 : (Lit.int .i64 a1).wf = true) (_w2 : (Lit.int .i64 a2).wf = true) :
    Calls Try.prog 8 #[.string a0, .int .i64 a1, .int .i64 a2] w fun e w' => e = .returned (.bool true) ∧ Below w.heap.size w w' := by
  by_cases hb : (1000 : Int) < a0.size
  · go_enter Try.func8, Try.ntmps8
    go_wp2_with (go_at_call 13; refine (awake_any _).mono ?_; rintro e w3 ⟨rfl, hb3⟩)
    go_ret
    exact ⟨rfl, hb3⟩
  · have hs : a0.size ≤ 100000 := by omega
    by_cases h : a1 < 0 ∨ (a0.size : Int) < a1 ∨ a2 < 1 ∨ 8 < a2
    · have H := Lib.hid h
      clear h
      go_enter Try.func8, Try.ntmps8
      go_wp2_with (first | (go_at_call 19; refine (takeUint_arg _ _ _ _ H.out).mono ?_; rintro e w' ⟨rfl, rfl⟩) | (go_at_call 20; refine (takeUintR_arg _ _ _ _ H.out).mono ?_; rintro e w' ⟨rfl, rfl⟩) | (go_at_call 21; refine (takeInt_arg _ _ _ _ H.out).mono ?_; rintro e w' ⟨rfl, rfl⟩) | (go_at_call 22; refine (takeIntR_arg _ _ _ _ H.out).mono ?_; rintro e w' ⟨rfl, rfl⟩) | (go_at_call 13; refine (awake_any _).mono ?_; rintro e w3 ⟨rfl, hb3⟩))
      go_ret
      exact ⟨rfl, hb3⟩
    · have h0 : 0 ≤ a1 := by omega
      have hi : a1 ≤ a0.size := by omega
      have k1 : 1 ≤ a2 := by omega
      have k8 : a2 ≤ 8 := by omega
      clear h
      by_cases ht : (a0.size : Int) - a1 < a2
      · go_enter Try.func8, Try.ntmps8
        go_wp2_with (first | (go_at_call 19; refine (takeUint_short _ _ _ _ h0 hi k1 k8 ht hs).mono ?_; rintro e w' ⟨rfl, rfl⟩) | (go_at_call 20; refine (takeUintR_short _ _ _ _ h0 hi k1 k8 ht hs).mono ?_; rintro e w' ⟨rfl, rfl⟩) | (go_at_call 21; refine (takeInt_short _ _ _ _ h0 hi k1 k8 ht hs).mono ?_; rintro e w' ⟨rfl, rfl⟩) | (go_at_call 22; refine (takeIntR_short _ _ _ _ h0 hi k1 k8 ht hs).mono ?_; rintro e w' ⟨rfl, rfl⟩) | (go_at_call 13; refine (awake_any _).mono ?_; rintro e w3 ⟨rfl, hb3⟩))
        go_ret
        exact ⟨rfl, hb3⟩
      · obtain ⟨i, rfl⟩ := Int.eq_ofNat_of_zero_le h0
        obtain ⟨k, rfl⟩ := Int.eq_ofNat_of_zero_le (show 0 ≤ a2 by omega)
        have m1 : 1 ≤ k := by omega
        have m8 : k ≤ 8 := by omega
        have hik : i + k ≤ a0.size := by omega
        clear ht k1 k8 h0 hi
        by_cases hn : (9223372036854775808 : Int) ≤ ((numOf (sub a0 i k) : Nat) : Int)
        · have H := Lib.hid hn
          clear hn
          go_enter Try.func8, Try.ntmps8
          go_wp2_with (first | (go_at_call 19; refine (takeUint_over _ _ _ _ m1 m8 hik hs H.out).mono ?_; rintro e w' ⟨rfl, rfl⟩) | (go_at_call 20; refine (takeUintR_over _ _ _ _ m1 m8 hik hs H.out).mono ?_; rintro e w' ⟨rfl, rfl⟩) | (go_at_call 21; refine (takeInt_ok _ _ _ _ m1 m8 hik hs).mono ?_; rintro e w' ⟨rfl, rfl⟩) | (go_at_call 22; refine (takeIntR_ok _ _ _ _ m1 m8 hik hs).mono ?_; rintro e w' ⟨rfl, rfl⟩) | (go_at_call 13; refine (awake_any _).mono ?_; rintro e w3 ⟨rfl, hb3⟩))
          go_ret
          exact ⟨rfl, hb3⟩
        · have H : Hid (((numOf (sub a0 i k) : Nat) : Int) < 9223372036854775808) := Lib.hid (by omega)
          clear hn
          go_enter Try.func8, Try.ntmps8
          go_wp2_with (first | (go_at_call 19; refine (takeUint_ok _ _ _ _ m1 m8 hik hs H).mono ?_; rintro e w' ⟨rfl, rfl⟩) | (go_at_call 20; refine (takeUintR_ok _ _ _ _ m1 m8 hik hs H).mono ?_; rintro e w' ⟨rfl, rfl⟩) | (go_at_call 21; refine (takeInt_ok _ _ _ _ m1 m8 hik hs).mono ?_; rintro e w' ⟨rfl, rfl⟩) | (go_at_call 22; refine (takeIntR_ok _ _ _ _ m1 m8 hik hs).mono ?_; rintro e w' ⟨rfl, rfl⟩) | (go_at_call 13; refine (awake_any _).mono ?_; rintro e w3 ⟨rfl, hb3⟩))
          go_ret
          exact ⟨rfl, hb3⟩
end Go.Proofs.Ytfihncgeicogcaa
