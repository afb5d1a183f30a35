/- The contracts of TakeText, of the program and of the reference; the walk of WireTexts. -/
import Derived.Test.YtfihncgeicogcaaTexts
import Derived.Test.YtfihncgeicogcaaTakes
namespace Go.Proofs.Ytfihncgeicogcaa
open Go.ChangeShapes Go.WideShapes Go.ChangeAt Go.RowKit

theorem ret3s {a a' : ByteArray} {b c b' c' : Int} (h1 : a = a') (h2 : b = b') (h3 : c = c') : Ending.returned (.tuple #[.string a, .int .i64 b, .int .i64 c]) = .returned (.tuple #[.string a', .int .i64 b', .int .i64 c']) := by rw [h1, h2, h3]
theorem sub_str (s : ByteArray) (i k : Nat) : s.extract i (i + k) = str (sub s i k) := by rw [Lib.extract_eq, Nat.add_sub_cancel_left]; rfl
theorem len2_lt (s : ByteArray) (i : Nat) : numOf (sub s i 2) < 65536 := num_sub_lt s i 2
theorem takeText_most (s : ByteArray) (i m : Int) (w : World) (h : m < 0) :
    Calls Try.prog 24 #[.string s, .int .i64 i, .int .i64 m] w fun e w' => e = .returned (.tuple #[.string ⟨#[]⟩, .int .i64 0, .int .i64 1]) ∧ w = w' := by
  go_enter Try.func24, Try.ntmps24
  go_wp2
  go_ret3
  exact ⟨rfl, rfl⟩
theorem takeText_arg (s : ByteArray) (i m : Int) (w : World) (hm : 0 ≤ m) (h : i < 0 ∨ (s.size : Int) < i) :
    Calls Try.prog 24 #[.string s, .int .i64 i, .int .i64 m] w fun e w' => e = .returned (.tuple #[.string ⟨#[]⟩, .int .i64 0, .int .i64 1]) ∧ w = w' := by
  have H : Hid (i < 0 ∨ (s.size : Int) < i ∨ (2 : Int) < 1 ∨ (8 : Int) < 2) := Lib.hid (by omega)
  clear h
  go_enter Try.func24, Try.ntmps24
  go_wp2_with (go_at_call 19; refine (takeUint_arg _ _ _ _ H.out).mono ?_; rintro e w' ⟨rfl, rfl⟩)
  go_ret3
  exact ⟨rfl, rfl⟩
theorem takeText_short (s : ByteArray) (i m : Int) (w : World) (hm : 0 ≤ m) (h0 : 0 ≤ i) (hi : i ≤ s.size) (h : (s.size : Int) - i < 2) (hs : s.size ≤ 100000) :
    Calls Try.prog 24 #[.string s, .int .i64 i, .int .i64 m] w fun e w' => e = .returned (.tuple #[.string ⟨#[]⟩, .int .i64 0, .int .i64 6]) ∧ w = w' := by
  go_enter Try.func24, Try.ntmps24
  go_wp2_with (go_at_call 19; refine (takeUint_short _ _ _ _ h0 hi (by decide) (by decide) h hs).mono ?_; rintro e w' ⟨rfl, rfl⟩)
  go_ret3
  exact ⟨rfl, rfl⟩
theorem takeUint_two (s : ByteArray) (i : Nat) (w : World) (h : i + 2 ≤ s.size) (hs : s.size ≤ 100000) :
    Calls Try.prog 19 #[.string s, .int .i64 i, .int .i64 2] w fun e w' => ∃ n : Nat, e = .returned (.tuple #[.int .i64 n, .int .i64 ((i : Int) + 2), .int .i64 0]) ∧ Hid (n = numOf (sub s i 2)) ∧ n < 65536 ∧ w = w' :=
  (takeUint_ok s i 2 w (by decide) (by decide) h hs (Lib.hid (by have := len2_lt s i; omega))).mono fun _ _ ⟨he, hw⟩ => ⟨_, he, Lib.hid rfl, len2_lt s i, hw⟩
theorem takeText_limit (s : ByteArray) (i : Nat) (m : Int) (w : World) (h : i + 2 ≤ s.size) (hs : s.size ≤ 100000) (hl : Hid (m < (numOf (sub s i 2) : Nat))) (hm : 0 ≤ m) :
    Calls Try.prog 24 #[.string s, .int .i64 i, .int .i64 m] w fun e w' => e = .returned (.tuple #[.string ⟨#[]⟩, .int .i64 0, .int .i64 2]) ∧ w = w' := by
  go_enter Try.func24, Try.ntmps24
  go_wp2_with (go_at_call 19; refine (takeUint_two _ _ _ h hs).mono ?_; rintro e w' ⟨n, rfl, hn, hn2, rfl⟩; have hd : m < (n : Int) := by (have := hl.out; rw [← hn.out] at this; exact this))
  go_ret3
  exact ⟨rfl, rfl⟩
theorem takeText_trunc (s : ByteArray) (i : Nat) (m : Int) (w : World) (h : i + 2 ≤ s.size) (hs : s.size ≤ 100000) (hl : Hid (((numOf (sub s i 2) : Nat) : Int) ≤ m)) (hm : 0 ≤ m) (ht : Hid ((s.size : Int) - (i + 2) < (numOf (sub s i 2) : Nat))) :
    Calls Try.prog 24 #[.string s, .int .i64 i, .int .i64 m] w fun e w' => e = .returned (.tuple #[.string ⟨#[]⟩, .int .i64 0, .int .i64 6]) ∧ w = w' := by
  go_enter Try.func24, Try.ntmps24
  go_wp2_with (go_at_call 19; refine (takeUint_two _ _ _ h hs).mono ?_; rintro e w' ⟨n, rfl, hn, hn2, rfl⟩; have hd : (n : Int) ≤ m := (by (have := hl.out; rw [← hn.out] at this; exact this)); have hd2 : (s.size : Int) - (i + 2) < n := (by (have := ht.out; rw [← hn.out] at this; exact this)))
  go_ret3
  exact ⟨rfl, rfl⟩
theorem takeText_ok (s : ByteArray) (i : Nat) (m : Int) (w : World) (h : i + 2 ≤ s.size) (hs : s.size ≤ 100000) (hl : Hid (((numOf (sub s i 2) : Nat) : Int) ≤ m)) (hm : 0 ≤ m) (ht : Hid (i + 2 + numOf (sub s i 2) ≤ s.size)) :
    Calls Try.prog 24 #[.string s, .int .i64 i, .int .i64 m] w fun e w' => e = .returned (.tuple #[.string (str (sub s (i + 2) (numOf (sub s i 2)))), .int .i64 ((i : Int) + 2 + (numOf (sub s i 2) : Nat)), .int .i64 0]) ∧ w = w' := by
  go_enter Try.func24, Try.ntmps24
  go_wp2_with (go_at_call 19; refine (takeUint_two _ _ _ h hs).mono ?_; rintro e w' ⟨n, rfl, hn, hn2, rfl⟩; have hd : (n : Int) ≤ m := (by (have := hl.out; rw [← hn.out] at this; exact this)); have hd2 : i + 2 + n ≤ s.size := (by (have := ht.out; rw [← hn.out] at this; exact this)))
  have e := hn.out
  subst e
  go_ret3
  exact ⟨ret3s (sub_str s _ _) rfl rfl, rfl⟩

theorem takeTextR_most (s : ByteArray) (i m : Int) (w : World) (h : m < 0) :
    Calls Try.prog 25 #[.string s, .int .i64 i, .int .i64 m] w fun e w' => e = .returned (.tuple #[.string ⟨#[]⟩, .int .i64 0, .int .i64 1]) ∧ w = w' := by
  by_cases h0 : i < 0
  · have hd : decide (i < 0) = true := by simpa using h0
    go_enter Try.func25, Try.ntmps25
    go_wp2
    go_ret3
    exact ⟨rfl, rfl⟩
  · have hd : decide (i < 0) = false := by simpa using h0
    by_cases h2 : (s.size : Int) < i
    · have hd2 : decide ((s.size : Int) < i) = true := by simpa using h2
      go_enter Try.func25, Try.ntmps25
      go_wp2
      go_ret3
      exact ⟨rfl, rfl⟩
    · have hd2 : decide ((s.size : Int) < i) = false := by simpa using h2
      have hd3 : decide (m < 0) = true := by simpa using h
      go_enter Try.func25, Try.ntmps25
      go_wp2
      go_ret3
      exact ⟨rfl, rfl⟩
theorem takeTextR_arg (s : ByteArray) (i m : Int) (w : World) (h : i < 0 ∨ (s.size : Int) < i) :
    Calls Try.prog 25 #[.string s, .int .i64 i, .int .i64 m] w fun e w' => e = .returned (.tuple #[.string ⟨#[]⟩, .int .i64 0, .int .i64 1]) ∧ w = w' := by
  by_cases h0 : i < 0
  · have hd : decide (i < 0) = true := by simpa using h0
    go_enter Try.func25, Try.ntmps25
    go_wp2
    go_ret3
    exact ⟨rfl, rfl⟩
  · have hd : decide (i < 0) = false := by simpa using h0
    have hd2 : decide ((s.size : Int) < i) = true := by simp; omega
    clear h
    go_enter Try.func25, Try.ntmps25
    go_wp2
    go_ret3
    exact ⟨rfl, rfl⟩
theorem takeTextR_short (s : ByteArray) (i m : Int) (w : World) (hm : 0 ≤ m) (h0 : 0 ≤ i) (hi : i ≤ s.size) (h : (s.size : Int) - i < 2) (_hs : s.size ≤ 100000) :
    Calls Try.prog 25 #[.string s, .int .i64 i, .int .i64 m] w fun e w' => e = .returned (.tuple #[.string ⟨#[]⟩, .int .i64 0, .int .i64 6]) ∧ w = w' := by
  have hd : decide (i < 0) = false := by simp; omega
  have hd2 : decide ((s.size : Int) < i) = false := by simp; omega
  have hd3 : decide (m < 0) = false := by simp; omega
  go_enter Try.func25, Try.ntmps25
  go_wp2
  go_ret3
  exact ⟨rfl, rfl⟩
theorem number_two (s : ByteArray) (i : Nat) (w : World) (h : i + 2 ≤ s.size) :
    Calls Try.prog 33 #[.string (str (sub s i 2))] w fun e w' => ∃ n : Nat, e = .returned (.int .u64 n) ∧ Hid (n = numOf (sub s i 2)) ∧ n < 65536 ∧ w = w' :=
  (number_sub s i 2 w (by decide) h).mono fun _ _ ⟨he, hw⟩ => ⟨_, he, Lib.hid rfl, len2_lt s i, hw⟩
theorem takeTextR_limit (s : ByteArray) (i : Nat) (m : Int) (w : World) (h : i + 2 ≤ s.size) (hs : s.size ≤ 100000) (hl : Hid (m < (numOf (sub s i 2) : Nat))) (hm : 0 ≤ m) :
    Calls Try.prog 25 #[.string s, .int .i64 i, .int .i64 m] w fun e w' => e = .returned (.tuple #[.string ⟨#[]⟩, .int .i64 0, .int .i64 2]) ∧ w = w' := by
  have hd : decide ((i : Int) < 0) = false := by simp
  have hd2 : decide (s.size < i) = false := by simp; omega
  have hd3 : decide (m < 0) = false := by simp; omega
  have hN : ((i : Int) + 2).toNat = i + 2 := by omega
  have hex := sub_str s i 2
  go_enter Try.func25, Try.ntmps25
  go_wp2_with (go_at_call 33; refine (number_two _ _ _ h).mono ?_; rintro e w' ⟨n, rfl, hn, hn2, rfl⟩; have hd : m < (n : Int) := by (have := hl.out; rw [← hn.out] at this; exact this))
  go_ret3
  exact ⟨rfl, rfl⟩
theorem takeTextR_trunc (s : ByteArray) (i : Nat) (m : Int) (w : World) (h : i + 2 ≤ s.size) (hs : s.size ≤ 100000) (hl : Hid (((numOf (sub s i 2) : Nat) : Int) ≤ m)) (hm : 0 ≤ m) (ht : Hid ((s.size : Int) - (i + 2) < (numOf (sub s i 2) : Nat))) :
    Calls Try.prog 25 #[.string s, .int .i64 i, .int .i64 m] w fun e w' => e = .returned (.tuple #[.string ⟨#[]⟩, .int .i64 0, .int .i64 6]) ∧ w = w' := by
  have hd : decide ((i : Int) < 0) = false := by simp
  have hd2 : decide (s.size < i) = false := by simp; omega
  have hd3 : decide (m < 0) = false := by simp; omega
  have hN : ((i : Int) + 2).toNat = i + 2 := by omega
  have hex := sub_str s i 2
  go_enter Try.func25, Try.ntmps25
  go_wp2_with (go_at_call 33; refine (number_two _ _ _ h).mono ?_; rintro e w' ⟨n, rfl, hn, hn2, rfl⟩; have hd : (n : Int) ≤ m := (by (have := hl.out; rw [← hn.out] at this; exact this)); have hd2 : (s.size : Int) - i - 2 < n := (by (have := ht.out; rw [← hn.out] at this; omega)))
  go_ret3
  exact ⟨rfl, rfl⟩
theorem takeTextR_ok (s : ByteArray) (i : Nat) (m : Int) (w : World) (h : i + 2 ≤ s.size) (hs : s.size ≤ 100000) (hl : Hid (((numOf (sub s i 2) : Nat) : Int) ≤ m)) (hm : 0 ≤ m) (ht : Hid (i + 2 + numOf (sub s i 2) ≤ s.size)) :
    Calls Try.prog 25 #[.string s, .int .i64 i, .int .i64 m] w fun e w' => e = .returned (.tuple #[.string (str (sub s (i + 2) (numOf (sub s i 2)))), .int .i64 ((i : Int) + 2 + (numOf (sub s i 2) : Nat)), .int .i64 0]) ∧ w = w' := by
  have hd : decide ((i : Int) < 0) = false := by simp
  have hd2 : decide (s.size < i) = false := by simp; omega
  have hd3 : decide (m < 0) = false := by simp; omega
  have hN : ((i : Int) + 2).toNat = i + 2 := by omega
  have hex := sub_str s i 2
  go_enter Try.func25, Try.ntmps25
  go_wp2_with (go_at_call 33; refine (number_two _ _ _ h).mono ?_; rintro e w' ⟨n, rfl, hn, hn2, rfl⟩; have hd : (n : Int) ≤ m := (by (have := hl.out; rw [← hn.out] at this; exact this)); have hd2 : i + 2 + n ≤ s.size := (by (have := ht.out; rw [← hn.out] at this; exact this)))
  have e := hn.out
  subst e
  go_ret3
  exact ⟨ret3s (sub_str s _ _) rfl rfl, rfl⟩

theorem wireTexts_walk (a0 : ByteArray) (a1 : Int) (a2 : Int) (w : World) (_w0 : a0.size ≤ maxLen) (_w1 : (Lit.int .i64 a1).wf = true) (_w2 : (Lit.int .i64 a2).wf = true) :
    Calls Try.prog 9 #[.string a0, .int .i64 a1, .int .i64 a2] w fun e w' => e = .returned (.bool true) ∧ Below w.heap.size w w' := by
  by_cases hb : (1000 : Int) < a0.size
  · go_enter Try.func9, Try.ntmps9
    go_wp2_with (go_at_call 13; refine (awake_any _).mono ?_; rintro e w3 ⟨rfl, hb3⟩)
    go_ret
    exact ⟨rfl, hb3⟩
  · have hs : a0.size ≤ 100000 := by omega
    have hs6 : a0.size ≤ 65535 := by omega
    by_cases hm : a2 < 0
    · go_enter Try.func9, Try.ntmps9
      go_wp2_with (first | (go_at_call 14; refine (text_ok _ _ hs6).mono ?_; rintro e w1 ⟨rfl, hb1⟩) | (go_at_call 23; refine (textR_ok _ _ hs6).mono ?_; rintro e w2 ⟨rfl, hb2⟩) | (go_at_call 13; refine (awake_any _).mono ?_; rintro e w3 ⟨rfl, hb3⟩) | (go_at_call 24; refine (takeText_most _ _ _ _ hm).mono ?_; rintro e w' ⟨rfl, rfl⟩) | (go_at_call 25; refine (takeTextR_most _ _ _ _ hm).mono ?_; rintro e w' ⟨rfl, rfl⟩))
      go_ret
      exact ⟨rfl, below_next (below_next hb1 hb2) hb3⟩
    · have m0 : 0 ≤ a2 := by omega
      clear hm
      by_cases h : a1 < 0 ∨ (a0.size : Int) < a1
      · have H := Lib.hid h
        clear h
        go_enter Try.func9, Try.ntmps9
        go_wp2_with (first | (go_at_call 14; refine (text_ok _ _ hs6).mono ?_; rintro e w1 ⟨rfl, hb1⟩) | (go_at_call 23; refine (textR_ok _ _ hs6).mono ?_; rintro e w2 ⟨rfl, hb2⟩) | (go_at_call 13; refine (awake_any _).mono ?_; rintro e w3 ⟨rfl, hb3⟩) | (go_at_call 24; refine (takeText_arg _ _ _ _ m0 H.out).mono ?_; rintro e w' ⟨rfl, rfl⟩) | (go_at_call 25; refine (takeTextR_arg _ _ _ _ H.out).mono ?_; rintro e w' ⟨rfl, rfl⟩))
        go_ret
        exact ⟨rfl, below_next (below_next hb1 hb2) hb3⟩
      · have h0 : 0 ≤ a1 := by omega
        have hi : a1 ≤ a0.size := by omega
        clear h
        by_cases ht : (a0.size : Int) - a1 < 2
        · go_enter Try.func9, Try.ntmps9
          go_wp2_with (first | (go_at_call 14; refine (text_ok _ _ hs6).mono ?_; rintro e w1 ⟨rfl, hb1⟩) | (go_at_call 23; refine (textR_ok _ _ hs6).mono ?_; rintro e w2 ⟨rfl, hb2⟩) | (go_at_call 13; refine (awake_any _).mono ?_; rintro e w3 ⟨rfl, hb3⟩) | (go_at_call 24; refine (takeText_short _ _ _ _ m0 h0 hi ht hs).mono ?_; rintro e w' ⟨rfl, rfl⟩) | (go_at_call 25; refine (takeTextR_short _ _ _ _ m0 h0 hi ht hs).mono ?_; rintro e w' ⟨rfl, rfl⟩))
          go_ret
          exact ⟨rfl, below_next (below_next hb1 hb2) hb3⟩
        · obtain ⟨i, rfl⟩ := Int.eq_ofNat_of_zero_le h0
          have hik : i + 2 ≤ a0.size := by omega
          clear ht h0 hi
          by_cases hl : a2 < ((numOf (sub a0 i 2) : Nat) : Int)
          · have HL := Lib.hid hl
            clear hl
            go_enter Try.func9, Try.ntmps9
            go_wp2_with (first | (go_at_call 14; refine (text_ok _ _ hs6).mono ?_; rintro e w1 ⟨rfl, hb1⟩) | (go_at_call 23; refine (textR_ok _ _ hs6).mono ?_; rintro e w2 ⟨rfl, hb2⟩) | (go_at_call 13; refine (awake_any _).mono ?_; rintro e w3 ⟨rfl, hb3⟩) | (go_at_call 24; refine (takeText_limit _ _ _ _ hik hs HL m0).mono ?_; rintro e w' ⟨rfl, rfl⟩) | (go_at_call 25; refine (takeTextR_limit _ _ _ _ hik hs HL m0).mono ?_; rintro e w' ⟨rfl, rfl⟩))
            go_ret
            exact ⟨rfl, below_next (below_next hb1 hb2) hb3⟩
          · have HL : Hid (((numOf (sub a0 i 2) : Nat) : Int) ≤ a2) := Lib.hid (by omega)
            clear hl
            by_cases hr : (a0.size : Int) - (i + 2) < ((numOf (sub a0 i 2) : Nat) : Int)
            · have HR := Lib.hid hr
              clear hr
              go_enter Try.func9, Try.ntmps9
              go_wp2_with (first | (go_at_call 14; refine (text_ok _ _ hs6).mono ?_; rintro e w1 ⟨rfl, hb1⟩) | (go_at_call 23; refine (textR_ok _ _ hs6).mono ?_; rintro e w2 ⟨rfl, hb2⟩) | (go_at_call 13; refine (awake_any _).mono ?_; rintro e w3 ⟨rfl, hb3⟩) | (go_at_call 24; refine (takeText_trunc _ _ _ _ hik hs HL m0 HR).mono ?_; rintro e w' ⟨rfl, rfl⟩) | (go_at_call 25; refine (takeTextR_trunc _ _ _ _ hik hs HL m0 HR).mono ?_; rintro e w' ⟨rfl, rfl⟩))
              go_ret
              exact ⟨rfl, below_next (below_next hb1 hb2) hb3⟩
            · have HR : Hid (i + 2 + numOf (sub a0 i 2) ≤ a0.size) := Lib.hid (by omega)
              clear hr
              go_enter Try.func9, Try.ntmps9
              go_wp2_with (first | (go_at_call 14; refine (text_ok _ _ hs6).mono ?_; rintro e w1 ⟨rfl, hb1⟩) | (go_at_call 23; refine (textR_ok _ _ hs6).mono ?_; rintro e w2 ⟨rfl, hb2⟩) | (go_at_call 13; refine (awake_any _).mono ?_; rintro e w3 ⟨rfl, hb3⟩) | (go_at_call 24; refine (takeText_ok _ _ _ _ hik hs HL m0 HR).mono ?_; rintro e w' ⟨rfl, rfl⟩) | (go_at_call 25; refine (takeTextR_ok _ _ _ _ hik hs HL m0 HR).mono ?_; rintro e w' ⟨rfl, rfl⟩))
              go_ret
              exact ⟨rfl, below_next (below_next hb1 hb2) hb3⟩
end Go.Proofs.Ytfihncgeicogcaa
