/- The walk of WireRoundTrips: the law returns true, and nothing that was in memory has changed. -/
import Derived.Test.YtfihncgeicogcaaTakeTexts
import Derived.Test.YtfihncgeicogcaaInts
import Derived.Deep.DeepCutAuto
namespace Go.Proofs.Ytfihncgeicogcaa
open Go.ChangeShapes Go.WideShapes Go.ChangeAt Go.RowKit

/-- What Uint returns. -/
def UintOut (n k : Int) (s : ByteArray) (c : Int) : Prop := (∃ m j : Nat, n = m ∧ k = j ∧ 1 ≤ j ∧ j ≤ 8 ∧ m < 256 ^ j ∧ m < 9223372036854775808 ∧ c = 0 ∧ s = str (be m j)) ∨ (c == 0) = false
theorem uint_all (n k : Int) (w : World) (hn : n < 9223372036854775808) :
    Calls Try.prog 11 #[.int .i64 n, .int .i64 k] w fun e w' => ∃ (s : ByteArray) (c : Int), e = .returned (.tuple #[.string s, .int .i64 c]) ∧ UintOut n k s c ∧ Below w.heap.size w w' := by
  by_cases h : Good n k
  · obtain ⟨m, j, rfl, rfl, h1, h8, hm, hp⟩ := good_nat h hn
    exact (uint_good m j w h1 h8 hm hp).mono fun _ _ ⟨he, hb⟩ => ⟨_, _, he, .inl ⟨m, j, rfl, rfl, h1, h8, hp.out, hm, rfl, rfl⟩, hb⟩
  · exact (uint_bad n k w hn h).mono fun _ w' ⟨c, he, _, hc, hw⟩ => ⟨_, c, he, .inr hc, by subst hw; exact Below.refl _ _⟩

/-- What IntOut returns. -/
def IntGood (n : Int) (j : Nat) : Prop := j = 8 ∨ (-half j ≤ n ∧ n < half j)
def IntOut (n k : Int) (s : ByteArray) (c : Int) : Prop := (∃ j : Nat, k = j ∧ 1 ≤ j ∧ j ≤ 8 ∧ IntGood n j ∧ c = 0 ∧ s = str (be (u64 n) j)) ∨ (c == 0) = false
theorem int_good (n : Int) (j : Nat) (w : World) (h1 : 1 ≤ j) (h8 : j ≤ 8) (h : IntGood n j) :
    Calls Try.prog 15 #[.int .i64 n, .int .i64 j] w fun e w' => e = .returned (.tuple #[.string (str (be (u64 n) j)), .int .i64 0]) ∧ Below w.heap.size w w' := by
  by_cases h7 : (8 : Int) ≤ j
  · exact int_eight n j w h7 h8
  · rcases h with h | ⟨hl, hr⟩
    · omega
    · exact int_mid n j w h1 (by omega) hl hr
theorem int_all (n k : Int) (w : World) :
    Calls Try.prog 15 #[.int .i64 n, .int .i64 k] w fun e w' => ∃ (s : ByteArray) (c : Int), e = .returned (.tuple #[.string s, .int .i64 c]) ∧ IntOut n k s c ∧ Below w.heap.size w w' := by
  by_cases hk : k < 1 ∨ 8 < k
  · exact (int_width n k w hk).mono fun _ w' ⟨he, hw⟩ => ⟨_, _, he, .inr (by decide), by subst hw; exact Below.refl _ _⟩
  · obtain ⟨j, rfl⟩ := Int.eq_ofNat_of_zero_le (show 0 ≤ k by omega)
    by_cases h : IntGood n j
    · exact (int_good n j w (by omega) (by omega) h).mono fun _ _ ⟨he, hb⟩ => ⟨_, _, he, .inl ⟨j, rfl, by omega, by omega, h, rfl, rfl⟩, hb⟩
    · have h7 : j ≤ 7 := by
        by_cases e : j = 8
        · exact absurd (.inl e) h
        · omega
      by_cases hl : n < -half j
      · exact (int_low n j w (by omega) h7 hl).mono fun _ w' ⟨he, hw⟩ => ⟨_, _, he, .inr (by decide), by subst hw; exact Below.refl _ _⟩
      · by_cases hr : half j ≤ n
        · exact (int_high n j w (by omega) h7 hr).mono fun _ w' ⟨he, hw⟩ => ⟨_, _, he, .inr (by decide), by subst hw; exact Below.refl _ _⟩
        · exact absurd (.inr ⟨by omega, by omega⟩) h

/-- The bytes in the middle of three strings. -/
theorem sub_mid (f m b : ByteArray) (k : Nat) (hk : m.size = k) : sub (f ++ m ++ b) f.size k = m.data.toList := by
  subst hk
  have e : (f ++ m ++ b).data.toList = f.data.toList ++ (m.data.toList ++ b.data.toList) := by simp
  unfold sub
  rw [e, List.drop_append_of_le_length (by rw [← Lib.size_eq]; exact Nat.le_refl _), List.drop_of_length_le (by rw [← Lib.size_eq]; exact Nat.le_refl _), List.nil_append,
    List.take_append_of_le_length (by rw [← Lib.size_eq]; exact Nat.le_refl _), List.take_of_length_le (by rw [← Lib.size_eq]; exact Nat.le_refl _)]
theorem mid_size (f m b : ByteArray) : (f ++ m ++ b).size = f.size + m.size + b.size := by simp
theorem be_size (a j : Nat) : (str (be a j)).size = j := by rw [str_size, be_length]
/-- What Uint encodes is read back. -/
theorem take_back (f b : ByteArray) (m j : Nat) (w : World) (h1 : 1 ≤ j) (h8 : j ≤ 8) (hp : m < 256 ^ j) (hm : m < 9223372036854775808) (hf : f.size ≤ 300) (hb : b.size ≤ 300) :
    Calls Try.prog 19 #[.string (f ++ str (be m j) ++ b), .int .i64 (f.size : Nat), .int .i64 j] w fun e w' => e = .returned (.tuple #[.int .i64 m, .int .i64 ((f.size : Int) + j), .int .i64 0]) ∧ w = w' := by
  have hn : numOf (sub (f ++ str (be m j) ++ b) f.size j) = m := by
    rw [sub_mid _ _ _ _ (be_size m j), str_list, numOf_be]; exact Nat.mod_eq_of_lt hp
  have h := takeUint_ok (f ++ str (be m j) ++ b) f.size j w h1 h8 (by rw [mid_size, be_size]; omega) (by rw [mid_size, be_size]; omega) (Lib.hid (by rw [hn]; omega))
  rw [hn] at h
  exact h
theorem sg_back {n : Int} {j : Nat} (h1 : 1 ≤ j) (h8 : j ≤ 8) (h : IntGood n j) (hlo : -9223372036854775808 ≤ n) (hhi : n < 9223372036854775808) : sg (u64 n % 256 ^ j) j = n := by
  unfold sg
  unfold IntGood at h
  unfold half at h
  unfold u64
  obtain rfl | rfl | rfl | rfl | rfl | rfl | rfl | rfl : j = 1 ∨ j = 2 ∨ j = 3 ∨ j = 4 ∨ j = 5 ∨ j = 6 ∨ j = 7 ∨ j = 8 := by omega
  all_goals
    simp only [Nat.reduceMul, Nat.reduceSub, Int.reducePow, Nat.reducePow] at h ⊢
    split <;> omega
theorem takeInt_back (f b : ByteArray) (n : Int) (j : Nat) (w : World) (h1 : 1 ≤ j) (h8 : j ≤ 8) (h : IntGood n j) (hlo : -9223372036854775808 ≤ n) (hhi : n < 9223372036854775808) (hf : f.size ≤ 300) (hb : b.size ≤ 300) :
    Calls Try.prog 21 #[.string (f ++ str (be (u64 n) j) ++ b), .int .i64 (f.size : Nat), .int .i64 j] w fun e w' => e = .returned (.tuple #[.int .i64 n, .int .i64 ((f.size : Int) + j), .int .i64 0]) ∧ w = w' := by
  have hn : numOf (sub (f ++ str (be (u64 n) j) ++ b) f.size j) = u64 n % 256 ^ j := by
    rw [sub_mid _ _ _ _ (be_size _ j), str_list, numOf_be]
  have h := takeInt_ok (f ++ str (be (u64 n) j) ++ b) f.size j w h1 h8 (by rw [mid_size, be_size]; omega) (by rw [mid_size, be_size]; omega)
  rw [hn, sg_back h1 h8 ‹_› hlo hhi] at h
  exact h

theorem text_size (t : ByteArray) : (str (textL t)).size = t.size + 2 := by
  rw [str_size]; unfold textL; rw [List.length_append, be_length, ← Lib.size_eq]; omega
theorem sub_text (f t b : ByteArray) : sub (f ++ str (textL t) ++ b) f.size 2 = be t.size 2 ∧ sub (f ++ str (textL t) ++ b) (f.size + 2) t.size = t.data.toList := by
  have e : (f ++ str (textL t) ++ b).data.toList = f.data.toList ++ (be t.size 2 ++ (t.data.toList ++ b.data.toList)) := by
    have e1 : (f ++ str (textL t) ++ b).data.toList = f.data.toList ++ (textL t ++ b.data.toList) := by simp [str]
    rw [e1]; unfold textL; rw [List.append_assoc]
  have hf : f.data.toList.length = f.size := (Lib.size_eq f).symm
  have ht : t.data.toList.length = t.size := (Lib.size_eq t).symm
  unfold sub
  rw [e]
  constructor
  · rw [List.drop_left' hf, List.take_left' (be_length t.size 2)]
  · rw [← List.drop_drop, List.drop_left' hf, List.drop_left' (be_length t.size 2), List.take_left' ht]
theorem text_back (f t b : ByteArray) (w : World) (hf : f.size ≤ 300) (ht : t.size ≤ 300) (hb : b.size ≤ 300) :
    Calls Try.prog 24 #[.string (f ++ str (textL t) ++ b), .int .i64 (f.size : Nat), .int .i64 (t.size : Nat)] w fun e w' => e = .returned (.tuple #[.string t, .int .i64 ((f.size : Int) + 2 + (t.size : Nat)), .int .i64 0]) ∧ w = w' := by
  obtain ⟨h1, h2⟩ := sub_text f t b
  have hn : numOf (sub (f ++ str (textL t) ++ b) f.size 2) = t.size := by
    rw [h1, numOf_be]; exact Nat.mod_eq_of_lt (by rw [show (256 : Nat) ^ 2 = 65536 from rfl]; omega)
  have hz : (f ++ str (textL t) ++ b).size = f.size + (t.size + 2) + b.size := by rw [mid_size, text_size]
  have h := takeText_ok (f ++ str (textL t) ++ b) f.size (t.size : Nat) w (by rw [hz]; omega) (by rw [hz]; omega) (Lib.hid (by rw [hn]; omega)) (by omega) (Lib.hid (by rw [hn, hz]; omega))
  rw [hn, h2] at h
  exact h

/-- What TakeUint returns at 0. -/
def TakeOut (b : ByteArray) (k n i c : Int) : Prop := (∃ j : Nat, k = j ∧ 1 ≤ j ∧ j ≤ 8 ∧ j ≤ b.size ∧ n = (numOf (sub b 0 j) : Nat) ∧ n < 9223372036854775808 ∧ i = j ∧ c = 0) ∨ (c == 0) = false
theorem takeU_all (b : ByteArray) (k : Int) (w : World) (hb : b.size ≤ 300) :
    Calls Try.prog 19 #[.string b, .int .i64 0, .int .i64 k] w fun e w' => ∃ n i c : Int, e = .returned (.tuple #[.int .i64 n, .int .i64 i, .int .i64 c]) ∧ TakeOut b k n i c ∧ w = w' := by
  by_cases hk : k < 1 ∨ 8 < k
  · exact (takeUint_arg b 0 k w (by omega)).mono fun _ _ ⟨he, hw⟩ => ⟨_, _, _, he, .inr (by decide), hw⟩
  · obtain ⟨j, rfl⟩ := Int.eq_ofNat_of_zero_le (show 0 ≤ k by omega)
    by_cases ht : (b.size : Int) - 0 < j
    · exact (takeUint_short b 0 j w (by omega) (by omega) (by omega) (by omega) ht (by omega)).mono fun _ _ ⟨he, hw⟩ => ⟨_, _, _, he, .inr (by decide), hw⟩
    · by_cases hn : (9223372036854775808 : Int) ≤ ((numOf (sub b 0 j) : Nat) : Int)
      · exact (takeUint_over b 0 j w (by omega) (by omega) (by omega) (by omega) hn).mono fun _ _ ⟨he, hw⟩ => ⟨_, _, _, he, .inr (by decide), hw⟩
      · exact (takeUint_ok b 0 j w (by omega) (by omega) (by omega) (by omega) (Lib.hid (by omega))).mono fun _ _ ⟨he, hw⟩ => ⟨_, _, _, he, .inl ⟨j, rfl, by omega, by omega, by omega, rfl, by omega, by omega, rfl⟩, hw⟩
theorem be_sub (b : ByteArray) (j : Nat) (h : j ≤ b.size) : be (numOf (sub b 0 j)) j = sub b 0 j := by
  have hl := sub_length b 0 j (by omega)
  have := be_numOf (sub b 0 j)
  rw [hl] at this
  exact this
theorem uint_again (b : ByteArray) (j : Nat) (w : World) (h1 : 1 ≤ j) (h8 : j ≤ 8) (h : j ≤ b.size) (hn : ((numOf (sub b 0 j) : Nat) : Int) < 9223372036854775808) :
    Calls Try.prog 11 #[.int .i64 (numOf (sub b 0 j) : Nat), .int .i64 j] w fun e w' => e = .returned (.tuple #[.string (str (sub b 0 j)), .int .i64 0]) ∧ Below w.heap.size w w' := by
  have := uint_good (numOf (sub b 0 j)) j w h1 h8 (by omega) (Lib.hid (num_sub_lt b 0 j))
  rw [be_sub b j h] at this
  exact this
def TakeIOut (b : ByteArray) (k n i c : Int) : Prop := (∃ j : Nat, k = j ∧ 1 ≤ j ∧ j ≤ 8 ∧ j ≤ b.size ∧ n = sg (numOf (sub b 0 j)) j ∧ i = j ∧ c = 0) ∨ (c == 0) = false
theorem takeI_all (b : ByteArray) (k : Int) (w : World) (hb : b.size ≤ 300) :
    Calls Try.prog 21 #[.string b, .int .i64 0, .int .i64 k] w fun e w' => ∃ n i c : Int, e = .returned (.tuple #[.int .i64 n, .int .i64 i, .int .i64 c]) ∧ TakeIOut b k n i c ∧ w = w' := by
  by_cases hk : k < 1 ∨ 8 < k
  · exact (takeInt_arg b 0 k w (by omega)).mono fun _ _ ⟨he, hw⟩ => ⟨_, _, _, he, .inr (by decide), hw⟩
  · obtain ⟨j, rfl⟩ := Int.eq_ofNat_of_zero_le (show 0 ≤ k by omega)
    by_cases ht : (b.size : Int) - 0 < j
    · exact (takeInt_short b 0 j w (by omega) (by omega) (by omega) (by omega) ht (by omega)).mono fun _ _ ⟨he, hw⟩ => ⟨_, _, _, he, .inr (by decide), hw⟩
    · exact (takeInt_ok b 0 j w (by omega) (by omega) (by omega) (by omega)).mono fun _ _ ⟨he, hw⟩ => ⟨_, _, _, he, .inl ⟨j, rfl, by omega, by omega, by omega, rfl, by omega, rfl⟩, hw⟩
theorem sg_good {n j : Nat} (h1 : 1 ≤ j) (h8 : j ≤ 8) (hp : n < 256 ^ j) : IntGood (sg n j) j ∧ u64 (sg n j) % 256 ^ j = n := by
  unfold IntGood sg half u64
  obtain rfl | rfl | rfl | rfl | rfl | rfl | rfl | rfl : j = 1 ∨ j = 2 ∨ j = 3 ∨ j = 4 ∨ j = 5 ∨ j = 6 ∨ j = 7 ∨ j = 8 := by omega
  all_goals
    simp only [Nat.reduceMul, Nat.reduceSub, Int.reducePow, Nat.reducePow] at hp ⊢
    split <;> omega
theorem int_again (b : ByteArray) (j : Nat) (w : World) (h1 : 1 ≤ j) (h8 : j ≤ 8) (h : j ≤ b.size) :
    Calls Try.prog 15 #[.int .i64 (sg (numOf (sub b 0 j)) j), .int .i64 j] w fun e w' => e = .returned (.tuple #[.string (str (sub b 0 j)), .int .i64 0]) ∧ Below w.heap.size w w' := by
  obtain ⟨hg, hu⟩ := sg_good h1 h8 (num_sub_lt b 0 j)
  have := int_good _ j w h1 h8 hg
  rw [← be_mod, hu, be_sub b j h] at this
  exact this
theorem cut_back (b : ByteArray) (j : Nat) : b.extract 0 j = str (sub b 0 j) := by
  have := sub_str b 0 j
  rwa [Nat.zero_add] at this
end Go.Proofs.Ytfihncgeicogcaa
