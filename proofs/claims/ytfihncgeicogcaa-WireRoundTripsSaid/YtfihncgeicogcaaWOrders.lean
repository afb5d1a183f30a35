/- The walk of WireOrders: the law returns true, and nothing that was in memory has changed. -/
import Derived.Test.YtfihncgeicogcaaUints
namespace Go.Proofs.Ytfihncgeicogcaa
open Go.ChangeShapes Go.WideShapes Go.ChangeAt Go.RowKit

theorem less_num (l m : List UInt8) (h : l.length = m.length) : Op.bytesLess l m = decide (numOf l < numOf m) := by
  induction l generalizing m with
  | nil =>
    have e : m = [] := List.length_eq_zero_iff.1 h.symm
    subst e
    exact (decide_eq_false (Nat.lt_irrefl _)).symm
  | cons a x ih =>
    cases m with
    | nil => simp at h
    | cons b y =>
      have hl : x.length = y.length := by simpa using h
      show (decide (a < b) || (a == b && Op.bytesLess x y)) = _
      rw [ih y hl, numOf_cons, numOf_cons, hl]
      have h1 := numOf_lt x
      have h2 := numOf_lt y
      rw [hl] at h1
      generalize 256 ^ y.length = p at *
      generalize numOf x = u at *
      generalize numOf y = v at *
      rcases Nat.lt_trichotomy a.toNat b.toNat with hab | hab | hab
      · have e1 : decide (a < b) = true := decide_eq_true (UInt8.lt_iff_toNat_lt.2 hab)
        rw [e1, Bool.true_or]
        have : (a.toNat + 1) * p ≤ b.toNat * p := Nat.mul_le_mul_right _ hab
        rw [Nat.add_mul, Nat.one_mul] at this
        exact (decide_eq_true (by omega)).symm
      · have e : a = b := UInt8.toNat_inj.1 hab
        subst e
        have e1 : decide (a < a) = false := decide_eq_false (by rw [UInt8.lt_iff_toNat_lt]; omega)
        rw [e1, Bool.false_or, beq_self_eq_true, Bool.true_and]
        apply Bool.eq_iff_iff.2
        simp only [decide_eq_true_eq]
        omega
      · have e1 : decide (a < b) = false := decide_eq_false (by rw [UInt8.lt_iff_toNat_lt]; omega)
        have e2 : (a == b) = false := by rw [beq_eq_false_iff_ne]; intro e; subst e; omega
        rw [e1, e2, Bool.false_or, Bool.false_and]
        have : (b.toNat + 1) * p ≤ a.toNat * p := Nat.mul_le_mul_right _ hab
        rw [Nat.add_mul, Nat.one_mul] at this
        exact (decide_eq_false (by omega)).symm
theorem less_be {a b k : Nat} (ha : a < 256 ^ k) (hb : b < 256 ^ k) : Op.bytesLess (str (be a k)).toList (str (be b k)).toList = decide ((a : Int) < (b : Int)) := by
  rw [str_toList, str_toList, less_num _ _ (by rw [be_length, be_length]), numOf_be, numOf_be, Nat.mod_eq_of_lt ha, Nat.mod_eq_of_lt hb]
  apply Bool.eq_iff_iff.2
  simp only [decide_eq_true_eq]
  omega

/-- The number has an encoding with so many bytes. -/
def Good (n k : Int) : Prop := 1 ≤ k ∧ k ≤ 8 ∧ 0 ≤ n ∧ n.toNat < 256 ^ k.toNat
theorem uint_bad (n k : Int) (w : World) (hn : n < 9223372036854775808) (h : ¬ Good n k) :
    Calls Try.prog 11 #[.int .i64 n, .int .i64 k] w fun e w' => ∃ c : Int, e = .returned (.tuple #[.string ⟨#[]⟩, .int .i64 c]) ∧ (c != 0) = true ∧ (c == 0) = false ∧ w = w' := by
  by_cases hk : k < 1 ∨ 8 < k
  · exact (uint_width n k w hk).mono fun _ _ ⟨he, hw⟩ => ⟨1, he, by decide, by decide, hw⟩
  · by_cases h0 : n < 0
    · exact (uint_neg n k w (by omega) (by omega) h0).mono fun _ _ ⟨he, hw⟩ => ⟨3, he, by decide, by decide, hw⟩
    · obtain ⟨m, rfl⟩ := Int.eq_ofNat_of_zero_le (show 0 ≤ n by omega)
      obtain ⟨j, rfl⟩ := Int.eq_ofNat_of_zero_le (show 0 ≤ k by omega)
      have hg : ¬ m < 256 ^ j := fun hl => h ⟨by omega, by omega, by omega, by rw [Int.toNat_natCast, Int.toNat_natCast]; exact hl⟩
      exact (uint_over m j w (by omega) (by omega) (by omega) (Lib.hid hg)).mono fun _ _ ⟨he, hw⟩ => ⟨3, he, by decide, by decide, hw⟩
theorem good_nat {n k : Int} (h : Good n k) (hn : n < 9223372036854775808) : ∃ m j : Nat, n = m ∧ k = j ∧ 1 ≤ j ∧ j ≤ 8 ∧ m < 9223372036854775808 ∧ Hid (m < 256 ^ j) := by
  obtain ⟨h1, h8, h0, hp⟩ := h
  obtain ⟨m, rfl⟩ := Int.eq_ofNat_of_zero_le h0
  obtain ⟨j, rfl⟩ := Int.eq_ofNat_of_zero_le (show 0 ≤ k by omega)
  rw [Int.toNat_natCast, Int.toNat_natCast] at hp
  exact ⟨m, j, rfl, rfl, by omega, by omega, by omega, Lib.hid hp⟩

theorem wireOrders_walk (a0 : Int) (a1 : Int) (a2 : Int) (w : World) (w0 : (Lit.int .i64 a0).wf = true) (w1 : (Lit.int .i64 a1).wf = true) (_w2 : (Lit.int .i64 a2).wf = true) :
    Calls Try.prog 4 #[.int .i64 a0, .int .i64 a1, .int .i64 a2] w fun e w' => e = .returned (.bool true) ∧ Below w.heap.size w w' := by
  have b0 : a0 < 9223372036854775808 := by have := bounds_i64 w0; omega
  have b1 : a1 < 9223372036854775808 := by have := bounds_i64 w1; omega
  clear w0 w1
  by_cases g0 : Good a0 a2
  · by_cases g1 : Good a1 a2
    · obtain ⟨n, k, rfl, rfl, k1, k8, hn, hnk⟩ := good_nat g0 b0
      obtain ⟨m, k', rfl, hk', _, _, hm, hmk⟩ := good_nat g1 b1
      have ek : k = k' := by omega
      subst ek
      have hl := less_be hnk.out hmk.out
      have s1 : (str (be n k)).size = k := by rw [str_size, be_length]
      have s2 : (str (be m k)).size = k := by rw [str_size, be_length]
      clear g0 g1 b0 b1 hk'
      go_enter Try.func4, Try.ntmps4
      go_wp2_with fail
      refine (uint_good _ _ _ k1 k8 hn hnk).mono ?_
      rintro e w1 ⟨rfl, hb1⟩
      go_wp2_with fail
      refine (uint_good _ _ _ k1 k8 hm hmk).mono ?_
      rintro e w2 ⟨rfl, hb2⟩
      go_wp2_with (go_at_call 13; refine (awake_any _).mono ?_; rintro e w3 ⟨rfl, hb3⟩)
      go_ret
      exact ⟨rfl, below_next (below_next hb1 hb2) hb3⟩
    · obtain ⟨n, k, rfl, rfl, k1, k8, hn, hnk⟩ := good_nat g0 b0
      have G := Lib.hid g1
      clear g0 g1 b0
      go_enter Try.func4, Try.ntmps4
      go_wp2_with fail
      refine (uint_good _ _ _ k1 k8 hn hnk).mono ?_
      rintro e w1 ⟨rfl, hb1⟩
      go_wp2_with fail
      refine (uint_bad _ _ _ b1 G.out).mono ?_
      rintro e w' ⟨c, rfl, hc, _, rfl⟩
      go_wp2_with (go_at_call 13; refine (awake_any _).mono ?_; rintro e w3 ⟨rfl, hb3⟩)
      go_ret
      exact ⟨rfl, below_next hb1 hb3⟩
  · have G := Lib.hid g0
    clear g0
    by_cases g1 : Good a1 a2
    · obtain ⟨n, k, rfl, rfl, k1, k8, hn, hnk⟩ := good_nat g1 b1
      clear g1 b1
      go_enter Try.func4, Try.ntmps4
      go_wp2_with fail
      refine (uint_bad _ _ _ b0 G.out).mono ?_
      rintro e w' ⟨c, rfl, hc, _, rfl⟩
      go_wp2_with fail
      refine (uint_good _ _ _ k1 k8 hn hnk).mono ?_
      rintro e w1 ⟨rfl, hb1⟩
      go_wp2_with (go_at_call 13; refine (awake_any _).mono ?_; rintro e w3 ⟨rfl, hb3⟩)
      go_ret
      exact ⟨rfl, below_next hb1 hb3⟩
    · have G1 := Lib.hid g1
      clear g1
      go_enter Try.func4, Try.ntmps4
      go_wp2_with fail
      refine (uint_bad _ _ _ b0 G.out).mono ?_
      rintro e w' ⟨c, rfl, hc, _, rfl⟩
      go_wp2_with fail
      refine (uint_bad _ _ _ b1 G1.out).mono ?_
      rintro e w' ⟨d, rfl, hd, _, rfl⟩
      go_wp2_with (go_at_call 13; refine (awake_any _).mono ?_; rintro e w3 ⟨rfl, hb3⟩)
      go_ret
      exact ⟨rfl, hb3⟩
end Go.Proofs.Ytfihncgeicogcaa
