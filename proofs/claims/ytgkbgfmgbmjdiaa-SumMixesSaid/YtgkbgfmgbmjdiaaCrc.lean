/- Plain facts on the CRC of 16 bits: it is linear, a sealed string has the value 0, and a change of two neighboring bytes is seen. No program in sight. -/
import Derived.Test.YtgkbgfmgbmjdiaaPlain
namespace Go.Proofs.Ytgkbgfmgbmjdiaa

theorem xorN_append (a b : List UInt8) : xorN (a ++ b) = xorN a ^^^ xorN b := by
  unfold xorN
  rw [List.foldl_append]
  generalize List.foldl (fun x b => x ^^^ b.toNat) 0 a = r
  suffices ∀ x y, List.foldl (fun x (b : UInt8) => x ^^^ b.toNat) (x ^^^ y) b = x ^^^ List.foldl (fun x b => x ^^^ b.toNat) y b by
    have h := this r 0
    rwa [Nat.xor_zero] at h
  induction b with
  | nil => intro x y; rfl
  | cons c b ih => intro x y; rw [List.foldl_cons, List.foldl_cons, Nat.xor_assoc]; exact ih _ _

def top16 (r : Nat) : Nat := if r.testBit 15 then 4129 else 0
theorem bit16_eq {r : Nat} (h : r < 65536) : bit16 r = (r <<< 1) % 2 ^ 16 ^^^ top16 r := by
  have ht : r.testBit 15 = decide (32768 ≤ r) := by
    rw [Nat.testBit_eq_decide_div_mod_eq]
    by_cases h2 : 32768 ≤ r
    · rw [decide_eq_true h2, decide_eq_true]
      have : r / 2 ^ 15 = 1 := by
        rw [show (2 : Nat) ^ 15 = 32768 from rfl]; omega
      rw [this]
    · rw [decide_eq_false h2, decide_eq_false]
      have : r / 2 ^ 15 = 0 := by
        rw [show (2 : Nat) ^ 15 = 32768 from rfl]; omega
      rw [this]; decide
  unfold top16
  rw [ht, Nat.shiftLeft_eq, show (2 : Nat) ^ 16 = 65536 from rfl, show (2 : Nat) ^ 1 = 2 from rfl]
  by_cases h2 : 32768 ≤ r
  · rw [bit16_hi h2, decide_eq_true h2, if_pos rfl, show r * 2 % 65536 = (r - 32768) * 2 from by omega]
  · rw [bit16_lo h2, decide_eq_false h2, if_neg (by decide), Nat.xor_zero]; omega
theorem top16_xor (a b : Nat) : top16 (a ^^^ b) = top16 a ^^^ top16 b := by
  unfold top16
  rw [Nat.testBit_xor]
  cases a.testBit 15 <;> cases b.testBit 15 <;> decide
theorem xor_lt16 {a b : Nat} (ha : a < 65536) (hb : b < 65536) : a ^^^ b < 65536 := Nat.xor_lt_two_pow (n := 16) ha hb
theorem bit16_xor {a b : Nat} (ha : a < 65536) (hb : b < 65536) : bit16 (a ^^^ b) = bit16 a ^^^ bit16 b := by
  rw [bit16_eq ha, bit16_eq hb, bit16_eq (xor_lt16 ha hb), top16_xor, Nat.shiftLeft_xor_distrib, Nat.xor_mod_two_pow]
  ac_rfl
theorem it16_xor {a b : Nat} (ha : a < 65536) (hb : b < 65536) (k : Nat) : it16 (a ^^^ b) k = it16 a k ^^^ it16 b k := by
  induction k with
  | zero => rfl
  | succ k ih => show bit16 _ = bit16 _ ^^^ bit16 _; rw [ih, bit16_xor (it16_lt ha k) (it16_lt hb k)]
theorem bit16_ne {r : Nat} (h0 : r ≠ 0) : bit16 r ≠ 0 := by
  by_cases h2 : 32768 ≤ r
  · rw [bit16_hi h2]
    intro e
    have : (((r - 32768) * 2) ^^^ 4129).testBit 0 = true := by
      rw [Nat.testBit_xor, Nat.testBit_zero]
      have : (r - 32768) * 2 % 2 = 0 := by omega
      rw [this]; decide
    rw [e] at this
    simp at this
  · rw [bit16_lo h2]; omega
theorem it16_ne {r : Nat} (h0 : r ≠ 0) (k : Nat) : it16 r k ≠ 0 := by
  induction k with
  | zero => exact h0
  | succ k ih => exact bit16_ne ih
theorem it16_zero (k : Nat) : it16 0 k = 0 := by
  induction k with
  | zero => rfl
  | succ k ih => show bit16 _ = 0; rw [ih, bit16_lo (by omega)]
theorem it16_small {r : Nat} (h : r < 256) (k : Nat) (hk : k ≤ 8) : it16 r k = r * 2 ^ k := by
  induction k with
  | zero => show r = _; omega
  | succ k ih =>
    show bit16 (it16 r k) = _
    rw [ih (by omega)]
    have h7 : 2 ^ k ≤ 128 := Nat.pow_le_pow_right (n := 2) (by omega) (show k ≤ 7 by omega)
    have hm : r * 2 ^ k ≤ 255 * 128 := Nat.mul_le_mul (by omega) h7
    rw [bit16_lo (by omega), Nat.pow_succ, Nat.mul_assoc]

theorem hi_lo (c : Nat) : c ^^^ (c / 256 * 256) = c % 256 := by
  apply Nat.eq_of_testBit_eq
  intro i
  rw [show (256 : Nat) = 2 ^ 8 from rfl, Nat.testBit_xor, Nat.testBit_mod_two_pow, Nat.testBit_mul_two_pow, Nat.testBit_div_two_pow]
  by_cases h : i < 8
  · have h1 : ¬ 8 ≤ i := by omega
    simp [h, h1]
  · have h1 : 8 ≤ i := by omega
    have h2 : i - 8 + 8 = i := by omega
    simp [h, h1, h2]

/-- What is put behind a string to seal it. -/
def tailL (c : Nat) : List UInt8 := [UInt8.ofNat (c / 256), UInt8.ofNat (c % 256)]
def sealL (l : List UInt8) : List UInt8 := l ++ tailL (crc16 l)

theorem ofNat_toNat {n : Nat} (h : n < 256) : (UInt8.ofNat n).toNat = n := by
  rw [UInt8.toNat_ofNat']; exact Nat.mod_eq_of_lt h
theorem crc16_append (a b : List UInt8) : crc16 (a ++ b) = b.foldl byte16 (crc16 a) := by
  unfold crc16; rw [List.foldl_append]
theorem sealed_zero (l : List UInt8) : crc16 (sealL l) = 0 := by
  unfold sealL tailL
  have hc := crc16_lt l
  rw [crc16_append, List.foldl_cons, List.foldl_cons, List.foldl_nil]
  generalize crc16 l = c at *
  unfold byte16
  rw [ofNat_toNat (show c / 256 < 256 by omega), ofNat_toNat (show c % 256 < 256 by omega), hi_lo, it16_small (r := c % 256) (by omega) 8 (by omega), show (2 : Nat) ^ 8 = 256 from rfl, Nat.xor_self, it16_zero]

theorem fold_xor (q : List UInt8) : ∀ (a d : Nat), a < 65536 → d < 65536 → d ≠ 0 → q.foldl byte16 (a ^^^ d) ≠ q.foldl byte16 a := by
  induction q with
  | nil =>
    intro a d _ _ h0 e
    rw [List.foldl_nil, List.foldl_nil] at e
    have : a ^^^ (a ^^^ d) = a ^^^ a := by rw [e]
    rw [← Nat.xor_assoc, Nat.xor_self, Nat.zero_xor] at this
    exact h0 this
  | cons b q ih =>
    intro a d ha hd h0
    rw [List.foldl_cons, List.foldl_cons]
    have : byte16 (a ^^^ d) b = byte16 a b ^^^ it16 d 8 := by
      unfold byte16
      rw [← it16_xor (in16_lt ha b) hd, Nat.xor_assoc, Nat.xor_assoc, Nat.xor_comm d]
    rw [this]
    exact ih _ _ (byte16_lt ha b) (it16_lt hd 8) (it16_ne h0 8)

theorem low_ne : ∀ d : Fin 256, d.val ≠ 0 → it16 (d.val * 256) 8 % 256 ≠ 0 := by decide +kernel

theorem pair_ne (x y : Nat) (hx : x < 256) (h : ¬ (x = 0 ∧ y = 0)) : it16 (x * 256) 8 ^^^ (y * 256) ≠ 0 := by
  intro e
  have e2 : it16 (x * 256) 8 = y * 256 := by
    have : (it16 (x * 256) 8 ^^^ (y * 256)) ^^^ (y * 256) = 0 ^^^ (y * 256) := by rw [e]
    rwa [Nat.xor_assoc, Nat.xor_self, Nat.xor_zero, Nat.zero_xor] at this
  by_cases h0 : x = 0
  · subst h0
    rw [Nat.zero_mul, it16_zero] at e2
    omega
  · have := low_ne ⟨x, hx⟩ h0
    apply this
    show it16 (x * 256) 8 % 256 = 0
    rw [e2]; omega

theorem xor_mul (a b : Nat) : (a ^^^ b) * 256 = a * 256 ^^^ b * 256 := by
  have h := Nat.shiftLeft_xor_distrib (a := a) (b := b) (i := 8)
  rw [Nat.shiftLeft_eq, Nat.shiftLeft_eq, Nat.shiftLeft_eq] at h
  exact h

/-- Two neighboring bytes are changed: the value changes. -/
theorem crc16_sees (p q : List UInt8) (a b x y : UInt8) (h : ¬ (x = 0 ∧ y = 0)) :
    crc16 (p ++ (a ^^^ x) :: (b ^^^ y) :: q) ≠ crc16 (p ++ a :: b :: q) := by
  rw [crc16_append, crc16_append, List.foldl_cons, List.foldl_cons, List.foldl_cons, List.foldl_cons]
  have hr := crc16_lt p
  generalize crc16 p = r at *
  have hx := x.toNat_lt
  have hy := y.toNat_lt
  have e1 : byte16 r (a ^^^ x) = byte16 r a ^^^ it16 (x.toNat * 256) 8 := by
    unfold byte16
    rw [← it16_xor (in16_lt hr a) (by omega), UInt8.toNat_xor, xor_mul, Nat.xor_assoc]
  have e2 : byte16 (byte16 r (a ^^^ x)) (b ^^^ y) = byte16 (byte16 r a) b ^^^ it16 (it16 (x.toNat * 256) 8 ^^^ (y.toNat * 256)) 8 := by
    rw [e1]
    have h1 : it16 (x.toNat * 256) 8 < 65536 := it16_lt (by omega) 8
    have h2 := byte16_lt hr a
    show it16 _ 8 = it16 _ 8 ^^^ _
    rw [← it16_xor (in16_lt h2 b) (xor_lt16 h1 (by omega)), UInt8.toNat_xor, xor_mul]
    congr 1
    ac_rfl
  rw [e2]
  have hne : ¬ (x.toNat = 0 ∧ y.toNat = 0) := fun ⟨h1, h2⟩ => h ⟨UInt8.toNat_inj.1 h1, UInt8.toNat_inj.1 h2⟩
  have hd := pair_ne _ _ hx hne
  have hl : it16 (x.toNat * 256) 8 ^^^ (y.toNat * 256) < 65536 := xor_lt16 (it16_lt (by omega) 8) (by omega)
  exact fold_xor q _ _ (byte16_lt (byte16_lt hr a) b) (it16_lt hl 8) (it16_ne hd 8)
end Go.Proofs.Ytgkbgfmgbmjdiaa
