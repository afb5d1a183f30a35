import Derived.WalkKit
import Derived.RowKit
import Derived.Laws.BitsAllLaws
namespace Go.Proofs.Ytgkbgfmgbmjdiaa
open Go.RowKit

def xorN (l : List UInt8) : Nat := l.foldl (fun x b => x ^^^ b.toNat) 0

theorem take_snoc (s : ByteArray) (k : Nat) (h : k < s.size) : s.data.toList.take (k + 1) = s.data.toList.take k ++ [s[k]] := by
  rw [List.take_succ_eq_append_getElem (by simpa using h)]; rfl
theorem xorN_snoc (l : List UInt8) (c : UInt8) : xorN (l ++ [c]) = xorN l ^^^ c.toNat := by unfold xorN; rw [List.foldl_append, List.foldl_cons, List.foldl_nil]
theorem xorN_lt (l : List UInt8) : xorN l < 256 := by
  suffices ∀ a < 256, l.foldl (fun x b => x ^^^ b.toNat) a < 256 from this 0 (by omega)
  induction l with
  | nil => intro a h; simpa
  | cons b l ih => intro a h; rw [List.foldl_cons]; exact ih _ (Nat.xor_lt_two_pow (n := 8) h b.toNat_lt)

def bit16 (r : Nat) : Nat := if 32768 ≤ r then ((r - 32768) * 2) ^^^ 4129 else r * 2
theorem bit16_hi {r : Nat} (h : 32768 ≤ r) : bit16 r = ((r - 32768) * 2) ^^^ 4129 := if_pos h
theorem bit16_lo {r : Nat} (h : ¬ 32768 ≤ r) : bit16 r = r * 2 := if_neg h
theorem bit16_lt {r : Nat} (h : r < 65536) : bit16 r < 65536 := by
  by_cases h2 : 32768 ≤ r
  · rw [bit16_hi h2]; exact Nat.xor_lt_two_pow (n := 16) (by omega) (by omega)
  · rw [bit16_lo h2]; omega
attribute [irreducible] bit16
def it16 (r : Nat) : Nat → Nat
  | 0 => r
  | k + 1 => bit16 (it16 r k)
def byte16 (r : Nat) (b : UInt8) : Nat := it16 (r ^^^ (b.toNat * 256)) 8
def crc16 (l : List UInt8) : Nat := l.foldl byte16 65535
theorem it16_lt {r : Nat} (h : r < 65536) (k : Nat) : it16 r k < 65536 := by
  induction k with
  | zero => exact h
  | succ k ih => exact bit16_lt ih
theorem in16_lt {r : Nat} (h : r < 65536) (b : UInt8) : r ^^^ (b.toNat * 256) < 65536 :=
  Nat.xor_lt_two_pow (n := 16) h (by have := b.toNat_lt; omega)
theorem byte16_lt {r : Nat} (h : r < 65536) (b : UInt8) : byte16 r b < 65536 := it16_lt (in16_lt h b) 8
theorem crc16_snoc (l : List UInt8) (c : UInt8) : crc16 (l ++ [c]) = byte16 (crc16 l) c := by unfold crc16; rw [List.foldl_append, List.foldl_cons, List.foldl_nil]
theorem fold16_lt (l : List UInt8) : ∀ a < 65536, l.foldl byte16 a < 65536 := by
  induction l with
  | nil => intro a h; simpa
  | cons b l ih => intro a h; rw [List.foldl_cons]; exact ih _ (byte16_lt h b)
theorem crc16_lt (l : List UInt8) : crc16 l < 65536 := by unfold crc16; exact fold16_lt l 65535 (by decide)

def bit32 (r : Nat) : Nat := if r % 2 = 1 then (r / 2) ^^^ 3988292384 else r / 2
theorem bit32_odd {r : Nat} (h : r % 2 = 1) : bit32 r = (r / 2) ^^^ 3988292384 := if_pos h
theorem bit32_even {r : Nat} (h : ¬ r % 2 = 1) : bit32 r = r / 2 := if_neg h
theorem bit32_lt {r : Nat} (h : r < 4294967296) : bit32 r < 4294967296 := by
  by_cases h2 : r % 2 = 1
  · rw [bit32_odd h2]; exact Nat.xor_lt_two_pow (n := 32) (by omega) (by omega)
  · rw [bit32_even h2]; omega
attribute [irreducible] bit32
def it32 (r : Nat) : Nat → Nat
  | 0 => r
  | k + 1 => bit32 (it32 r k)
def byte32 (r : Nat) (b : UInt8) : Nat := it32 (r ^^^ b.toNat) 8
def reg32 (l : List UInt8) : Nat := l.foldl byte32 4294967295
def crc32 (l : List UInt8) : Nat := 4294967295 - reg32 l
theorem it32_lt {r : Nat} (h : r < 4294967296) (k : Nat) : it32 r k < 4294967296 := by
  induction k with
  | zero => exact h
  | succ k ih => exact bit32_lt ih
theorem in32_lt {r : Nat} (h : r < 4294967296) (b : UInt8) : r ^^^ b.toNat < 4294967296 :=
  Nat.xor_lt_two_pow (n := 32) h (by have := b.toNat_lt; omega)
theorem byte32_lt {r : Nat} (h : r < 4294967296) (b : UInt8) : byte32 r b < 4294967296 := it32_lt (in32_lt h b) 8
theorem reg32_snoc (l : List UInt8) (c : UInt8) : reg32 (l ++ [c]) = byte32 (reg32 l) c := by unfold reg32; rw [List.foldl_append, List.foldl_cons, List.foldl_nil]
theorem reg32_lt (l : List UInt8) : reg32 l < 4294967296 := by
  unfold reg32
  suffices ∀ a < 4294967296, l.foldl byte32 a < 4294967296 from this 4294967295 (by decide)
  induction l with
  | nil => intro a h; simpa
  | cons b l ih => intro a h; rw [List.foldl_cons]; exact ih _ (byte32_lt h b)

def stepH (h : Nat) (b : UInt8) : Nat := (h ^^^ b.toNat) * 1099511628211 % 18446744073709551616
def hashN (l : List UInt8) : Nat := l.foldl stepH 14695981039346656037
theorem hashN_snoc (l : List UInt8) (c : UInt8) : hashN (l ++ [c]) = stepH (hashN l) c := by unfold hashN; rw [List.foldl_append, List.foldl_cons, List.foldl_nil]
theorem stepH_lt (h : Nat) (b : UInt8) : stepH h b < 18446744073709551616 := Nat.mod_lt _ (by decide)
theorem hashN_lt (l : List UInt8) : hashN l < 18446744073709551616 := by
  unfold hashN
  suffices ∀ a < 18446744073709551616, l.foldl stepH a < 18446744073709551616 from this 14695981039346656037 (by decide)
  induction l with
  | nil => intro a h; simpa
  | cons b l ih => intro a h; rw [List.foldl_cons]; exact ih _ (stepH_lt a b)

theorem ofInt_i64 (a : Nat) (ha : a < 9223372036854775808) : (BitVec.ofInt 64 (a : Int)).toNat = a := by
  rw [BitVec.ofInt_natCast, BitVec.toNat_ofNat]; exact Nat.mod_eq_of_lt (by omega)
theorem i64_xor_nat (a b : Nat) (ha : a < 9223372036854775808) (hb : b < 9223372036854775808) : bits .xor .i64 (a : Int) (b : Int) = ((a ^^^ b : Nat) : Int) := by
  have hx : a ^^^ b < 2 ^ 63 := Nat.xor_lt_two_pow (by omega) (by omega)
  show IntKind.i64.wrap ((BitVec.ofInt 64 (a : Int) ^^^ BitVec.ofInt 64 (b : Int)).toNat : Int) = _
  rw [BitVec.toNat_xor, ofInt_i64 a ha, ofInt_i64 b hb, IntKind.wrap_i64]
  omega
theorem ret_int {k : IntKind} {a b : Int} (h : a = b) : Ending.returned (.int k a) = .returned (.int k b) := by rw [h]
theorem val_int {k : IntKind} {a b : Int} (h : a = b) : Value.int k a = .int k b := by rw [h]
theorem take_all {s : ByteArray} {k : Nat} (h : k ≤ s.size) (h' : ¬k < s.size) : s.data.toList.take k = s.data.toList := List.take_of_length_le (by simp; omega)
theorem w64_byte (b : UInt8) : wrap64 (b.toNat : Int) = (b.toNat : Int) := by have := b.toNat_lt; unfold wrap64; omega
theorem u16_in (b : UInt8) : IntKind.u16.wrap (IntKind.u16.wrap (b.toNat : Int) * 256) = ((b.toNat * 256 : Nat) : Int) := by
  have := b.toNat_lt
  rw [IntKind.wrap_u16, IntKind.wrap_u16]; omega
theorem u16_fold (r : Nat) (b : UInt8) (h : r < 65536) : bits .xor .u16 (r : Int) (IntKind.u16.wrap (IntKind.u16.wrap (b.toNat : Int) * 256)) = ((r ^^^ (b.toNat * 256) : Nat) : Int) := by
  rw [u16_in, u16_xor_nat _ _ h (by have := b.toNat_lt; omega)]
theorem and_top (r : Nat) (hr : r < 65536) : bits .and .u16 (r : Int) 32768 = ((r / 32768 * 32768 : Nat) : Int) := by
  rw [show (32768 : Int) = ((32768 : Nat) : Int) from rfl, u16_and_nat _ _ hr (by omega)]
  have := nat_bit 15 r
  rw [show (2 : Nat) ^ 15 = 32768 from rfl] at this
  rw [this]; omega
theorem step16_hi {r : Nat} (hr : r < 65536) (h : (bits .and .u16 (r : Int) 32768 != 0) = true) :
    bits .xor .u16 (IntKind.u16.wrap ((r : Int) * 2)) 4129 = ((bit16 r : Nat) : Int) := by
  rw [and_top r hr, bne_iff_ne] at h
  have h2 : 32768 ≤ r := by omega
  rw [bit16_hi h2, show IntKind.u16.wrap ((r : Int) * 2) = (((r - 32768) * 2 : Nat) : Int) from by rw [IntKind.wrap_u16]; omega,
    show (4129 : Int) = ((4129 : Nat) : Int) from rfl, u16_xor_nat _ _ (by omega) (by omega)]
theorem step16_lo {r : Nat} (hr : r < 65536) (h : (bits .and .u16 (r : Int) 32768 != 0) = false) :
    IntKind.u16.wrap ((r : Int) * 2) = ((bit16 r : Nat) : Int) := by
  rw [and_top r hr, bne_eq_false_iff_eq] at h
  have h2 : ¬ 32768 ≤ r := by omega
  rw [bit16_lo h2, IntKind.wrap_u16]; omega
theorem and_one (r : Nat) (hr : r < 4294967296) : bits .and .u32 (r : Int) 1 = ((r % 2 : Nat) : Int) := by
  rw [show (1 : Int) = ((1 : Nat) : Int) from rfl, u32_and_nat _ _ hr (by omega), nat_mask1]
theorem u32_fold (r : Nat) (b : UInt8) (h : r < 4294967296) : bits .xor .u32 (r : Int) ((b.toNat : Int) % 4294967296) = ((r ^^^ b.toNat : Nat) : Int) := by
  have := b.toNat_lt
  rw [show (b.toNat : Int) % 4294967296 = ((b.toNat : Nat) : Int) from by omega, u32_xor_nat _ _ h (by omega)]
theorem xor_ones (r : Nat) (h : r < 4294967296) : 4294967295 ^^^ r = 4294967295 - r := by
  have h1 : (BitVec.ofNat 32 r).toNat = r := by rw [BitVec.toNat_ofNat]; exact Nat.mod_eq_of_lt (by omega)
  have h2 : (~~~ (BitVec.ofNat 32 r)).toNat = 4294967295 - r := by rw [BitVec.toNat_not, h1]
  have h3 : ~~~ (BitVec.ofNat 32 r) = BitVec.allOnes 32 ^^^ BitVec.ofNat 32 r := by
    rfl
  rw [h3, BitVec.toNat_xor, h1, BitVec.toNat_allOnes] at h2
  exact h2
theorem not32 (r : Nat) (h : r < 4294967296) : bits .xor .u32 IntKind.u32.max (r : Int) = ((4294967295 - r : Nat) : Int) := by
  rw [show IntKind.u32.max = ((4294967295 : Nat) : Int) from rfl, u32_xor_nat _ _ (by omega) h, xor_ones r h]
theorem u64_step (h : Nat) (b : UInt8) (hh : h < 18446744073709551616) :
    IntKind.u64.wrap (bits .xor .u64 (h : Int) (IntKind.u64.wrap (b.toNat : Int)) * 1099511628211) = ((stepH h b : Nat) : Int) := by
  have := b.toNat_lt
  rw [show IntKind.u64.wrap (b.toNat : Int) = ((b.toNat : Nat) : Int) from by rw [IntKind.wrap_u64]; omega, u64_xor_nat _ _ hh (by omega), IntKind.wrap_u64]
  unfold stepH
  generalize h ^^^ b.toNat = x
  omega
theorem step32_odd {r : Nat} (hr : r < 4294967296) (h : (bits .and .u32 (r : Int) 1 != 0) = true) :
    bits .xor .u32 ((r : Int) / 2) 3988292384 = ((bit32 r : Nat) : Int) := by
  rw [and_one r hr, bne_iff_ne] at h
  rw [bit32_odd (by omega), ← u32_xor_nat _ _ (by omega) (by omega)]; rfl
theorem step32_even {r : Nat} (hr : r < 4294967296) (h : (bits .and .u32 (r : Int) 1 != 0) = false) :
    (r : Int) / 2 = ((bit32 r : Nat) : Int) := by
  rw [and_one r hr, bne_eq_false_iff_eq] at h
  rw [bit32_even (by omega)]; omega
theorem istep32_odd {r : Nat} (hr : r < 4294967296) (h : r % 2 = 1) :
    bits .xor .i64 ((r : Int) / 2) 3988292384 = ((bit32 r : Nat) : Int) := by
  rw [bit32_odd h, ← i64_xor_nat _ _ (by omega) (by omega)]; rfl
theorem istep32_even {r : Nat} (h : ¬ r % 2 = 1) : (r : Int) / 2 = ((bit32 r : Nat) : Int) := by
  rw [bit32_even h]; omega
theorem i64_fold (r : Nat) (b : UInt8) (h : r < 4294967296) : bits .xor .i64 (r : Int) (wrap64 (b.toNat : Int)) = ((r ^^^ b.toNat : Nat) : Int) := by
  have := b.toNat_lt
  rw [w64_byte, i64_xor_nat _ _ (by omega) (by omega)]
attribute [irreducible] stepH
end Go.Proofs.Ytgkbgfmgbmjdiaa
