/- Plain facts on big-endian bytes of a number. No program in sight. -/
import Derived.WalkKit
import Derived.RowKit
import Derived.Laws.BitsAllLaws
import Derived.Laws.IdiomStrings
import Derived.Lib.Strings
import Derived.Lib.IndexBytes
import Derived.Lib.Hide
namespace Go.Proofs.Ytfihncgeicogcaa
open Go.RowKit

def str (l : List UInt8) : ByteArray := ⟨l.toArray⟩
theorem str_list (l : List UInt8) : (str l).data.toList = l := rfl
theorem str_size (l : List UInt8) : (str l).size = l.length := by simp [str, ByteArray.size]
theorem str_toList (l : List UInt8) : (str l).toList = l := by rw [Lib.toList_data]; rfl
theorem ret_str {a b : ByteArray} (h : a = b) : Ending.returned (.string a) = .returned (.string b) := by rw [h]
theorem ret_int {k : IntKind} {a b : Int} (h : a = b) : Ending.returned (.int k a) = .returned (.int k b) := by rw [h]
theorem val_int {k : IntKind} {a b : Int} (h : a = b) : Value.int k a = .int k b := by rw [h]
theorem ret2 {a b : ByteArray} {x y : Int} (h1 : a = b) (h2 : x = y) : Ending.returned (.tuple #[.string a, .int .i64 x]) = .returned (.tuple #[.string b, .int .i64 y]) := by rw [h1, h2]
theorem ofNat_toNat {n : Nat} (h : n < 256) : (UInt8.ofNat n).toNat = n := by
  rw [UInt8.toNat_ofNat']; exact Nat.mod_eq_of_lt h
theorem add_str (a b : List UInt8) : str a ++ str b = str (a ++ b) := by
  apply ByteArray.ext
  apply Array.toList_inj.1
  simp [str]
theorem str_self (s : ByteArray) : str s.data.toList = s := rfl

def byteAt (a i : Nat) : Nat := a / 2 ^ (8 * i) % 256
theorem byteAt_lt (a i : Nat) : byteAt a i < 256 := Nat.mod_lt _ (by decide)
theorem byteAt_next (a i : Nat) : a / 2 ^ (8 * i) / 256 = a / 2 ^ (8 * (i + 1)) := by
  rw [Nat.div_div_eq_div_mul, show (256 : Nat) = 2 ^ 8 from rfl, ← Nat.pow_add]; rfl
/-- The bytes with the places w - 1 down to 0: the most significant one first. -/
def be (a : Nat) : Nat → List UInt8
  | 0 => []
  | w + 1 => UInt8.ofNat (byteAt a w) :: be a w
theorem be_length (a w : Nat) : (be a w).length = w := by
  induction w with
  | zero => rfl
  | succ w ih => show (be a w).length + 1 = w + 1; rw [ih]
theorem be_get (a w j : Nat) (h : j < (be a w).length) : (be a w)[j] = UInt8.ofNat (byteAt a (w - 1 - j)) := by
  induction w generalizing j with
  | zero => exact absurd h (by simp [be])
  | succ w ih =>
    cases j with
    | zero => show UInt8.ofNat (byteAt a w) = _; rw [show w + 1 - 1 - 0 = w from by omega]
    | succ j =>
      show (be a w)[j]'_ = _
      rw [ih j (by have h' : j + 1 < (be a w).length + 1 := h; omega), show w - 1 - j = w + 1 - 1 - (j + 1) from by omega]
/-- The first j of them. -/
theorem be_take_succ (a w j : Nat) (h : j < w) : (be a w).take (j + 1) = (be a w).take j ++ [UInt8.ofNat (byteAt a (w - 1 - j))] := by
  have hl : j < (be a w).length := by rw [be_length]; exact h
  rw [List.take_succ_eq_append_getElem hl, be_get]
/-- The number that bytes encode. -/
def numOf (l : List UInt8) : Nat := l.foldl (fun n b => n * 256 + b.toNat) 0
theorem numOf_snoc (l : List UInt8) (b : UInt8) : numOf (l ++ [b]) = numOf l * 256 + b.toNat := by
  unfold numOf; rw [List.foldl_append, List.foldl_cons, List.foldl_nil]
theorem fold_shift (l : List UInt8) : ∀ a, l.foldl (fun n b => n * 256 + b.toNat) a = a * 256 ^ l.length + numOf l := by
  induction l with
  | nil => intro a; show a = a * 1 + 0; omega
  | cons b l ih =>
    intro a
    unfold numOf
    rw [List.foldl_cons, List.foldl_cons, ih, ih (0 * 256 + b.toNat), List.length_cons, Nat.pow_succ, Nat.add_mul, Nat.zero_mul, Nat.zero_add, Nat.add_assoc, Nat.mul_assoc, Nat.mul_comm 256]
theorem numOf_cons (b : UInt8) (l : List UInt8) : numOf (b :: l) = b.toNat * 256 ^ l.length + numOf l := by
  have h := fold_shift l (0 * 256 + b.toNat)
  rw [Nat.zero_mul, Nat.zero_add] at h
  show List.foldl _ (0 * 256 + b.toNat) l = _
  rw [Nat.zero_mul, Nat.zero_add]; exact h
theorem numOf_lt (l : List UInt8) : numOf l < 256 ^ l.length := by
  induction l with
  | nil => show (0 : Nat) < 1; omega
  | cons b l ih =>
    rw [numOf_cons, List.length_cons, Nat.pow_succ]
    have hb := b.toNat_lt
    have : b.toNat * 256 ^ l.length ≤ 255 * 256 ^ l.length := Nat.mul_le_mul_right _ (by omega)
    omega
theorem pow_256 (w : Nat) : 256 ^ w = 2 ^ (8 * w) := by
  rw [show (256 : Nat) = 2 ^ 8 from rfl, ← Nat.pow_mul]
theorem numOf_be (a w : Nat) : numOf (be a w) = a % 256 ^ w := by
  induction w with
  | zero => show (0 : Nat) = a % 1; omega
  | succ w ih =>
    show numOf (UInt8.ofNat (byteAt a w) :: be a w) = _
    rw [numOf_cons, be_length, ih, ofNat_toNat (byteAt_lt a w), Nat.pow_succ, Nat.mod_mul]
    unfold byteAt
    rw [← pow_256, Nat.mul_comm]
    omega
theorem numOf_inj {l m : List UInt8} (hl : l.length = m.length) (h : numOf l = numOf m) : l = m := by
  induction l generalizing m with
  | nil => exact (List.length_eq_zero_iff.1 hl.symm).symm
  | cons b l ih =>
    cases m with
    | nil => simp at hl
    | cons c m =>
      have hl' : l.length = m.length := by simpa using hl
      rw [numOf_cons, numOf_cons, hl'] at h
      have h1 := numOf_lt l
      have h2 := numOf_lt m
      rw [hl'] at h1
      have hb : b.toNat = c.toNat := by
        have e1 : (b.toNat * 256 ^ m.length + numOf l) / 256 ^ m.length = b.toNat := by
          rw [Nat.add_comm, Nat.add_mul_div_right _ _ (Nat.pow_pos (by decide)), Nat.div_eq_of_lt h1, Nat.zero_add]
        have e2 : (c.toNat * 256 ^ m.length + numOf m) / 256 ^ m.length = c.toNat := by
          rw [Nat.add_comm, Nat.add_mul_div_right _ _ (Nat.pow_pos (by decide)), Nat.div_eq_of_lt h2, Nat.zero_add]
        rw [← e1, ← e2, h]
      rw [hb] at h
      rw [UInt8.toNat_inj.1 hb, ih hl' (by omega)]
theorem be_numOf (l : List UInt8) : be (numOf l) l.length = l :=
  numOf_inj (by rw [be_length]) (by rw [numOf_be]; exact Nat.mod_eq_of_lt (numOf_lt l))
theorem be_mod (a w : Nat) : be (a % 256 ^ w) w = be a w :=
  numOf_inj (by rw [be_length, be_length]) (by rw [numOf_be, numOf_be, Nat.mod_mod])
theorem ret_bool {a b : Bool} (h : a = b) : Ending.returned (.bool a) = .returned (.bool b) := by rw [h]
theorem pow_le64 {k : Nat} (h : k ≤ 7) : 256 ^ k ≤ 72057594037927936 := by
  have : (256 : Nat) ^ k ≤ 256 ^ 7 := Nat.pow_le_pow_right (by decide) h
  have e : (256 : Nat) ^ 7 = 72057594037927936 := by decide
  omega
theorem wrap_pow {k : Nat} (h : k ≤ 7) : IntKind.u64.wrap ((2 : Int) ^ (8 * k)) = ((256 ^ k : Nat) : Int) := by
  have h1 := pow_le64 h
  rw [show ((2 : Int) ^ (8 * k)) = ((256 ^ k : Nat) : Int) from by rw [pow_256, Int.natCast_pow]; rfl, IntKind.wrap_u64]
  generalize 256 ^ k = x at *
  omega
theorem fits8 (n : Nat) (h : n < 18446744073709551616) : decide (n < 256 ^ 8) = true := by
  have e : (256 : Nat) ^ 8 = 18446744073709551616 := by decide
  rw [e]; exact decide_eq_true h
theorem fits7 {n k : Nat} (h : k ≤ 7) : ((k : Int) == 8 || decide ((n : Int) < IntKind.u64.wrap ((2 : Int) ^ (8 * k)))) = decide (n < 256 ^ k) := by
  rw [wrap_pow h, show ((k : Int) == 8) = false from by rw [beq_eq_false_iff_ne]; omega, Bool.false_or]
  generalize 256 ^ k = x
  apply Bool.eq_iff_iff.2
  simp only [decide_eq_true_eq]
  omega
theorem take_snoc (s : ByteArray) (k : Nat) (h : k < s.size) : s.data.toList.take (k + 1) = s.data.toList.take k ++ [s[k]] := by
  rw [List.take_succ_eq_append_getElem (by simpa using h)]; rfl
theorem take_all {s : ByteArray} {k : Nat} (_h : k ≤ s.size) (h' : ¬k < s.size) : s.data.toList.take k = s.data.toList := List.take_of_length_le (by simp; omega)
theorem num_round {n k : Nat} {b : UInt8} (h : n < 256 ^ k) (hk : k ≤ 7) : IntKind.u64.wrap (IntKind.u64.wrap ((n : Int) * 256) + IntKind.u64.wrap (b.toNat : Int)) = ((n * 256 + b.toNat : Nat) : Int) := by
  have h1 := pow_le64 hk
  have h2 := b.toNat_lt
  rw [IntKind.wrap_u64, IntKind.wrap_u64, IntKind.wrap_u64]
  generalize 256 ^ k = x at *
  omega
theorem num_take_lt (l : List UInt8) (k : Nat) : numOf (l.take k) < 256 ^ k := by
  have h := numOf_lt (l.take k)
  have : 256 ^ (l.take k).length ≤ 256 ^ k := Nat.pow_le_pow_right (by decide) (List.length_take_le k l)
  omega
attribute [irreducible] numOf byteAt
end Go.Proofs.Ytfihncgeicogcaa
