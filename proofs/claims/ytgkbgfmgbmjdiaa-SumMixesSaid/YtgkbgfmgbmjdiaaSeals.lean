/- The contracts of tail, Seal, Open (program and reference), changed. -/
import Derived.Test.YtgkbgfmgbmjdiaaSums
import Derived.Test.YtgkbgfmgbmjdiaaCrc
import Derived.Laws.IdiomStrings
import Derived.Lib.Strings
import Derived.Lib.IndexBytes
import Derived.Deep.RegionWith
import Derived.Deep.DeepFit
namespace Go.Proofs.Ytgkbgfmgbmjdiaa
open Go.ChangeShapes Go.WideShapes Go.ChangeAt Go.RowKit

def str (l : List UInt8) : ByteArray := ⟨l.toArray⟩
theorem str_list (l : List UInt8) : (str l).data.toList = l := rfl
theorem str_self (s : ByteArray) : str s.data.toList = s := rfl
theorem str_size (l : List UInt8) : (str l).size = l.length := by simp [str, ByteArray.size]
theorem ret_str {a b : ByteArray} (h : a = b) : Ending.returned (.string a) = .returned (.string b) := by rw [h]

theorem conv2 (c : Nat) (hc : c < 65536) (w : World) :
    (convert 42 9 (.slice (some ⟨w.heap.size, 0, none⟩) 2 2)).run Try.prog (w.alloc (.cells #[.int .u8 ((c : Int) / 256), .int .u8 ((c : Int) % 256)] 5)) =
      .ok (.string (str (tailL c))) (w.alloc (.cells #[.int .u8 ((c : Int) / 256), .int .u8 ((c : Int) % 256)] 5)) := by
  refine run_convert_bytes_back _ 42 9 5 ⟨w.heap.size, 0, none⟩ 2 (tailL c) Try.underlying42 Try.underlying5 Try.underlying9 ?_
  intro j hj
  have h1 := ofNat_toNat (show c / 256 < 256 by omega)
  have h2 := ofNat_toNat (show c % 256 < 256 by omega)
  match j, hj with
  | 0, _ =>
    show (w.alloc _).cell? ⟨w.heap.size, 0, none⟩ = some (.int .u8 ((UInt8.ofNat (c / 256)).toNat : Int))
    rw [h1]
    exact cell_of_row _ _ _ _ _ _ (heap_alloc_new w _)
  | 1, _ =>
    show (w.alloc _).cell? ⟨w.heap.size, 1, none⟩ = some (.int .u8 ((UInt8.ofNat (c % 256)).toNat : Int))
    rw [h2]
    exact cell_of_row _ _ _ _ _ _ (heap_alloc_new w _)

theorem tail_any (s : ByteArray) (w : World) (hs : s.size ≤ maxLen) :
    Calls Try.prog 26 #[.string s] w fun e w' => e = .returned (.string (str (tailL (crc16 s.data.toList)))) ∧ Below w.heap.size w w' := by
  have hc := crc16_lt s.data.toList
  have hk := conv2 _ hc w
  go_enter Try.func26, Try.ntmps26
  go_wp2_with (go_at_call 11; refine (crc16_any _ _ hs).mono ?_; rintro e w' ⟨rfl, rfl⟩)
  go_ret
  exact ⟨rfl, (Below.refl _ _).alloc (Nat.le_refl _) _⟩
theorem tail_size (c : Nat) : (str (tailL c)).size ≤ 2 := by rw [str_size]; exact Nat.le_refl _
theorem add_seal (s : ByteArray) : s ++ str (tailL (crc16 s.data.toList)) = str (sealL s.data.toList) := by
  apply ByteArray.ext
  apply Array.toList_inj.1
  simp [str, sealL]
theorem seal_ref (s : ByteArray) (w : World) (hs : s.size ≤ 1000) :
    Calls Try.prog 23 #[.string s] w fun e w' => e = .returned (.string (str (sealL s.data.toList))) ∧ Below w.heap.size w w' := by
  have hm : s.size ≤ maxLen := by unfold maxLen; omega
  have hc := crc16_lt s.data.toList
  have hk := conv2 _ hc w
  have hz := tail_size (crc16 s.data.toList)
  go_enter Try.func23, Try.ntmps23
  go_wp2_with (go_at_call 12; refine (crc16_ref _ _ hm).mono ?_; rintro e w' ⟨rfl, rfl⟩)
  go_ret
  exact ⟨ret_str (add_seal s), (Below.refl _ _).alloc (Nat.le_refl _) _⟩
theorem seal_any (s : ByteArray) (w : World) (hs : s.size ≤ 1000) :
    Calls Try.prog 18 #[.string s] w fun e w' => e = .returned (.string (str (sealL s.data.toList))) ∧ Below w.heap.size w w' := by
  have hm : s.size ≤ maxLen := by unfold maxLen; omega
  have hz := tail_size (crc16 s.data.toList)
  go_enter Try.func18, Try.ntmps18
  go_wp2_with (go_at_call 26; refine (tail_any _ _ hm).mono ?_; rintro e w1 ⟨rfl, hb⟩)
  go_ret
  exact ⟨ret_str (add_seal s), hb⟩

/-- What Open returns: the string and the error's number. -/
def openR (l : List UInt8) : List UInt8 × Nat :=
  if l.length < 2 then ([], 6) else if tailL (crc16 (l.take (l.length - 2))) = l.drop (l.length - 2) then (l.take (l.length - 2), 0) else ([], 7)
theorem openR_short {s : ByteArray} (h : s.size < 2) : openR s.data.toList = ([], 6) := by
  unfold openR; rw [if_pos (by rw [← Lib.size_eq]; exact h)]
theorem openR_long {s : ByteArray} (h : ¬ s.size < 2) :
    openR s.data.toList = if tailL (crc16 (s.data.toList.take (s.size - 2))) = s.data.toList.drop (s.size - 2) then (s.data.toList.take (s.size - 2), 0) else ([], 7) := by
  unfold openR; rw [if_neg (by rw [← Lib.size_eq]; exact h), ← Lib.size_eq]
theorem str_toList (l : List UInt8) : (str l).toList = l := by rw [Lib.toList_data]; rfl
theorem head_str (s : ByteArray) : s.extract 0 (s.size - 2) = str (s.data.toList.take (s.size - 2)) := by
  rw [Lib.extract_eq, List.drop_zero, Nat.sub_zero]; rfl
theorem openR_bad {s : ByteArray} (h : ¬ s.size < 2) (hb : (!(str (tailL (crc16 (List.take (s.size - 2) s.data.toList)))).toList == (s.extract (s.size - 2) s.size).toList) = true) :
    openR s.data.toList = ([], 7) := by
  rw [openR_long h, if_neg]
  rw [str_toList, Lib.toList_data, Lib.extract_to_end] at hb
  simpa using hb
theorem openR_good {s : ByteArray} (h : ¬ s.size < 2) (hb : (!(str (tailL (crc16 (List.take (s.size - 2) s.data.toList)))).toList == (s.extract (s.size - 2) s.size).toList) = false) :
    openR s.data.toList = (s.data.toList.take (s.size - 2), 0) := by
  rw [openR_long h, if_pos]
  rw [str_toList, Lib.toList_data, Lib.extract_to_end] at hb
  simpa using hb
theorem seal_take (l : List UInt8) (n : Nat) : (sealL (l.take n) = l) ↔ tailL (crc16 (l.take n)) = l.drop n := by
  unfold sealL
  constructor
  · intro h
    have h2 : l.take n ++ tailL (crc16 (l.take n)) = l.take n ++ l.drop n := by rw [List.take_append_drop]; exact h
    exact List.append_cancel_left h2
  · intro h; rw [h, List.take_append_drop]
theorem openR_bad' {s : ByteArray} (h : ¬ s.size < 2) (hb : (!(str (sealL (List.take (s.size - 2) s.data.toList))).toList == s.toList) = true) :
    openR s.data.toList = ([], 7) := by
  rw [openR_long h, if_neg]
  rw [str_toList, Lib.toList_data] at hb
  rw [← seal_take]
  simpa using hb
theorem openR_good' {s : ByteArray} (h : ¬ s.size < 2) (hb : (!(str (sealL (List.take (s.size - 2) s.data.toList))).toList == s.toList) = false) :
    openR s.data.toList = (s.data.toList.take (s.size - 2), 0) := by
  rw [openR_long h, if_pos]
  rw [str_toList, Lib.toList_data] at hb
  rw [← seal_take]
  simpa using hb
theorem below_drawn {w w1 : World} (hb : Below w.drew.heap.size w.drew w1) : Below w.heap.size w w1 := (Below.refl w.heap.size w).drew.trans hb
theorem ret2 {a b : ByteArray} {x y : Int} (h1 : a = b) (h2 : x = y) : Ending.returned (.tuple #[.string a, .int .i64 x]) = .returned (.tuple #[.string b, .int .i64 y]) := by rw [h1, h2]

theorem open_any (s : ByteArray) (w : World) (hs : s.size ≤ 1000) :
    Calls Try.prog 21 #[.string s] w fun e w' => e = .returned (.tuple #[.string (str (openR s.data.toList).1), .int .i64 ((openR s.data.toList).2 : Nat)]) ∧ Below w.heap.size w w' := by
  by_cases h2 : s.size < 2
  · go_enter Try.func21, Try.ntmps21
    go_wp2
    go_ret2
    exact ⟨ret2 (by rw [openR_short h2]; rfl) (by rw [openR_short h2]; rfl), Below.refl _ _⟩
  · have hge : (2 : Int) ≤ s.size := by omega
    have hN : ((s.size : Int) - 2).toNat = s.size - 2 := by omega
    go_enter Try.func21, Try.ntmps21
    go_wp2
    go_region_with (go_at_call 26; refine (tail_any _ _ (by simp [maxLen]; omega)).mono ?_; rintro e w1 ⟨rfl, hb⟩)
    all_goals go_wp2
    all_goals go_ret2
    all_goals first
      | exact ⟨ret2 (by rw [openR_bad h2 (by assumption)]; rfl) (by rw [openR_bad h2 (by assumption)]; rfl), below_drawn (by assumption)⟩
      | exact ⟨ret2 (by rw [openR_good h2 (by assumption)]; exact head_str s) (by rw [openR_good h2 (by assumption)]; rfl), below_drawn (by assumption)⟩

theorem open_ref (s : ByteArray) (w : World) (hs : s.size ≤ 1000) :
    Calls Try.prog 22 #[.string s] w fun e w' => e = .returned (.tuple #[.string (str (openR s.data.toList).1), .int .i64 ((openR s.data.toList).2 : Nat)]) ∧ Below w.heap.size w w' := by
  by_cases h2 : s.size < 2
  · go_enter Try.func22, Try.ntmps22
    go_wp2
    go_ret2
    exact ⟨ret2 (by rw [openR_short h2]; rfl) (by rw [openR_short h2]; rfl), Below.refl _ _⟩
  · have hge : (2 : Int) ≤ s.size := by omega
    have hN : ((s.size : Int) - 2).toNat = s.size - 2 := by omega
    go_enter Try.func22, Try.ntmps22
    go_wp2_with (go_at_call 23; refine (seal_ref _ _ (by simp; omega)).mono ?_; rintro e w1 ⟨rfl, hb⟩)
    all_goals go_ret2
    · exact ⟨ret2 (by rw [openR_bad' h2 (by assumption)]; rfl) (by rw [openR_bad' h2 (by assumption)]; rfl), by assumption⟩
    · exact ⟨ret2 (by rw [openR_good' h2 (by assumption)]; exact head_str s) (by rw [openR_good' h2 (by assumption)]; rfl), by assumption⟩

theorem openR_sealed (l : List UInt8) : openR (sealL l) = (l, 0) := by
  have hl : (sealL l).length = l.length + 2 := by simp [sealL, tailL]
  have ht : (sealL l).take l.length = l := by simp [sealL]
  have hd : (sealL l).drop l.length = tailL (crc16 l) := by simp [sealL]
  unfold openR
  rw [hl, if_neg (by omega), Nat.add_sub_cancel, ht, hd, if_pos rfl]
/-- A string that has not the value 0 does not open. -/
theorem openR_wrong {l : List UInt8} (h2 : 2 ≤ l.length) (h : crc16 l ≠ 0) : openR l = ([], 7) := by
  unfold openR
  rw [if_neg (by omega), if_neg]
  intro e
  apply h
  have := (seal_take l (l.length - 2)).2 e
  rw [← this]
  exact sealed_zero _
end Go.Proofs.Ytgkbgfmgbmjdiaa
