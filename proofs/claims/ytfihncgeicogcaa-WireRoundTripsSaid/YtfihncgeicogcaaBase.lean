/- The contracts of the inner functions of wire and of its reference. -/
import Derived.Test.YtfihncgeicogcaaRows
import Derived.Test.YtfihncgeicogcaaPlain
import Derived.WalkKit
import Derived.ProofKit
import Derived.OpenShut
import Derived.WalkLawsBesides
import Derived.WalkSpells
import Derived.Maps.AppendAt
import Derived.Deep.DeepFit
namespace Go.Proofs.Ytfihncgeicogcaa
open Go.ChangeShapes Go.WideShapes Go.ChangeAt Go.RowKit

theorem valid_yes (n : Int) (w : World) (h1 : 1 ≤ n) (h8 : n ≤ 8) : Calls Try.prog 26 #[.int .i64 n] w fun e w' => e = .returned (.bool true) ∧ w = w' := by
  go_enter Try.func26, Try.ntmps26
  go_wp2
  go_ret
  exact ⟨rfl, rfl⟩
theorem valid_no (n : Int) (w : World) (h : n < 1 ∨ 8 < n) : Calls Try.prog 26 #[.int .i64 n] w fun e w' => e = .returned (.bool false) ∧ w = w' := by
  rcases h with h | h
  · go_enter Try.func26, Try.ntmps26
    go_wp2
    go_ret
    exact ⟨rfl, rfl⟩
  · have h1 : 1 ≤ n := by omega
    have hd : decide (n ≤ 8) = false := by simp; omega
    go_enter Try.func26, Try.ntmps26
    go_wp2
    go_ret
    exact ⟨rfl, rfl⟩
theorem vfits_yes (n : Int) (w : World) (h1 : 1 ≤ n) (h8 : n ≤ 8) : Calls Try.prog 29 #[.int .i64 n] w fun e w' => e = .returned (.bool true) ∧ w = w' := by
  go_enter Try.func29, Try.ntmps29
  go_wp2
  go_ret
  exact ⟨rfl, rfl⟩
theorem vfits_no (n : Int) (w : World) (h : n < 1 ∨ 8 < n) : Calls Try.prog 29 #[.int .i64 n] w fun e w' => e = .returned (.bool false) ∧ w = w' := by
  rcases h with h | h
  · go_enter Try.func29, Try.ntmps29
    go_wp2
    go_ret
    exact ⟨rfl, rfl⟩
  · have h1 : 1 ≤ n := by omega
    have hd : decide (n ≤ 8) = false := by simp; omega
    go_enter Try.func29, Try.ntmps29
    go_wp2
    go_ret
    exact ⟨rfl, rfl⟩
theorem fits_any (n k : Nat) (w : World) (h8 : k ≤ 8) (hn : n < 18446744073709551616) :
    Calls Try.prog 27 #[.int .u64 n, .int .i64 k] w fun e w' => e = .returned (.bool (decide (n < 256 ^ k))) ∧ w = w' := by
  by_cases h : k = 8
  · subst h
    go_enter Try.func27, Try.ntmps27
    go_wp2
    go_ret
    exact ⟨ret_bool (fits8 n hn).symm, rfl⟩
  · have h7 : k ≤ 7 := by omega
    go_enter Try.func27, Try.ntmps27
    go_wp2
    go_ret
    exact ⟨ret_bool (fits7 h7), rfl⟩
theorem number_any (s : ByteArray) (w : World) (hs : s.size ≤ 8) :
    Calls Try.prog 33 #[.string s] w fun e w' => e = .returned (.int .u64 (numOf s.data.toList : Nat)) ∧ w = w' := by
  go_enter Try.func33, Try.ntmps33
  go_wp2
  go_loop [3, 4] (fun n i => ∃ k : Nat, k ≤ s.size ∧ i = .int .i64 k ∧ n = .int .u64 (numOf (s.data.toList.take k) : Nat)) (fun _ i => s.size - (intOf i).toNat)
  case atStart => exact ⟨0, Nat.zero_le _, rfl, by rw [List.take_zero]; unfold numOf; rfl⟩
  case round =>
    obtain ⟨k, hk, rfl, rfl⟩ := hrel
    by_cases hlt : k < s.size
    · go_wp2
      go_round
      case rel => exact ⟨k + 1, by omega, by go_num, by rw [take_snoc s k hlt, numOf_snoc]; exact val_int (num_round (num_take_lt _ _) (by omega))⟩
      case measure => simp [intOf]; omega
    · go_wp2
      go_ret
      exact ⟨ret_int (by rw [take_all hk hlt]), rfl⟩

theorem u8_info : (Try.prog.info? 5).map (fun i => (i.zero, i.size, i.bytes)) = some (some (.int .u8 0), 1, 1) := by kernel_rfl
def cellsB (l : List UInt8) : List Value := l.map fun b => .int .u8 (b.toNat : Nat)
theorem cellsB_snoc (l : List UInt8) (b : UInt8) : cellsB (l ++ [b]) = cellsB l ++ [.int .u8 (b.toNat : Nat)] := by unfold cellsB; rw [List.map_append]; rfl
theorem cellsB_length (l : List UInt8) : (cellsB l).length = l.length := by unfold cellsB; rw [List.length_map]
theorem cellsB_one {l : List UInt8} : ∀ u ∈ cellsB l, u.oneCell' = true := by
  intro u hu
  unfold cellsB at hu
  obtain ⟨b, _, rfl⟩ := List.mem_map.1 hu
  rfl
theorem cell_new1 (w : World) (v : Value) (t : TypeId) : ∀ (j : Nat) (u : Value), [v][j]? = some u → (w.alloc (.cells #[v] t)).cell? ((⟨w.heap.size, 0, none⟩ : Addr).add j) = some u := by
  intro j u hj
  match j, hj with
  | 0, hj =>
    have e : v = u := by simpa using hj
    rw [← e]
    exact cell_of_row _ _ _ _ _ _ (heap_alloc_new w _)
theorem one_int {k : IntKind} {n : Int} : ∀ u ∈ [Value.int k n], u.oneCell' = true := by intro u hu; simp at hu; subst hu; rfl
theorem byte_cast (a i : Nat) : (a : Int) / 2 ^ (8 * i) % 256 = ((byteAt a i : Nat) : Int) := by
  unfold byteAt
  rw [Int.natCast_emod, Int.natCast_ediv, Int.natCast_pow]; rfl
theorem put_step {a k j : Nat} (h : j < k) : cellsB ((be a k).take (j + 1)) = cellsB ((be a k).take j) ++ [.int .u8 ((a : Int) / 2 ^ (8 * (k - 1 - j)) % 256)] := by
  rw [be_take_succ a k j h, cellsB_snoc, ofNat_toNat (byteAt_lt _ _), byte_cast]

theorem put_any (n k : Nat) (w : World) (h1 : 1 ≤ k) (h8 : k ≤ 8) :
    Calls Try.prog 28 #[.slice none 0 0, .int .u64 n, .int .i64 k] w fun e w' => ∃ v, e = .returned v ∧ w'.ownsRow w.heap.size 5 1 v k (cellsB (be n k)) ∧ Below w.heap.size w w' := by
  obtain ⟨i0, hi, hz0, hz1, hz2⟩ := info_parts u8_info
  go_enter Try.func28, Try.ntmps28
  go_wp2
  go_loopw [7, 8] (fun v i wr => ∃ j : Nat, j ≤ k ∧ i = .int .i64 ((k : Int) - 1 - j) ∧ wr.ownsRow w.heap.size 5 1 v j (cellsB ((be n k).take j)) ∧ Below w.heap.size w wr) (fun _ i _ => (intOf i + 1).toNat)
  case atStart => exact ⟨0, by omega, by simp, World.ownsRow_nil _ _ _ _, Below.refl _ _⟩
  case round =>
    obtain ⟨j, hj, rfl, hown, hbel⟩ := hrel
    by_cases hlt : j < k
    · have hsz := hbel.size
      have hN : ((k : Int) - 1 - j).toNat = k - 1 - j := by omega
      go_wp2_with (at_builtin; refine wpList_append_own _ rfl _ _ 29 rfl w.heap.size 5 i0 (.int .u8 0) 1 1 Try.underlying29 hi hz0 hz1 hz2 rfl (by decide) _ _ _ rfl (hown.alloc _) ⟨wr.heap.size, 0, none⟩ 1 1 [.int .u8 ((n : Int) / 2 ^ (8 * (k - 1 - j)) % 256)] rfl rfl ?c1 ?c2 ?c3 ?c4 ?c5 ?_)
      case c1 => exact cell_new1 wr _ 5
      case c2 => exact one_int
      case c3 => unfold maxLen; omega
      case c4 => omega
      case c5 => simp; omega
      · intro v' w1 hown' hgrow _
        have hb1 := (hbel.alloc hsz (.cells #[.int .u8 ((n : Int) / 2 ^ (8 * (k - 1 - j)) % 256)] 5)).grown hgrow (by simp; omega) (fun g hg => (hown.lt g hg).1)
        rw [← put_step hlt] at hown'
        have HO := Lib.hid hown'
        clear hown' hgrow hown
        go_wp2
        go_roundw
        case rel => exact ⟨j + 1, by omega, by go_num, HO.out, hb1⟩
        case measure => simp [intOf]; omega
    · obtain rfl : j = k := by omega
      rw [List.take_of_length_le (by rw [be_length]; exact Nat.le_refl _)] at hown
      go_wp2
      go_ret
      exact ⟨_, rfl, hown, hbel⟩

theorem own_form {w : World} {B : Nat} {v : Value} {k : Nat} {l : List UInt8} (h : w.ownsRow B 5 1 v k (cellsB l)) (hk : 0 < k) : ∃ g cap, v = .slice (some ⟨g, 0, none⟩) k cap := by
  rcases h.2 with h | ⟨g, cap, _, h, _⟩
  · omega
  · exact ⟨g, cap, h⟩
theorem back_own {w : World} {B g cap k : Nat} {l : List UInt8} (h : w.ownsRow B 5 1 (.slice (some ⟨g, 0, none⟩) k cap) k (cellsB l)) :
    (convert 29 9 (.slice (some ⟨g, 0, none⟩) k cap)).run Try.prog w = .ok (.string (str l)) w := by
  have hl : l.length = k := by have := h.1; rw [cellsB_length] at this; omega
  have h2 := run_convert_bytes_back (P := Try.prog) w 29 9 5 ⟨g, 0, none⟩ cap l Try.underlying29 Try.underlying5 Try.underlying9 (fun j hj => by
    exact h.cells (g := g) rfl j _ (by unfold cellsB; rw [List.getElem?_map, List.getElem?_eq_getElem hj]; rfl))
  rw [hl] at h2
  exact h2

def zeros (n : Nat) : Array Value := madeCells #[.int .u8 0] n
theorem zeros_list (n : Nat) : (zeros n).toList = List.replicate n (.int .u8 0) := toList_madeCells_one _ n
theorem make_bytes (n : Nat) (h : n ≤ 100000) (w : World) :
    (Instr.makeSlice 29 (.int .i64 (n : Int)) (.int .i64 (n : Int))).run Try.prog w = .ok (.slice (some ⟨w.heap.size, 0, none⟩) n n) (w.alloc (.cells (zeros n) 5)) := by
  obtain ⟨i0, hi, hz0, hz1, hz2⟩ := info_parts u8_info
  have hr := run_make (P := Try.prog) w 29 5 i0 (.int .u8 0) Try.underlying29 hi hz0 .i64 .i64 n n (by omega) (by omega) (by rw [hz2]; omega) (by omega)
  rw [hz1] at hr
  simp only [Int.toNat_natCast, Nat.mul_one] at hr
  exact hr

/-- What cell j of the array holds after r rounds. -/
def bytCell (n k r j : Nat) : Nat := if k - r ≤ j then byteAt n (k - 1 - j) else 0
theorem bytCell_zero {n k j : Nat} (h : j < k) : bytCell n k 0 j = 0 := by unfold bytCell; rw [if_neg (by omega)]
theorem bytCell_end {n k j : Nat} (h : j < (be n k).length) : ((be n k)[j]).toNat = bytCell n k k j := by
  unfold bytCell
  rw [be_get, ofNat_toNat (byteAt_lt _ _), if_pos (by omega)]
theorem bytes_round {w wr : World} {n k r y B : Nat} (hr : r < k) (hy : Hid (y = n / 2 ^ (8 * r)))
    (hc : ∀ j, j < k → wr.cell? ⟨B, j, none⟩ = some (.int .u8 (bytCell n k r j : Nat)) ∧ wr.frozen? ⟨B, j, none⟩ = false) (hb : Below w.heap.size w wr) (hB : w.heap.size ≤ B) :
    (∀ j, j < k → (wr.setCell ⟨B, k - 1 - r, none⟩ (.int .u8 ((y : Int) % 256))).cell? ⟨B, j, none⟩ = some (.int .u8 (bytCell n k (r + 1) j : Nat)) ∧
      (wr.setCell ⟨B, k - 1 - r, none⟩ (.int .u8 ((y : Int) % 256))).frozen? ⟨B, j, none⟩ = false) ∧
    Below w.heap.size w (wr.setCell ⟨B, k - 1 - r, none⟩ (.int .u8 ((y : Int) % 256))) := by
  refine ⟨fun j hj => ⟨?_, by rw [World.frozen?_setCell]; exact (hc j hj).2⟩, hb.setCell hB _⟩
  have hne : ∀ i i' : Nat, i ≠ i' → (⟨B, i, none⟩ : Addr) ≠ ⟨B, i', none⟩ := fun i i' h e => h (by injection e)
  by_cases e : j = k - 1 - r
  · subst e
    rw [World.cell?_setCell_same _ _ _ (hc _ hj).1]
    have h1 : byteAt n r = y % 256 := by rw [hy.out]; unfold byteAt; rfl
    unfold bytCell
    rw [if_pos (by omega), show k - 1 - (k - 1 - r) = r from by omega, h1]
    rw [show ((y : Int) % 256) = ((y % 256 : Nat) : Int) from by omega]
  · rw [World.cell?_setCell_other _ _ _ _ (hne _ _ (fun h => e h.symm)), (hc j hj).1]
    congr 2
    unfold bytCell
    by_cases h : k - r ≤ j
    · rw [if_pos h, if_pos (by omega)]
    · rw [if_neg h, if_neg (by omega)]
theorem bytes_any (n k : Nat) (w : World) (h1 : 1 ≤ k) (h8 : k ≤ 8) (hn : n < 18446744073709551616) :
    Calls Try.prog 30 #[.int .u64 n, .int .i64 k] w fun e w' => e = .returned (.string (str (be n k))) ∧ Below w.heap.size w w' := by
  have hmk := make_bytes k (by omega) w
  go_enter Try.func30, Try.ntmps30
  go_wp2
  go_loopw [0, 6] (fun x i wr => ∃ r y : Nat, r ≤ k ∧ i = .int .i64 ((k : Int) - 1 - r) ∧ x = .int .u64 y ∧ y < 18446744073709551616 ∧ Hid (y = n / 2 ^ (8 * r)) ∧
      (∀ j, j < k → wr.cell? ⟨w.heap.size, j, none⟩ = some (.int .u8 (bytCell n k r j : Nat)) ∧ wr.frozen? ⟨w.heap.size, j, none⟩ = false) ∧ Below w.heap.size w wr) (fun _ i _ => (intOf i + 1).toNat)
  case atStart =>
    refine ⟨0, n, by omega, by simp, rfl, hn, Lib.hid (by simp), fun j hj => ⟨?_, World.frozen?_alloc_new _ _ _ _⟩, (Below.refl _ _).alloc (Nat.le_refl _) _⟩
    rw [cell_of_row _ _ _ _ _ _ (heap_alloc_new w _), bytCell_zero hj, ← Array.getElem?_toList, zeros_list, List.getElem?_replicate, if_pos hj]
    rfl
  case round =>
    obtain ⟨r, y, hr, rfl, rfl, hy64, hy, hc, hbel⟩ := hrel
    by_cases hlt : r < k
    · have hN : ((k : Int) - 1 - r).toNat = k - 1 - r := by omega
      have h2 := hc (k - 1 - r) (by omega)
      have HR := Lib.hid (bytes_round hlt hy hc hbel (Nat.le_refl _))
      clear hc
      go_wp2
      go_roundw
      case rel => exact ⟨r + 1, y / 256, by omega, by go_num, val_int (by omega), by omega, Lib.hid (by rw [hy.out]; exact byteAt_next n r), HR.out⟩
      case measure => simp [intOf]; omega
    · obtain rfl : r = k := by omega
      have hback : (convert 29 9 (.slice (some ⟨w.heap.size, 0, none⟩) r r)).run Try.prog wr = .ok (.string (str (be n r))) wr := by
        have h := run_convert_bytes_back (P := Try.prog) wr 29 9 5 ⟨w.heap.size, 0, none⟩ r (be n r) Try.underlying29 Try.underlying5 Try.underlying9 (fun j hj => by
          have ha : (⟨w.heap.size, 0, none⟩ : Addr).add j = ⟨w.heap.size, j, none⟩ := by unfold Addr.add; split <;> simp_all
          have hj' : j < r := by rw [be_length] at hj; exact hj
          rw [ha, bytCell_end]
          exact (hc j hj').1)
        rw [be_length] at h
        exact h
      clear hc hmk
      go_wp2
      go_ret
      exact ⟨rfl, hbel⟩
end Go.Proofs.Ytfihncgeicogcaa
