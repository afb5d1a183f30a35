/- The contracts of Mix (program and reference) and little. -/
import Derived.Test.YtgkbgfmgbmjdiaaSeals
import Derived.Maps.AppendAt
namespace Go.Proofs.Ytgkbgfmgbmjdiaa
open Go.ChangeShapes Go.WideShapes Go.ChangeAt Go.RowKit

def byteAt (a i : Nat) : Nat := a / 2 ^ (8 * i) % 256
theorem byteAt_lt (a i : Nat) : byteAt a i < 256 := Nat.mod_lt _ (by decide)
theorem byteAt_cast (a i : Nat) : (a : Int) / 2 ^ (8 * i) % 256 = ((byteAt a i : Nat) : Int) := by
  unfold byteAt
  rw [Int.natCast_emod, Int.natCast_ediv, Int.natCast_pow]; rfl
theorem byteAt_next (a i : Nat) : a / 2 ^ (8 * i) / 256 = a / 2 ^ (8 * (i + 1)) := by
  rw [Nat.div_div_eq_div_mul, show (256 : Nat) = 2 ^ 8 from rfl, ← Nat.pow_add]; rfl
/-- The first k bytes of a word, the lowest first. -/
def lowB (a k : Nat) : List UInt8 := (List.range k).map fun i => UInt8.ofNat (byteAt a i)
theorem lowB_succ (a k : Nat) : lowB a (k + 1) = lowB a k ++ [UInt8.ofNat (byteAt a k)] := by
  unfold lowB; rw [List.range_succ, List.map_append]; rfl
theorem lowB_length (a k : Nat) : (lowB a k).length = k := by unfold lowB; rw [List.length_map, List.length_range]
theorem lowB_get (a k j : Nat) (h : j < (lowB a k).length) : ((lowB a k)[j]).toNat = byteAt a j := by
  simp only [lowB, List.getElem_map, List.getElem_range]
  exact ofNat_toNat (byteAt_lt a j)

/-- What cell j of the array holds after k rounds. -/
def mixCell (a b k j : Nat) : Nat := if j < 8 then (if j < k then byteAt a j else 0) else (if j - 8 < k then byteAt b (j - 8) else 0)
attribute [irreducible] byteAt
theorem mixCell_end (a b j : Nat) (h : j < (lowB a 8 ++ lowB b 8).length) : ((lowB a 8 ++ lowB b 8)[j]).toNat = mixCell a b 8 j := by
  unfold mixCell
  rw [List.length_append, lowB_length, lowB_length] at h
  by_cases h8 : j < 8
  · rw [if_pos h8, if_pos h8, List.getElem_append_left (by rw [lowB_length]; exact h8), lowB_get]
  · rw [if_neg h8, if_pos (by omega), List.getElem_append_right (by rw [lowB_length]; omega), lowB_get, lowB_length]
theorem mix_round {w wr : World} {a b k B : Nat} (hk : k < 8)
    (hc : ∀ j, j < 16 → wr.cell? ⟨B, j, none⟩ = some (.int .u8 (mixCell a b k j : Nat)) ∧ wr.frozen? ⟨B, j, none⟩ = false) (hb : Below w.heap.size w wr) (hB : w.heap.size ≤ B) :
    (∀ j, j < 16 → ((wr.setCell ⟨B, k, none⟩ (.int .u8 (byteAt a k : Nat))).setCell ⟨B, 8 + k, none⟩ (.int .u8 (byteAt b k : Nat))).cell? ⟨B, j, none⟩ = some (.int .u8 (mixCell a b (k + 1) j : Nat)) ∧
      ((wr.setCell ⟨B, k, none⟩ (.int .u8 (byteAt a k : Nat))).setCell ⟨B, 8 + k, none⟩ (.int .u8 (byteAt b k : Nat))).frozen? ⟨B, j, none⟩ = false) ∧
    Below w.heap.size w ((wr.setCell ⟨B, k, none⟩ (.int .u8 (byteAt a k : Nat))).setCell ⟨B, 8 + k, none⟩ (.int .u8 (byteAt b k : Nat))) := by
  refine ⟨fun j hj => ⟨?_, by rw [World.frozen?_setCell, World.frozen?_setCell]; exact (hc j hj).2⟩, (hb.setCell hB _).setCell hB _⟩
  have hne : ∀ i i' : Nat, i ≠ i' → (⟨B, i, none⟩ : Addr) ≠ ⟨B, i', none⟩ := fun i i' h e => h (by injection e)
  by_cases e2 : j = 8 + k
  · subst e2
    rw [World.cell?_setCell_same _ _ _ ((World.cell?_setCell_other _ _ _ _ (hne _ _ (by omega))).trans (hc (8 + k) (by omega)).1)]
    unfold mixCell
    rw [if_neg (by omega), if_pos (by omega), show 8 + k - 8 = k from by omega]
  · rw [World.cell?_setCell_other _ _ _ _ (hne _ _ (by omega))]
    by_cases e1 : j = k
    · subst e1
      rw [World.cell?_setCell_same _ _ _ (hc j (by omega)).1]
      unfold mixCell
      rw [if_pos (by omega), if_pos (by omega)]
    · rw [World.cell?_setCell_other _ _ _ _ (hne _ _ (by omega)), (hc j hj).1]
      congr 2
      unfold mixCell
      by_cases h8 : j < 8
      · rw [if_pos h8, if_pos h8]
        by_cases h : j < k
        · rw [if_pos h, if_pos (by omega)]
        · rw [if_neg h, if_neg (by omega)]
      · rw [if_neg h8, if_neg h8]
        by_cases h : j - 8 < k
        · rw [if_pos h, if_pos (by omega)]
        · rw [if_neg h, if_neg (by omega)]

theorem mix_any (a b : Nat) (w : World) (_ha : a < 18446744073709551616) (_hb : b < 18446744073709551616) :
    Calls Try.prog 19 #[.int .u64 a, .int .u64 b] w fun e w' => e = .returned (.int .u64 (hashN (lowB a 8 ++ lowB b 8) : Nat)) ∧ Below w.heap.size w w' := by
  go_enter Try.func19, Try.ntmps19
  go_wp2
  go_loopw [6, 7] (fun _ i wr => ∃ k : Nat, k ≤ 8 ∧ i = .int .i64 k ∧ (∀ j, j < 16 → wr.cell? ⟨w.heap.size, j, none⟩ = some (.int .u8 (mixCell a b k j : Nat)) ∧ wr.frozen? ⟨w.heap.size, j, none⟩ = false) ∧ Below w.heap.size w wr) (fun _ i _ => 8 - (intOf i).toNat)
  case atStart =>
    refine ⟨0, by omega, rfl, fun j hj => ⟨?_, World.frozen?_alloc_new _ _ _ _⟩, (Below.refl _ _).alloc (Nat.le_refl _) _⟩
    rw [cell_of_row _ _ _ _ _ _ (heap_alloc_new w _)]
    have e : mixCell a b 0 j = 0 := by unfold mixCell; split <;> rfl
    rw [e]
    obtain rfl | rfl | rfl | rfl | rfl | rfl | rfl | rfl | rfl | rfl | rfl | rfl | rfl | rfl | rfl | rfl : j = 0 ∨ j = 1 ∨ j = 2 ∨ j = 3 ∨ j = 4 ∨ j = 5 ∨ j = 6 ∨ j = 7 ∨ j = 8 ∨ j = 9 ∨ j = 10 ∨ j = 11 ∨ j = 12 ∨ j = 13 ∨ j = 14 ∨ j = 15 := by omega
    all_goals rfl
  case round =>
    obtain ⟨k, hk, rfl, hc, hbel⟩ := hrel
    have ea := byteAt_cast a k
    have eb := byteAt_cast b k
    by_cases hlt : k < 8
    · have h1 := hc k (by omega)
      have h2 := hc (8 + k) (by omega)
      have R := mix_round hlt hc hbel (Nat.le_refl _)
      have HR := Lib.hid R
      clear hc R
      go_wp2
      go_roundw
      case rel => exact ⟨k + 1, by omega, by go_num, HR.out⟩
      case measure => simp [intOf]; omega
    · obtain rfl : k = 8 := by omega
      have hback : (convert 42 9 (.slice (some ⟨w.heap.size, 0, none⟩) 16 16)).run Try.prog wr = .ok (.string (str (lowB a 8 ++ lowB b 8))) wr := by
        have hlen : (lowB a 8 ++ lowB b 8).length = 16 := by rw [List.length_append, lowB_length, lowB_length]
        have h := run_convert_bytes_back (P := Try.prog) wr 42 9 5 ⟨w.heap.size, 0, none⟩ 16 (lowB a 8 ++ lowB b 8) Try.underlying42 Try.underlying5 Try.underlying9 (fun j hj => by
          have ha : (⟨w.heap.size, 0, none⟩ : Addr).add j = ⟨w.heap.size, j, none⟩ := by unfold Addr.add; split <;> simp_all
          rw [ha, mixCell_end]
          exact (hc j (by omega)).1)
        rw [hlen] at h
        exact h
      have hm : (str (lowB a 8 ++ lowB b 8)).size ≤ maxLen := by rw [str_size, List.length_append, lowB_length, lowB_length]; decide
      clear hc ea eb
      go_wp2_with (go_at_call 15; refine (hash_any _ _ hm).mono ?_; rintro e w' ⟨rfl, rfl⟩)
      go_ret
      exact ⟨rfl, hbel⟩

theorem u8_info : (Try.prog.info? 5).map (fun i => (i.zero, i.size, i.bytes)) = some (some (.int .u8 0), 1, 1) := by kernel_rfl
def cellsB (l : List UInt8) : List Value := l.map fun b => .int .u8 (b.toNat : Nat)
theorem cellsB_snoc (l : List UInt8) (b : UInt8) : cellsB (l ++ [b]) = cellsB l ++ [.int .u8 (b.toNat : Nat)] := by unfold cellsB; rw [List.map_append]; rfl
theorem byteAt_hid {a y k : Nat} (h : Hid (y = a / 2 ^ (8 * k))) : byteAt a k = y % 256 := by rw [h.out]; unfold byteAt; rfl
theorem low_step {a y k : Nat} (h : Hid (y = a / 2 ^ (8 * k))) : cellsB (lowB a (k + 1)) = cellsB (lowB a k) ++ [.int .u8 (y % 256 : Nat)] := by
  rw [lowB_succ, cellsB_snoc, ofNat_toNat (byteAt_lt a k), byteAt_hid h]
theorem div_step {a y k : Nat} (h : Hid (y = a / 2 ^ (8 * k))) : Hid (y / 256 = a / 2 ^ (8 * (k + 1))) := Lib.hid (by rw [h.out]; exact byteAt_next a k)
theorem cell_new1 (w : World) (v : Value) (t : TypeId) : ∀ (j : Nat) (u : Value), [v][j]? = some u → (w.alloc (.cells #[v] t)).cell? ((⟨w.heap.size, 0, none⟩ : Addr).add j) = some u := by
  intro j u hj
  match j, hj with
  | 0, hj =>
    have e : v = u := by simpa using hj
    rw [← e]
    exact cell_of_row _ _ _ _ _ _ (heap_alloc_new w _)
theorem u8_of (y : Nat) : ((y : Int) % 256) % 256 = ((y % 256 : Nat) : Int) := by omega
theorem little_any (a : Nat) (w : World) (ha : a < 18446744073709551616) :
    Calls Try.prog 27 #[.int .u64 a] w fun e w' => e = .returned (.string (str (lowB a 8))) ∧ Below w.heap.size w w' := by
  obtain ⟨i0, hi, hz0, hz1, hz2⟩ := info_parts u8_info
  go_enter Try.func27, Try.ntmps27
  go_wp2
  go_loopw [0, 3, 4] (fun x v i wr => ∃ k y : Nat, k ≤ 8 ∧ i = .int .i64 k ∧ x = .int .u64 y ∧ y < 18446744073709551616 ∧ Hid (y = a / 2 ^ (8 * k)) ∧ wr.ownsRow w.heap.size 5 1 v k (cellsB (lowB a k)) ∧ Below w.heap.size w wr) (fun _ _ i _ => 8 - (intOf i).toNat)
  case atStart => exact ⟨0, a, by omega, rfl, rfl, ha, Lib.hid (by simp), World.ownsRow_nil _ _ _ _, Below.refl _ _⟩
  case round =>
    obtain ⟨k, y, hk, rfl, rfl, hy64, hy, hown, hbel⟩ := hrel
    by_cases hlt : k < 8
    · have hsz := hbel.size
      go_wp2_with (at_builtin; refine wpList_append_own _ rfl _ _ 42 rfl w.heap.size 5 i0 (.int .u8 0) 1 1 Try.underlying42 hi hz0 hz1 hz2 rfl (by decide) _ _ _ rfl (hown.alloc _) ⟨wr.heap.size, 0, none⟩ 1 1 [.int .u8 ((y : Int) % 256)] rfl rfl ?c1 ?c2 ?c3 ?c4 ?c5 ?_)
      case c1 => exact cell_new1 wr _ 5
      case c2 => intro u hu; simp at hu; subst hu; rfl
      case c3 => unfold maxLen; omega
      case c4 => omega
      case c5 => simp; omega
      · intro v' w1 hown' hgrow _
        have hb1 := (hbel.alloc hsz (.cells #[.int .u8 ((y : Int) % 256)] 5)).grown hgrow (by simp; omega) (fun g hg => (hown.lt g hg).1)
        have e1 : ((y : Int) % 256) = ((y % 256 : Nat) : Int) := by omega
        have ho := hown'
        rw [e1, ← low_step hy] at ho
        have HO := Lib.hid ho
        clear hown' hgrow hown ho e1
        go_wp2
        go_roundw
        case rel => exact ⟨k + 1, y / 256, by omega, by go_num, val_int (by omega), by omega, div_step hy, HO.out, hb1⟩
        case measure => simp [intOf]; omega
    · obtain rfl : k = 8 := by omega
      obtain ⟨g, cap, hv⟩ : ∃ g cap, u3 = .slice (some ⟨g, 0, none⟩) 8 cap := by
        rcases hown.2 with h | ⟨g, cap, _, h, _⟩
        · exact absurd h.2 (by decide)
        · exact ⟨g, cap, h⟩
      subst hv
      have hback : (convert 42 9 (.slice (some ⟨g, 0, none⟩) 8 cap)).run Try.prog wr = .ok (.string (str (lowB a 8))) wr := by
        have h := run_convert_bytes_back (P := Try.prog) wr 42 9 5 ⟨g, 0, none⟩ cap (lowB a 8) Try.underlying42 Try.underlying5 Try.underlying9 (fun j hj => by
          exact hown.cells (g := g) rfl j _ (by unfold cellsB; rw [List.getElem?_map, List.getElem?_eq_getElem hj]; rfl))
        rw [lowB_length] at h
        exact h
      clear hown
      go_wp2
      go_ret
      exact ⟨rfl, hbel⟩

theorem add_str (a b : List UInt8) : str a ++ str b = str (a ++ b) := by
  apply ByteArray.ext
  apply Array.toList_inj.1
  simp [str]
theorem mix_ref (a b : Nat) (w : World) (ha : a < 18446744073709551616) (hb : b < 18446744073709551616) :
    Calls Try.prog 20 #[.int .u64 a, .int .u64 b] w fun e w' => e = .returned (.int .u64 (hashN (lowB a 8 ++ lowB b 8) : Nat)) ∧ Below w.heap.size w w' := by
  have h1 : (str (lowB a 8)).size ≤ 8 := by rw [str_size, lowB_length]; exact Nat.le_refl _
  have h2 : (str (lowB b 8)).size ≤ 8 := by rw [str_size, lowB_length]; exact Nat.le_refl _
  go_enter Try.func20, Try.ntmps20
  go_wp2_with fail
  refine (little_any _ _ ha).mono ?_
  rintro e w1 ⟨rfl, hb1⟩
  go_wp2_with fail
  refine (little_any _ _ hb).mono ?_
  rintro e w2 ⟨rfl, hb2⟩
  go_wp2_with fail
  rw [add_str]
  refine (hash_ref _ _ ?_).mono ?_
  · rw [str_size, List.length_append, lowB_length, lowB_length]; decide
  rintro e w' ⟨rfl, rfl⟩
  go_wp2
  go_ret
  exact ⟨rfl, hb1.trans (hb2.mono hb1.size)⟩

theorem sumMixes_walk (a0 : Int) (a1 : Int) (w : World) (w0 : (Lit.int .u64 a0).wf = true) (w1 : (Lit.int .u64 a1).wf = true) :
    Calls Try.prog 5 #[.int .u64 a0, .int .u64 a1] w fun e w' => e = .returned (.bool true) ∧ Below w.heap.size w w' := by
  have b0 := bounds_u64 w0
  have b1 := bounds_u64 w1
  obtain ⟨a, rfl⟩ := Int.eq_ofNat_of_zero_le b0.1
  obtain ⟨b, rfl⟩ := Int.eq_ofNat_of_zero_le b1.1
  have ha : a < 18446744073709551616 := by omega
  have hb : b < 18446744073709551616 := by omega
  clear b0 b1 w0 w1
  go_enter Try.func5, Try.ntmps5
  go_wp2_with fail
  refine (mix_any _ _ _ ha hb).mono ?_
  rintro e w1 ⟨rfl, hb1⟩
  go_wp2_with fail
  refine (mix_ref _ _ _ ha hb).mono ?_
  rintro e w2 ⟨rfl, hb2⟩
  go_wp2_with (go_at_call 17; refine (awake_any _).mono ?_; rintro e w' ⟨rfl, rfl⟩)
  go_ret
  exact ⟨rfl, hb1.trans (hb2.mono hb1.size)⟩
end Go.Proofs.Ytgkbgfmgbmjdiaa
