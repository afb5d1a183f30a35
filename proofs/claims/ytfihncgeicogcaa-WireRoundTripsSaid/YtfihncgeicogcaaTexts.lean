/- The contracts of Text and Pad, of the program and of the reference; the walks of WireLong and WirePads. -/
import Derived.Test.YtfihncgeicogcaaUints
import Derived.Lib.AppendStr
import Derived.Lib.AppendZerosOnto
namespace Go.Proofs.Ytfihncgeicogcaa
open Go.ChangeShapes Go.WideShapes Go.ChangeAt Go.RowKit

theorem text_long (s : ByteArray) (w : World) (h : (65535 : Int) < s.size) :
    Calls Try.prog 14 #[.string s] w fun e w' => e = .returned (.tuple #[.string ⟨#[]⟩, .int .i64 2]) ∧ w = w' := by
  go_enter Try.func14, Try.ntmps14
  go_wp2
  go_ret2
  exact ⟨rfl, rfl⟩
theorem strCells_cells (s : ByteArray) : Lib.strCells s = cellsB s.data.toList := by
  unfold Lib.strCells cellsB; rfl
theorem cellsB_append (a b : List UInt8) : cellsB (a ++ b) = cellsB a ++ cellsB b := by unfold cellsB; rw [List.map_append]
theorem own_form' {w : World} {B : Nat} {v : Value} {k : Nat} {xs : List Value} (h : w.ownsRow B 5 1 v k xs) (hk : 0 < k) : ∃ g cap, v = .slice (some ⟨g, 0, none⟩) k cap := by
  rcases h.2 with h | ⟨g, cap, _, h, _⟩
  · omega
  · exact ⟨g, cap, h⟩
def textL (s : ByteArray) : List UInt8 := be s.size 2 ++ s.data.toList
theorem text_ok (s : ByteArray) (w : World) (h : s.size ≤ 65535) :
    Calls Try.prog 14 #[.string s] w fun e w' => e = .returned (.tuple #[.string (str (textL s)), .int .i64 0]) ∧ Below w.heap.size w w' := by
  obtain ⟨i0, hi, hz0, hz1, hz2⟩ := info_parts u8_info
  have h2 : ¬ (65535 : Int) < s.size := by omega
  go_enter Try.func14, Try.ntmps14
  go_wp2_with fail
  refine (put_any _ 2 _ (by decide) (by decide)).mono ?_
  rintro e w1 ⟨v, rfl, hown, hb⟩
  go_wp2_with (at_builtin; refine Lib.wpList_append_own_string _ rfl _ _ 29 9 rfl w.heap.size 5 i0 Try.underlying29 Try.underlying9 hi hz0 hz1 hz2 _ 2 _ rfl hown s rfl ?c1 ?c2 ?c3 ?_)
  case c1 => unfold maxLen; omega
  case c2 => omega
  case c3 => exact hb.size
  · intro v' w2 hown' hgrow _
    have hb2 := hb.grown hgrow hb.size (fun g hg => (hown.lt g hg).1)
    rw [strCells_cells, ← cellsB_append] at hown'
    obtain ⟨g, cap, rfl⟩ := own_form hown' (by omega)
    have hback := back_own hown'
    clear hown hown' hgrow
    go_wp2
    go_ret2
    exact ⟨rfl, hb2⟩
theorem textR_long (s : ByteArray) (w : World) (h : (65535 : Int) < s.size) :
    Calls Try.prog 23 #[.string s] w fun e w' => e = .returned (.tuple #[.string ⟨#[]⟩, .int .i64 2]) ∧ w = w' := by
  go_enter Try.func23, Try.ntmps23
  go_wp2
  go_ret2
  exact ⟨rfl, rfl⟩
theorem textR_add (s : ByteArray) : str (be s.size 2) ++ s = str (textL s) := by
  conv => lhs; rw [← str_self s]
  rw [add_str]; rfl
theorem textR_ok (s : ByteArray) (w : World) (h : s.size ≤ 65535) :
    Calls Try.prog 23 #[.string s] w fun e w' => e = .returned (.tuple #[.string (str (textL s)), .int .i64 0]) ∧ Below w.heap.size w w' := by
  have h2 : ¬ (65535 : Int) < s.size := by omega
  have hz : (str (be s.size 2)).size ≤ 2 := by rw [str_size, be_length]; exact Nat.le_refl _
  have ht := textR_add s
  go_enter Try.func23, Try.ntmps23
  go_wp2_with fail
  refine (bytes_any _ 2 _ (by decide) (by decide) (by omega)).mono ?_
  rintro e w1 ⟨rfl, hb⟩
  go_wp2
  go_ret2
  exact ⟨ret2 (by first | rfl | exact ht) rfl, hb⟩

theorem run_zeros_str (n : Nat) (w : World) :
    (convert 29 9 (.slice (some ⟨w.heap.size, 0, none⟩) n n)).run Try.prog (w.alloc (.cells (zeros n) 5)) = .ok (.string (str (List.replicate n 0))) (w.alloc (.cells (zeros n) 5)) := by
  have h := run_convert_bytes_back (P := Try.prog) (w.alloc (.cells (zeros n) 5)) 29 9 5 ⟨w.heap.size, 0, none⟩ n (List.replicate n 0) Try.underlying29 Try.underlying5 Try.underlying9 (fun j hj => by
    have ha : (⟨w.heap.size, 0, none⟩ : Addr).add j = ⟨w.heap.size, j, none⟩ := by unfold Addr.add; split <;> simp_all
    rw [List.length_replicate] at hj
    rw [ha, cell_of_row _ _ _ _ _ _ (heap_alloc_new w _), ← Array.getElem?_toList, zeros_list, List.getElem?_replicate, if_pos hj, List.getElem_replicate]
    rfl)
  rw [List.length_replicate] at h
  exact h

theorem text_first (k : Nat) (hk : 65530 ≤ k) (h : k ≤ 65535) (w : World) :
    Calls Try.prog 14 #[.string (str (List.replicate k 0))] w fun e w' => ∃ t : ByteArray, e = .returned (.tuple #[.string t, .int .i64 0]) ∧ (t.size : Int) = k + 2 ∧
      (∀ h, ((t[0]'h).toNat : Int) = 255) ∧ (∀ h, ((t[1]'h).toNat : Int) = (k : Int) - 65280) ∧ Below w.heap.size w w' := by
  have hs : (str (List.replicate k 0)).size = k := by rw [str_size, List.length_replicate]
  refine (text_ok _ w (by omega)).mono fun e w' ⟨he, hb⟩ => ⟨_, he, ?_, fun h => ?_, fun h => ?_, hb⟩
  · rw [str_size]; unfold textL; rw [List.length_append, be_length, str_list, List.length_replicate]; omega
  · have e0 : (str (textL (str (List.replicate k 0))))[0]'h = UInt8.ofNat (byteAt k 1) := by
      show (textL (str (List.replicate k 0)))[0]'(by rw [str_size] at h; exact h) = _
      unfold textL
      simp only [hs]
      rfl
    rw [e0, ofNat_toNat (byteAt_lt _ _)]
    unfold byteAt
    omega
  · have e1 : (str (textL (str (List.replicate k 0))))[1]'h = UInt8.ofNat (byteAt k 0) := by
      show (textL (str (List.replicate k 0)))[1]'(by rw [str_size] at h; exact h) = _
      unfold textL
      simp only [hs]
      rfl
    rw [e1, ofNat_toNat (byteAt_lt _ _)]
    unfold byteAt
    omega
theorem wireLong_walk (a0 : Int) (w : World) (w0 : (Lit.int .u8 a0).wf = true) :
    Calls Try.prog 5 #[.int .u8 a0] w fun e w' => e = .returned (.bool true) ∧ Below w.heap.size w w' := by
  have b0 := bounds_u8 w0
  obtain ⟨n, rfl⟩ := Int.eq_ofNat_of_zero_le b0.1
  clear w0 b0
  have hm12 : n % 12 < 12 := Nat.mod_lt _ (by decide)
  have hcast : (65530 : Int) + (n : Int) % 12 = ((65530 + n % 12 : Nat) : Int) := by omega
  obtain ⟨k, hk⟩ : ∃ k, k = 65530 + n % 12 := ⟨_, rfl⟩
  rw [← hk] at hcast
  have hk1 : 65530 ≤ k := by omega
  have hk2 : k ≤ 65541 := by omega
  clear hk hm12
  have hmk := make_bytes k (by omega) w
  have hzs := run_zeros_str k w
  have ba : Below w.heap.size w (w.alloc (.cells (zeros k) 5)) := (Below.refl _ _).alloc (Nat.le_refl _) _
  by_cases hl : (65535 : Int) < k
  · have hs : (65535 : Int) < (str (List.replicate k 0)).size := by rw [str_size, List.length_replicate]; exact hl
    go_enter Try.func5, Try.ntmps5
    go_wp2_with (first | (go_at_call 14; refine (text_long _ _ hs).mono ?_; rintro e w' ⟨rfl, rfl⟩) | (go_at_call 13; refine (awake_any _).mono ?_; rintro e w3 ⟨rfl, hb3⟩))
    go_ret
    exact ⟨rfl, ba.trans (hb3.mono ba.size)⟩
  · have hk3 : k ≤ 65535 := by omega
    go_enter Try.func5, Try.ntmps5
    go_wp2_with fail
    refine (text_first k hk1 hk3 _).mono ?_
    rintro e w1 ⟨t, rfl, hts, h0, h1, hb1⟩
    go_wp2_with (go_at_call 13; refine (awake_any _).mono ?_; rintro e w3 ⟨rfl, hb3⟩)
    go_ret
    exact ⟨rfl, below_next (ba.trans (hb1.mono ba.size)) hb3⟩
end Go.Proofs.Ytfihncgeicogcaa
