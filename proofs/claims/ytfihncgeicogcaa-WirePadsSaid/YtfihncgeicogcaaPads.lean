/- The contracts of Pad, of the program and of the reference; the walk of WirePads. -/
import Derived.Test.YtfihncgeicogcaaTexts
namespace Go.Proofs.Ytfihncgeicogcaa
open Go.ChangeShapes Go.WideShapes Go.ChangeAt Go.RowKit

theorem pad_arg (s : ByteArray) (n : Int) (w : World) (h : n < 0 ∨ 65536 < n) :
    Calls Try.prog 17 #[.string s, .int .i64 n] w fun e w' => e = .returned (.tuple #[.string ⟨#[]⟩, .int .i64 1]) ∧ w = w' := by
  rcases h with h | h
  · go_enter Try.func17, Try.ntmps17
    go_wp2
    go_ret2
    exact ⟨rfl, rfl⟩
  · have h0 : ¬ n < 0 := by omega
    have hd : decide (n < 0) = false := by simp; omega
    have hd2 : decide (65536 < n) = true := by simp; omega
    go_enter Try.func17, Try.ntmps17
    go_wp2
    go_ret2
    exact ⟨rfl, rfl⟩
theorem pad_limit (s : ByteArray) (n : Int) (w : World) (h0 : 0 ≤ n) (h6 : n ≤ 65536) (h : n < s.size) :
    Calls Try.prog 17 #[.string s, .int .i64 n] w fun e w' => e = .returned (.tuple #[.string ⟨#[]⟩, .int .i64 2]) ∧ w = w' := by
  have hd : decide (n < 0) = false := by simp; omega
  have hd2 : decide (65536 < n) = false := by simp; omega
  go_enter Try.func17, Try.ntmps17
  go_wp2
  go_ret2
  exact ⟨rfl, rfl⟩
theorem zeroCells_at {n j : Nat} (h : j < n) : (Builtin.zeroCells (Value.cells (.int .u8 0)) n)[j]? = some (.int .u8 0) := by
  have e : Value.cells (.int .u8 0) = #[Value.int .u8 0] := rfl
  rw [e]
  unfold Builtin.zeroCells
  rw [Array.getElem?_map, Array.getElem?_eq_getElem (by simp; exact h)]
  simp [Nat.mod_one]
theorem run_pad_none (ty : TypeId) (a : Addr) (n : Nat) (W : World) :
    (Builtin.append_ #[29, 3] ty #[.slice (some a) n n, .int .i64 0]).run Try.prog W = .ok (.slice (some a) n n) W := by
  obtain ⟨i0, hi, hz0, hz1, hz2⟩ := info_parts u8_info
  have h0 : IntKind.i64.wrap 0 = 0 := by rw [IntKind.wrap_i64]; rfl
  simp [Builtin.append_, run_underlying Try.underlying29, run_underlying Try.underlying3, sizeOf, typeInfo, hi, asInt, asIntOf, h0, storeCells]
theorem run_pad_some (ty : TypeId) (a : Addr) (l : List UInt8) (m : Nat) (W : World) (hl : l.length + m ≤ 70000) (hm : 0 < m)
    (hc : ∀ j u, (cellsB l)[j]? = some u → W.cell? (a.add j) = some u) :
    ∃ cap C, (Builtin.append_ #[29, 3] ty #[.slice (some a) l.length l.length, .int .i64 (m : Int)]).run Try.prog W = .ok (.slice (some ⟨W.heap.size, 0, none⟩) (l.length + m) cap) (W.drew.alloc (.cells C 5)) ∧
      ∀ j, j < l.length + m → C[j]? = (cellsB (l ++ List.replicate m 0))[j]? := by
  obtain ⟨i0, hi, hz0, hz1, hz2⟩ := info_parts u8_info
  have hold := run_firstCells_some (P := Try.prog) (w := W.drew) i0.size l.length a l.length l.length (cellsB l) (by rw [hz1, cellsB_length, Nat.mul_one]) (fun j u hj => hc j u hj)
  have h := Lib.run_append_grow_zeros (P := Try.prog) W 29 3 ty 5 i0 (.int .u8 0) .i64 .i64 Try.underlying29 Try.underlying3 hi hz0 (some a) l.length l.length (cellsB l) hold m hm (by rw [hz1]; decide) (by omega) (by omega) (by rw [hz2]; omega)
    (by rw [hz2]; have := nextslicecap_le (need := l.length + m) (old := l.length) (by omega); omega)
  refine ⟨_, _, h, fun j hj => ?_⟩
  have hcl : (cellsB l).toArray.size = l.length := by rw [List.size_toArray, cellsB_length]
  rw [cellsB_append]
  by_cases h1 : j < l.length
  · rw [Array.append_assoc, Array.getElem?_append_left (by omega), List.getElem?_append_left (by rw [cellsB_length]; exact h1)]
    simp
  · have hz : (Builtin.zeroCells (Value.cells (.int .u8 0)) m).size = m := by rw [size_zeroCells]; exact Nat.mul_one m
    rw [Array.getElem?_append_left (by rw [Array.size_append, hcl, hz]; exact hj), Array.getElem?_append_right (by omega), hcl, zeroCells_at (by omega),
      List.getElem?_append_right (by rw [cellsB_length]; omega), cellsB_length]
    unfold cellsB
    rw [List.getElem?_map, List.getElem?_replicate, if_pos (by omega)]
    rfl
theorem back_cells {W : World} {C : Array Value} {l : List UInt8} {cap : Nat} (hc : ∀ j, j < l.length → C[j]? = (cellsB l)[j]?) :
    (convert 29 9 (.slice (some ⟨W.heap.size, 0, none⟩) l.length cap)).run Try.prog (W.drew.alloc (.cells C 5)) = .ok (.string (str l)) (W.drew.alloc (.cells C 5)) := by
  refine run_convert_bytes_back (P := Try.prog) _ 29 9 5 ⟨W.heap.size, 0, none⟩ cap l Try.underlying29 Try.underlying5 Try.underlying9 (fun j hj => ?_)
  have ha : (⟨W.heap.size, 0, none⟩ : Addr).add j = ⟨W.heap.size, j, none⟩ := by unfold Addr.add; split <;> simp_all
  rw [ha]
  have e := cell_of_row _ _ j _ _ _ (heap_alloc_new W.drew (.cells C 5))
  refine e.trans ?_
  rw [hc j hj]
  unfold cellsB
  rw [List.getElem?_map, List.getElem?_eq_getElem hj]
  rfl

def padL (s : ByteArray) (m : Nat) : List UInt8 := s.data.toList ++ List.replicate m 0
theorem bytesRow_at (s : ByteArray) (cap k : Nat) (hk : k < s.size) : (bytesRow s cap)[k]? = some (.int .u8 (s[k].toNat : Nat)) := by
  unfold bytesRow
  have h : k < s.data.size := hk
  rw [Array.getElem?_append_left (by simpa using h), Array.getElem?_map, Array.getElem?_eq_getElem h]
  rfl
theorem pad_ok (s : ByteArray) (m : Nat) (w : World) (h6 : s.size + m ≤ 65536) :
    Calls Try.prog 17 #[.string s, .int .i64 ((s.size : Int) + m)] w fun e w' => e = .returned (.tuple #[.string (str (padL s m)), .int .i64 0]) ∧ Below w.heap.size w w' := by
  have hd : decide (((s.size : Int) + m) < 0) = false := by simp; omega
  have hd2 : decide (65536 < ((s.size : Int) + m)) = false := by simp; omega
  have hd3 : decide (((s.size : Int) + m) < s.size) = false := by simp; omega
  obtain ⟨cap, hcap⟩ : ∃ c, c = grownCap w s.size 0 5 := ⟨_, rfl⟩
  have hge : s.size ≤ cap := by rw [hcap]; exact grownCap_ge _ _ _ _
  obtain ⟨C, hC⟩ : ∃ C, C = bytesRow s cap := ⟨_, rfl⟩
  have hconv : (convert 9 29 (.string s)).run Try.prog w = .ok (.slice (some ⟨w.heap.size, 0, none⟩) s.size cap) (w.drew.alloc (.cells C 5 (C.size, C.size + 1))) := by
    rw [hC, hcap]; exact run_bytes_of_string w 9 29 5 s Try.underlying9 Try.underlying29 Try.underlying5
  have hcell : ∀ j u, (cellsB s.data.toList)[j]? = some u → ((w.alloc (.cells C 5 (C.size, C.size + 1))).drew).cell? ((⟨w.heap.size, 0, none⟩ : Addr).add j) = some u := by
    intro j u hj
    have hjl : j < s.size := by
      have := (List.getElem?_eq_some_iff.1 hj).1
      rw [cellsB_length, ← Lib.size_eq] at this
      exact this
    have ha : (⟨w.heap.size, 0, none⟩ : Addr).add j = ⟨w.heap.size, j, none⟩ := by unfold Addr.add; split <;> simp_all
    rw [ha]
    show (w.alloc (.cells C 5 (C.size, C.size + 1))).cell? ⟨w.heap.size, j, none⟩ = some u
    rw [World.cell?_alloc_mark, hC, bytesRow_at s cap j hjl, ← hj]
    unfold cellsB
    rw [List.getElem?_map, List.getElem?_eq_getElem (by rw [← Lib.size_eq]; exact hjl)]
    rfl
  have hlen : s.data.toList.length = s.size := (Lib.size_eq s).symm
  clear hcap hC
  by_cases hm : m = 0
  · subst hm
    have hback : (convert 29 9 (.slice (some ⟨w.heap.size, 0, none⟩) s.size s.size)).run Try.prog ((w.alloc (.cells C 5 (C.size, C.size + 1))).drew) = .ok (.string (str (padL s 0))) ((w.alloc (.cells C 5 (C.size, C.size + 1))).drew) := by
      have h := run_convert_bytes_back (P := Try.prog) ((w.alloc (.cells C 5 (C.size, C.size + 1))).drew) 29 9 5 ⟨w.heap.size, 0, none⟩ s.size s.data.toList Try.underlying29 Try.underlying5 Try.underlying9 (fun j hj => by
        exact hcell j _ (by unfold cellsB; rw [List.getElem?_map, List.getElem?_eq_getElem hj]; rfl))
      rw [hlen] at h
      unfold padL
      rw [List.replicate_zero, List.append_nil]
      exact h
    clear hcell hlen
    go_enter Try.func17, Try.ntmps17
    go_wp2_with (at_builtin; refine Lib.wpList_append_run _ rfl _ _ 29 3 rfl _ _ rfl rfl _ _ (run_pad_none _ _ _ _) ?_)
    go_ret2
    exact ⟨rfl, ((Below.refl _ _).alloc (Nat.le_refl _) _).drew⟩
  · have hm' : 0 < m := by omega
    obtain ⟨cap2, C2, hrun, hC2⟩ := run_pad_some 29 ⟨w.heap.size, 0, none⟩ s.data.toList m ((w.alloc (.cells C 5 (C.size, C.size + 1))).drew) (by omega) hm' hcell
    have hback := back_cells (cap := cap2) (W := (w.alloc (.cells C 5 (C.size, C.size + 1))).drew) (C := C2) (l := padL s m) (by unfold padL; rw [List.length_append, List.length_replicate]; exact hC2)
    rw [show (padL s m).length = s.size + m from by unfold padL; rw [List.length_append, List.length_replicate, hlen]] at hback
    have es : (w.alloc (.cells C 5 (C.size, C.size + 1))).drew.heap.size = w.heap.size + 1 := by simp
    rw [es] at hback
    rw [hlen, es] at hrun
    have ew : (w.alloc (.cells C 5 (C.size, C.size + 1))).drew.drew.alloc (.cells C2 5) = ((w.alloc (.cells C 5 (C.size, C.size + 1))).alloc (.cells C2 5)).drew.drew := rfl
    rw [ew] at hback hrun
    have HR := Lib.hid hrun
    have hsub : (s.size : Int) + m - s.size = m := by omega
    clear hcell hlen hrun hC2 es ew
    go_enter Try.func17, Try.ntmps17
    go_wp2_with (at_builtin; refine Lib.wpList_append_run _ rfl _ _ 29 3 rfl _ _ rfl rfl _ _ HR.out ?_)
    go_ret2
    exact ⟨rfl, ((((Below.refl _ _).alloc (Nat.le_refl _) _).alloc (by simp) _).drew).drew⟩
theorem padR_arg (s : ByteArray) (n : Int) (w : World) (h : n < 0 ∨ 65536 < n) :
    Calls Try.prog 18 #[.string s, .int .i64 n] w fun e w' => e = .returned (.tuple #[.string ⟨#[]⟩, .int .i64 1]) ∧ w = w' := by
  rcases h with h | h
  · go_enter Try.func18, Try.ntmps18
    go_wp2
    go_ret2
    exact ⟨rfl, rfl⟩
  · have h0 : ¬ n < 0 := by omega
    have hd : decide (n < 0) = false := by simp; omega
    have hd2 : decide (65536 < n) = true := by simp; omega
    go_enter Try.func18, Try.ntmps18
    go_wp2
    go_ret2
    exact ⟨rfl, rfl⟩
theorem padR_limit (s : ByteArray) (n : Int) (w : World) (h0 : 0 ≤ n) (h6 : n ≤ 65536) (h : n < s.size) :
    Calls Try.prog 18 #[.string s, .int .i64 n] w fun e w' => e = .returned (.tuple #[.string ⟨#[]⟩, .int .i64 2]) ∧ w = w' := by
  have hd : decide (n < 0) = false := by simp; omega
  have hd2 : decide (65536 < n) = false := by simp; omega
  go_enter Try.func18, Try.ntmps18
  go_wp2
  go_ret2
  exact ⟨rfl, rfl⟩
theorem padR_add (s : ByteArray) (m : Nat) : s ++ str (List.replicate m 0) = str (padL s m) := by
  conv => lhs; lhs; rw [← str_self s]
  rw [add_str]; rfl
theorem padR_ok (s : ByteArray) (m : Nat) (w : World) (h6 : s.size + m ≤ 65536) :
    Calls Try.prog 18 #[.string s, .int .i64 ((s.size : Int) + m)] w fun e w' => e = .returned (.tuple #[.string (str (padL s m)), .int .i64 0]) ∧ Below w.heap.size w w' := by
  have hd : decide (((s.size : Int) + m) < 0) = false := by simp; omega
  have hd2 : decide (65536 < ((s.size : Int) + m)) = false := by simp; omega
  have hd3 : decide (((s.size : Int) + m) < s.size) = false := by simp; omega
  have hsub : (s.size : Int) + m - s.size = m := by omega
  have hmk := make_bytes m (by omega) w
  have hzs := run_zeros_str m w
  have hz : (str (List.replicate m 0)).size ≤ m := by rw [str_size, List.length_replicate]; exact Nat.le_refl _
  have ha := padR_add s m
  go_enter Try.func18, Try.ntmps18
  go_wp2
  go_ret2
  exact ⟨ret2 (by first | rfl | exact ha) rfl, (Below.refl _ _).alloc (Nat.le_refl _) _⟩

theorem wirePads_walk (a0 : ByteArray) (a1 : Int) (w : World) (_w0 : a0.size ≤ maxLen) (_w1 : (Lit.int .i64 a1).wf = true) :
    Calls Try.prog 7 #[.string a0, .int .i64 a1] w fun e w' => e = .returned (.bool true) ∧ Below w.heap.size w w' := by
  by_cases hb : (1000 : Int) < a0.size
  · go_enter Try.func7, Try.ntmps7
    go_wp2_with (go_at_call 13; refine (awake_any _).mono ?_; rintro e w3 ⟨rfl, hb3⟩)
    go_ret
    exact ⟨rfl, hb3⟩
  · by_cases h : a1 < 0 ∨ 65536 < a1
    · have H := Lib.hid h
      clear h
      go_enter Try.func7, Try.ntmps7
      go_wp2_with (first | (go_at_call 17; refine (pad_arg _ _ _ H.out).mono ?_; rintro e w' ⟨rfl, rfl⟩) | (go_at_call 18; refine (padR_arg _ _ _ H.out).mono ?_; rintro e w' ⟨rfl, rfl⟩) | (go_at_call 13; refine (awake_any _).mono ?_; rintro e w3 ⟨rfl, hb3⟩))
      go_ret
      exact ⟨rfl, hb3⟩
    · have h0 : 0 ≤ a1 := by omega
      have h6 : a1 ≤ 65536 := by omega
      clear h
      by_cases hs : a1 < a0.size
      · go_enter Try.func7, Try.ntmps7
        go_wp2_with (first | (go_at_call 17; refine (pad_limit _ _ _ h0 h6 hs).mono ?_; rintro e w' ⟨rfl, rfl⟩) | (go_at_call 18; refine (padR_limit _ _ _ h0 h6 hs).mono ?_; rintro e w' ⟨rfl, rfl⟩) | (go_at_call 13; refine (awake_any _).mono ?_; rintro e w3 ⟨rfl, hb3⟩))
        go_ret
        exact ⟨rfl, hb3⟩
      · obtain ⟨m, rfl⟩ : ∃ m : Nat, a1 = (a0.size : Int) + m := ⟨(a1 - a0.size).toNat, by omega⟩
        have hm : a0.size + m ≤ 65536 := by omega
        clear hs h0 h6
        go_enter Try.func7, Try.ntmps7
        go_wp2_with (first | (go_at_call 17; refine (pad_ok _ _ _ hm).mono ?_; rintro e w1 ⟨rfl, hb1⟩) | (go_at_call 18; refine (padR_ok _ _ _ hm).mono ?_; rintro e w2 ⟨rfl, hb2⟩) | (go_at_call 13; refine (awake_any _).mono ?_; rintro e w3 ⟨rfl, hb3⟩))
        go_ret
        exact ⟨rfl, below_next (below_next hb1 hb2) hb3⟩
end Go.Proofs.Ytfihncgeicogcaa
