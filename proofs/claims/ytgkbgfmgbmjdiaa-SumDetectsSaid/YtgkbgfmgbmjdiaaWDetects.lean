/- The walk of SumDetects: the law returns true, and nothing that was in memory has changed. -/
import Derived.Test.YtgkbgfmgbmjdiaaWSeals
namespace Go.Proofs.Ytgkbgfmgbmjdiaa
open Go.ChangeShapes Go.WideShapes Go.ChangeAt Go.RowKit

theorem bytesRow_at (s : ByteArray) (cap k : Nat) (hk : k < s.size) : (bytesRow s cap)[k]? = some (.int .u8 (s[k].toNat : Nat)) := by
  unfold bytesRow
  have h : k < s.data.size := hk
  rw [Array.getElem?_append_left (by simpa using h), Array.getElem?_map, Array.getElem?_eq_getElem h]
  rfl
theorem bytesRow_size (s : ByteArray) (cap : Nat) : s.size ≤ (bytesRow s cap).size := by
  unfold bytesRow
  rw [Array.size_append, Array.size_map]
  exact Nat.le_add_right _ _
theorem changed_any (s : ByteArray) (k : Nat) (x : UInt8) (w : World) (hk : k < s.size) (_hs : s.size ≤ 1000) :
    Calls Try.prog 24 #[.string s, .int .i64 k, .int .u8 (x.toNat : Nat)] w fun e w' => e = .returned (.string (str (s.data.toList.set k (s[k] ^^^ x)))) ∧ Below w.heap.size w w' := by
  obtain ⟨cap, hcap⟩ : ∃ c, c = grownCap w s.size 0 5 := ⟨_, rfl⟩
  obtain ⟨C, hC⟩ : ∃ C, C = bytesRow s cap := ⟨_, rfl⟩
  have hconv : (convert 9 42 (.string s)).run Try.prog w = .ok (.slice (some ⟨w.heap.size, 0, none⟩) s.size cap) (w.drew.alloc (.cells C 5 (C.size, C.size + 1))) := by
    rw [hC, hcap]; exact run_bytes_of_string w 9 42 5 s Try.underlying9 Try.underlying42 Try.underlying5
  have hsz : s.size ≤ C.size := by rw [hC]; exact bytesRow_size s cap
  have hcell : ∀ j (hj : j < s.size), (w.alloc (.cells C 5 (C.size, C.size + 1))).cell? ⟨w.heap.size, j, none⟩ = some (.int .u8 (s[j].toNat : Nat)) := fun j hj => by
    rw [World.cell?_alloc_mark, hC, bytesRow_at s cap j hj]
  have hc0 := hcell k hk
  have hz0 : (w.alloc (.cells C 5 (C.size, C.size + 1))).frozen? ⟨w.heap.size, k, none⟩ = false := by
    rw [World.frozen?_alloc_mark, decide_eq_false (by omega)]; rfl
  have hx : bits .xor .u8 (s[k].toNat : Int) (x.toNat : Int) = ((s[k].toNat ^^^ x.toNat : Nat) : Int) := u8_xor_nat _ _ s[k].toNat_lt x.toNat_lt
  have hback : (convert 42 9 (.slice (some ⟨w.heap.size, 0, none⟩) s.size cap)).run Try.prog ((w.alloc (.cells C 5 (C.size, C.size + 1))).setCell ⟨w.heap.size, k, none⟩ (.int .u8 (s[k].toNat ^^^ x.toNat : Nat))).drew =
      .ok (.string (str (s.data.toList.set k (s[k] ^^^ x)))) ((w.alloc (.cells C 5 (C.size, C.size + 1))).setCell ⟨w.heap.size, k, none⟩ (.int .u8 (s[k].toNat ^^^ x.toNat : Nat))).drew := by
    have hlen : (s.data.toList.set k (s[k] ^^^ x)).length = s.size := by rw [List.length_set, ← Lib.size_eq]
    rw [← hlen]
    refine run_convert_bytes_back _ 42 9 5 ⟨w.heap.size, 0, none⟩ cap _ Try.underlying42 Try.underlying5 Try.underlying9 ?_
    intro j hj
    have hj' : j < s.size := by omega
    have ha : (⟨w.heap.size, 0, none⟩ : Addr).add j = ⟨w.heap.size, j, none⟩ := by unfold Addr.add; split <;> simp_all
    rw [ha]
    show ((w.alloc (.cells C 5 (C.size, C.size + 1))).setCell ⟨w.heap.size, k, none⟩ (.int .u8 (s[k].toNat ^^^ x.toNat : Nat))).cell? ⟨w.heap.size, j, none⟩ = _
    by_cases e : k = j
    · subst e
      rw [World.cell?_setCell_same _ _ _ hc0, List.getElem_set_self, UInt8.toNat_xor]
    · rw [World.cell?_setCell_other _ _ _ _ (by intro h; injection h; omega), hcell j hj', List.getElem_set_ne e]
      rfl
  clear hcap hC hcell
  go_enter Try.func24, Try.ntmps24
  go_wp2
  go_ret
  exact ⟨rfl, (((Below.refl _ _).alloc (Nat.le_refl _) _).setCell (Nat.le_refl _) _).drew⟩

theorem set_two (l : List UInt8) (k : Nat) (h : k + 1 < l.length) (x y : UInt8) :
    ∃ p a b q, l = p ++ a :: b :: q ∧ ∀ h1 h2, (l.set k (l[k]'h1 ^^^ x)).set (k + 1) ((l.set k (l[k]'h1 ^^^ x))[k + 1]'h2 ^^^ y) = p ++ (a ^^^ x) :: (b ^^^ y) :: q := by
  have e : l = l.take k ++ l[k] :: l[k + 1] :: l.drop (k + 2) := by
    rw [← List.drop_eq_getElem_cons, ← List.drop_eq_getElem_cons, List.take_append_drop]
  refine ⟨l.take k, l[k], l[k + 1], l.drop (k + 2), e, fun h1 h2 => ?_⟩
  have hk : (l.take k).length = k := by rw [List.length_take]; omega
  have g : (l.set k (l[k] ^^^ x))[k + 1]'h2 = l[k + 1] := List.getElem_set_ne (by omega) _
  rw [g]
  have e1 : l.set k (l[k] ^^^ x) = l.take k ++ (l[k] ^^^ x) :: l[k + 1] :: l.drop (k + 2) := by
    conv => lhs; arg 1; rw [e]
    rw [List.set_append_right _ _ (by omega), hk, Nat.sub_self]
    rfl
  rw [e1, List.set_append_right _ _ (by omega), hk, show k + 1 - k = 1 from by omega]
  rfl
theorem changed_at (s : ByteArray) (i : Int) (k : Nat) (z : Int) (x : UInt8) (w : World) (hi : i = k) (hz : z = (x.toNat : Nat)) (hk : k < s.size) (hs : s.size ≤ 1000) :
    Calls Try.prog 24 #[.string s, .int .i64 i, .int .u8 z] w fun e w' => e = .returned (.string (str (s.data.toList.set k (s[k] ^^^ x)))) ∧ Below w.heap.size w w' := by
  subst hi; subst hz; exact changed_any s k x w hk hs
theorem changed_two (t : ByteArray) (k : Nat) (x y : UInt8) (hk : k + 1 < t.size) (hz : crc16 t.data.toList = 0) (h : ¬ (x = 0 ∧ y = 0)) (h2 : k + 1 < (str (t.data.toList.set k (t[k] ^^^ x))).size) :
    crc16 ((str (t.data.toList.set k (t[k] ^^^ x))).data.toList.set (k + 1) ((str (t.data.toList.set k (t[k] ^^^ x)))[k + 1] ^^^ y)) ≠ 0 := by
  obtain ⟨p, a, b, q, e, hs⟩ := set_two t.data.toList k (by rw [← Lib.size_eq]; exact hk) x y
  have h3 := crc16_sees p q a b x y h
  rw [← e, hz] at h3
  rw [← hs (by rw [← Lib.size_eq]; omega) (by rw [List.length_set, ← Lib.size_eq]; exact hk)] at h3
  exact h3
theorem open_wrong (s : ByteArray) (w : World) (hs : s.size ≤ 1000) (h2 : 2 ≤ s.size) (h : crc16 s.data.toList ≠ 0) :
    Calls Try.prog 21 #[.string s] w fun e w' => e = .returned (.tuple #[.string ⟨#[]⟩, .int .i64 7]) ∧ Below w.heap.size w w' :=
  (open_any _ w hs).mono fun _ _ ⟨he, hw⟩ => ⟨he.trans (ret2 (by rw [openR_wrong (by rw [← Lib.size_eq]; exact h2) h]; rfl) (by rw [openR_wrong (by rw [← Lib.size_eq]; exact h2) h]; rfl)), hw⟩
theorem seal_some (s : ByteArray) (w : World) (hs : s.size ≤ 200) :
    Calls Try.prog 18 #[.string s] w fun e w' => ∃ t : ByteArray, e = .returned (.string t) ∧ Hid (crc16 t.data.toList = 0) ∧ 2 ≤ t.size ∧ t.size ≤ 202 ∧ Below w.heap.size w w' :=
  (seal_any s w (by omega)).mono fun _ _ ⟨he, hw⟩ => ⟨_, he, Lib.hid (by rw [str_list]; exact sealed_zero _), by rw [str_size]; simp [sealL, tailL], by rw [str_size]; simp [sealL, tailL]; omega, hw⟩

theorem sumDetects_walk (a0 : ByteArray) (a1 : Int) (a2 : Int) (a3 : Int) (w : World) (_w0 : a0.size ≤ maxLen) (_w1 : (Lit.int .i64 a1).wf = true) (w2 : (Lit.int .u8 a2).wf = true) (w3 : (Lit.int .u8 a3).wf = true) :
    Calls Try.prog 7 #[.string a0, .int .i64 a1, .int .u8 a2, .int .u8 a3] w fun e w' => e = .returned (.bool true) ∧ Below w.heap.size w w' := by
  have b2 := bounds_u8 w2
  have b3 := bounds_u8 w3
  clear w2 w3
  go_enter Try.func7, Try.ntmps7
  go_wp2_with fail
  refine (short_any _ _).mono ?_
  rintro e w' ⟨s, rfl, hs, rfl⟩
  go_wp2_with fail
  refine (seal_some _ _ hs).mono ?_
  rintro e w1 ⟨t, rfl, hz, ht2, ht, hb1⟩
  by_cases c1 : a1 < 0
  · go_wp2_with (go_at_call 17; refine (awake_any _).mono ?_; rintro e w' ⟨rfl, rfl⟩)
    go_ret
    exact ⟨rfl, hb1⟩
  · by_cases c2 : (t.size : Int) - 2 < a1
    · go_wp2_with (go_at_call 17; refine (awake_any _).mono ?_; rintro e w' ⟨rfl, rfl⟩)
      go_ret
      exact ⟨rfl, hb1⟩
    · have hk : 0 ≤ a1 := by omega
      obtain ⟨k, rfl⟩ := Int.eq_ofNat_of_zero_le hk
      obtain ⟨x, hx⟩ : ∃ x : UInt8, a2 = (x.toNat : Nat) := ⟨UInt8.ofNat a2.toNat, by rw [ofNat_toNat (by omega)]; omega⟩
      obtain ⟨y, hy⟩ : ∃ x : UInt8, a3 = (x.toNat : Nat) := ⟨UInt8.ofNat a3.toNat, by rw [ofNat_toNat (by omega)]; omega⟩
      have HX := Lib.hid hx
      have HY := Lib.hid hy
      clear hx hy
      have hf : ¬ (a2 = 0 ∧ a3 = 0) → ¬ (x = 0 ∧ y = 0) := fun h ⟨e1, e2⟩ => h ⟨by rw [HX.out, e1]; rfl, by rw [HY.out, e2]; rfl⟩
      have HF := Lib.hid hf
      clear hf
      have d1 : decide ((t.size : Int) < 2) = false := by simp; omega
      have d2 : decide ((k : Int) < 0) = false := by simp
      have d3 : decide ((t.size : Int) - 2 < k) = false := by simp; omega
      by_cases c3 : a2 = 0
      · by_cases c4 : a3 = 0
        · go_wp2_with (go_at_call 17; refine (awake_any _).mono ?_; rintro e w' ⟨rfl, rfl⟩)
          go_ret
          exact ⟨rfl, hb1⟩
        · have d4 : (a3 == 0) = false := by simpa using c4
          go_wp2_with fail
          refine (changed_at _ _ k _ x _ rfl (by rw [← HX.out, c3]) (by omega) (by omega)).mono ?_
          rintro e w2 ⟨rfl, hb2⟩
          have hl2 : (str (t.data.toList.set k (t[k] ^^^ x))).size = t.size := by rw [str_size, List.length_set, ← Lib.size_eq]
          have HL2 := Lib.hid hl2
          clear hl2
          go_wp2_with fail
          refine (changed_at _ _ (k + 1) _ y _ (by omega) HY.out (by rw [HL2.out]; omega) (by rw [HL2.out]; omega)).mono ?_
          rintro e w3 ⟨rfl, hb3⟩
          go_wp2_with fail
          refine (open_wrong _ _ ?_ ?_ ?_).mono ?_
          · rw [str_size, List.length_set, ← Lib.size_eq, HL2.out]; omega
          · rw [str_size, List.length_set, ← Lib.size_eq, HL2.out]; omega
          · exact changed_two t k _ _ (by omega) hz.out (HF.out (fun h => c4 h.2)) (by rw [HL2.out]; omega)
          rintro e w4 ⟨rfl, hb4⟩
          go_wp2_with (go_at_call 17; refine (awake_any _).mono ?_; rintro e w' ⟨rfl, rfl⟩)
          go_ret
          exact ⟨rfl, below_next (below_next (below_next hb1 hb2) hb3) hb4⟩
      · have d4 : (a2 == 0) = false := by simpa using c3
        go_wp2_with fail
        refine (changed_at _ _ k _ x _ rfl (HX.out) (by omega) (by omega)).mono ?_
        rintro e w2 ⟨rfl, hb2⟩
        have hl2 : (str (t.data.toList.set k (t[k] ^^^ x))).size = t.size := by rw [str_size, List.length_set, ← Lib.size_eq]
        have HL2 := Lib.hid hl2
        clear hl2
        go_wp2_with fail
        refine (changed_at _ _ (k + 1) _ y _ (by omega) HY.out (by rw [HL2.out]; omega) (by rw [HL2.out]; omega)).mono ?_
        rintro e w3 ⟨rfl, hb3⟩
        go_wp2_with fail
        refine (open_wrong _ _ ?_ ?_ ?_).mono ?_
        · rw [str_size, List.length_set, ← Lib.size_eq, HL2.out]; omega
        · rw [str_size, List.length_set, ← Lib.size_eq, HL2.out]; omega
        · exact changed_two t k _ _ (by omega) hz.out (HF.out (fun h => c3 h.1)) (by rw [HL2.out]; omega)
        rintro e w4 ⟨rfl, hb4⟩
        go_wp2_with (go_at_call 17; refine (awake_any _).mono ?_; rintro e w' ⟨rfl, rfl⟩)
        go_ret
        exact ⟨rfl, below_next (below_next (below_next hb1 hb2) hb3) hb4⟩
end Go.Proofs.Ytgkbgfmgbmjdiaa
