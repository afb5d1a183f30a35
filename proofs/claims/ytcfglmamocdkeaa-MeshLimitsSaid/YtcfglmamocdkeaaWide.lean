/- The contract of the law's own 'wide'. -/
import Derived.Test.YtcfglmamocdkeaaCls
import Derived.Deep.LoopGhost
namespace Go.Proofs.Ytcfglmamocdkeaa
open Go.ChangeShapes Go.WideShapes Go.ChangeAt Go.RowKit
set_option linter.unusedVariables false

def wf (i : Nat) : V := ⟨i, 0, 0⟩
def wg (_ : Nat) : V := ⟨0, 0, 0⟩
set_option maxRecDepth 100000 in
set_option maxHeartbeats 2000000 in
theorem wide_any (A B : Nat) (w : World) (hA : A ≤ 5000) (hB : B ≤ 5000) : Calls Try.prog 28 #[.int .i64 A, .int .i64 B] w (RetM w A B wf wg) := by
  go_enter Try.func28, Try.ntmps28
  go_wp2_with fail
  have b1 := below_alloc w (.cells #[.slice none 0 0, .slice none 0 0] 25)
  have b2 := below_alloc (w.alloc (.cells #[.slice none 0 0, .slice none 0 0] 25)) (.cells #[.slice none 0 0, .slice none 0 0] 25)
  have R := (Mb.new w (.slice none 0 0) (.slice none 0 0)).next b2
  have Z := Mb.new (w.alloc (.cells #[.slice none 0 0, .slice none 0 0] 25)) (.slice none 0 0) (.slice none 0 0)
  have HB := below_next b1 b2
  rw [World.size_alloc] at Z
  clear b1 b2
  generalize (w.alloc (.cells #[.slice none 0 0, .slice none 0 0] 25)).alloc (.cells #[.slice none 0 0, .slice none 0 0] 25) = wz at R Z HB ⊢
  go_loopg [6] A (fun r _ wk => ∃ (j : Nat) (a' : Option Addr) (c' : Nat), j ≤ A ∧ r = A - j ∧ Mb (w.heap.size + 1) (.slice a' j c') (.slice none 0 0) wk ∧ Ow w.heap.size 36 a' c' j wf wk ∧ Mb w.heap.size (.slice none 0 0) (.slice none 0 0) wk ∧ Below w.heap.size w wk)
  case atStart => exact ⟨0, none, 0, by omega, rfl, Z, Ow.nil _ _ _ _, R, HB⟩
  case round =>
    obtain ⟨j, a', c', hj, hr, MZ, OA, R4, HB4⟩ := hrel
    have HR := Lib.hid hr
    clear hr
    have m0 := MZ.c0
    by_cases hlt : j < A
    · have d1 : decide (j < A) = true := by simpa using hlt
      have bs := below_alloc wr (.cells #[.int .i64 j, .int .i64 0, .int .i64 0] 36)
      have MZ2 := MZ.next bs
      have OA2 := OA.keep (.below bs)
      have R42 := R4.next bs
      have HB42 := below_next HB4 bs
      have hsz := HB42.size
      have one : Sx (some ⟨wr.heap.size, 0, none⟩) 1 (fun _ => wf j) (wr.alloc (.cells #[.int .i64 j, .int .i64 0, .int .i64 0] 36)) := sx_one_new rfl
      go_wp2_with (at_builtin; refine wpList_append_vecs rfl (.tmp 12) (.tmp 17) elt36 rfl rfl OA2 rfl one (by omega) hsz (j + 1) rfl wf (cat_snoc j _) ?_; intro a'' c'' w5 O5 G5; have MZ5 := MZ2.keep (G5.keep 25 (by decide)); have f5 := MZ5.f 0; have z5 := MZ5.c0)
      go_roundg (gk - 1)
      case measure => have := HR.out; omega
      case rel =>
        have := HR.out
        exact ⟨j + 1, a'', c'', by omega, by omega, MZ5.set0 _, O5.keep ((KeepT.refl _ _).set (p := ⟨w.heap.size + 1, 0, none⟩) MZ5.row (by decide) _), (R42.keep (G5.keep 25 (by decide))).other ⟨w.heap.size + 1, 0, none⟩ _ (by dsimp only; omega), (G5.below _ _ HB42 (Nat.le_refl _)).setCell (p := ⟨w.heap.size + 1, 0, none⟩) (Nat.le_succ _) _⟩
    · have d1 : decide (j < A) = false := by simpa using hlt
      obtain rfl : j = A := by omega
      have m1 := MZ.c1
      go_wp2_with fail
      clear m0 m1 HR d1 hlt hj
      go_loopg [20] B (fun r _ wk => ∃ (l : Nat) (b' : Option Addr) (d' : Nat), l ≤ B ∧ r = B - l ∧ Mb (w.heap.size + 1) (.slice a' j c') (.slice b' l d') wk ∧ Ow w.heap.size 36 a' c' j wf wk ∧ Ow w.heap.size 47 b' d' l wg wk ∧ Mb w.heap.size (.slice none 0 0) (.slice none 0 0) wk ∧ Below w.heap.size w wk)
      case atStart => exact ⟨0, none, 0, by omega, rfl, MZ, OA, Ow.nil _ _ _ _, R4, HB4⟩
      case round =>
        obtain ⟨l, b', d', hl, hr, MZ, OA, OB, R4, HB4⟩ := hrel
        have HR := Lib.hid hr
        clear hr
        have m0 := MZ.c0
        have m1 := MZ.c1
        by_cases hlt : l < B
        · have d1 : decide (l < B) = true := by simpa using hlt
          have bs := below_alloc wr (.cells #[.int .i64 0, .int .i64 0, .int .i64 0] 47)
          have MZ2 := MZ.next bs
          have OA2 := OA.keep (.below bs)
          have OB2 := OB.keep (.below bs)
          have R42 := R4.next bs
          have HB42 := below_next HB4 bs
          have hsz := HB42.size
          have one : Sx (some ⟨wr.heap.size, 0, none⟩) 1 (fun _ => wg l) (wr.alloc (.cells #[.int .i64 0, .int .i64 0, .int .i64 0] 47)) := sx_one_new rfl
          go_wp2_with (at_builtin; refine wpList_append_vecs rfl (.tmp 26) (.tmp 28) elt47 rfl rfl OB2 rfl one (by omega) hsz (l + 1) rfl wg (cat_snoc l _) ?_; intro b'' d'' w5 O5 G5; have MZ5 := MZ2.keep (G5.keep 25 (by decide)); have f5 := MZ5.f 1; have z5 := MZ5.c1)
          go_roundg (gk - 1)
          case measure => have := HR.out; omega
          case rel =>
            have := HR.out
            exact ⟨l + 1, b'', d'', by omega, by omega, MZ5.set1 _, (OA2.keep (G5.keep 36 (by decide))).keep ((KeepT.refl _ _).set (p := ⟨w.heap.size + 1, 1, none⟩) MZ5.row (by decide) _), O5.keep ((KeepT.refl _ _).set (p := ⟨w.heap.size + 1, 1, none⟩) MZ5.row (by decide) _), (R42.keep (G5.keep 25 (by decide))).other ⟨w.heap.size + 1, 1, none⟩ _ (by dsimp only; omega), (G5.below _ _ HB42 (Nat.le_refl _)).setCell (p := ⟨w.heap.size + 1, 1, none⟩) (Nat.le_succ _) _⟩
        · have d1 : decide (l < B) = false := by simpa using hlt
          obtain rfl : l = B := by omega
          have r0 := R4.c0
          have r1 := R4.c1
          have f0 := R4.f 0
          have f1 := R4.f 1
          go_wp2_with fail
          have E0 := (R4.set0 (.slice a' j c')).set1 (.slice b' l d')
          exact bodyPost_ret (v := .agg #[.slice a' j c', .slice b' l d']) (by simp [results, Try.results28, go_sem, E0.c0, E0.c1]) rfl ⟨a', b', c', d', rfl, (OA.keep (((KeepT.refl _ _).set (p := ⟨w.heap.size, 0, none⟩) R4.row (by decide) _).set (p := ⟨w.heap.size, 1, none⟩) (R4.set0 _).row (by decide) _)).sx, (OB.keep (((KeepT.refl _ _).set (p := ⟨w.heap.size, 0, none⟩) R4.row (by decide) _).set (p := ⟨w.heap.size, 1, none⟩) (R4.set0 _).row (by decide) _)).sx, (HB4.setCell (p := ⟨w.heap.size, 0, none⟩) (Nat.le_refl _) _).setCell (p := ⟨w.heap.size, 1, none⟩) (Nat.le_refl _) _⟩
end Go.Proofs.Ytcfglmamocdkeaa
