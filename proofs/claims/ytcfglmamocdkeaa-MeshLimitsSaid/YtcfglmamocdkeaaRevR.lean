/- The contracts of the reference's Reverse. Printed by turnref.py. -/
import Derived.Test.YtcfglmamocdkeaaRev
namespace Go.Proofs.Ytcfglmamocdkeaa
open Go.ChangeShapes Go.WideShapes Go.ChangeAt Go.RowKit

set_option maxRecDepth 100000 in
set_option maxHeartbeats 2000000 in
theorem rev_okr (a b : Option Addr) (n k cap cap' : Nat) (f g : Nat → V) (w : World) (SA : Sx a n f w) (SB : Sx b k g w) (hn : n ≤ 4096) (hk : k ≤ 4096) (hp : pcheck n k f g = 0) :
    Calls Try.prog 16 #[.agg #[.slice a n cap, .slice b k cap']] w (RetM w n k f (fun i => swp (g i))) := by
  go_enter Try.func16, Try.ntmps16
  go_wp2_with fail
  have HB0 := below_next (below_alloc w (.cells #[.slice a n cap, .slice b k cap'] 25)) (below_alloc _ (.cells #[.slice none 0 0, .slice none 0 0] 25))
  refine (check_auxr a b n k cap cap' f g _ (SA.next HB0) (SB.next HB0) 0 hp.symm).mono ?_
  rintro e w1 ⟨rfl, hb1⟩
  have M := ((Mb.new w (.slice a n cap) (.slice b k cap')).next (below_alloc _ (.cells #[.slice none 0 0, .slice none 0 0] 25))).next hb1
  have R := (Mb.new (w.alloc (.cells #[.slice a n cap, .slice b k cap'] 25)) (.slice none 0 0) (.slice none 0 0)).next hb1
  rw [World.size_alloc] at R
  have HB := below_next HB0 hb1
  have SA1 := SA.next HB
  have SB1 := SB.next HB
  clear hb1 HB0 SA
  have m0 := (M.next (below_alloc w1 (.cells #[] 36))).c0
  have hsz := HB.size
  have SA2 := SA1.next (below_alloc w1 (.cells #[] 36))
  go_wp2_with (at_builtin; refine wpList_append_vecs rfl (.tmp 10) (.tmp 12) elt36 rfl rfl (Ow.empty w.heap.size 36 f w1 hsz) rfl SA2 (by omega) (by simp; omega) n (by omega) f (fun i hi => cat_ge (Nat.zero_le i)) ?_; intro a' c' w2 O1 G1; have M2 := (M.next (below_alloc w1 (.cells #[] 36))).keep (G1.keep 25 (by decide)); have m1 := (M2.next (below_alloc w2 (.cells #[.slice a' n c', .slice none 0 0] 25))).c1)
  have R2 := (R.next (below_alloc w1 (.cells #[] 36))).keep (G1.keep 25 (by decide))
  have HB2 : Below w.heap.size w w2 := G1.below _ _ (below_next HB (below_alloc _ _)) (Nat.le_refl _)
  have bz := below_alloc w2 (.cells #[.slice a' n c', .slice none 0 0] 25)
  have Z3 := Mb.new w2 (.slice a' n c') (.slice none 0 0)
  have M3 := M2.next bz
  have R3 := R2.next bz
  have O3 := O1.keep (.below bz)
  have HB3 := below_next HB2 bz
  have hZ : w.heap.size + 1 < w2.heap.size := R2.hZ
  generalize hw3 : w2.alloc (.cells #[.slice a' n c', .slice none 0 0] 25) = w3 at Z3 M3 R3 O3 HB3 ⊢
  generalize w2.heap.size = Z at Z3 hZ ⊢
  clear m0 m1 M R HB SA1 hsz SA2 O1 G1 M2 R2 HB2 bz hw3
  go_loopw [18] (fun i wk => ∃ (j : Nat) (b' : Option Addr) (d' : Nat), j ≤ k ∧ i = .int .i64 j ∧ Mb Z (.slice a' n c') (.slice b' j d') wk ∧ Ow w.heap.size 36 a' c' n f wk ∧ Ow w.heap.size 47 b' d' j (fun i => swp (g i)) wk ∧ Mb (w.heap.size + 1) (.slice none 0 0) (.slice none 0 0) wk ∧ Below w.heap.size w wk) (fun i _ => k - (intOf i).toNat)
  case atStart => exact ⟨0, none, 0, by omega, rfl, Z3, O3, Ow.nil _ _ _ _, R3, HB3⟩
  case round =>
    obtain ⟨j, b', d', hj, rfl, MZ, OA, OB, R4, HB4⟩ := hrel
    by_cases hlt : j < k
    · rcases SB.next HB4 with h0 | ⟨b0, o0, rfl, S⟩
      · omega
      · obtain ⟨s0, s1, s2⟩ := S.hc j hlt
        have bt := below_alloc wr (.cells #[.int .i64 (g j).x, .int .i64 (g j).y, .int .i64 (g j).z] 47)
        have bs := below_alloc (wr.alloc (.cells #[.int .i64 (g j).x, .int .i64 (g j).y, .int .i64 (g j).z] 47)) (.cells #[.int .i64 (g j).x, .int .i64 (g j).z, .int .i64 (g j).y] 47)
        have z1 := (MZ.next bt).c1
        have bts := below_next bt bs
        have MZ2 := MZ.next bts
        have OA2 := OA.keep (.below bts)
        have OB2 := OB.keep (.below bts)
        have R42 := R4.next bts
        have HB42 := below_next HB4 bts
        have hsz := HB42.size
        have one : Sx (some ⟨wr.heap.size + 1, 0, none⟩) 1 (fun _ => swp (g j)) ((wr.alloc (.cells #[.int .i64 (g j).x, .int .i64 (g j).y, .int .i64 (g j).z] 47)).alloc (.cells #[.int .i64 (g j).x, .int .i64 (g j).z, .int .i64 (g j).y] 47)) := sx_one_new (by simp)
        go_wp2_with (at_builtin; refine wpList_append_vecs rfl (.tmp 23) (.tmp 31) elt47 rfl rfl OB2 rfl one (by omega) hsz (j + 1) rfl (fun i => swp (g i)) (cat_snoc j _) ?_; intro b'' d'' w5 O5 G5; have MZ5 := MZ2.keep (G5.keep 25 (by decide)); have f5 := MZ5.f 1; have z5 := MZ5.c1)
        go_roundw
        case rel => exact ⟨j + 1, b'', d'', by omega, by go_num, MZ5.set1 _, (OA2.keep (G5.keep 36 (by decide))).keep ((KeepT.refl _ _).set (p := ⟨Z, 1, none⟩) MZ5.row (by decide) _), O5.keep ((KeepT.refl _ _).set (p := ⟨Z, 1, none⟩) MZ5.row (by decide) _), (R42.keep (G5.keep 25 (by decide))).other ⟨Z, 1, none⟩ _ (Nat.ne_of_lt hZ), (G5.below _ _ HB42 (Nat.le_refl _)).setCell (p := ⟨Z, 1, none⟩) (by dsimp only; omega) _⟩
        case measure => simp [intOf]; omega
    · obtain rfl : j = k := by omega
      have z0 := MZ.c0
      have z1 := MZ.c1
      have r0 := R4.c0
      have r1 := R4.c1
      have f0 := R4.f 0
      have f1 := R4.f 1
      go_wp2_with fail
      have E0 := (R4.set0 (.slice a' n c')).set1 (.slice b' j d')
      exact bodyPost_ret (v := .agg #[.slice a' n c', .slice b' j d']) (by simp [results, Try.results16, go_sem, E0.c0, E0.c1]) rfl ⟨a', b', c', d', rfl, (OA.keep (((KeepT.refl _ _).set (p := ⟨w.heap.size + 1, 0, none⟩) R4.row (by decide) _).set (p := ⟨w.heap.size + 1, 1, none⟩) (R4.set0 _).row (by decide) _)).sx, (OB.keep (((KeepT.refl _ _).set (p := ⟨w.heap.size + 1, 0, none⟩) R4.row (by decide) _).set (p := ⟨w.heap.size + 1, 1, none⟩) (R4.set0 _).row (by decide) _)).sx, (HB4.setCell (p := ⟨w.heap.size + 1, 0, none⟩) (Nat.le_succ _) _).setCell (p := ⟨w.heap.size + 1, 1, none⟩) (Nat.le_succ _) _⟩
theorem rev_badr (a b : Option Addr) (n k cap cap' : Nat) (f g : Nat → V) (w : World) (SA : Sx a n f w) (SB : Sx b k g w) (hp : pcheck n k f g ≠ 0) :
    Calls Try.prog 16 #[.agg #[.slice a n cap, .slice b k cap']] w (RetM w 0 0 f g) := by
  obtain ⟨r, hr, h0⟩ : ∃ r, r = pcheck n k f g ∧ (r != 0) = true := ⟨_, rfl, by simpa using hp⟩
  have HR := Lib.hid hr
  clear hp hr
  go_enter Try.func16, Try.ntmps16
  go_wp2_with fail
  have HB0 := below_next (below_alloc w (.cells #[.slice a n cap, .slice b k cap'] 25)) (below_alloc _ (.cells #[.slice none 0 0, .slice none 0 0] 25))
  refine (check_auxr a b n k cap cap' f g _ (SA.next HB0) (SB.next HB0) r HR.out).mono ?_
  rintro e w1 ⟨rfl, hb1⟩
  have R := (Mb.new (w.alloc (.cells #[.slice a n cap, .slice b k cap'] 25)) (.slice none 0 0) (.slice none 0 0)).next hb1
  rw [World.size_alloc] at R
  have HB := below_next HB0 hb1
  have r0 := R.c0
  have r1 := R.c1
  have f0 := R.f 0
  have f1 := R.f 1
  go_wp2_with fail
  have E0 := (R.set0 (.slice none 0 0)).set1 (.slice none 0 0)
  exact bodyPost_ret (v := .agg #[.slice none 0 0, .slice none 0 0]) (by simp [results, Try.results16, go_sem, E0.c0, E0.c1]) rfl ⟨none, none, 0, 0, rfl, .inl rfl, .inl rfl, (HB.setCell (p := ⟨w.heap.size + 1, 0, none⟩) (Nat.le_succ _) _).setCell (p := ⟨w.heap.size + 1, 1, none⟩) (Nat.le_succ _) _⟩
end Go.Proofs.Ytcfglmamocdkeaa
