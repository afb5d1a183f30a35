/- Join's refusals, of the program and of the reference. Printed by joins.py. -/
import Derived.Test.YtcfglmamocdkeaaJoin
namespace Go.Proofs.Ytcfglmamocdkeaa
open Go.ChangeShapes Go.WideShapes Go.ChangeAt Go.RowKit
set_option linter.unusedVariables false

theorem join_bad1 (a b a2 b2 : Option Addr) (n k n2 k2 cap cap' cap2 cap2' : Nat) (f g f2 g2 : Nat → V) (w : World) (SA : Sx a n f w) (SB : Sx b k g w) (SA2 : Sx a2 n2 f2 w) (SB2 : Sx b2 k2 g2 w) (hp : pcheck n k f g ≠ 0) :
    Calls Try.prog 14 #[.agg #[.slice a n cap, .slice b k cap'], .agg #[.slice a2 n2 cap2, .slice b2 k2 cap2']] w (RetJ w 0 0 f g 1) := by
  obtain ⟨r, hr, h0⟩ : ∃ r, r = pcheck n k f g ∧ (r != 0) = true := ⟨_, rfl, by simpa using hp⟩
  have HR := Lib.hid hr
  clear hr
  clear hp
  go_enter Try.func14, Try.ntmps14
  go_wp2_with fail
  have e1 := below_alloc w (.cells #[.slice a n cap, .slice b k cap'] 25)
  have e2 := below_alloc (w.alloc (.cells #[.slice a n cap, .slice b k cap'] 25)) (.cells #[.slice a2 n2 cap2, .slice b2 k2 cap2'] 25)
  have e3 := below_alloc ((w.alloc (.cells #[.slice a n cap, .slice b k cap'] 25)).alloc (.cells #[.slice a2 n2 cap2, .slice b2 k2 cap2'] 25)) (.cells #[.slice none 0 0, .slice none 0 0] 25)
  have M0 := ((Mb.new w (.slice a n cap) (.slice b k cap')).next e2).next e3
  have N0 := (Mb.new (w.alloc (.cells #[.slice a n cap, .slice b k cap'] 25)) (.slice a2 n2 cap2) (.slice b2 k2 cap2')).next e3
  have R0 := Mb.new ((w.alloc (.cells #[.slice a n cap, .slice b k cap'] 25)).alloc (.cells #[.slice a2 n2 cap2, .slice b2 k2 cap2'] 25)) (.slice none 0 0) (.slice none 0 0)
  have HB0 := below_next (below_next e1 e2) e3
  simp only [World.size_alloc] at N0 R0
  refine (check_aux a b n k cap cap' f g _ (SA.next HB0) (SB.next HB0) r HR.out).mono ?_
  rintro e w1 ⟨rfl, hb1⟩
  have M1 := M0.next hb1
  have N1 := N0.next hb1
  have R1 := R0.next hb1
  have HB1 := below_next HB0 hb1
  have r0 := R1.c0
  have r1 := R1.c1
  have f0 := R1.f 0
  have f1 := R1.f 1
  go_wp2_with fail
  have E0 := (R1.set0 (.slice none 0 0)).set1 (.slice none 0 0)
  exact bodyPost_ret (v := .tuple #[.agg #[.slice none 0 0, .slice none 0 0], .int .i64 1]) (by simp [results, Try.results14, go_sem, E0.c0, E0.c1]) rfl ⟨none, none, 0, 0, rfl, .inl rfl, .inl rfl, (HB1.setCell (p := ⟨w.heap.size + 1 + 1, 0, none⟩) (by dsimp only; omega) _).setCell (p := ⟨w.heap.size + 1 + 1, 1, none⟩) (by dsimp only; omega) _⟩
theorem join_bad2 (a b a2 b2 : Option Addr) (n k n2 k2 cap cap' cap2 cap2' : Nat) (f g f2 g2 : Nat → V) (w : World) (SA : Sx a n f w) (SB : Sx b k g w) (SA2 : Sx a2 n2 f2 w) (SB2 : Sx b2 k2 g2 w) (hp : pcheck n k f g = 0) (hp2 : pcheck n2 k2 f2 g2 ≠ 0) :
    Calls Try.prog 14 #[.agg #[.slice a n cap, .slice b k cap'], .agg #[.slice a2 n2 cap2, .slice b2 k2 cap2']] w (RetJ w 0 0 f g 1) := by
  obtain ⟨r, hr, h0⟩ : ∃ r, r = pcheck n2 k2 f2 g2 ∧ (r != 0) = true := ⟨_, rfl, by simpa using hp2⟩
  have HR := Lib.hid hr
  clear hr
  clear hp2
  go_enter Try.func14, Try.ntmps14
  go_wp2_with fail
  have e1 := below_alloc w (.cells #[.slice a n cap, .slice b k cap'] 25)
  have e2 := below_alloc (w.alloc (.cells #[.slice a n cap, .slice b k cap'] 25)) (.cells #[.slice a2 n2 cap2, .slice b2 k2 cap2'] 25)
  have e3 := below_alloc ((w.alloc (.cells #[.slice a n cap, .slice b k cap'] 25)).alloc (.cells #[.slice a2 n2 cap2, .slice b2 k2 cap2'] 25)) (.cells #[.slice none 0 0, .slice none 0 0] 25)
  have M0 := ((Mb.new w (.slice a n cap) (.slice b k cap')).next e2).next e3
  have N0 := (Mb.new (w.alloc (.cells #[.slice a n cap, .slice b k cap'] 25)) (.slice a2 n2 cap2) (.slice b2 k2 cap2')).next e3
  have R0 := Mb.new ((w.alloc (.cells #[.slice a n cap, .slice b k cap'] 25)).alloc (.cells #[.slice a2 n2 cap2, .slice b2 k2 cap2'] 25)) (.slice none 0 0) (.slice none 0 0)
  have HB0 := below_next (below_next e1 e2) e3
  simp only [World.size_alloc] at N0 R0
  refine (check_aux a b n k cap cap' f g _ (SA.next HB0) (SB.next HB0) 0 hp.symm).mono ?_
  rintro e w1 ⟨rfl, hb1⟩
  have M1 := M0.next hb1
  have N1 := N0.next hb1
  have R1 := R0.next hb1
  have HB1 := below_next HB0 hb1
  have c0 := N1.c0
  have c1 := N1.c1
  go_wp2_with fail
  refine (check_aux a2 b2 n2 k2 cap2 cap2' f2 g2 _ (SA2.next HB1) (SB2.next HB1) r HR.out).mono ?_
  rintro e wz ⟨rfl, hb2⟩
  have M2 := M1.next hb2
  have N2 := N1.next hb2
  have R2 := R1.next hb2
  have HB2 := below_next HB1 hb2
  clear c0 c1
  have r0 := R2.c0
  have r1 := R2.c1
  have f0 := R2.f 0
  have f1 := R2.f 1
  go_wp2_with fail
  have E0 := (R2.set0 (.slice none 0 0)).set1 (.slice none 0 0)
  exact bodyPost_ret (v := .tuple #[.agg #[.slice none 0 0, .slice none 0 0], .int .i64 1]) (by simp [results, Try.results14, go_sem, E0.c0, E0.c1]) rfl ⟨none, none, 0, 0, rfl, .inl rfl, .inl rfl, (HB2.setCell (p := ⟨w.heap.size + 1 + 1, 0, none⟩) (by dsimp only; omega) _).setCell (p := ⟨w.heap.size + 1 + 1, 1, none⟩) (by dsimp only; omega) _⟩
theorem join_big1 (a b a2 b2 : Option Addr) (n k n2 k2 cap cap' cap2 cap2' : Nat) (f g f2 g2 : Nat → V) (w : World) (SA : Sx a n f w) (SB : Sx b k g w) (SA2 : Sx a2 n2 f2 w) (SB2 : Sx b2 k2 g2 w) (hp : pcheck n k f g = 0) (hp2 : pcheck n2 k2 f2 g2 = 0) (hl : 4096 < n + n2) (hn : n ≤ 4096) (hn2 : n2 ≤ 4096) (hk : k ≤ 4096) (hk2 : k2 ≤ 4096) :
    Calls Try.prog 14 #[.agg #[.slice a n cap, .slice b k cap'], .agg #[.slice a2 n2 cap2, .slice b2 k2 cap2']] w (RetJ w 0 0 f g 2) := by
  go_enter Try.func14, Try.ntmps14
  go_wp2_with fail
  have e1 := below_alloc w (.cells #[.slice a n cap, .slice b k cap'] 25)
  have e2 := below_alloc (w.alloc (.cells #[.slice a n cap, .slice b k cap'] 25)) (.cells #[.slice a2 n2 cap2, .slice b2 k2 cap2'] 25)
  have e3 := below_alloc ((w.alloc (.cells #[.slice a n cap, .slice b k cap'] 25)).alloc (.cells #[.slice a2 n2 cap2, .slice b2 k2 cap2'] 25)) (.cells #[.slice none 0 0, .slice none 0 0] 25)
  have M0 := ((Mb.new w (.slice a n cap) (.slice b k cap')).next e2).next e3
  have N0 := (Mb.new (w.alloc (.cells #[.slice a n cap, .slice b k cap'] 25)) (.slice a2 n2 cap2) (.slice b2 k2 cap2')).next e3
  have R0 := Mb.new ((w.alloc (.cells #[.slice a n cap, .slice b k cap'] 25)).alloc (.cells #[.slice a2 n2 cap2, .slice b2 k2 cap2'] 25)) (.slice none 0 0) (.slice none 0 0)
  have HB0 := below_next (below_next e1 e2) e3
  simp only [World.size_alloc] at N0 R0
  refine (check_aux a b n k cap cap' f g _ (SA.next HB0) (SB.next HB0) 0 hp.symm).mono ?_
  rintro e w1 ⟨rfl, hb1⟩
  have M1 := M0.next hb1
  have N1 := N0.next hb1
  have R1 := R0.next hb1
  have HB1 := below_next HB0 hb1
  have c0 := N1.c0
  have c1 := N1.c1
  go_wp2_with fail
  refine (check_aux a2 b2 n2 k2 cap2 cap2' f2 g2 _ (SA2.next HB1) (SB2.next HB1) 0 hp2.symm).mono ?_
  rintro e wz ⟨rfl, hb2⟩
  have M2 := M1.next hb2
  have N2 := N1.next hb2
  have R2 := R1.next hb2
  have HB2 := below_next HB1 hb2
  clear c0 c1
  have c0 := M2.c0
  have c1 := M2.c1
  have n0 := N2.c0
  have n1 := N2.c1
  have d1 : decide ((4096 : Int) < (n : Int) + n2) = true := by simp; omega
  have r0 := R2.c0
  have r1 := R2.c1
  have f0 := R2.f 0
  have f1 := R2.f 1
  go_wp2_with fail
  have E0 := (R2.set0 (.slice none 0 0)).set1 (.slice none 0 0)
  exact bodyPost_ret (v := .tuple #[.agg #[.slice none 0 0, .slice none 0 0], .int .i64 2]) (by simp [results, Try.results14, go_sem, E0.c0, E0.c1]) rfl ⟨none, none, 0, 0, rfl, .inl rfl, .inl rfl, (HB2.setCell (p := ⟨w.heap.size + 1 + 1, 0, none⟩) (by dsimp only; omega) _).setCell (p := ⟨w.heap.size + 1 + 1, 1, none⟩) (by dsimp only; omega) _⟩
theorem join_big2 (a b a2 b2 : Option Addr) (n k n2 k2 cap cap' cap2 cap2' : Nat) (f g f2 g2 : Nat → V) (w : World) (SA : Sx a n f w) (SB : Sx b k g w) (SA2 : Sx a2 n2 f2 w) (SB2 : Sx b2 k2 g2 w) (hp : pcheck n k f g = 0) (hp2 : pcheck n2 k2 f2 g2 = 0) (hl : n + n2 ≤ 4096) (hl2 : 4096 < k + k2) (hn : n ≤ 4096) (hn2 : n2 ≤ 4096) (hk : k ≤ 4096) (hk2 : k2 ≤ 4096) :
    Calls Try.prog 14 #[.agg #[.slice a n cap, .slice b k cap'], .agg #[.slice a2 n2 cap2, .slice b2 k2 cap2']] w (RetJ w 0 0 f g 2) := by
  go_enter Try.func14, Try.ntmps14
  go_wp2_with fail
  have e1 := below_alloc w (.cells #[.slice a n cap, .slice b k cap'] 25)
  have e2 := below_alloc (w.alloc (.cells #[.slice a n cap, .slice b k cap'] 25)) (.cells #[.slice a2 n2 cap2, .slice b2 k2 cap2'] 25)
  have e3 := below_alloc ((w.alloc (.cells #[.slice a n cap, .slice b k cap'] 25)).alloc (.cells #[.slice a2 n2 cap2, .slice b2 k2 cap2'] 25)) (.cells #[.slice none 0 0, .slice none 0 0] 25)
  have M0 := ((Mb.new w (.slice a n cap) (.slice b k cap')).next e2).next e3
  have N0 := (Mb.new (w.alloc (.cells #[.slice a n cap, .slice b k cap'] 25)) (.slice a2 n2 cap2) (.slice b2 k2 cap2')).next e3
  have R0 := Mb.new ((w.alloc (.cells #[.slice a n cap, .slice b k cap'] 25)).alloc (.cells #[.slice a2 n2 cap2, .slice b2 k2 cap2'] 25)) (.slice none 0 0) (.slice none 0 0)
  have HB0 := below_next (below_next e1 e2) e3
  simp only [World.size_alloc] at N0 R0
  refine (check_aux a b n k cap cap' f g _ (SA.next HB0) (SB.next HB0) 0 hp.symm).mono ?_
  rintro e w1 ⟨rfl, hb1⟩
  have M1 := M0.next hb1
  have N1 := N0.next hb1
  have R1 := R0.next hb1
  have HB1 := below_next HB0 hb1
  have c0 := N1.c0
  have c1 := N1.c1
  go_wp2_with fail
  refine (check_aux a2 b2 n2 k2 cap2 cap2' f2 g2 _ (SA2.next HB1) (SB2.next HB1) 0 hp2.symm).mono ?_
  rintro e wz ⟨rfl, hb2⟩
  have M2 := M1.next hb2
  have N2 := N1.next hb2
  have R2 := R1.next hb2
  have HB2 := below_next HB1 hb2
  clear c0 c1
  have c0 := M2.c0
  have c1 := M2.c1
  have n0 := N2.c0
  have n1 := N2.c1
  have d1 : decide ((4096 : Int) < (n : Int) + n2) = false := by simp; omega
  have d2 : decide ((4096 : Int) < (k : Int) + k2) = true := by simp; omega
  have r0 := R2.c0
  have r1 := R2.c1
  have f0 := R2.f 0
  have f1 := R2.f 1
  go_wp2_with fail
  have E0 := (R2.set0 (.slice none 0 0)).set1 (.slice none 0 0)
  exact bodyPost_ret (v := .tuple #[.agg #[.slice none 0 0, .slice none 0 0], .int .i64 2]) (by simp [results, Try.results14, go_sem, E0.c0, E0.c1]) rfl ⟨none, none, 0, 0, rfl, .inl rfl, .inl rfl, (HB2.setCell (p := ⟨w.heap.size + 1 + 1, 0, none⟩) (by dsimp only; omega) _).setCell (p := ⟨w.heap.size + 1 + 1, 1, none⟩) (by dsimp only; omega) _⟩
theorem join_bad1r (a b a2 b2 : Option Addr) (n k n2 k2 cap cap' cap2 cap2' : Nat) (f g f2 g2 : Nat → V) (w : World) (SA : Sx a n f w) (SB : Sx b k g w) (SA2 : Sx a2 n2 f2 w) (SB2 : Sx b2 k2 g2 w) (hp : pcheck n k f g ≠ 0) :
    Calls Try.prog 27 #[.agg #[.slice a n cap, .slice b k cap'], .agg #[.slice a2 n2 cap2, .slice b2 k2 cap2']] w (RetJ w 0 0 f g 1) := by
  obtain ⟨r, hr, h0⟩ : ∃ r, r = pcheck n k f g ∧ (r != 0) = true := ⟨_, rfl, by simpa using hp⟩
  have HR := Lib.hid hr
  clear hr
  clear hp
  go_enter Try.func27, Try.ntmps27
  go_wp2_with fail
  have e1 := below_alloc w (.cells #[.slice a n cap, .slice b k cap'] 25)
  have e2 := below_alloc (w.alloc (.cells #[.slice a n cap, .slice b k cap'] 25)) (.cells #[.slice a2 n2 cap2, .slice b2 k2 cap2'] 25)
  have e3 := below_alloc ((w.alloc (.cells #[.slice a n cap, .slice b k cap'] 25)).alloc (.cells #[.slice a2 n2 cap2, .slice b2 k2 cap2'] 25)) (.cells #[.slice none 0 0, .slice none 0 0] 25)
  have M0 := ((Mb.new w (.slice a n cap) (.slice b k cap')).next e2).next e3
  have N0 := (Mb.new (w.alloc (.cells #[.slice a n cap, .slice b k cap'] 25)) (.slice a2 n2 cap2) (.slice b2 k2 cap2')).next e3
  have R0 := Mb.new ((w.alloc (.cells #[.slice a n cap, .slice b k cap'] 25)).alloc (.cells #[.slice a2 n2 cap2, .slice b2 k2 cap2'] 25)) (.slice none 0 0) (.slice none 0 0)
  have HB0 := below_next (below_next e1 e2) e3
  simp only [World.size_alloc] at N0 R0
  refine (check_auxr a b n k cap cap' f g _ (SA.next HB0) (SB.next HB0) r HR.out).mono ?_
  rintro e w1 ⟨rfl, hb1⟩
  have M1 := M0.next hb1
  have N1 := N0.next hb1
  have R1 := R0.next hb1
  have HB1 := below_next HB0 hb1
  have r0 := R1.c0
  have r1 := R1.c1
  have f0 := R1.f 0
  have f1 := R1.f 1
  go_wp2_with fail
  have E0 := (R1.set0 (.slice none 0 0)).set1 (.slice none 0 0)
  exact bodyPost_ret (v := .tuple #[.agg #[.slice none 0 0, .slice none 0 0], .int .i64 1]) (by simp [results, Try.results27, go_sem, E0.c0, E0.c1]) rfl ⟨none, none, 0, 0, rfl, .inl rfl, .inl rfl, (HB1.setCell (p := ⟨w.heap.size + 1 + 1, 0, none⟩) (by dsimp only; omega) _).setCell (p := ⟨w.heap.size + 1 + 1, 1, none⟩) (by dsimp only; omega) _⟩
theorem join_bad2r (a b a2 b2 : Option Addr) (n k n2 k2 cap cap' cap2 cap2' : Nat) (f g f2 g2 : Nat → V) (w : World) (SA : Sx a n f w) (SB : Sx b k g w) (SA2 : Sx a2 n2 f2 w) (SB2 : Sx b2 k2 g2 w) (hp : pcheck n k f g = 0) (hp2 : pcheck n2 k2 f2 g2 ≠ 0) :
    Calls Try.prog 27 #[.agg #[.slice a n cap, .slice b k cap'], .agg #[.slice a2 n2 cap2, .slice b2 k2 cap2']] w (RetJ w 0 0 f g 1) := by
  obtain ⟨r, hr, h0⟩ : ∃ r, r = pcheck n2 k2 f2 g2 ∧ (r != 0) = true := ⟨_, rfl, by simpa using hp2⟩
  have HR := Lib.hid hr
  clear hr
  clear hp2
  go_enter Try.func27, Try.ntmps27
  go_wp2_with fail
  have e1 := below_alloc w (.cells #[.slice a n cap, .slice b k cap'] 25)
  have e2 := below_alloc (w.alloc (.cells #[.slice a n cap, .slice b k cap'] 25)) (.cells #[.slice a2 n2 cap2, .slice b2 k2 cap2'] 25)
  have e3 := below_alloc ((w.alloc (.cells #[.slice a n cap, .slice b k cap'] 25)).alloc (.cells #[.slice a2 n2 cap2, .slice b2 k2 cap2'] 25)) (.cells #[.slice none 0 0, .slice none 0 0] 25)
  have M0 := ((Mb.new w (.slice a n cap) (.slice b k cap')).next e2).next e3
  have N0 := (Mb.new (w.alloc (.cells #[.slice a n cap, .slice b k cap'] 25)) (.slice a2 n2 cap2) (.slice b2 k2 cap2')).next e3
  have R0 := Mb.new ((w.alloc (.cells #[.slice a n cap, .slice b k cap'] 25)).alloc (.cells #[.slice a2 n2 cap2, .slice b2 k2 cap2'] 25)) (.slice none 0 0) (.slice none 0 0)
  have HB0 := below_next (below_next e1 e2) e3
  simp only [World.size_alloc] at N0 R0
  refine (check_auxr a b n k cap cap' f g _ (SA.next HB0) (SB.next HB0) 0 hp.symm).mono ?_
  rintro e w1 ⟨rfl, hb1⟩
  have M1 := M0.next hb1
  have N1 := N0.next hb1
  have R1 := R0.next hb1
  have HB1 := below_next HB0 hb1
  have c0 := N1.c0
  have c1 := N1.c1
  go_wp2_with fail
  refine (check_auxr a2 b2 n2 k2 cap2 cap2' f2 g2 _ (SA2.next HB1) (SB2.next HB1) r HR.out).mono ?_
  rintro e wz ⟨rfl, hb2⟩
  have M2 := M1.next hb2
  have N2 := N1.next hb2
  have R2 := R1.next hb2
  have HB2 := below_next HB1 hb2
  clear c0 c1
  have r0 := R2.c0
  have r1 := R2.c1
  have f0 := R2.f 0
  have f1 := R2.f 1
  go_wp2_with fail
  have E0 := (R2.set0 (.slice none 0 0)).set1 (.slice none 0 0)
  exact bodyPost_ret (v := .tuple #[.agg #[.slice none 0 0, .slice none 0 0], .int .i64 1]) (by simp [results, Try.results27, go_sem, E0.c0, E0.c1]) rfl ⟨none, none, 0, 0, rfl, .inl rfl, .inl rfl, (HB2.setCell (p := ⟨w.heap.size + 1 + 1, 0, none⟩) (by dsimp only; omega) _).setCell (p := ⟨w.heap.size + 1 + 1, 1, none⟩) (by dsimp only; omega) _⟩
theorem join_big1r (a b a2 b2 : Option Addr) (n k n2 k2 cap cap' cap2 cap2' : Nat) (f g f2 g2 : Nat → V) (w : World) (SA : Sx a n f w) (SB : Sx b k g w) (SA2 : Sx a2 n2 f2 w) (SB2 : Sx b2 k2 g2 w) (hp : pcheck n k f g = 0) (hp2 : pcheck n2 k2 f2 g2 = 0) (hl : 4096 < n + n2) (hn : n ≤ 4096) (hn2 : n2 ≤ 4096) (hk : k ≤ 4096) (hk2 : k2 ≤ 4096) :
    Calls Try.prog 27 #[.agg #[.slice a n cap, .slice b k cap'], .agg #[.slice a2 n2 cap2, .slice b2 k2 cap2']] w (RetJ w 0 0 f g 2) := by
  go_enter Try.func27, Try.ntmps27
  go_wp2_with fail
  have e1 := below_alloc w (.cells #[.slice a n cap, .slice b k cap'] 25)
  have e2 := below_alloc (w.alloc (.cells #[.slice a n cap, .slice b k cap'] 25)) (.cells #[.slice a2 n2 cap2, .slice b2 k2 cap2'] 25)
  have e3 := below_alloc ((w.alloc (.cells #[.slice a n cap, .slice b k cap'] 25)).alloc (.cells #[.slice a2 n2 cap2, .slice b2 k2 cap2'] 25)) (.cells #[.slice none 0 0, .slice none 0 0] 25)
  have M0 := ((Mb.new w (.slice a n cap) (.slice b k cap')).next e2).next e3
  have N0 := (Mb.new (w.alloc (.cells #[.slice a n cap, .slice b k cap'] 25)) (.slice a2 n2 cap2) (.slice b2 k2 cap2')).next e3
  have R0 := Mb.new ((w.alloc (.cells #[.slice a n cap, .slice b k cap'] 25)).alloc (.cells #[.slice a2 n2 cap2, .slice b2 k2 cap2'] 25)) (.slice none 0 0) (.slice none 0 0)
  have HB0 := below_next (below_next e1 e2) e3
  simp only [World.size_alloc] at N0 R0
  refine (check_auxr a b n k cap cap' f g _ (SA.next HB0) (SB.next HB0) 0 hp.symm).mono ?_
  rintro e w1 ⟨rfl, hb1⟩
  have M1 := M0.next hb1
  have N1 := N0.next hb1
  have R1 := R0.next hb1
  have HB1 := below_next HB0 hb1
  have c0 := N1.c0
  have c1 := N1.c1
  go_wp2_with fail
  refine (check_auxr a2 b2 n2 k2 cap2 cap2' f2 g2 _ (SA2.next HB1) (SB2.next HB1) 0 hp2.symm).mono ?_
  rintro e wz ⟨rfl, hb2⟩
  have M2 := M1.next hb2
  have N2 := N1.next hb2
  have R2 := R1.next hb2
  have HB2 := below_next HB1 hb2
  clear c0 c1
  have c0 := M2.c0
  have c1 := M2.c1
  have n0 := N2.c0
  have n1 := N2.c1
  have d1 : decide ((4096 : Int) < (n : Int) + n2) = true := by simp; omega
  have r0 := R2.c0
  have r1 := R2.c1
  have f0 := R2.f 0
  have f1 := R2.f 1
  go_wp2_with fail
  have E0 := (R2.set0 (.slice none 0 0)).set1 (.slice none 0 0)
  exact bodyPost_ret (v := .tuple #[.agg #[.slice none 0 0, .slice none 0 0], .int .i64 2]) (by simp [results, Try.results27, go_sem, E0.c0, E0.c1]) rfl ⟨none, none, 0, 0, rfl, .inl rfl, .inl rfl, (HB2.setCell (p := ⟨w.heap.size + 1 + 1, 0, none⟩) (by dsimp only; omega) _).setCell (p := ⟨w.heap.size + 1 + 1, 1, none⟩) (by dsimp only; omega) _⟩
theorem join_big2r (a b a2 b2 : Option Addr) (n k n2 k2 cap cap' cap2 cap2' : Nat) (f g f2 g2 : Nat → V) (w : World) (SA : Sx a n f w) (SB : Sx b k g w) (SA2 : Sx a2 n2 f2 w) (SB2 : Sx b2 k2 g2 w) (hp : pcheck n k f g = 0) (hp2 : pcheck n2 k2 f2 g2 = 0) (hl : n + n2 ≤ 4096) (hl2 : 4096 < k + k2) (hn : n ≤ 4096) (hn2 : n2 ≤ 4096) (hk : k ≤ 4096) (hk2 : k2 ≤ 4096) :
    Calls Try.prog 27 #[.agg #[.slice a n cap, .slice b k cap'], .agg #[.slice a2 n2 cap2, .slice b2 k2 cap2']] w (RetJ w 0 0 f g 2) := by
  go_enter Try.func27, Try.ntmps27
  go_wp2_with fail
  have e1 := below_alloc w (.cells #[.slice a n cap, .slice b k cap'] 25)
  have e2 := below_alloc (w.alloc (.cells #[.slice a n cap, .slice b k cap'] 25)) (.cells #[.slice a2 n2 cap2, .slice b2 k2 cap2'] 25)
  have e3 := below_alloc ((w.alloc (.cells #[.slice a n cap, .slice b k cap'] 25)).alloc (.cells #[.slice a2 n2 cap2, .slice b2 k2 cap2'] 25)) (.cells #[.slice none 0 0, .slice none 0 0] 25)
  have M0 := ((Mb.new w (.slice a n cap) (.slice b k cap')).next e2).next e3
  have N0 := (Mb.new (w.alloc (.cells #[.slice a n cap, .slice b k cap'] 25)) (.slice a2 n2 cap2) (.slice b2 k2 cap2')).next e3
  have R0 := Mb.new ((w.alloc (.cells #[.slice a n cap, .slice b k cap'] 25)).alloc (.cells #[.slice a2 n2 cap2, .slice b2 k2 cap2'] 25)) (.slice none 0 0) (.slice none 0 0)
  have HB0 := below_next (below_next e1 e2) e3
  simp only [World.size_alloc] at N0 R0
  refine (check_auxr a b n k cap cap' f g _ (SA.next HB0) (SB.next HB0) 0 hp.symm).mono ?_
  rintro e w1 ⟨rfl, hb1⟩
  have M1 := M0.next hb1
  have N1 := N0.next hb1
  have R1 := R0.next hb1
  have HB1 := below_next HB0 hb1
  have c0 := N1.c0
  have c1 := N1.c1
  go_wp2_with fail
  refine (check_auxr a2 b2 n2 k2 cap2 cap2' f2 g2 _ (SA2.next HB1) (SB2.next HB1) 0 hp2.symm).mono ?_
  rintro e wz ⟨rfl, hb2⟩
  have M2 := M1.next hb2
  have N2 := N1.next hb2
  have R2 := R1.next hb2
  have HB2 := below_next HB1 hb2
  clear c0 c1
  have c0 := M2.c0
  have c1 := M2.c1
  have n0 := N2.c0
  have n1 := N2.c1
  have d1 : decide ((4096 : Int) < (n : Int) + n2) = false := by simp; omega
  have d2 : decide ((4096 : Int) < (k : Int) + k2) = true := by simp; omega
  have r0 := R2.c0
  have r1 := R2.c1
  have f0 := R2.f 0
  have f1 := R2.f 1
  go_wp2_with fail
  have E0 := (R2.set0 (.slice none 0 0)).set1 (.slice none 0 0)
  exact bodyPost_ret (v := .tuple #[.agg #[.slice none 0 0, .slice none 0 0], .int .i64 2]) (by simp [results, Try.results27, go_sem, E0.c0, E0.c1]) rfl ⟨none, none, 0, 0, rfl, .inl rfl, .inl rfl, (HB2.setCell (p := ⟨w.heap.size + 1 + 1, 0, none⟩) (by dsimp only; omega) _).setCell (p := ⟨w.heap.size + 1 + 1, 1, none⟩) (by dsimp only; omega) _⟩
end Go.Proofs.Ytcfglmamocdkeaa
