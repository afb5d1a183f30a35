/- The walk of MeshJoins. Printed by mlaws.py. -/
import Derived.Test.YtcfglmamocdkeaaCls
import Derived.Test.YtcfglmamocdkeaaJoinR
namespace Go.Proofs.Ytcfglmamocdkeaa
open Go.ChangeShapes Go.WideShapes Go.ChangeAt Go.RowKit
set_option linter.unusedVariables false

theorem meshJoins_heavy1 (a b a2 b2 : Option Addr) (n k n2 k2 c1 c2 c3 c4 : Nat) (f g f2 g2 : Nat → V) (w : World) (SA : Sx a n f w) (SB : Sx b k g w) (SA2 : Sx a2 n2 f2 w) (SB2 : Sx b2 k2 g2 w) (h1 : 200 < n ∨ 200 < k) :
    Calls Try.prog 7 #[.agg #[.slice a n c1, .slice b k c2], .agg #[.slice a2 n2 c3, .slice b2 k2 c4]] w fun e w' => e = .returned (.bool true) ∧ Below w.heap.size w w' := by
  have H1 := Lib.hid h1
  clear h1
  go_enter Try.func7, Try.ntmps7
  go_wp2_with fail
  have e1 := below_alloc w (.cells #[.slice a n c1, .slice b k c2] 25)
  have e2 := below_alloc (w.alloc (.cells #[.slice a n c1, .slice b k c2] 25)) (.cells #[.slice a2 n2 c3, .slice b2 k2 c4] 25)
  have M0 := (Mb.new w (.slice a n c1) (.slice b k c2)).next e2
  have N0 := Mb.new (w.alloc (.cells #[.slice a n c1, .slice b k c2] 25)) (.slice a2 n2 c3) (.slice b2 k2 c4)
  have HB0 := below_next e1 e2
  simp only [World.size_alloc] at N0
  clear e1 e2
  refine (heavy_is (decide_eq_true H1.out)).mono ?_
  rintro e wh1 ⟨rfl, hb⟩
  have M1 := M0.next hb
  have N1 := N0.next hb
  have HB1 := below_next HB0 hb
  clear M0 N0 HB0 hb
  go_wp2_with fail
  refine (awake_any _).mono ?_
  rintro e wf ⟨rfl, hb⟩
  go_wp2_with fail
  go_ret
  exact ⟨rfl, below_next HB1 hb⟩
theorem meshJoins_heavy2 (a b a2 b2 : Option Addr) (n k n2 k2 c1 c2 c3 c4 : Nat) (f g f2 g2 : Nat → V) (w : World) (SA : Sx a n f w) (SB : Sx b k g w) (SA2 : Sx a2 n2 f2 w) (SB2 : Sx b2 k2 g2 w) (h1 : ¬ (200 < n ∨ 200 < k)) (h2 : 200 < n2 ∨ 200 < k2) :
    Calls Try.prog 7 #[.agg #[.slice a n c1, .slice b k c2], .agg #[.slice a2 n2 c3, .slice b2 k2 c4]] w fun e w' => e = .returned (.bool true) ∧ Below w.heap.size w w' := by
  have H1 := Lib.hid h1
  have H2 := Lib.hid h2
  clear h1 h2
  go_enter Try.func7, Try.ntmps7
  go_wp2_with fail
  have e1 := below_alloc w (.cells #[.slice a n c1, .slice b k c2] 25)
  have e2 := below_alloc (w.alloc (.cells #[.slice a n c1, .slice b k c2] 25)) (.cells #[.slice a2 n2 c3, .slice b2 k2 c4] 25)
  have M0 := (Mb.new w (.slice a n c1) (.slice b k c2)).next e2
  have N0 := Mb.new (w.alloc (.cells #[.slice a n c1, .slice b k c2] 25)) (.slice a2 n2 c3) (.slice b2 k2 c4)
  have HB0 := below_next e1 e2
  simp only [World.size_alloc] at N0
  clear e1 e2
  refine (heavy_is (decide_eq_false H1.out)).mono ?_
  rintro e wh1 ⟨rfl, hb⟩
  have M1 := M0.next hb
  have N1 := N0.next hb
  have HB1 := below_next HB0 hb
  clear M0 N0 HB0 hb
  have c0 := N1.c0
  have c1' := N1.c1
  go_wp2_with fail
  clear c0 c1'
  refine (heavy_is (decide_eq_true H2.out)).mono ?_
  rintro e wh2 ⟨rfl, hb⟩
  have M2 := M1.next hb
  have N2 := N1.next hb
  have HB2 := below_next HB1 hb
  clear M1 N1 HB1 hb
  go_wp2_with fail
  refine (awake_any _).mono ?_
  rintro e wf ⟨rfl, hb⟩
  go_wp2_with fail
  go_ret
  exact ⟨rfl, below_next HB2 hb⟩
set_option maxRecDepth 100000 in
set_option maxHeartbeats 2000000 in
theorem meshJoins_oo (a b a2 b2 : Option Addr) (n k n2 k2 c1 c2 c3 c4 : Nat) (f g f2 g2 : Nat → V) (w : World) (SA : Sx a n f w) (SB : Sx b k g w) (SA2 : Sx a2 n2 f2 w) (SB2 : Sx b2 k2 g2 w) (h1 : ¬ (200 < n ∨ 200 < k)) (h2 : ¬ (200 < n2 ∨ 200 < k2)) (hp : pcheck n k f g = 0) (hp2 : pcheck n2 k2 f2 g2 = 0) :
    Calls Try.prog 7 #[.agg #[.slice a n c1, .slice b k c2], .agg #[.slice a2 n2 c3, .slice b2 k2 c4]] w fun e w' => e = .returned (.bool true) ∧ Below w.heap.size w w' := by
  have HJ := Lib.hid (pcheck_join hp hp2 (by omega) (by omega))
  have HT2 := Lib.hid (pcheck_all hp2).2.2.2
  have HP := Lib.hid hp
  have HP2 := Lib.hid hp2
  clear hp2
  clear hp
  have hn : n ≤ 200 := by omega
  have hk : k ≤ 200 := by omega
  have hn2 : n2 ≤ 200 := by omega
  have hk2 : k2 ≤ 200 := by omega
  have H1 := Lib.hid h1
  have H2 := Lib.hid h2
  clear h1 h2
  go_enter Try.func7, Try.ntmps7
  go_wp2_with fail
  have e1 := below_alloc w (.cells #[.slice a n c1, .slice b k c2] 25)
  have e2 := below_alloc (w.alloc (.cells #[.slice a n c1, .slice b k c2] 25)) (.cells #[.slice a2 n2 c3, .slice b2 k2 c4] 25)
  have M0 := (Mb.new w (.slice a n c1) (.slice b k c2)).next e2
  have N0 := Mb.new (w.alloc (.cells #[.slice a n c1, .slice b k c2] 25)) (.slice a2 n2 c3) (.slice b2 k2 c4)
  have HB0 := below_next e1 e2
  simp only [World.size_alloc] at N0
  clear e1 e2
  refine (heavy_is (decide_eq_false H1.out)).mono ?_
  rintro e wh1 ⟨rfl, hb⟩
  have M1 := M0.next hb
  have N1 := N0.next hb
  have HB1 := below_next HB0 hb
  clear M0 N0 HB0 hb
  have c0 := N1.c0
  have c1' := N1.c1
  go_wp2_with fail
  clear c0 c1'
  refine (heavy_is (decide_eq_false H2.out)).mono ?_
  rintro e wh2 ⟨rfl, hb⟩
  have M2 := M1.next hb
  have N2 := N1.next hb
  have HB2 := below_next HB1 hb
  clear M1 N1 HB1 hb
  clear H1 H2
  have hnn9 : n + n2 ≤ 4096 := by omega
  have hkk9 : k + k2 ≤ 4096 := by omega
  have hnn5 : n + n2 ≤ 100000 := by omega
  have hkk5 : k + k2 ≤ 100000 := by omega
  have q0 := M2.c0
  have q1 := M2.c1
  have q2 := N2.c0
  have q3 := N2.c1
  go_wp2_with fail
  clear q0 q1 q2 q3
  refine (join_ok a b a2 b2 n k n2 k2 c1 c2 c3 c4 f g f2 g2 _ (SA.next HB2) (SB.next HB2) (SA2.next HB2) (SB2.next HB2) HP.out HP2.out hnn9 hkk9 HT2.out).mono ?_
  rintro e w4 ⟨ja, jb, jc, jd, rfl, JA, JB, hb⟩
  have x1 := below_alloc w4 (.cells #[.slice ja (n + n2) jc, .slice jb (k + k2) jd] 25)
  have J4 := Mb.new w4 (.slice ja (n + n2) jc) (.slice jb (k + k2) jd)
  have K := below_next hb x1
  have M4 := M2.next K
  have N4 := N2.next K
  have HB4 := below_next HB2 K
  have JA4 := JA.next x1
  have JB4 := JB.next x1
  have q0 := M4.c0
  have q1 := M4.c1
  have q2 := N4.c0
  have q3 := N4.c1
  go_wp2_with fail
  clear K x1 hb M2 N2 HB2 JA JB q0 q1 q2 q3
  generalize w4.alloc (.cells #[.slice ja (n + n2) jc, .slice jb (k + k2) jd] 25) = w5 at J4 M4 N4 HB4 JA4 JB4 ⊢
  generalize w4.heap.size = pj at J4 ⊢
  refine (join_okr a b a2 b2 n k n2 k2 c1 c2 c3 c4 f g f2 g2 _ (SA.next HB4) (SB.next HB4) (SA2.next HB4) (SB2.next HB4) HP.out HP2.out hnn9 hkk9 HT2.out).mono ?_
  rintro e w6 ⟨ra, rb, rc, rd, rfl, RA, RB, hb⟩
  have x1 := below_alloc w6 (.cells #[.slice ra (n + n2) rc, .slice rb (k + k2) rd] 25)
  have R6 := Mb.new w6 (.slice ra (n + n2) rc) (.slice rb (k + k2) rd)
  have K := below_next hb x1
  have M6 := M4.next K
  have N6 := N4.next K
  have J6 := J4.next K
  have HB6 := below_next HB4 K
  have JA6 := JA4.next K
  have JB6 := JB4.next K
  have RA6 := RA.next x1
  have RB6 := RB.next x1
  have q0 := J6.c0
  have q1 := J6.c1
  go_wp2_with fail
  clear K x1 hb M4 N4 J4 HB4 JA4 JB4 RA RB q0 q1
  generalize w6.alloc (.cells #[.slice ra (n + n2) rc, .slice rb (k + k2) rd] 25) = w7 at R6 J6 M6 N6 HB6 JA6 JB6 RA6 RB6 ⊢
  generalize w6.heap.size = pr at R6 ⊢
  refine (samer_is JA6 JB6 RA6 RB6 hnn5 hkk5 (psame_refl _ _ _ _)).mono ?_
  rintro e w8 ⟨rfl, hb⟩
  have M8 := M6.next hb
  have N8 := N6.next hb
  have J8 := J6.next hb
  have JA8 := JA6.next hb
  have JB8 := JB6.next hb
  have HB8 := below_next HB6 hb
  clear hb M6 N6 J6 JA6 JB6 HB6 RA6 RB6 R6
  have q0 := J8.c0
  have q1 := J8.c1
  go_wp2_with fail
  clear q0 q1
  refine (check_is JA8 JB8 HJ.out).mono ?_
  rintro e w9 ⟨rfl, hb⟩
  have M9 := M8.next hb
  have N9 := N8.next hb
  have J9 := J8.next hb
  have HB9 := below_next HB8 hb
  clear hb M8 N8 J8 JA8 JB8 HB8
  have q0 := J9.c0
  have q1 := J9.c1
  have q2 := M9.c0
  have q3 := M9.c1
  have q4 := N9.c0
  have q5 := N9.c1
  go_wp2_with fail
  refine (awake_any _).mono ?_
  rintro e wf ⟨rfl, hb⟩
  go_wp2_with fail
  go_ret
  exact ⟨rfl, below_next HB9 hb⟩
set_option maxRecDepth 100000 in
set_option maxHeartbeats 2000000 in
theorem meshJoins_ob (a b a2 b2 : Option Addr) (n k n2 k2 c1 c2 c3 c4 : Nat) (f g f2 g2 : Nat → V) (w : World) (SA : Sx a n f w) (SB : Sx b k g w) (SA2 : Sx a2 n2 f2 w) (SB2 : Sx b2 k2 g2 w) (h1 : ¬ (200 < n ∨ 200 < k)) (h2 : ¬ (200 < n2 ∨ 200 < k2)) (hp : pcheck n k f g = 0) (hp2 : pcheck n2 k2 f2 g2 ≠ 0) :
    Calls Try.prog 7 #[.agg #[.slice a n c1, .slice b k c2], .agg #[.slice a2 n2 c3, .slice b2 k2 c4]] w fun e w' => e = .returned (.bool true) ∧ Below w.heap.size w w' := by
  have HP := Lib.hid hp
  have HP2 := Lib.hid hp2
  clear hp2
  clear hp
  have hn : n ≤ 200 := by omega
  have hk : k ≤ 200 := by omega
  have hn2 : n2 ≤ 200 := by omega
  have hk2 : k2 ≤ 200 := by omega
  have H1 := Lib.hid h1
  have H2 := Lib.hid h2
  clear h1 h2
  go_enter Try.func7, Try.ntmps7
  go_wp2_with fail
  have e1 := below_alloc w (.cells #[.slice a n c1, .slice b k c2] 25)
  have e2 := below_alloc (w.alloc (.cells #[.slice a n c1, .slice b k c2] 25)) (.cells #[.slice a2 n2 c3, .slice b2 k2 c4] 25)
  have M0 := (Mb.new w (.slice a n c1) (.slice b k c2)).next e2
  have N0 := Mb.new (w.alloc (.cells #[.slice a n c1, .slice b k c2] 25)) (.slice a2 n2 c3) (.slice b2 k2 c4)
  have HB0 := below_next e1 e2
  simp only [World.size_alloc] at N0
  clear e1 e2
  refine (heavy_is (decide_eq_false H1.out)).mono ?_
  rintro e wh1 ⟨rfl, hb⟩
  have M1 := M0.next hb
  have N1 := N0.next hb
  have HB1 := below_next HB0 hb
  clear M0 N0 HB0 hb
  have c0 := N1.c0
  have c1' := N1.c1
  go_wp2_with fail
  clear c0 c1'
  refine (heavy_is (decide_eq_false H2.out)).mono ?_
  rintro e wh2 ⟨rfl, hb⟩
  have M2 := M1.next hb
  have N2 := N1.next hb
  have HB2 := below_next HB1 hb
  clear M1 N1 HB1 hb
  clear H1 H2
  have hnn9 : n + n2 ≤ 4096 := by omega
  have hkk9 : k + k2 ≤ 4096 := by omega
  have hnn5 : n + n2 ≤ 100000 := by omega
  have hkk5 : k + k2 ≤ 100000 := by omega
  have q0 := M2.c0
  have q1 := M2.c1
  have q2 := N2.c0
  have q3 := N2.c1
  go_wp2_with fail
  clear q0 q1 q2 q3
  refine (join_bad2 a b a2 b2 n k n2 k2 c1 c2 c3 c4 f g f2 g2 _ (SA.next HB2) (SB.next HB2) (SA2.next HB2) (SB2.next HB2) HP.out HP2.out).mono ?_
  rintro e w4 ⟨ja, jb, jc, jd, rfl, JA, JB, hb⟩
  have x1 := below_alloc w4 (.cells #[.slice ja 0 jc, .slice jb 0 jd] 25)
  have J4 := Mb.new w4 (.slice ja 0 jc) (.slice jb 0 jd)
  have K := below_next hb x1
  have M4 := M2.next K
  have N4 := N2.next K
  have HB4 := below_next HB2 K
  have JA4 := JA.next x1
  have JB4 := JB.next x1
  have q0 := M4.c0
  have q1 := M4.c1
  have q2 := N4.c0
  have q3 := N4.c1
  go_wp2_with fail
  clear K x1 hb M2 N2 HB2 JA JB q0 q1 q2 q3
  generalize w4.alloc (.cells #[.slice ja 0 jc, .slice jb 0 jd] 25) = w5 at J4 M4 N4 HB4 JA4 JB4 ⊢
  generalize w4.heap.size = pj at J4 ⊢
  refine (join_bad2r a b a2 b2 n k n2 k2 c1 c2 c3 c4 f g f2 g2 _ (SA.next HB4) (SB.next HB4) (SA2.next HB4) (SB2.next HB4) HP.out HP2.out).mono ?_
  rintro e w6 ⟨ra, rb, rc, rd, rfl, RA, RB, hb⟩
  have x1 := below_alloc w6 (.cells #[.slice ra 0 rc, .slice rb 0 rd] 25)
  have R6 := Mb.new w6 (.slice ra 0 rc) (.slice rb 0 rd)
  have K := below_next hb x1
  have M6 := M4.next K
  have N6 := N4.next K
  have J6 := J4.next K
  have HB6 := below_next HB4 K
  have JA6 := JA4.next K
  have JB6 := JB4.next K
  have RA6 := RA.next x1
  have RB6 := RB.next x1
  have q0 := J6.c0
  have q1 := J6.c1
  go_wp2_with fail
  clear K x1 hb M4 N4 J4 HB4 JA4 JB4 RA RB q0 q1
  generalize w6.alloc (.cells #[.slice ra 0 rc, .slice rb 0 rd] 25) = w7 at R6 J6 M6 N6 HB6 JA6 JB6 RA6 RB6 ⊢
  generalize w6.heap.size = pr at R6 ⊢
  refine (samer_is JA6 JB6 RA6 RB6 (Nat.zero_le _) (Nat.zero_le _) (psame_nil _ _ _ _)).mono ?_
  rintro e w8 ⟨rfl, hb⟩
  have M8 := M6.next hb
  have N8 := N6.next hb
  have J8 := J6.next hb
  have JA8 := JA6.next hb
  have JB8 := JB6.next hb
  have HB8 := below_next HB6 hb
  clear hb M6 N6 J6 JA6 JB6 HB6 RA6 RB6 R6
  have HB9 := HB8
  go_wp2_with fail
  refine (awake_any _).mono ?_
  rintro e wf ⟨rfl, hb⟩
  go_wp2_with fail
  go_ret
  exact ⟨rfl, below_next HB9 hb⟩
set_option maxRecDepth 100000 in
set_option maxHeartbeats 2000000 in
theorem meshJoins_b (a b a2 b2 : Option Addr) (n k n2 k2 c1 c2 c3 c4 : Nat) (f g f2 g2 : Nat → V) (w : World) (SA : Sx a n f w) (SB : Sx b k g w) (SA2 : Sx a2 n2 f2 w) (SB2 : Sx b2 k2 g2 w) (h1 : ¬ (200 < n ∨ 200 < k)) (h2 : ¬ (200 < n2 ∨ 200 < k2)) (hp : pcheck n k f g ≠ 0) :
    Calls Try.prog 7 #[.agg #[.slice a n c1, .slice b k c2], .agg #[.slice a2 n2 c3, .slice b2 k2 c4]] w fun e w' => e = .returned (.bool true) ∧ Below w.heap.size w w' := by
  have HP := Lib.hid hp
  clear hp
  have hn : n ≤ 200 := by omega
  have hk : k ≤ 200 := by omega
  have hn2 : n2 ≤ 200 := by omega
  have hk2 : k2 ≤ 200 := by omega
  have H1 := Lib.hid h1
  have H2 := Lib.hid h2
  clear h1 h2
  go_enter Try.func7, Try.ntmps7
  go_wp2_with fail
  have e1 := below_alloc w (.cells #[.slice a n c1, .slice b k c2] 25)
  have e2 := below_alloc (w.alloc (.cells #[.slice a n c1, .slice b k c2] 25)) (.cells #[.slice a2 n2 c3, .slice b2 k2 c4] 25)
  have M0 := (Mb.new w (.slice a n c1) (.slice b k c2)).next e2
  have N0 := Mb.new (w.alloc (.cells #[.slice a n c1, .slice b k c2] 25)) (.slice a2 n2 c3) (.slice b2 k2 c4)
  have HB0 := below_next e1 e2
  simp only [World.size_alloc] at N0
  clear e1 e2
  refine (heavy_is (decide_eq_false H1.out)).mono ?_
  rintro e wh1 ⟨rfl, hb⟩
  have M1 := M0.next hb
  have N1 := N0.next hb
  have HB1 := below_next HB0 hb
  clear M0 N0 HB0 hb
  have c0 := N1.c0
  have c1' := N1.c1
  go_wp2_with fail
  clear c0 c1'
  refine (heavy_is (decide_eq_false H2.out)).mono ?_
  rintro e wh2 ⟨rfl, hb⟩
  have M2 := M1.next hb
  have N2 := N1.next hb
  have HB2 := below_next HB1 hb
  clear M1 N1 HB1 hb
  clear H1 H2
  have hnn9 : n + n2 ≤ 4096 := by omega
  have hkk9 : k + k2 ≤ 4096 := by omega
  have hnn5 : n + n2 ≤ 100000 := by omega
  have hkk5 : k + k2 ≤ 100000 := by omega
  have q0 := M2.c0
  have q1 := M2.c1
  have q2 := N2.c0
  have q3 := N2.c1
  go_wp2_with fail
  clear q0 q1 q2 q3
  refine (join_bad1 a b a2 b2 n k n2 k2 c1 c2 c3 c4 f g f2 g2 _ (SA.next HB2) (SB.next HB2) (SA2.next HB2) (SB2.next HB2) HP.out).mono ?_
  rintro e w4 ⟨ja, jb, jc, jd, rfl, JA, JB, hb⟩
  have x1 := below_alloc w4 (.cells #[.slice ja 0 jc, .slice jb 0 jd] 25)
  have J4 := Mb.new w4 (.slice ja 0 jc) (.slice jb 0 jd)
  have K := below_next hb x1
  have M4 := M2.next K
  have N4 := N2.next K
  have HB4 := below_next HB2 K
  have JA4 := JA.next x1
  have JB4 := JB.next x1
  have q0 := M4.c0
  have q1 := M4.c1
  have q2 := N4.c0
  have q3 := N4.c1
  go_wp2_with fail
  clear K x1 hb M2 N2 HB2 JA JB q0 q1 q2 q3
  generalize w4.alloc (.cells #[.slice ja 0 jc, .slice jb 0 jd] 25) = w5 at J4 M4 N4 HB4 JA4 JB4 ⊢
  generalize w4.heap.size = pj at J4 ⊢
  refine (join_bad1r a b a2 b2 n k n2 k2 c1 c2 c3 c4 f g f2 g2 _ (SA.next HB4) (SB.next HB4) (SA2.next HB4) (SB2.next HB4) HP.out).mono ?_
  rintro e w6 ⟨ra, rb, rc, rd, rfl, RA, RB, hb⟩
  have x1 := below_alloc w6 (.cells #[.slice ra 0 rc, .slice rb 0 rd] 25)
  have R6 := Mb.new w6 (.slice ra 0 rc) (.slice rb 0 rd)
  have K := below_next hb x1
  have M6 := M4.next K
  have N6 := N4.next K
  have J6 := J4.next K
  have HB6 := below_next HB4 K
  have JA6 := JA4.next K
  have JB6 := JB4.next K
  have RA6 := RA.next x1
  have RB6 := RB.next x1
  have q0 := J6.c0
  have q1 := J6.c1
  go_wp2_with fail
  clear K x1 hb M4 N4 J4 HB4 JA4 JB4 RA RB q0 q1
  generalize w6.alloc (.cells #[.slice ra 0 rc, .slice rb 0 rd] 25) = w7 at R6 J6 M6 N6 HB6 JA6 JB6 RA6 RB6 ⊢
  generalize w6.heap.size = pr at R6 ⊢
  refine (samer_is JA6 JB6 RA6 RB6 (Nat.zero_le _) (Nat.zero_le _) (psame_nil _ _ _ _)).mono ?_
  rintro e w8 ⟨rfl, hb⟩
  have M8 := M6.next hb
  have N8 := N6.next hb
  have J8 := J6.next hb
  have JA8 := JA6.next hb
  have JB8 := JB6.next hb
  have HB8 := below_next HB6 hb
  clear hb M6 N6 J6 JA6 JB6 HB6 RA6 RB6 R6
  have HB9 := HB8
  go_wp2_with fail
  refine (awake_any _).mono ?_
  rintro e wf ⟨rfl, hb⟩
  go_wp2_with fail
  go_ret
  exact ⟨rfl, below_next HB9 hb⟩
theorem meshJoins_all (a b a2 b2 : Option Addr) (n k n2 k2 c1 c2 c3 c4 : Nat) (f g f2 g2 : Nat → V) (w : World) (SA : Sx a n f w) (SB : Sx b k g w) (SA2 : Sx a2 n2 f2 w) (SB2 : Sx b2 k2 g2 w) :
    Calls Try.prog 7 #[.agg #[.slice a n c1, .slice b k c2], .agg #[.slice a2 n2 c3, .slice b2 k2 c4]] w fun e w' => e = .returned (.bool true) ∧ Below w.heap.size w w' := by
  by_cases h1 : 200 < n ∨ 200 < k
  · exact meshJoins_heavy1 a b a2 b2 n k n2 k2 c1 c2 c3 c4 f g f2 g2 w SA SB SA2 SB2 h1
  · by_cases h2 : 200 < n2 ∨ 200 < k2
    · exact meshJoins_heavy2 a b a2 b2 n k n2 k2 c1 c2 c3 c4 f g f2 g2 w SA SB SA2 SB2 h1 h2
    · by_cases hp : pcheck n k f g = 0
      · by_cases hp2 : pcheck n2 k2 f2 g2 = 0
        · exact meshJoins_oo a b a2 b2 n k n2 k2 c1 c2 c3 c4 f g f2 g2 w SA SB SA2 SB2 h1 h2 hp hp2
        · exact meshJoins_ob a b a2 b2 n k n2 k2 c1 c2 c3 c4 f g f2 g2 w SA SB SA2 SB2 h1 h2 hp hp2
      · exact meshJoins_b a b a2 b2 n k n2 k2 c1 c2 c3 c4 f g f2 g2 w SA SB SA2 SB2 h1 h2 hp
theorem meshJoins_walk (v0 v1 : Value) (w : World) (h0 : ∃ a n cap b k cap' f g, v0 = .agg #[.slice a n cap, .slice b k cap'] ∧ Sx a n f w ∧ Sx b k g w) (h1 : ∃ a n cap b k cap' f g, v1 = .agg #[.slice a n cap, .slice b k cap'] ∧ Sx a n f w ∧ Sx b k g w) :
    Calls Try.prog 7 #[v0, v1] w fun e w' => e = .returned (.bool true) ∧ Below w.heap.size w w' := by
  obtain ⟨a, n, c1, b, k, c2, f, g, rfl, SA, SB⟩ := h0
  obtain ⟨a2, n2, c3, b2, k2, c4, f2, g2, rfl, SA2, SB2⟩ := h1
  exact meshJoins_all a b a2 b2 n k n2 k2 c1 c2 c3 c4 f g f2 g2 w SA SB SA2 SB2
end Go.Proofs.Ytcfglmamocdkeaa
