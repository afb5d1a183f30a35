/- The walk of MeshVolumes. Printed by mlaws.py. -/
import Derived.Test.YtcfglmamocdkeaaCls
namespace Go.Proofs.Ytcfglmamocdkeaa
open Go.ChangeShapes Go.WideShapes Go.ChangeAt Go.RowKit
set_option linter.unusedVariables false

theorem meshVolumes_heavy1 (a b a2 b2 : Option Addr) (n k n2 k2 c1 c2 c3 c4 : Nat) (f g f2 g2 : Nat → V) (w : World) (SA : Sx a n f w) (SB : Sx b k g w) (SA2 : Sx a2 n2 f2 w) (SB2 : Sx b2 k2 g2 w) (h1 : 200 < n ∨ 200 < k) :
    Calls Try.prog 3 #[.agg #[.slice a n c1, .slice b k c2], .agg #[.slice a2 n2 c3, .slice b2 k2 c4]] w fun e w' => e = .returned (.bool true) ∧ Below w.heap.size w w' := by
  have H1 := Lib.hid h1
  clear h1
  go_enter Try.func3, Try.ntmps3
  go_wp2_with fail
  have e1 := below_alloc w (.cells #[.slice a n c1, .slice b k c2] 25)
  have e2 := below_alloc (w.alloc (.cells #[.slice a n c1, .slice b k c2] 25)) (.cells #[.slice a2 n2 c3, .slice b2 k2 c4] 25)
  have M0 := (Mb.new w (.slice a n c1) (.slice b k c2)).next e2
  have N0 := Mb.new (w.alloc (.cells #[.slice a n c1, .slice b k c2] 25)) (.slice a2 n2 c3) (.slice b2 k2 c4)
  have HB0 := below_next e1 e2
  simp only [World.size_alloc] at N0
  clear e1 e2
  refine (heavy_is (decide_eq_true H1.out)).mono ?_
  rintro e wh1 ⟨rfl, hb⟩
  have M1 := M0.next hb
  have N1 := N0.next hb
  have HB1 := below_next HB0 hb
  clear M0 N0 HB0 hb
  go_wp2_with fail
  refine (awake_any _).mono ?_
  rintro e wf ⟨rfl, hb⟩
  go_wp2_with fail
  go_ret
  exact ⟨rfl, below_next HB1 hb⟩
theorem meshVolumes_heavy2 (a b a2 b2 : Option Addr) (n k n2 k2 c1 c2 c3 c4 : Nat) (f g f2 g2 : Nat → V) (w : World) (SA : Sx a n f w) (SB : Sx b k g w) (SA2 : Sx a2 n2 f2 w) (SB2 : Sx b2 k2 g2 w) (h1 : ¬ (200 < n ∨ 200 < k)) (h2 : 200 < n2 ∨ 200 < k2) :
    Calls Try.prog 3 #[.agg #[.slice a n c1, .slice b k c2], .agg #[.slice a2 n2 c3, .slice b2 k2 c4]] w fun e w' => e = .returned (.bool true) ∧ Below w.heap.size w w' := by
  have H1 := Lib.hid h1
  have H2 := Lib.hid h2
  clear h1 h2
  go_enter Try.func3, Try.ntmps3
  go_wp2_with fail
  have e1 := below_alloc w (.cells #[.slice a n c1, .slice b k c2] 25)
  have e2 := below_alloc (w.alloc (.cells #[.slice a n c1, .slice b k c2] 25)) (.cells #[.slice a2 n2 c3, .slice b2 k2 c4] 25)
  have M0 := (Mb.new w (.slice a n c1) (.slice b k c2)).next e2
  have N0 := Mb.new (w.alloc (.cells #[.slice a n c1, .slice b k c2] 25)) (.slice a2 n2 c3) (.slice b2 k2 c4)
  have HB0 := below_next e1 e2
  simp only [World.size_alloc] at N0
  clear e1 e2
  refine (heavy_is (decide_eq_false H1.out)).mono ?_
  rintro e wh1 ⟨rfl, hb⟩
  have M1 := M0.next hb
  have N1 := N0.next hb
  have HB1 := below_next HB0 hb
  clear M0 N0 HB0 hb
  have c0 := N1.c0
  have c1' := N1.c1
  go_wp2_with fail
  clear c0 c1'
  refine (heavy_is (decide_eq_true H2.out)).mono ?_
  rintro e wh2 ⟨rfl, hb⟩
  have M2 := M1.next hb
  have N2 := N1.next hb
  have HB2 := below_next HB1 hb
  clear M1 N1 HB1 hb
  go_wp2_with fail
  refine (awake_any _).mono ?_
  rintro e wf ⟨rfl, hb⟩
  go_wp2_with fail
  go_ret
  exact ⟨rfl, below_next HB2 hb⟩
set_option maxRecDepth 100000 in
set_option maxHeartbeats 2000000 in
theorem meshVolumes_oo (a b a2 b2 : Option Addr) (n k n2 k2 c1 c2 c3 c4 : Nat) (f g f2 g2 : Nat → V) (w : World) (SA : Sx a n f w) (SB : Sx b k g w) (SA2 : Sx a2 n2 f2 w) (SB2 : Sx b2 k2 g2 w) (h1 : ¬ (200 < n ∨ 200 < k)) (h2 : ¬ (200 < n2 ∨ 200 < k2)) (hp : pcheck n k f g = 0) (hp2 : pcheck n2 k2 f2 g2 = 0) :
    Calls Try.prog 3 #[.agg #[.slice a n c1, .slice b k c2], .agg #[.slice a2 n2 c3, .slice b2 k2 c4]] w fun e w' => e = .returned (.bool true) ∧ Below w.heap.size w w' := by
  have bv : k ≤ 200 := by omega
  have bv2 : k2 ≤ 200 := by omega
  have wv := pvol_small n k f g bv
  have wv2 := pvol_small n2 k2 f2 g2 bv2
  obtain ⟨v, hv⟩ : ∃ v, pvol n k f g = v := ⟨_, rfl⟩
  obtain ⟨v2, hv2⟩ : ∃ v2, pvol n2 k2 f2 g2 = v2 := ⟨_, rfl⟩
  rw [hv] at wv
  rw [hv2] at wv2
  have HV := Lib.hid hv
  have HV2 := Lib.hid hv2
  have hv' : pvol n k f (fun i => swp (g i)) = -v := by rw [pvol_swp, hv]
  have HV' := Lib.hid hv'
  clear hv'
  have hj : pvol (n + n2) (k + k2) (cat n f f2) (cat k g (fun i => shf n (g2 i))) = v + v2 := by rw [pvol_join hp hp2 (by omega) (by omega), hv, hv2]
  have HJ := Lib.hid hj
  have HT2 := Lib.hid (pcheck_all hp2).2.2.2
  clear hj
  have HP := Lib.hid hp
  have HP2 := Lib.hid hp2
  clear hp2
  clear hp hv hv2
  have hn : n ≤ 200 := by omega
  have hk : k ≤ 200 := by omega
  have hn2 : n2 ≤ 200 := by omega
  have hk2 : k2 ≤ 200 := by omega
  have H1 := Lib.hid h1
  have H2 := Lib.hid h2
  clear h1 h2
  go_enter Try.func3, Try.ntmps3
  go_wp2_with fail
  have e1 := below_alloc w (.cells #[.slice a n c1, .slice b k c2] 25)
  have e2 := below_alloc (w.alloc (.cells #[.slice a n c1, .slice b k c2] 25)) (.cells #[.slice a2 n2 c3, .slice b2 k2 c4] 25)
  have M0 := (Mb.new w (.slice a n c1) (.slice b k c2)).next e2
  have N0 := Mb.new (w.alloc (.cells #[.slice a n c1, .slice b k c2] 25)) (.slice a2 n2 c3) (.slice b2 k2 c4)
  have HB0 := below_next e1 e2
  simp only [World.size_alloc] at N0
  clear e1 e2
  refine (heavy_is (decide_eq_false H1.out)).mono ?_
  rintro e wh1 ⟨rfl, hb⟩
  have M1 := M0.next hb
  have N1 := N0.next hb
  have HB1 := below_next HB0 hb
  clear M0 N0 HB0 hb
  have c0 := N1.c0
  have c1' := N1.c1
  go_wp2_with fail
  clear c0 c1'
  refine (heavy_is (decide_eq_false H2.out)).mono ?_
  rintro e wh2 ⟨rfl, hb⟩
  have M2 := M1.next hb
  have N2 := N1.next hb
  have HB2 := below_next HB1 hb
  clear M1 N1 HB1 hb
  clear H1 H2
  have hn9 : n ≤ 4096 := by omega
  have hk9 : k ≤ 4096 := by omega
  have hk4 : k ≤ 400 := by omega
  have hk24 : k2 ≤ 400 := by omega
  have hkk : k + k2 ≤ 400 := by omega
  have hnn9 : n + n2 ≤ 4096 := by omega
  have hkk9 : k + k2 ≤ 4096 := by omega
  have q0 := M2.c0
  have q1 := M2.c1
  go_wp2_with fail
  clear q0 q1
  have wn : IntKind.i64.wrap (-v) = -v := IntWalk.i64_in _ (by omega)
  have ws : IntKind.i64.wrap (v + v2) = v + v2 := IntWalk.i64_in _ (by omega)
  have MK : Hid (∀ w', Below wh2.heap.size wh2 w' → Below wh2.heap.size wh2 w' ∧ w'.cell? ⟨w.heap.size, 0, none⟩ = some (.slice a n c1) ∧ w'.cell? ⟨w.heap.size, 1, none⟩ = some (.slice b k c2) ∧ w'.cell? ⟨w.heap.size + 1, 0, none⟩ = some (.slice a2 n2 c3) ∧ w'.cell? ⟨w.heap.size + 1, 1, none⟩ = some (.slice b2 k2 c4)) := fun w' h => ⟨h, (M2.next h).c0, (M2.next h).c1, (N2.next h).c0, (N2.next h).c1⟩
  go_region_held3 (fun w' => Below wh2.heap.size wh2 w' ∧ w'.cell? ⟨w.heap.size, 0, none⟩ = some (.slice a n c1) ∧ w'.cell? ⟨w.heap.size, 1, none⟩ = some (.slice b k c2) ∧ w'.cell? ⟨w.heap.size + 1, 0, none⟩ = some (.slice a2 n2 c3) ∧ w'.cell? ⟨w.heap.size + 1, 1, none⟩ = some (.slice b2 k2 c4))
    (first | exact MK.out _ (Below.refl _ _).drew | exact MK.out _ (below_next (by go_split_ands; assumption) hb))
    (first
      | (go_at_call 13; refine (rev_ok a b n k c1 c2 f g _ (SA.next (below_next HB2 (by go_split_ands; assumption))) (SB.next (below_next HB2 (by go_split_ands; assumption))) hn9 hk9 HP.out).mono ?_; rintro e wt ⟨ra, rb, rc, rd, rfl, RA, RB, hb⟩)
      | (go_at_call 12; with_reducible refine (vol_is RA RB hk4 HV'.out).mono ?_; rintro e wt ⟨rfl, hb⟩)
      | (go_at_call 12; with_reducible refine (vol_is (SA.next (below_next HB2 (by go_split_ands; assumption))) (SB.next (below_next HB2 (by go_split_ands; assumption))) hk4 HV.out).mono ?_; rintro e wt ⟨rfl, hb⟩))
  have HZ : Below w.heap.size w _ := below_next HB2 (by go_split_ands; assumption)
  clear MK
  have M3 := M2.next (by go_split_ands; assumption)
  have N3 := N2.next (by go_split_ands; assumption)
  clear M2 N2 HB2 RA RB
  have q0 := M3.c0
  have q1 := M3.c1
  have q2 := N3.c0
  have q3 := N3.c1
  go_wp2_with fail
  clear q0 q1 q2 q3
  refine (join_ok a b a2 b2 n k n2 k2 c1 c2 c3 c4 f g f2 g2 _ (SA.next HZ) (SB.next HZ) (SA2.next HZ) (SB2.next HZ) HP.out HP2.out hnn9 hkk9 HT2.out).mono ?_
  rintro e w4 ⟨ja, jb, jc, jd, rfl, JA, JB, hb⟩
  have x1 := below_alloc w4 (.cells #[.slice ja (n + n2) jc, .slice jb (k + k2) jd] 25)
  have J4 := Mb.new w4 (.slice ja (n + n2) jc) (.slice jb (k + k2) jd)
  have K := below_next hb x1
  have M4 := M3.next K
  have N4 := N3.next K
  have HB4 := below_next HZ K
  have JA4 := JA.next x1
  have JB4 := JB.next x1
  go_wp2_with fail
  clear K x1 hb M3 N3 HZ JA JB
  generalize w4.alloc (.cells #[.slice ja (n + n2) jc, .slice jb (k + k2) jd] 25) = w5 at J4 M4 N4 HB4 JA4 JB4 ⊢
  generalize w4.heap.size = pj at J4 ⊢
  have MK : Hid (∀ w', Below w5.heap.size w5 w' → Below w5.heap.size w5 w' ∧ w'.cell? ⟨w.heap.size, 0, none⟩ = some (.slice a n c1) ∧ w'.cell? ⟨w.heap.size, 1, none⟩ = some (.slice b k c2) ∧ w'.cell? ⟨w.heap.size + 1, 0, none⟩ = some (.slice a2 n2 c3) ∧ w'.cell? ⟨w.heap.size + 1, 1, none⟩ = some (.slice b2 k2 c4) ∧ w'.cell? ⟨pj, 0, none⟩ = some (.slice ja (n + n2) jc) ∧ w'.cell? ⟨pj, 1, none⟩ = some (.slice jb (k + k2) jd)) := fun w' h => ⟨h, (M4.next h).c0, (M4.next h).c1, (N4.next h).c0, (N4.next h).c1, (J4.next h).c0, (J4.next h).c1⟩
  go_region_held3 (fun w' => Below w5.heap.size w5 w' ∧ w'.cell? ⟨w.heap.size, 0, none⟩ = some (.slice a n c1) ∧ w'.cell? ⟨w.heap.size, 1, none⟩ = some (.slice b k c2) ∧ w'.cell? ⟨w.heap.size + 1, 0, none⟩ = some (.slice a2 n2 c3) ∧ w'.cell? ⟨w.heap.size + 1, 1, none⟩ = some (.slice b2 k2 c4) ∧ w'.cell? ⟨pj, 0, none⟩ = some (.slice ja (n + n2) jc) ∧ w'.cell? ⟨pj, 1, none⟩ = some (.slice jb (k + k2) jd))
    (first | exact MK.out _ (Below.refl _ _).drew | exact MK.out _ (below_next (by go_split_ands; assumption) hb))
    (first
      | (go_at_call 12; with_reducible refine (vol_is (JA4.next (by go_split_ands; assumption)) (JB4.next (by go_split_ands; assumption)) hkk HJ.out).mono ?_; rintro e wu ⟨rfl, hb⟩)
      | (go_at_call 12; with_reducible refine (vol_is (SA.next (below_next HB4 (by go_split_ands; assumption))) (SB.next (below_next HB4 (by go_split_ands; assumption))) hk4 HV.out).mono ?_; rintro e wu ⟨rfl, hb⟩)
      | (go_at_call 12; with_reducible refine (vol_is (SA2.next (below_next HB4 (by go_split_ands; assumption))) (SB2.next (below_next HB4 (by go_split_ands; assumption))) hk24 HV2.out).mono ?_; rintro e wu ⟨rfl, hb⟩)
      | (go_at_call 11; refine (awake_any _).mono ?_; rintro e wu ⟨rfl, hb⟩))
  have HZ : Below w.heap.size w _ := below_next HB4 (by go_split_ands; assumption)
  go_wp2_with fail
  go_ret
  exact ⟨rfl, HZ⟩
set_option maxRecDepth 100000 in
set_option maxHeartbeats 2000000 in
theorem meshVolumes_ob (a b a2 b2 : Option Addr) (n k n2 k2 c1 c2 c3 c4 : Nat) (f g f2 g2 : Nat → V) (w : World) (SA : Sx a n f w) (SB : Sx b k g w) (SA2 : Sx a2 n2 f2 w) (SB2 : Sx b2 k2 g2 w) (h1 : ¬ (200 < n ∨ 200 < k)) (h2 : ¬ (200 < n2 ∨ 200 < k2)) (hp : pcheck n k f g = 0) (hp2 : pcheck n2 k2 f2 g2 ≠ 0) :
    Calls Try.prog 3 #[.agg #[.slice a n c1, .slice b k c2], .agg #[.slice a2 n2 c3, .slice b2 k2 c4]] w fun e w' => e = .returned (.bool true) ∧ Below w.heap.size w w' := by
  have bv : k ≤ 200 := by omega
  have bv2 : k2 ≤ 200 := by omega
  have wv := pvol_small n k f g bv
  have wv2 := pvol_small n2 k2 f2 g2 bv2
  obtain ⟨v, hv⟩ : ∃ v, pvol n k f g = v := ⟨_, rfl⟩
  obtain ⟨v2, hv2⟩ : ∃ v2, pvol n2 k2 f2 g2 = v2 := ⟨_, rfl⟩
  rw [hv] at wv
  rw [hv2] at wv2
  have HV := Lib.hid hv
  have HV2 := Lib.hid hv2
  have hv' : pvol n k f (fun i => swp (g i)) = -v := by rw [pvol_swp, hv]
  have HV' := Lib.hid hv'
  clear hv'
  have HP := Lib.hid hp
  have HP2 := Lib.hid hp2
  clear hp2
  clear hp hv hv2
  have hn : n ≤ 200 := by omega
  have hk : k ≤ 200 := by omega
  have hn2 : n2 ≤ 200 := by omega
  have hk2 : k2 ≤ 200 := by omega
  have H1 := Lib.hid h1
  have H2 := Lib.hid h2
  clear h1 h2
  go_enter Try.func3, Try.ntmps3
  go_wp2_with fail
  have e1 := below_alloc w (.cells #[.slice a n c1, .slice b k c2] 25)
  have e2 := below_alloc (w.alloc (.cells #[.slice a n c1, .slice b k c2] 25)) (.cells #[.slice a2 n2 c3, .slice b2 k2 c4] 25)
  have M0 := (Mb.new w (.slice a n c1) (.slice b k c2)).next e2
  have N0 := Mb.new (w.alloc (.cells #[.slice a n c1, .slice b k c2] 25)) (.slice a2 n2 c3) (.slice b2 k2 c4)
  have HB0 := below_next e1 e2
  simp only [World.size_alloc] at N0
  clear e1 e2
  refine (heavy_is (decide_eq_false H1.out)).mono ?_
  rintro e wh1 ⟨rfl, hb⟩
  have M1 := M0.next hb
  have N1 := N0.next hb
  have HB1 := below_next HB0 hb
  clear M0 N0 HB0 hb
  have c0 := N1.c0
  have c1' := N1.c1
  go_wp2_with fail
  clear c0 c1'
  refine (heavy_is (decide_eq_false H2.out)).mono ?_
  rintro e wh2 ⟨rfl, hb⟩
  have M2 := M1.next hb
  have N2 := N1.next hb
  have HB2 := below_next HB1 hb
  clear M1 N1 HB1 hb
  clear H1 H2
  have hn9 : n ≤ 4096 := by omega
  have hk9 : k ≤ 4096 := by omega
  have hk4 : k ≤ 400 := by omega
  have hk24 : k2 ≤ 400 := by omega
  have hkk : k + k2 ≤ 400 := by omega
  have hnn9 : n + n2 ≤ 4096 := by omega
  have hkk9 : k + k2 ≤ 4096 := by omega
  have q0 := M2.c0
  have q1 := M2.c1
  go_wp2_with fail
  clear q0 q1
  have wn : IntKind.i64.wrap (-v) = -v := IntWalk.i64_in _ (by omega)
  have ws : IntKind.i64.wrap (v + v2) = v + v2 := IntWalk.i64_in _ (by omega)
  have MK : Hid (∀ w', Below wh2.heap.size wh2 w' → Below wh2.heap.size wh2 w' ∧ w'.cell? ⟨w.heap.size, 0, none⟩ = some (.slice a n c1) ∧ w'.cell? ⟨w.heap.size, 1, none⟩ = some (.slice b k c2) ∧ w'.cell? ⟨w.heap.size + 1, 0, none⟩ = some (.slice a2 n2 c3) ∧ w'.cell? ⟨w.heap.size + 1, 1, none⟩ = some (.slice b2 k2 c4)) := fun w' h => ⟨h, (M2.next h).c0, (M2.next h).c1, (N2.next h).c0, (N2.next h).c1⟩
  go_region_held3 (fun w' => Below wh2.heap.size wh2 w' ∧ w'.cell? ⟨w.heap.size, 0, none⟩ = some (.slice a n c1) ∧ w'.cell? ⟨w.heap.size, 1, none⟩ = some (.slice b k c2) ∧ w'.cell? ⟨w.heap.size + 1, 0, none⟩ = some (.slice a2 n2 c3) ∧ w'.cell? ⟨w.heap.size + 1, 1, none⟩ = some (.slice b2 k2 c4))
    (first | exact MK.out _ (Below.refl _ _).drew | exact MK.out _ (below_next (by go_split_ands; assumption) hb))
    (first
      | (go_at_call 13; refine (rev_ok a b n k c1 c2 f g _ (SA.next (below_next HB2 (by go_split_ands; assumption))) (SB.next (below_next HB2 (by go_split_ands; assumption))) hn9 hk9 HP.out).mono ?_; rintro e wt ⟨ra, rb, rc, rd, rfl, RA, RB, hb⟩)
      | (go_at_call 12; with_reducible refine (vol_is RA RB hk4 HV'.out).mono ?_; rintro e wt ⟨rfl, hb⟩)
      | (go_at_call 12; with_reducible refine (vol_is (SA.next (below_next HB2 (by go_split_ands; assumption))) (SB.next (below_next HB2 (by go_split_ands; assumption))) hk4 HV.out).mono ?_; rintro e wt ⟨rfl, hb⟩))
  have HZ : Below w.heap.size w _ := below_next HB2 (by go_split_ands; assumption)
  clear MK
  have M3 := M2.next (by go_split_ands; assumption)
  have N3 := N2.next (by go_split_ands; assumption)
  clear M2 N2 HB2 RA RB
  have q0 := M3.c0
  have q1 := M3.c1
  have q2 := N3.c0
  have q3 := N3.c1
  go_wp2_with fail
  clear q0 q1 q2 q3
  refine (join_bad2 a b a2 b2 n k n2 k2 c1 c2 c3 c4 f g f2 g2 _ (SA.next HZ) (SB.next HZ) (SA2.next HZ) (SB2.next HZ) HP.out HP2.out).mono ?_
  rintro e w4 ⟨ja, jb, jc, jd, rfl, JA, JB, hb⟩
  have x1 := below_alloc w4 (.cells #[.slice ja 0 jc, .slice jb 0 jd] 25)
  have J4 := Mb.new w4 (.slice ja 0 jc) (.slice jb 0 jd)
  have K := below_next hb x1
  have M4 := M3.next K
  have N4 := N3.next K
  have HB4 := below_next HZ K
  have JA4 := JA.next x1
  have JB4 := JB.next x1
  go_wp2_with fail
  clear K x1 hb M3 N3 HZ JA JB
  generalize w4.alloc (.cells #[.slice ja 0 jc, .slice jb 0 jd] 25) = w5 at J4 M4 N4 HB4 JA4 JB4 ⊢
  generalize w4.heap.size = pj at J4 ⊢
  refine wp_quiet_in (Qz w5 w.heap.size (.slice a n c1) (.slice b k c2)) (by kernel_rfl) (by kernel_rfl) ⟨⟨M4.row⟩, (Below.refl _ _).drew⟩ ?_
  repeat (first
    | go_big_quiet_skip
    | (go_big_quiet_want
       first
         | (refine quiet_load25 2 rfl rfl (fun _ h => Qz.m h) ?_; go_simp; go_big_quiet_on)
         | (go_big_quiet_op
            first
              | go_big_quiet_on
              | (refine ⟨_, fun _ _ => rfl, ?_⟩; go_big_quiet_on)
              | (apply Exists.intro
                 refine ⟨fun w' h' => ?_, ?_⟩
                 · first
                     | (go_at_call 11; with_reducible exact Qz.on h' (awake_any _))
                 go_big_quiet_on)
           )))
  refine wpQuiet_nil ?_
  intro w' h'
  have HZ2 : Below w.heap.size w w' := below_next HB4 h'.hB
  go_wp2_with fail
  go_ret
  exact ⟨rfl, HZ2⟩
set_option maxRecDepth 100000 in
set_option maxHeartbeats 2000000 in
theorem meshVolumes_b (a b a2 b2 : Option Addr) (n k n2 k2 c1 c2 c3 c4 : Nat) (f g f2 g2 : Nat → V) (w : World) (SA : Sx a n f w) (SB : Sx b k g w) (SA2 : Sx a2 n2 f2 w) (SB2 : Sx b2 k2 g2 w) (h1 : ¬ (200 < n ∨ 200 < k)) (h2 : ¬ (200 < n2 ∨ 200 < k2)) (hp : pcheck n k f g ≠ 0) :
    Calls Try.prog 3 #[.agg #[.slice a n c1, .slice b k c2], .agg #[.slice a2 n2 c3, .slice b2 k2 c4]] w fun e w' => e = .returned (.bool true) ∧ Below w.heap.size w w' := by
  have bv : k ≤ 200 := by omega
  have bv2 : k2 ≤ 200 := by omega
  have wv := pvol_small n k f g bv
  have wv2 := pvol_small n2 k2 f2 g2 bv2
  obtain ⟨v, hv⟩ : ∃ v, pvol n k f g = v := ⟨_, rfl⟩
  obtain ⟨v2, hv2⟩ : ∃ v2, pvol n2 k2 f2 g2 = v2 := ⟨_, rfl⟩
  rw [hv] at wv
  rw [hv2] at wv2
  have HV := Lib.hid hv
  have HV2 := Lib.hid hv2
  have hv' : pvol 0 0 f g = -v := by rw [pvol_zero, ← hv, show pvol n k f g = 0 from if_neg hp]; rfl
  have HV' := Lib.hid hv'
  clear hv'
  have HP := Lib.hid hp
  clear hp hv hv2
  have hn : n ≤ 200 := by omega
  have hk : k ≤ 200 := by omega
  have hn2 : n2 ≤ 200 := by omega
  have hk2 : k2 ≤ 200 := by omega
  have H1 := Lib.hid h1
  have H2 := Lib.hid h2
  clear h1 h2
  go_enter Try.func3, Try.ntmps3
  go_wp2_with fail
  have e1 := below_alloc w (.cells #[.slice a n c1, .slice b k c2] 25)
  have e2 := below_alloc (w.alloc (.cells #[.slice a n c1, .slice b k c2] 25)) (.cells #[.slice a2 n2 c3, .slice b2 k2 c4] 25)
  have M0 := (Mb.new w (.slice a n c1) (.slice b k c2)).next e2
  have N0 := Mb.new (w.alloc (.cells #[.slice a n c1, .slice b k c2] 25)) (.slice a2 n2 c3) (.slice b2 k2 c4)
  have HB0 := below_next e1 e2
  simp only [World.size_alloc] at N0
  clear e1 e2
  refine (heavy_is (decide_eq_false H1.out)).mono ?_
  rintro e wh1 ⟨rfl, hb⟩
  have M1 := M0.next hb
  have N1 := N0.next hb
  have HB1 := below_next HB0 hb
  clear M0 N0 HB0 hb
  have c0 := N1.c0
  have c1' := N1.c1
  go_wp2_with fail
  clear c0 c1'
  refine (heavy_is (decide_eq_false H2.out)).mono ?_
  rintro e wh2 ⟨rfl, hb⟩
  have M2 := M1.next hb
  have N2 := N1.next hb
  have HB2 := below_next HB1 hb
  clear M1 N1 HB1 hb
  clear H1 H2
  have hn9 : n ≤ 4096 := by omega
  have hk9 : k ≤ 4096 := by omega
  have hk4 : k ≤ 400 := by omega
  have hk24 : k2 ≤ 400 := by omega
  have hkk : k + k2 ≤ 400 := by omega
  have hnn9 : n + n2 ≤ 4096 := by omega
  have hkk9 : k + k2 ≤ 4096 := by omega
  have q0 := M2.c0
  have q1 := M2.c1
  go_wp2_with fail
  clear q0 q1
  have wn : IntKind.i64.wrap (-v) = -v := IntWalk.i64_in _ (by omega)
  have ws : IntKind.i64.wrap (v + v2) = v + v2 := IntWalk.i64_in _ (by omega)
  have MK : Hid (∀ w', Below wh2.heap.size wh2 w' → Below wh2.heap.size wh2 w' ∧ w'.cell? ⟨w.heap.size, 0, none⟩ = some (.slice a n c1) ∧ w'.cell? ⟨w.heap.size, 1, none⟩ = some (.slice b k c2) ∧ w'.cell? ⟨w.heap.size + 1, 0, none⟩ = some (.slice a2 n2 c3) ∧ w'.cell? ⟨w.heap.size + 1, 1, none⟩ = some (.slice b2 k2 c4)) := fun w' h => ⟨h, (M2.next h).c0, (M2.next h).c1, (N2.next h).c0, (N2.next h).c1⟩
  go_region_held3 (fun w' => Below wh2.heap.size wh2 w' ∧ w'.cell? ⟨w.heap.size, 0, none⟩ = some (.slice a n c1) ∧ w'.cell? ⟨w.heap.size, 1, none⟩ = some (.slice b k c2) ∧ w'.cell? ⟨w.heap.size + 1, 0, none⟩ = some (.slice a2 n2 c3) ∧ w'.cell? ⟨w.heap.size + 1, 1, none⟩ = some (.slice b2 k2 c4))
    (first | exact MK.out _ (Below.refl _ _).drew | exact MK.out _ (below_next (by go_split_ands; assumption) hb))
    (first
      | (go_at_call 13; refine (rev_bad a b n k c1 c2 f g _ (SA.next (below_next HB2 (by go_split_ands; assumption))) (SB.next (below_next HB2 (by go_split_ands; assumption))) HP.out).mono ?_; rintro e wt ⟨ra, rb, rc, rd, rfl, RA, RB, hb⟩)
      | (go_at_call 12; with_reducible refine (vol_is RA RB (Nat.zero_le _) HV'.out).mono ?_; rintro e wt ⟨rfl, hb⟩)
      | (go_at_call 12; with_reducible refine (vol_is (SA.next (below_next HB2 (by go_split_ands; assumption))) (SB.next (below_next HB2 (by go_split_ands; assumption))) hk4 HV.out).mono ?_; rintro e wt ⟨rfl, hb⟩))
  have HZ : Below w.heap.size w _ := below_next HB2 (by go_split_ands; assumption)
  clear MK
  have M3 := M2.next (by go_split_ands; assumption)
  have N3 := N2.next (by go_split_ands; assumption)
  clear M2 N2 HB2 RA RB
  have q0 := M3.c0
  have q1 := M3.c1
  have q2 := N3.c0
  have q3 := N3.c1
  go_wp2_with fail
  clear q0 q1 q2 q3
  refine (join_bad1 a b a2 b2 n k n2 k2 c1 c2 c3 c4 f g f2 g2 _ (SA.next HZ) (SB.next HZ) (SA2.next HZ) (SB2.next HZ) HP.out).mono ?_
  rintro e w4 ⟨ja, jb, jc, jd, rfl, JA, JB, hb⟩
  have x1 := below_alloc w4 (.cells #[.slice ja 0 jc, .slice jb 0 jd] 25)
  have J4 := Mb.new w4 (.slice ja 0 jc) (.slice jb 0 jd)
  have K := below_next hb x1
  have M4 := M3.next K
  have N4 := N3.next K
  have HB4 := below_next HZ K
  have JA4 := JA.next x1
  have JB4 := JB.next x1
  go_wp2_with fail
  clear K x1 hb M3 N3 HZ JA JB
  generalize w4.alloc (.cells #[.slice ja 0 jc, .slice jb 0 jd] 25) = w5 at J4 M4 N4 HB4 JA4 JB4 ⊢
  generalize w4.heap.size = pj at J4 ⊢
  refine wp_quiet_in (Qz w5 w.heap.size (.slice a n c1) (.slice b k c2)) (by kernel_rfl) (by kernel_rfl) ⟨⟨M4.row⟩, (Below.refl _ _).drew⟩ ?_
  repeat (first
    | go_big_quiet_skip
    | (go_big_quiet_want
       first
         | (refine quiet_load25 2 rfl rfl (fun _ h => Qz.m h) ?_; go_simp; go_big_quiet_on)
         | (go_big_quiet_op
            first
              | go_big_quiet_on
              | (refine ⟨_, fun _ _ => rfl, ?_⟩; go_big_quiet_on)
              | (apply Exists.intro
                 refine ⟨fun w' h' => ?_, ?_⟩
                 · first
                     | (go_at_call 11; with_reducible exact Qz.on h' (awake_any _))
                 go_big_quiet_on)
           )))
  refine wpQuiet_nil ?_
  intro w' h'
  have HZ2 : Below w.heap.size w w' := below_next HB4 h'.hB
  go_wp2_with fail
  go_ret
  exact ⟨rfl, HZ2⟩
theorem meshVolumes_all (a b a2 b2 : Option Addr) (n k n2 k2 c1 c2 c3 c4 : Nat) (f g f2 g2 : Nat → V) (w : World) (SA : Sx a n f w) (SB : Sx b k g w) (SA2 : Sx a2 n2 f2 w) (SB2 : Sx b2 k2 g2 w) :
    Calls Try.prog 3 #[.agg #[.slice a n c1, .slice b k c2], .agg #[.slice a2 n2 c3, .slice b2 k2 c4]] w fun e w' => e = .returned (.bool true) ∧ Below w.heap.size w w' := by
  by_cases h1 : 200 < n ∨ 200 < k
  · exact meshVolumes_heavy1 a b a2 b2 n k n2 k2 c1 c2 c3 c4 f g f2 g2 w SA SB SA2 SB2 h1
  · by_cases h2 : 200 < n2 ∨ 200 < k2
    · exact meshVolumes_heavy2 a b a2 b2 n k n2 k2 c1 c2 c3 c4 f g f2 g2 w SA SB SA2 SB2 h1 h2
    · by_cases hp : pcheck n k f g = 0
      · by_cases hp2 : pcheck n2 k2 f2 g2 = 0
        · exact meshVolumes_oo a b a2 b2 n k n2 k2 c1 c2 c3 c4 f g f2 g2 w SA SB SA2 SB2 h1 h2 hp hp2
        · exact meshVolumes_ob a b a2 b2 n k n2 k2 c1 c2 c3 c4 f g f2 g2 w SA SB SA2 SB2 h1 h2 hp hp2
      · exact meshVolumes_b a b a2 b2 n k n2 k2 c1 c2 c3 c4 f g f2 g2 w SA SB SA2 SB2 h1 h2 hp
theorem meshVolumes_walk (v0 v1 : Value) (w : World) (h0 : ∃ a n cap b k cap' f g, v0 = .agg #[.slice a n cap, .slice b k cap'] ∧ Sx a n f w ∧ Sx b k g w) (h1 : ∃ a n cap b k cap' f g, v1 = .agg #[.slice a n cap, .slice b k cap'] ∧ Sx a n f w ∧ Sx b k g w) :
    Calls Try.prog 3 #[v0, v1] w fun e w' => e = .returned (.bool true) ∧ Below w.heap.size w w' := by
  obtain ⟨a, n, c1, b, k, c2, f, g, rfl, SA, SB⟩ := h0
  obtain ⟨a2, n2, c3, b2, k2, c4, f2, g2, rfl, SA2, SB2⟩ := h1
  exact meshVolumes_all a b a2 b2 n k n2 k2 c1 c2 c3 c4 f g f2 g2 w SA SB SA2 SB2
end Go.Proofs.Ytcfglmamocdkeaa
