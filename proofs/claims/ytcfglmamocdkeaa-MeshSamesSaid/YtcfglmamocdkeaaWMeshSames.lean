/- The walk of MeshSames. Printed by mlaws.py. -/
import Derived.Test.YtcfglmamocdkeaaCls
namespace Go.Proofs.Ytcfglmamocdkeaa
open Go.ChangeShapes Go.WideShapes Go.ChangeAt Go.RowKit
set_option linter.unusedVariables false

theorem meshSames_heavy1 (a b a2 b2 : Option Addr) (n k n2 k2 c1 c2 c3 c4 : Nat) (f g f2 g2 : Nat → V) (w : World) (SA : Sx a n f w) (SB : Sx b k g w) (SA2 : Sx a2 n2 f2 w) (SB2 : Sx b2 k2 g2 w) (h1 : 200 < n ∨ 200 < k) :
    Calls Try.prog 8 #[.agg #[.slice a n c1, .slice b k c2], .agg #[.slice a2 n2 c3, .slice b2 k2 c4]] w fun e w' => e = .returned (.bool true) ∧ Below w.heap.size w w' := by
  have H1 := Lib.hid h1
  clear h1
  go_enter Try.func8, Try.ntmps8
  go_wp2_with fail
  have e1 := below_alloc w (.cells #[.slice a n c1, .slice b k c2] 25)
  have e2 := below_alloc (w.alloc (.cells #[.slice a n c1, .slice b k c2] 25)) (.cells #[.slice a2 n2 c3, .slice b2 k2 c4] 25)
  have M0 := (Mb.new w (.slice a n c1) (.slice b k c2)).next e2
  have N0 := Mb.new (w.alloc (.cells #[.slice a n c1, .slice b k c2] 25)) (.slice a2 n2 c3) (.slice b2 k2 c4)
  have HB0 := below_next e1 e2
  simp only [World.size_alloc] at N0
  clear e1 e2
  refine (heavy_is (decide_eq_true H1.out)).mono ?_
  rintro e wh1 ⟨rfl, hb⟩
  have M1 := M0.next hb
  have N1 := N0.next hb
  have HB1 := below_next HB0 hb
  clear M0 N0 HB0 hb
  go_wp2_with fail
  refine (awake_any _).mono ?_
  rintro e wf ⟨rfl, hb⟩
  go_wp2_with fail
  go_ret
  exact ⟨rfl, below_next HB1 hb⟩
theorem meshSames_heavy2 (a b a2 b2 : Option Addr) (n k n2 k2 c1 c2 c3 c4 : Nat) (f g f2 g2 : Nat → V) (w : World) (SA : Sx a n f w) (SB : Sx b k g w) (SA2 : Sx a2 n2 f2 w) (SB2 : Sx b2 k2 g2 w) (h1 : ¬ (200 < n ∨ 200 < k)) (h2 : 200 < n2 ∨ 200 < k2) :
    Calls Try.prog 8 #[.agg #[.slice a n c1, .slice b k c2], .agg #[.slice a2 n2 c3, .slice b2 k2 c4]] w fun e w' => e = .returned (.bool true) ∧ Below w.heap.size w w' := by
  have H1 := Lib.hid h1
  have H2 := Lib.hid h2
  clear h1 h2
  go_enter Try.func8, Try.ntmps8
  go_wp2_with fail
  have e1 := below_alloc w (.cells #[.slice a n c1, .slice b k c2] 25)
  have e2 := below_alloc (w.alloc (.cells #[.slice a n c1, .slice b k c2] 25)) (.cells #[.slice a2 n2 c3, .slice b2 k2 c4] 25)
  have M0 := (Mb.new w (.slice a n c1) (.slice b k c2)).next e2
  have N0 := Mb.new (w.alloc (.cells #[.slice a n c1, .slice b k c2] 25)) (.slice a2 n2 c3) (.slice b2 k2 c4)
  have HB0 := below_next e1 e2
  simp only [World.size_alloc] at N0
  clear e1 e2
  refine (heavy_is (decide_eq_false H1.out)).mono ?_
  rintro e wh1 ⟨rfl, hb⟩
  have M1 := M0.next hb
  have N1 := N0.next hb
  have HB1 := below_next HB0 hb
  clear M0 N0 HB0 hb
  have c0 := N1.c0
  have c1' := N1.c1
  go_wp2_with fail
  clear c0 c1'
  refine (heavy_is (decide_eq_true H2.out)).mono ?_
  rintro e wh2 ⟨rfl, hb⟩
  have M2 := M1.next hb
  have N2 := N1.next hb
  have HB2 := below_next HB1 hb
  clear M1 N1 HB1 hb
  go_wp2_with fail
  refine (awake_any _).mono ?_
  rintro e wf ⟨rfl, hb⟩
  go_wp2_with fail
  go_ret
  exact ⟨rfl, below_next HB2 hb⟩
set_option maxRecDepth 100000 in
set_option maxHeartbeats 2000000 in
theorem meshSames_main (a b a2 b2 : Option Addr) (n k n2 k2 c1 c2 c3 c4 : Nat) (f g f2 g2 : Nat → V) (w : World) (SA : Sx a n f w) (SB : Sx b k g w) (SA2 : Sx a2 n2 f2 w) (SB2 : Sx b2 k2 g2 w) (h1 : ¬ (200 < n ∨ 200 < k)) (h2 : ¬ (200 < n2 ∨ 200 < k2)) :
    Calls Try.prog 8 #[.agg #[.slice a n c1, .slice b k c2], .agg #[.slice a2 n2 c3, .slice b2 k2 c4]] w fun e w' => e = .returned (.bool true) ∧ Below w.heap.size w w' := by
  obtain ⟨R, hR⟩ : ∃ R, psame n k n2 k2 f g f2 g2 = R := ⟨_, rfl⟩
  have hC : psame n2 k2 n k f2 g2 f g = R := (psame_comm _ _ _ _ _ _ _ _).trans hR
  have HR := Lib.hid hR
  have HC := Lib.hid hC
  clear hR hC
  have hn : n ≤ 200 := by omega
  have hk : k ≤ 200 := by omega
  have hn2 : n2 ≤ 200 := by omega
  have hk2 : k2 ≤ 200 := by omega
  have H1 := Lib.hid h1
  have H2 := Lib.hid h2
  clear h1 h2
  go_enter Try.func8, Try.ntmps8
  go_wp2_with fail
  have e1 := below_alloc w (.cells #[.slice a n c1, .slice b k c2] 25)
  have e2 := below_alloc (w.alloc (.cells #[.slice a n c1, .slice b k c2] 25)) (.cells #[.slice a2 n2 c3, .slice b2 k2 c4] 25)
  have M0 := (Mb.new w (.slice a n c1) (.slice b k c2)).next e2
  have N0 := Mb.new (w.alloc (.cells #[.slice a n c1, .slice b k c2] 25)) (.slice a2 n2 c3) (.slice b2 k2 c4)
  have HB0 := below_next e1 e2
  simp only [World.size_alloc] at N0
  clear e1 e2
  refine (heavy_is (decide_eq_false H1.out)).mono ?_
  rintro e wh1 ⟨rfl, hb⟩
  have M1 := M0.next hb
  have N1 := N0.next hb
  have HB1 := below_next HB0 hb
  clear M0 N0 HB0 hb
  have c0 := N1.c0
  have c1' := N1.c1
  go_wp2_with fail
  clear c0 c1'
  refine (heavy_is (decide_eq_false H2.out)).mono ?_
  rintro e wh2 ⟨rfl, hb⟩
  have M2 := M1.next hb
  have N2 := N1.next hb
  have HB2 := below_next HB1 hb
  clear M1 N1 HB1 hb
  clear H1 H2
  have hn' : n ≤ 100000 := by omega
  have hk' : k ≤ 100000 := by omega
  have hn2' : n2 ≤ 100000 := by omega
  have hk2' : k2 ≤ 100000 := by omega
  have q0 := M2.c0
  have q1 := M2.c1
  go_wp2_with fail
  clear q0 q1
  have MK : Hid (∀ w', Below wh2.heap.size wh2 w' → Below wh2.heap.size wh2 w' ∧ w'.cell? ⟨w.heap.size, 0, none⟩ = some (.slice a n c1) ∧ w'.cell? ⟨w.heap.size, 1, none⟩ = some (.slice b k c2) ∧ w'.cell? ⟨w.heap.size + 1, 0, none⟩ = some (.slice a2 n2 c3) ∧ w'.cell? ⟨w.heap.size + 1, 1, none⟩ = some (.slice b2 k2 c4)) := fun w' h => ⟨h, (M2.next h).c0, (M2.next h).c1, (N2.next h).c0, (N2.next h).c1⟩
  go_region_held3 (fun w' => Below wh2.heap.size wh2 w' ∧ w'.cell? ⟨w.heap.size, 0, none⟩ = some (.slice a n c1) ∧ w'.cell? ⟨w.heap.size, 1, none⟩ = some (.slice b k c2) ∧ w'.cell? ⟨w.heap.size + 1, 0, none⟩ = some (.slice a2 n2 c3) ∧ w'.cell? ⟨w.heap.size + 1, 1, none⟩ = some (.slice b2 k2 c4))
    (first | exact MK.out _ (Below.refl _ _).drew | exact MK.out _ (below_next (by go_split_ands; assumption) hb))
    (first
      | (go_at_call 18; with_reducible refine (same_is (SA.next (below_next HB2 (by go_split_ands; assumption))) (SB.next (below_next HB2 (by go_split_ands; assumption))) (SA2.next (below_next HB2 (by go_split_ands; assumption))) (SB2.next (below_next HB2 (by go_split_ands; assumption))) hn' hk' HR.out).mono ?_; rintro e wt ⟨rfl, hb⟩)
      | (go_at_call 15; with_reducible refine (samer_is (SA.next (below_next HB2 (by go_split_ands; assumption))) (SB.next (below_next HB2 (by go_split_ands; assumption))) (SA2.next (below_next HB2 (by go_split_ands; assumption))) (SB2.next (below_next HB2 (by go_split_ands; assumption))) hn' hk' HR.out).mono ?_; rintro e wt ⟨rfl, hb⟩)
      | (go_at_call 18; with_reducible refine (same_is (SA2.next (below_next HB2 (by go_split_ands; assumption))) (SB2.next (below_next HB2 (by go_split_ands; assumption))) (SA.next (below_next HB2 (by go_split_ands; assumption))) (SB.next (below_next HB2 (by go_split_ands; assumption))) hn2' hk2' HC.out).mono ?_; rintro e wt ⟨rfl, hb⟩)
      | (go_at_call 18; with_reducible refine (same_is (SA.next (below_next HB2 (by go_split_ands; assumption))) (SB.next (below_next HB2 (by go_split_ands; assumption))) (SA.next (below_next HB2 (by go_split_ands; assumption))) (SB.next (below_next HB2 (by go_split_ands; assumption))) hn' hk' (psame_refl _ _ _ _)).mono ?_; rintro e wt ⟨rfl, hb⟩)
      | (go_at_call 11; refine (awake_any _).mono ?_; rintro e wt ⟨rfl, hb⟩))
  have HZ : Below w.heap.size w _ := below_next HB2 (by go_split_ands; assumption)
  go_wp2_with fail
  go_ret
  exact ⟨rfl, HZ⟩
theorem meshSames_all (a b a2 b2 : Option Addr) (n k n2 k2 c1 c2 c3 c4 : Nat) (f g f2 g2 : Nat → V) (w : World) (SA : Sx a n f w) (SB : Sx b k g w) (SA2 : Sx a2 n2 f2 w) (SB2 : Sx b2 k2 g2 w) :
    Calls Try.prog 8 #[.agg #[.slice a n c1, .slice b k c2], .agg #[.slice a2 n2 c3, .slice b2 k2 c4]] w fun e w' => e = .returned (.bool true) ∧ Below w.heap.size w w' := by
  by_cases h1 : 200 < n ∨ 200 < k
  · exact meshSames_heavy1 a b a2 b2 n k n2 k2 c1 c2 c3 c4 f g f2 g2 w SA SB SA2 SB2 h1
  · by_cases h2 : 200 < n2 ∨ 200 < k2
    · exact meshSames_heavy2 a b a2 b2 n k n2 k2 c1 c2 c3 c4 f g f2 g2 w SA SB SA2 SB2 h1 h2
    · exact meshSames_main a b a2 b2 n k n2 k2 c1 c2 c3 c4 f g f2 g2 w SA SB SA2 SB2 h1 h2
theorem meshSames_walk (v0 v1 : Value) (w : World) (h0 : ∃ a n cap b k cap' f g, v0 = .agg #[.slice a n cap, .slice b k cap'] ∧ Sx a n f w ∧ Sx b k g w) (h1 : ∃ a n cap b k cap' f g, v1 = .agg #[.slice a n cap, .slice b k cap'] ∧ Sx a n f w ∧ Sx b k g w) :
    Calls Try.prog 8 #[v0, v1] w fun e w' => e = .returned (.bool true) ∧ Below w.heap.size w w' := by
  obtain ⟨a, n, c1, b, k, c2, f, g, rfl, SA, SB⟩ := h0
  obtain ⟨a2, n2, c3, b2, k2, c4, f2, g2, rfl, SA2, SB2⟩ := h1
  exact meshSames_all a b a2 b2 n k n2 k2 c1 c2 c3 c4 f g f2 g2 w SA SB SA2 SB2
end Go.Proofs.Ytcfglmamocdkeaa
