/- The walk of MeshChecks. Printed by mlaws.py. -/
import Derived.Test.YtcfglmamocdkeaaCls
namespace Go.Proofs.Ytcfglmamocdkeaa
open Go.ChangeShapes Go.WideShapes Go.ChangeAt Go.RowKit
set_option linter.unusedVariables false

theorem meshChecks_heavy1 (a b : Option Addr) (n k c1 c2 : Nat) (f g : Nat → V) (w : World) (SA : Sx a n f w) (SB : Sx b k g w) (i : Int) (h1 : 200 < n ∨ 200 < k) :
    Calls Try.prog 5 #[.agg #[.slice a n c1, .slice b k c2], .int .i64 i] w fun e w' => e = .returned (.bool true) ∧ Below w.heap.size w w' := by
  have H1 := Lib.hid h1
  clear h1
  go_enter Try.func5, Try.ntmps5
  go_wp2_with fail
  have HB0 := below_alloc w (.cells #[.slice a n c1, .slice b k c2] 25)
  have M0 := Mb.new w (.slice a n c1) (.slice b k c2)
  refine (heavy_is (decide_eq_true H1.out)).mono ?_
  rintro e wh1 ⟨rfl, hb⟩
  have M1 := M0.next hb
  have HB1 := below_next HB0 hb
  clear M0 HB0 hb
  go_wp2_with fail
  refine (awake_any _).mono ?_
  rintro e wf ⟨rfl, hb⟩
  go_wp2_with fail
  go_ret
  exact ⟨rfl, below_next HB1 hb⟩
set_option maxRecDepth 100000 in
set_option maxHeartbeats 2000000 in
theorem meshChecks_main (a b : Option Addr) (n k c1 c2 : Nat) (f g : Nat → V) (w : World) (SA : Sx a n f w) (SB : Sx b k g w) (i : Int) (h1 : ¬ (200 < n ∨ 200 < k)) :
    Calls Try.prog 5 #[.agg #[.slice a n c1, .slice b k c2], .int .i64 i] w fun e w' => e = .returned (.bool true) ∧ Below w.heap.size w w' := by
  obtain ⟨x, y, z, r, hbx⟩ : ∃ x y z r, pcorn n k f g i = (x, y, z, r) := ⟨_, _, _, _, rfl⟩
  obtain ⟨q, hq⟩ : ∃ q, pcheck n k f g = q := ⟨_, rfl⟩
  obtain ⟨m, hm⟩ : ∃ m, pnorm n k f g i = m := ⟨_, rfl⟩
  have HX := Lib.hid hbx
  have HQ := Lib.hid hq
  have HM := Lib.hid hm
  clear hbx hq hm
  have hn : n ≤ 200 := by omega
  have hk : k ≤ 200 := by omega
  have H1 := Lib.hid h1
  clear h1
  go_enter Try.func5, Try.ntmps5
  go_wp2_with fail
  have HB0 := below_alloc w (.cells #[.slice a n c1, .slice b k c2] 25)
  have M0 := Mb.new w (.slice a n c1) (.slice b k c2)
  refine (heavy_is (decide_eq_false H1.out)).mono ?_
  rintro e wh1 ⟨rfl, hb⟩
  have M1 := M0.next hb
  have HB1 := below_next HB0 hb
  clear M0 HB0 hb
  clear H1
  have q0 := M1.c0
  have q1 := M1.c1
  go_wp2_with fail
  clear q0 q1
  refine (corn_any a b n k c1 c2 f g _ (SA.next HB1) (SB.next HB1) i x y z r HX.out).mono ?_
  rintro e w2 ⟨rfl, hb⟩
  have x1 := below_alloc w2 (.cells #[.int .i64 x.x, .int .i64 x.y, .int .i64 x.z] 36)
  have x2 := below_alloc (w2.alloc (.cells #[.int .i64 x.x, .int .i64 x.y, .int .i64 x.z] 36)) (.cells #[.int .i64 y.x, .int .i64 y.y, .int .i64 y.z] 36)
  have x3 := below_alloc ((w2.alloc (.cells #[.int .i64 x.x, .int .i64 x.y, .int .i64 x.z] 36)).alloc (.cells #[.int .i64 y.x, .int .i64 y.y, .int .i64 y.z] 36)) (.cells #[.int .i64 z.x, .int .i64 z.y, .int .i64 z.z] 36)
  have X1 := ((At.new w2 x.x x.y x.z).next x2).next x3
  have Y1 := (At.newAt (b := w2.heap.size + 1) (w2.alloc (.cells #[.int .i64 x.x, .int .i64 x.y, .int .i64 x.z] 36)) y.x y.y y.z (by simp)).next x3
  have Z1 := At.newAt (b := w2.heap.size + 1 + 1) ((w2.alloc (.cells #[.int .i64 x.x, .int .i64 x.y, .int .i64 x.z] 36)).alloc (.cells #[.int .i64 y.x, .int .i64 y.y, .int .i64 y.z] 36)) z.x z.y z.z (by simp)
  have K := below_next (below_next (below_next hb x1) x2) x3
  have M2 := M1.next K
  have HB2 := below_next HB1 K
  have q0 := M2.c0
  have q1 := M2.c1
  go_wp2_with fail
  clear q0 q1 K x1 x2 x3 hb M1 HB1
  generalize ((w2.alloc _).alloc _).alloc _ = w3 at X1 Y1 Z1 M2 HB2 ⊢
  generalize w2.heap.size + 1 + 1 = p3 at Z1 ⊢
  generalize w2.heap.size + 1 = p2 at Y1 ⊢
  generalize w2.heap.size = p1 at X1 ⊢
  have X3 := X1
  have Y3 := Y1
  have Z3 := Z1
  clear X1 Y1 Z1
  refine (corn_anyr a b n k c1 c2 f g _ (SA.next HB2) (SB.next HB2) i x y z r HX.out).mono ?_
  rintro e w4 ⟨rfl, hb⟩
  have x1 := below_alloc w4 (.cells #[.int .i64 x.x, .int .i64 x.y, .int .i64 x.z] 36)
  have x2 := below_alloc (w4.alloc (.cells #[.int .i64 x.x, .int .i64 x.y, .int .i64 x.z] 36)) (.cells #[.int .i64 y.x, .int .i64 y.y, .int .i64 y.z] 36)
  have x3 := below_alloc ((w4.alloc (.cells #[.int .i64 x.x, .int .i64 x.y, .int .i64 x.z] 36)).alloc (.cells #[.int .i64 y.x, .int .i64 y.y, .int .i64 y.z] 36)) (.cells #[.int .i64 z.x, .int .i64 z.y, .int .i64 z.z] 36)
  have X1 := ((At.new w4 x.x x.y x.z).next x2).next x3
  have Y1 := (At.newAt (b := w4.heap.size + 1) (w4.alloc (.cells #[.int .i64 x.x, .int .i64 x.y, .int .i64 x.z] 36)) y.x y.y y.z (by simp)).next x3
  have Z1 := At.newAt (b := w4.heap.size + 1 + 1) ((w4.alloc (.cells #[.int .i64 x.x, .int .i64 x.y, .int .i64 x.z] 36)).alloc (.cells #[.int .i64 y.x, .int .i64 y.y, .int .i64 y.z] 36)) z.x z.y z.z (by simp)
  have K := below_next (below_next (below_next hb x1) x2) x3
  have M3 := M2.next K
  have X4 := X3.next K
  have Y4 := Y3.next K
  have Z4 := Z3.next K
  have HB3 := below_next HB2 K
  go_wp2_with fail
  clear K x1 x2 x3 hb M2 HB2 X3 Y3 Z3
  generalize ((w4.alloc _).alloc _).alloc _ = w5 at X1 Y1 Z1 X4 Y4 Z4 M3 HB3 ⊢
  generalize w4.heap.size + 1 + 1 = p6 at Z1 ⊢
  generalize w4.heap.size + 1 = p5 at Y1 ⊢
  generalize w4.heap.size = p4 at X1 ⊢
  have MK : Hid (∀ w', Below w5.heap.size w5 w' → Below w5.heap.size w5 w' ∧ w'.cell? ⟨w.heap.size, 0, none⟩ = some (.slice a n c1) ∧ w'.cell? ⟨w.heap.size, 1, none⟩ = some (.slice b k c2) ∧ w'.cell? ⟨p1, 0, none⟩ = some (.int .i64 x.x) ∧ w'.cell? ⟨p1, 1, none⟩ = some (.int .i64 x.y) ∧ w'.cell? ⟨p1, 2, none⟩ = some (.int .i64 x.z) ∧ w'.cell? ⟨p2, 0, none⟩ = some (.int .i64 y.x) ∧ w'.cell? ⟨p2, 1, none⟩ = some (.int .i64 y.y) ∧ w'.cell? ⟨p2, 2, none⟩ = some (.int .i64 y.z) ∧ w'.cell? ⟨p3, 0, none⟩ = some (.int .i64 z.x) ∧ w'.cell? ⟨p3, 1, none⟩ = some (.int .i64 z.y) ∧ w'.cell? ⟨p3, 2, none⟩ = some (.int .i64 z.z) ∧ w'.cell? ⟨p4, 0, none⟩ = some (.int .i64 x.x) ∧ w'.cell? ⟨p4, 1, none⟩ = some (.int .i64 x.y) ∧ w'.cell? ⟨p4, 2, none⟩ = some (.int .i64 x.z) ∧ w'.cell? ⟨p5, 0, none⟩ = some (.int .i64 y.x) ∧ w'.cell? ⟨p5, 1, none⟩ = some (.int .i64 y.y) ∧ w'.cell? ⟨p5, 2, none⟩ = some (.int .i64 y.z) ∧ w'.cell? ⟨p6, 0, none⟩ = some (.int .i64 z.x) ∧ w'.cell? ⟨p6, 1, none⟩ = some (.int .i64 z.y) ∧ w'.cell? ⟨p6, 2, none⟩ = some (.int .i64 z.z)) := fun w' h => ⟨h, (M3.next h).c0, (M3.next h).c1, (X4.next h).c0, (X4.next h).c1, (X4.next h).c2, (Y4.next h).c0, (Y4.next h).c1, (Y4.next h).c2, (Z4.next h).c0, (Z4.next h).c1, (Z4.next h).c2, (X1.next h).c0, (X1.next h).c1, (X1.next h).c2, (Y1.next h).c0, (Y1.next h).c1, (Y1.next h).c2, (Z1.next h).c0, (Z1.next h).c1, (Z1.next h).c2⟩
  go_region_held3 (fun w' => Below w5.heap.size w5 w' ∧ w'.cell? ⟨w.heap.size, 0, none⟩ = some (.slice a n c1) ∧ w'.cell? ⟨w.heap.size, 1, none⟩ = some (.slice b k c2) ∧ w'.cell? ⟨p1, 0, none⟩ = some (.int .i64 x.x) ∧ w'.cell? ⟨p1, 1, none⟩ = some (.int .i64 x.y) ∧ w'.cell? ⟨p1, 2, none⟩ = some (.int .i64 x.z) ∧ w'.cell? ⟨p2, 0, none⟩ = some (.int .i64 y.x) ∧ w'.cell? ⟨p2, 1, none⟩ = some (.int .i64 y.y) ∧ w'.cell? ⟨p2, 2, none⟩ = some (.int .i64 y.z) ∧ w'.cell? ⟨p3, 0, none⟩ = some (.int .i64 z.x) ∧ w'.cell? ⟨p3, 1, none⟩ = some (.int .i64 z.y) ∧ w'.cell? ⟨p3, 2, none⟩ = some (.int .i64 z.z) ∧ w'.cell? ⟨p4, 0, none⟩ = some (.int .i64 x.x) ∧ w'.cell? ⟨p4, 1, none⟩ = some (.int .i64 x.y) ∧ w'.cell? ⟨p4, 2, none⟩ = some (.int .i64 x.z) ∧ w'.cell? ⟨p5, 0, none⟩ = some (.int .i64 y.x) ∧ w'.cell? ⟨p5, 1, none⟩ = some (.int .i64 y.y) ∧ w'.cell? ⟨p5, 2, none⟩ = some (.int .i64 y.z) ∧ w'.cell? ⟨p6, 0, none⟩ = some (.int .i64 z.x) ∧ w'.cell? ⟨p6, 1, none⟩ = some (.int .i64 z.y) ∧ w'.cell? ⟨p6, 2, none⟩ = some (.int .i64 z.z))
    (first | exact MK.out _ (Below.refl _ _).drew | exact MK.out _ (below_next (by go_split_ands; assumption) hb))
    (first
      | (go_at_call 17; with_reducible refine (check_is (SA.next (below_next HB3 (by go_split_ands; assumption))) (SB.next (below_next HB3 (by go_split_ands; assumption))) HQ.out).mono ?_; rintro e wt ⟨rfl, hb⟩)
      | (go_at_call 21; with_reducible refine (checkr_is (SA.next (below_next HB3 (by go_split_ands; assumption))) (SB.next (below_next HB3 (by go_split_ands; assumption))) HQ.out).mono ?_; rintro e wt ⟨rfl, hb⟩)
      | (go_at_call 22; with_reducible refine (norm_is (SA.next (below_next HB3 (by go_split_ands; assumption))) (SB.next (below_next HB3 (by go_split_ands; assumption))) HM.out).mono ?_; rintro e wt ⟨rfl, hb⟩)
      | (go_at_call 23; with_reducible refine (normr_is (SA.next (below_next HB3 (by go_split_ands; assumption))) (SB.next (below_next HB3 (by go_split_ands; assumption))) HM.out).mono ?_; rintro e wt ⟨rfl, hb⟩)
      | (go_at_call 11; refine (awake_any _).mono ?_; rintro e wt ⟨rfl, hb⟩))
  have HZ : Below w.heap.size w _ := below_next HB3 (by go_split_ands; assumption)
  go_wp2_with fail
  go_ret
  exact ⟨rfl, HZ⟩
theorem meshChecks_all (a b : Option Addr) (n k c1 c2 : Nat) (f g : Nat → V) (w : World) (SA : Sx a n f w) (SB : Sx b k g w) (i : Int) :
    Calls Try.prog 5 #[.agg #[.slice a n c1, .slice b k c2], .int .i64 i] w fun e w' => e = .returned (.bool true) ∧ Below w.heap.size w w' := by
  by_cases h1 : 200 < n ∨ 200 < k
  · exact meshChecks_heavy1 a b n k c1 c2 f g w SA SB i h1
  · exact meshChecks_main a b n k c1 c2 f g w SA SB i h1
theorem meshChecks_walk (v0 : Value) (i : Int) (w : World) (h0 : ∃ a n cap b k cap' f g, v0 = .agg #[.slice a n cap, .slice b k cap'] ∧ Sx a n f w ∧ Sx b k g w) (_wi : (Lit.int .i64 i).wf = true) :
    Calls Try.prog 5 #[v0, .int .i64 i] w fun e w' => e = .returned (.bool true) ∧ Below w.heap.size w w' := by
  obtain ⟨a, n, c1, b, k, c2, f, g, rfl, SA, SB⟩ := h0
  exact meshChecks_all a b n k c1 c2 f g w SA SB i
end Go.Proofs.Ytcfglmamocdkeaa
