/- The walk of MeshBoxes. Printed by mlaws.py. -/
import Derived.Test.YtcfglmamocdkeaaCls
namespace Go.Proofs.Ytcfglmamocdkeaa
open Go.ChangeShapes Go.WideShapes Go.ChangeAt Go.RowKit
set_option linter.unusedVariables false

theorem meshBoxes_heavy1 (a b : Option Addr) (n k c1 c2 : Nat) (f g : Nat → V) (w : World) (SA : Sx a n f w) (SB : Sx b k g w) (h1 : 200 < n ∨ 200 < k) :
    Calls Try.prog 6 #[.agg #[.slice a n c1, .slice b k c2]] w fun e w' => e = .returned (.bool true) ∧ Below w.heap.size w w' := by
  have H1 := Lib.hid h1
  clear h1
  go_enter Try.func6, Try.ntmps6
  go_wp2_with fail
  have HB0 := below_alloc w (.cells #[.slice a n c1, .slice b k c2] 25)
  have M0 := Mb.new w (.slice a n c1) (.slice b k c2)
  refine (heavy_is (decide_eq_true H1.out)).mono ?_
  rintro e wh1 ⟨rfl, hb⟩
  have M1 := M0.next hb
  have HB1 := below_next HB0 hb
  clear M0 HB0 hb
  go_wp2_with fail
  refine (awake_any _).mono ?_
  rintro e wf ⟨rfl, hb⟩
  go_wp2_with fail
  go_ret
  exact ⟨rfl, below_next HB1 hb⟩
set_option maxRecDepth 100000 in
set_option maxHeartbeats 2000000 in
theorem meshBoxes_main (a b : Option Addr) (n k c1 c2 : Nat) (f g : Nat → V) (w : World) (SA : Sx a n f w) (SB : Sx b k g w) (h1 : ¬ (200 < n ∨ 200 < k)) :
    Calls Try.prog 6 #[.agg #[.slice a n c1, .slice b k c2]] w fun e w' => e = .returned (.bool true) ∧ Below w.heap.size w w' := by
  obtain ⟨x, y, r, hbx⟩ : ∃ x y r, pbox n k f g = (x, y, r) := ⟨_, _, _, rfl⟩
  obtain ⟨q, hq⟩ : ∃ q, pvol n k f g = q := ⟨_, rfl⟩
  have HX := Lib.hid hbx
  have HQ := Lib.hid hq
  clear hbx hq
  have hn : n ≤ 200 := by omega
  have hk : k ≤ 200 := by omega
  have H1 := Lib.hid h1
  clear h1
  go_enter Try.func6, Try.ntmps6
  go_wp2_with fail
  have HB0 := below_alloc w (.cells #[.slice a n c1, .slice b k c2] 25)
  have M0 := Mb.new w (.slice a n c1) (.slice b k c2)
  refine (heavy_is (decide_eq_false H1.out)).mono ?_
  rintro e wh1 ⟨rfl, hb⟩
  have M1 := M0.next hb
  have HB1 := below_next HB0 hb
  clear M0 HB0 hb
  clear H1
  have hk' : k ≤ 400 := by omega
  have q0 := M1.c0
  have q1 := M1.c1
  go_wp2_with fail
  clear q0 q1
  refine (box_any a b n k c1 c2 f g _ (SA.next HB1) (SB.next HB1) x y r HX.out).mono ?_
  rintro e w2 ⟨rfl, hb⟩
  obtain ⟨x1, X1, Y1⟩ := two_boxes w2 x.x x.y x.z y.x y.y y.z
  have K := below_next hb x1
  have M2 := M1.next K
  have HB2 := below_next HB1 K
  have q0 := M2.c0
  have q1 := M2.c1
  go_wp2_with fail
  clear q0 q1 K x1 hb M1 HB1
  generalize (w2.alloc _).alloc _ = w3 at X1 Y1 M2 HB2 ⊢
  generalize w2.heap.size + 1 = p2 at Y1 ⊢
  generalize w2.heap.size = p1 at X1 ⊢
  refine (box_anyr a b n k c1 c2 f g _ (SA.next HB2) (SB.next HB2) x y r HX.out).mono ?_
  rintro e w4 ⟨rfl, hb⟩
  obtain ⟨x1, X2, Y2⟩ := two_boxes w4 x.x x.y x.z y.x y.y y.z
  have K := below_next hb x1
  have M3 := M2.next K
  have X3 := X1.next K
  have Y3 := Y1.next K
  have HB3 := below_next HB2 K
  go_wp2_with fail
  clear K x1 hb M2 HB2 X1 Y1
  generalize (w4.alloc _).alloc _ = w5 at X2 Y2 X3 Y3 M3 HB3 ⊢
  generalize w4.heap.size + 1 = p4 at Y2 ⊢
  generalize w4.heap.size = p3 at X2 ⊢
  have MK : Hid (∀ w', Below w5.heap.size w5 w' → Below w5.heap.size w5 w' ∧ w'.cell? ⟨w.heap.size, 0, none⟩ = some (.slice a n c1) ∧ w'.cell? ⟨w.heap.size, 1, none⟩ = some (.slice b k c2) ∧ w'.cell? ⟨p1, 0, none⟩ = some (.int .i64 x.x) ∧ w'.cell? ⟨p1, 1, none⟩ = some (.int .i64 x.y) ∧ w'.cell? ⟨p1, 2, none⟩ = some (.int .i64 x.z) ∧ w'.cell? ⟨p2, 0, none⟩ = some (.int .i64 y.x) ∧ w'.cell? ⟨p2, 1, none⟩ = some (.int .i64 y.y) ∧ w'.cell? ⟨p2, 2, none⟩ = some (.int .i64 y.z) ∧ w'.cell? ⟨p3, 0, none⟩ = some (.int .i64 x.x) ∧ w'.cell? ⟨p3, 1, none⟩ = some (.int .i64 x.y) ∧ w'.cell? ⟨p3, 2, none⟩ = some (.int .i64 x.z) ∧ w'.cell? ⟨p4, 0, none⟩ = some (.int .i64 y.x) ∧ w'.cell? ⟨p4, 1, none⟩ = some (.int .i64 y.y) ∧ w'.cell? ⟨p4, 2, none⟩ = some (.int .i64 y.z)) := fun w' h => ⟨h, (M3.next h).c0, (M3.next h).c1, (X3.next h).c0, (X3.next h).c1, (X3.next h).c2, (Y3.next h).c0, (Y3.next h).c1, (Y3.next h).c2, (X2.next h).c0, (X2.next h).c1, (X2.next h).c2, (Y2.next h).c0, (Y2.next h).c1, (Y2.next h).c2⟩
  go_region_held3 (fun w' => Below w5.heap.size w5 w' ∧ w'.cell? ⟨w.heap.size, 0, none⟩ = some (.slice a n c1) ∧ w'.cell? ⟨w.heap.size, 1, none⟩ = some (.slice b k c2) ∧ w'.cell? ⟨p1, 0, none⟩ = some (.int .i64 x.x) ∧ w'.cell? ⟨p1, 1, none⟩ = some (.int .i64 x.y) ∧ w'.cell? ⟨p1, 2, none⟩ = some (.int .i64 x.z) ∧ w'.cell? ⟨p2, 0, none⟩ = some (.int .i64 y.x) ∧ w'.cell? ⟨p2, 1, none⟩ = some (.int .i64 y.y) ∧ w'.cell? ⟨p2, 2, none⟩ = some (.int .i64 y.z) ∧ w'.cell? ⟨p3, 0, none⟩ = some (.int .i64 x.x) ∧ w'.cell? ⟨p3, 1, none⟩ = some (.int .i64 x.y) ∧ w'.cell? ⟨p3, 2, none⟩ = some (.int .i64 x.z) ∧ w'.cell? ⟨p4, 0, none⟩ = some (.int .i64 y.x) ∧ w'.cell? ⟨p4, 1, none⟩ = some (.int .i64 y.y) ∧ w'.cell? ⟨p4, 2, none⟩ = some (.int .i64 y.z))
    (first | exact MK.out _ (Below.refl _ _).drew | exact MK.out _ (below_next (by go_split_ands; assumption) hb))
    (first
      | (go_at_call 12; with_reducible refine (vol_is (SA.next (below_next HB3 (by go_split_ands; assumption))) (SB.next (below_next HB3 (by go_split_ands; assumption))) hk' HQ.out).mono ?_; rintro e wt ⟨rfl, hb⟩)
      | (go_at_call 26; with_reducible refine (volr_is (SA.next (below_next HB3 (by go_split_ands; assumption))) (SB.next (below_next HB3 (by go_split_ands; assumption))) hk' HQ.out).mono ?_; rintro e wt ⟨rfl, hb⟩)
      | (go_at_call 11; refine (awake_any _).mono ?_; rintro e wt ⟨rfl, hb⟩))
  have HZ : Below w.heap.size w _ := below_next HB3 (by go_split_ands; assumption)
  go_wp2_with fail
  go_ret
  exact ⟨rfl, HZ⟩
theorem meshBoxes_all (a b : Option Addr) (n k c1 c2 : Nat) (f g : Nat → V) (w : World) (SA : Sx a n f w) (SB : Sx b k g w) :
    Calls Try.prog 6 #[.agg #[.slice a n c1, .slice b k c2]] w fun e w' => e = .returned (.bool true) ∧ Below w.heap.size w w' := by
  by_cases h1 : 200 < n ∨ 200 < k
  · exact meshBoxes_heavy1 a b n k c1 c2 f g w SA SB h1
  · exact meshBoxes_main a b n k c1 c2 f g w SA SB h1
theorem meshBoxes_walk (v0 : Value) (w : World) (h0 : ∃ a n cap b k cap' f g, v0 = .agg #[.slice a n cap, .slice b k cap'] ∧ Sx a n f w ∧ Sx b k g w) :
    Calls Try.prog 6 #[v0] w fun e w' => e = .returned (.bool true) ∧ Below w.heap.size w w' := by
  obtain ⟨a, n, c1, b, k, c2, f, g, rfl, SA, SB⟩ := h0
  exact meshBoxes_all a b n k c1 c2 f g w SA SB
end Go.Proofs.Ytcfglmamocdkeaa
