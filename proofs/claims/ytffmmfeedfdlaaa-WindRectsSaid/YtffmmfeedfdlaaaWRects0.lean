/- The walk of WindRects, case 0. -/
import Derived.Test.YtffmmfeedfdlaaaRectB
namespace Go.Proofs.Ytffmmfeedfdlaaa
open Go.ChangeShapes Go.WideShapes Go.ChangeAt Go.RowKit
set_option linter.unusedVariables false

set_option maxRecDepth 100000 in
set_option maxHeartbeats 60000000 in
theorem windRects_c0 (X Y W H PX PY : Int) (w : World) (q1 : X ≤ PX) (q2 : PX < X + W) (q3 : Y ≤ PY) (q4 : PY < Y + H) :
    Calls Try.prog 6 #[.agg #[.int .i64 X, .int .i64 Y, .int .i64 W, .int .i64 H, .int .i64 PX, .int .i64 PY]] w fun e w' => e = .returned (.bool true) ∧ Below w.heap.size w w' := by
  have Q1' := Lib.hid q1
  have Q2' := Lib.hid q2
  have Q3' := Lib.hid q3
  have Q4' := Lib.hid q4
  clear q1 q2 q3 q4
  go_enter Try.func6, Try.ntmps6
  go_wp2_with fail
  have b1 := below_alloc w (.cells #[.int .i64 X, .int .i64 Y, .int .i64 W, .int .i64 H, .int .i64 PX, .int .i64 PY] 37)
  have b2 := below_alloc (w.alloc (.cells #[.int .i64 X, .int .i64 Y, .int .i64 W, .int .i64 H, .int .i64 PX, .int .i64 PY] 37)) (.cells #[.int .i64 X, .int .i64 Y, .int .i64 W, .int .i64 H, .int .i64 PX, .int .i64 PY] 3)
  have R : Rb w.heap.size X Y W H PX PY _ := Rb.next ⟨heap_alloc_new w _⟩ b2
  have I : Ib (w.alloc (.cells #[.int .i64 X, .int .i64 Y, .int .i64 W, .int .i64 H, .int .i64 PX, .int .i64 PY] 37)).heap.size X Y W H PX PY _ := ⟨heap_alloc_new (w.alloc (.cells #[.int .i64 X, .int .i64 Y, .int .i64 W, .int .i64 H, .int .i64 PX, .int .i64 PY] 37)) _⟩
  have HB := below_next b1 b2
  rw [World.size_alloc] at I
  clear b1 b2
  generalize (w.alloc (.cells #[.int .i64 X, .int .i64 Y, .int .i64 W, .int .i64 H, .int .i64 PX, .int .i64 PY] 37)).alloc (.cells #[.int .i64 X, .int .i64 Y, .int .i64 W, .int .i64 H, .int .i64 PX, .int .i64 PY] 3) = wz at R I HB ⊢
  go_loopw [21] (fun i wk => ∃ k : Nat, k ≤ 6 ∧ i = .int .i64 k ∧ (∀ q, q < k → -1048576 ≤ six X Y W H PX PY q ∧ six X Y W H PX PY q ≤ 1048576) ∧ wk = wz) (fun i _ => 6 - (intOf i).toNat)
  case atStart => exact ⟨0, by omega, rfl, fun q hq => absurd hq (by omega), rfl⟩
  case round =>
    obtain ⟨k, hk, rfl, hin, rfl⟩ := hrel
    by_cases hlt : k < 6
    · have c0 := I.c k hlt
      obtain ⟨v, hv⟩ : ∃ v, six X Y W H PX PY k = v := ⟨_, rfl⟩
      rw [hv] at c0
      by_cases o1 : v < -1048576
      · go_wp2_with fail
        refine (awake_any _).mono ?_
        rintro e wf ⟨rfl, hf⟩
        go_wp2_with fail
        go_ret
        exact ⟨rfl, below_next HB hf⟩
      by_cases o2 : 1048576 < v
      · go_wp2_with fail
        refine (awake_any _).mono ?_
        rintro e wf ⟨rfl, hf⟩
        go_wp2_with fail
        go_ret
        exact ⟨rfl, below_next HB hf⟩
      go_wp2_with fail
      go_roundw
      case rel =>
        refine ⟨k + 1, by omega, by go_num, fun q hq => ?_, trivial⟩
        rcases Nat.lt_or_ge q k with h' | h'
        · exact hin q h'
        · obtain rfl : q = k := by omega
          rw [hv]; omega
      case measure => simp [intOf]; omega
    · obtain rfl : k = 6 := by omega
      have e0 := hin 0 (by omega)
      have e1 := hin 1 (by omega)
      have e2 := hin 2 (by omega)
      have e3 := hin 3 (by omega)
      have e4 := hin 4 (by omega)
      have e5 := hin 5 (by omega)
      simp only [six] at e0 e1 e2 e3 e4 e5
      have c0 : wr.cell? ⟨w.heap.size, 0, none⟩ = some (.int .i64 X) := R.c 0 (by omega)
      have c1 : wr.cell? ⟨w.heap.size, 1, none⟩ = some (.int .i64 Y) := R.c 1 (by omega)
      have c2 : wr.cell? ⟨w.heap.size, 2, none⟩ = some (.int .i64 W) := R.c 2 (by omega)
      have c3 : wr.cell? ⟨w.heap.size, 3, none⟩ = some (.int .i64 H) := R.c 3 (by omega)
      have c4 : wr.cell? ⟨w.heap.size, 4, none⟩ = some (.int .i64 PX) := R.c 4 (by omega)
      have c5 : wr.cell? ⟨w.heap.size, 5, none⟩ = some (.int .i64 PY) := R.c 5 (by omega)
      clear hin hlt hk I
      by_cases o1 : W < 1
      · go_wp2_with fail
        refine (awake_any _).mono ?_
        rintro e wf ⟨rfl, hf⟩
        go_wp2_with fail
        go_ret
        exact ⟨rfl, below_next HB hf⟩
      by_cases o2 : H < 1
      · go_wp2_with fail
        refine (awake_any _).mono ?_
        rintro e wf ⟨rfl, hf⟩
        go_wp2_with fail
        go_ret
        exact ⟨rfl, below_next HB hf⟩
      have s1 : IntKind.i64.wrap (X + W) = X + W := IntWalk.i64_in _ (by omega)
      have s2 : IntKind.i64.wrap (Y + H) = Y + H := IntWalk.i64_in _ (by omega)
      have m0 := mul_in (show -2097152 ≤ 2 * W ∧ 2 * W ≤ 2097152 by omega) e3
      have s3 : IntKind.i64.wrap (2 * W) = 2 * W := IntWalk.i64_in _ (by omega)
      have s4 : IntKind.i64.wrap (2 * W * H) = 2 * W * H := IntWalk.i64_in _ (by omega)
      clear m0
      have zz : w.heap.size < wr.heap.size := lt_of_row R.row
      have q1 := Q1'.out
      have q2 := Q2'.out
      have q3 := Q3'.out
      have q4 := Q4'.out
      have QQ := Lib.hid (show ((X ≤ PX ∧ PX < X + W) ∧ Y ≤ PY) ∧ PY < Y + H from ⟨⟨⟨q1, q2⟩, q3⟩, q4⟩)
      have hv : wind 1 (fun _ => (⟨some ⟨wr.heap.size, 0, none⟩, 4, 4, rf X Y W H⟩ : Pg)) ⟨PX, PY⟩ = 1 := by rw [rect_wind X Y W H ⟨PX, PY⟩ _ _ e0 e1 ⟨by omega, e2.2⟩ ⟨by omega, e3.2⟩ ⟨e4, e5⟩]; exact if_pos QQ.out
      have ha : pal (fun _ => (⟨some ⟨wr.heap.size, 0, none⟩, 4, 4, rf X Y W H⟩ : Pg)) 1 = 2 * W * H := rect_area X Y W H _ _ e0 e1 ⟨by omega, e2.2⟩ ⟨by omega, e3.2⟩
      have HV := Lib.hid hv
      have HP := Lib.hid ha
      clear hv ha
      go_wp2_with fail
      have bb1 := below_alloc wr (.cells #[.int .i64 X, .int .i64 Y, .int .i64 (X + W), .int .i64 Y, .int .i64 (X + W), .int .i64 (Y + H), .int .i64 X, .int .i64 (Y + H)] 24)
      have bb2 := below_alloc (wr.alloc (.cells #[.int .i64 X, .int .i64 Y, .int .i64 (X + W), .int .i64 Y, .int .i64 (X + W), .int .i64 (Y + H), .int .i64 X, .int .i64 (Y + H)] 24)) (.cells #[.slice (some ⟨wr.heap.size, 0, none⟩) 4 4] 33)
      have P1 : Pl (some ⟨wr.heap.size, 0, none⟩) 4 (rf X Y W H) ((wr.alloc (.cells #[.int .i64 X, .int .i64 Y, .int .i64 (X + W), .int .i64 Y, .int .i64 (X + W), .int .i64 (Y + H), .int .i64 X, .int .i64 (Y + H)] 24)).alloc (.cells #[.slice (some ⟨wr.heap.size, 0, none⟩) 4 4] 33)) := (pl_rect X Y W H wr).next bb2
      have D1 := Bx.new (wr.alloc (.cells #[.int .i64 X, .int .i64 Y, .int .i64 (X + W), .int .i64 Y, .int .i64 (X + W), .int .i64 (Y + H), .int .i64 X, .int .i64 (Y + H)] 24)) (.slice (some ⟨wr.heap.size, 0, none⟩) 4 4) 33
      rw [World.size_alloc] at D1
      have R1 := (R.next bb1).next bb2
      have HB1 := below_next (below_next HB bb1) bb2
      clear bb1 bb2 c0 c1 c2 c3 c4 c5 o1 o2 s1 s2 zz
      generalize (wr.alloc (.cells #[.int .i64 X, .int .i64 Y, .int .i64 (X + W), .int .i64 Y, .int .i64 (X + W), .int .i64 (Y + H), .int .i64 X, .int .i64 (Y + H)] 24)).alloc (.cells #[.slice (some ⟨wr.heap.size, 0, none⟩) 4 4] 33) = w5 at P1 D1 R1 HB1 ⊢
      generalize wr.heap.size = T at P1 D1 HV HP ⊢
      have LL1 : Ll (some ⟨w5.heap.size, 0, none⟩) 1 (fun _ => (⟨some ⟨T, 0, none⟩, 4, 4, rf X Y W H⟩ : Pg)) (w5.alloc (.cells #[.slice (some ⟨T, 0, none⟩) 4 4] 33)).drew := ll1 (g := (⟨some ⟨T, 0, none⟩, 4, 4, rf X Y W H⟩ : Pg)) (heap_alloc_new w5 _) (P1.next (below_alloc _ _).drew)
      have MK : Hid (∀ w', Below w5.heap.size w5 w' → Below w5.heap.size w5 w' ∧ w'.cell? ⟨w.heap.size, 2, none⟩ = some (.int .i64 W) ∧ w'.cell? ⟨w.heap.size, 3, none⟩ = some (.int .i64 H) ∧ w'.cell? ⟨w.heap.size, 4, none⟩ = some (.int .i64 PX) ∧ w'.cell? ⟨w.heap.size, 5, none⟩ = some (.int .i64 PY) ∧ w'.cell? ⟨T + 1, 0, none⟩ = some (.slice (some ⟨T, 0, none⟩) 4 4)) := fun w' h =>
        ⟨h, (R1.next h).c 2 (by omega), (R1.next h).c 3 (by omega), (R1.next h).c 4 (by omega), (R1.next h).c 5 (by omega), (D1.next h).c0⟩
      go_region_held3 (fun w' => Below w5.heap.size w5 w' ∧ w'.cell? ⟨w.heap.size, 2, none⟩ = some (.int .i64 W) ∧ w'.cell? ⟨w.heap.size, 3, none⟩ = some (.int .i64 H) ∧ w'.cell? ⟨w.heap.size, 4, none⟩ = some (.int .i64 PX) ∧ w'.cell? ⟨w.heap.size, 5, none⟩ = some (.int .i64 PY) ∧ w'.cell? ⟨T + 1, 0, none⟩ = some (.slice (some ⟨T, 0, none⟩) 4 4))
        (first | exact MK.out _ (Below.refl _ _).drew | exact MK.out _ (below_next (by go_split_ands; assumption) hb) | exact MK.out _ (below_next (by go_split_ands; assumption) (below_alloc _ _)))
        (first
          | (go_at_call 10; with_reducible refine (wind_is _ 1 _ _ ⟨PX, PY⟩ _ LL1 (by decide) (by simp [tot]) 1 HV.out).mono ?_; rintro e wt ⟨rfl, hb⟩)
          | (go_at_call 13; with_reducible refine (areas_is _ 1 _ (fun _ => (⟨some ⟨T, 0, none⟩, 4, 4, rf X Y W H⟩ : Pg)) _ ?hS (by decide) (by simp [tot]) (2 * W * H) HP.out).mono ?hm; (case hS => exact ll1 (g := (⟨some ⟨T, 0, none⟩, 4, 4, rf X Y W H⟩ : Pg)) (heap_alloc_new _ _) (P1.next (below_next (below_next (below_alloc w5 _).drew hb) (below_alloc _ _)))); rintro e wt ⟨rfl, hb⟩)
          | (go_at_call 9; refine (awake_any _).mono ?_; rintro e wt ⟨rfl, hb⟩))
      have HZ : Below w.heap.size w _ := below_next HB1 (by go_split_ands; assumption)
      go_wp2_with fail
      go_ret
      exact ⟨rfl, HZ⟩
end Go.Proofs.Ytffmmfeedfdlaaa
