/- The walk of WindPoints. -/
import Derived.Test.YtffmmfeedfdlaaaAwake
namespace Go.Proofs.Ytffmmfeedfdlaaa
open Go.ChangeShapes Go.WideShapes Go.ChangeAt Go.RowKit
set_option linter.unusedVariables false

theorem heavy_is (a : Option Addr) (N c : Nat) (L : Nat → Pg) (w : World) (S : Ll a N L w) (hT : N ≤ 100 → tot L N ≤ 4611686018427387904) (r : Bool) (hr : decide (100 < N ∨ 400 < tot L N) = r) :
    Calls Try.prog 8 #[.slice a N c] w fun e w' => e = .returned (.bool r) ∧ Below w.heap.size w w' := by
  by_cases h : 100 < N
  · rw [show r = true by rw [← hr]; simp [h]]
    exact heavy_len a N c w h
  · exact heavy_tot a N c L w S (by omega) (hT (by omega)) r (by rw [← hr]; exact decide_eq_decide.2 ⟨.inr, fun k => k.resolve_left h⟩)
theorem inside_q (a : Option Addr) (N c : Nat) (L : Nat → Pg) (p : P) (w : World) (S : Ll a N L w) (hN : N ≤ 1000) (hT : tot L N ≤ 4000) (v : Int) (hv : wind N L p = v) (r : Bool) (hr : decide (0 < v) = r) :
    Calls Try.prog 12 #[.slice a N c, .agg #[.int .i64 p.x, .int .i64 p.y]] w fun e w' => e = .returned (.bool r) ∧ Below w.heap.size w w' := hr ▸ inside_is a N c L p w S hN hT v hv
theorem windPoints_heavy (a : Option Addr) (N c : Nat) (L : Nat → Pg) (p : P) (w : World) (S : Ll a N L w) (hT : N ≤ 100 → tot L N ≤ 4611686018427387904) (h1 : 100 < N ∨ 400 < tot L N) :
    Calls Try.prog 3 #[.slice a N c, .agg #[.int .i64 p.x, .int .i64 p.y]] w fun e w' => e = .returned (.bool true) ∧ Below w.heap.size w w' := by
  have H1 := Lib.hid h1
  have HT := Lib.hid hT
  clear h1 hT
  go_enter Try.func3, Try.ntmps3
  have HA := below_alloc w (.cells #[.int .i64 p.x, .int .i64 p.y] 24)
  go_wp2_with fail
  refine (heavy_is a N c L _ (S.next HA) HT.out true (decide_eq_true H1.out)).mono ?_
  rintro e w1 ⟨rfl, hb⟩
  go_wp2_with fail
  refine (awake_any _).mono ?_
  rintro e w2 ⟨rfl, hb2⟩
  go_wp2_with fail
  go_ret
  exact ⟨rfl, below_next (below_next HA hb) hb2⟩
set_option maxRecDepth 100000 in
set_option maxHeartbeats 2000000 in
theorem windPoints_main (a : Option Addr) (N c : Nat) (L : Nat → Pg) (p : P) (w : World) (S : Ll a N L w) (h1 : ¬ (100 < N ∨ 400 < tot L N)) :
    Calls Try.prog 3 #[.slice a N c, .agg #[.int .i64 p.x, .int .i64 p.y]] w fun e w' => e = .returned (.bool true) ∧ Below w.heap.size w w' := by
  have hN : N ≤ 1000 := by omega
  have hT : tot L N ≤ 4000 := by omega
  have hT' : N ≤ 100 → tot L N ≤ 4611686018427387904 := by omega
  obtain ⟨v, hv⟩ : ∃ v, wind N L p = v := ⟨_, rfl⟩
  obtain ⟨A, hA⟩ : ∃ A, pal L N = A := ⟨_, rfl⟩
  obtain ⟨r, hr⟩ : ∃ r, decide (0 < v) = r := ⟨_, rfl⟩
  have H1 := Lib.hid h1
  have HV := Lib.hid hv
  have HP := Lib.hid hA
  have HR := Lib.hid hr
  have HT := Lib.hid hT
  have HT' := Lib.hid hT'
  clear h1 hv hA hT hT'
  go_enter Try.func3, Try.ntmps3
  have HA := below_alloc w (.cells #[.int .i64 p.x, .int .i64 p.y] 24)
  go_wp2_with fail
  refine (heavy_is a N c L _ (S.next HA) HT'.out false (decide_eq_false H1.out)).mono ?_
  rintro e wz ⟨rfl, hb⟩
  have AT := (At.new w p.x p.y).next hb
  have HB := below_next HA hb
  have S1 := S.next HB
  clear HA hb S
  have q0 := AT.c0
  have q1 := AT.c1
  go_wp2_with fail
  clear q0 q1
  have MK : Hid (∀ w', Below wz.heap.size wz w' → Below wz.heap.size wz w' ∧ w'.cell? ⟨w.heap.size, 0, none⟩ = some (.int .i64 p.x) ∧ w'.cell? ⟨w.heap.size, 1, none⟩ = some (.int .i64 p.y)) := fun w' h => ⟨h, (AT.next h).c0, (AT.next h).c1⟩
  go_region_held3 (fun w' => Below wz.heap.size wz w' ∧ w'.cell? ⟨w.heap.size, 0, none⟩ = some (.int .i64 p.x) ∧ w'.cell? ⟨w.heap.size, 1, none⟩ = some (.int .i64 p.y))
    (first | exact MK.out _ (Below.refl _ _).drew | exact MK.out _ (below_next (by go_split_ands; assumption) hb))
    (first
      | (go_at_call 10; with_reducible refine (wind_is a N c L p _ (S1.next (by go_split_ands; assumption)) hN HT.out v HV.out).mono ?_; rintro e wt ⟨rfl, hb⟩)
      | (go_at_call 11; with_reducible refine (windr_is a N c L p _ (S1.next (by go_split_ands; assumption)) hN HT.out v HV.out).mono ?_; rintro e wt ⟨rfl, hb⟩)
      | (go_at_call 12; with_reducible refine (inside_q a N c L p _ (S1.next (by go_split_ands; assumption)) hN HT.out v HV.out r HR.out).mono ?_; rintro e wt ⟨rfl, hb⟩)
      | (go_at_call 13; with_reducible refine (areas_is a N c L _ (S1.next (by go_split_ands; assumption)) hN HT.out A HP.out).mono ?_; rintro e wt ⟨rfl, hb⟩)
      | (go_at_call 14; with_reducible refine (areas_isr a N c L _ (S1.next (by go_split_ands; assumption)) hN HT.out A HP.out).mono ?_; rintro e wt ⟨rfl, hb⟩)
      | (go_at_call 9; refine (awake_any _).mono ?_; rintro e wt ⟨rfl, hb⟩))
  have HZ : Below w.heap.size w _ := below_next HB (by go_split_ands; assumption)
  go_wp2_with fail
  go_ret
  exact ⟨rfl, HZ⟩
theorem windPoints_walk (a : Option Addr) (N c : Nat) (L : Nat → Pg) (p : P) (w : World) (S : Ll a N L w) (hT : N ≤ 100 → tot L N ≤ 4611686018427387904) :
    Calls Try.prog 3 #[.slice a N c, .agg #[.int .i64 p.x, .int .i64 p.y]] w fun e w' => e = .returned (.bool true) ∧ Below w.heap.size w w' := by
  by_cases h1 : 100 < N ∨ 400 < tot L N
  · exact windPoints_heavy a N c L p w S hT h1
  · exact windPoints_main a N c L p w S h1
end Go.Proofs.Ytffmmfeedfdlaaa
