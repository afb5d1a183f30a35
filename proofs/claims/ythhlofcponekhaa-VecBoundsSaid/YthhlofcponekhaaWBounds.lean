/- VecBounds' walk. -/
import Derived.Test.YthhlofcponekhaaAwake
import Derived.Deep.DeepCutAuto
namespace Go.Proofs.Ythhlofcponekhaa
open Go.ChangeShapes Go.WideShapes Go.ChangeAt Go.RowKit

theorem mn_le (a n : Int) : mn a n ≤ a ∧ mn a n ≤ n := by unfold mn; split <;> omega
theorem mx_ge (a n : Int) : a ≤ mx a n ∧ n ≤ mx a n := by unfold mx; split <;> omega
theorem lo_le (f : Nat → V) {k : Nat} : ∀ m, k < m → (lo f m).x ≤ (f k).x ∧ (lo f m).y ≤ (f k).y ∧ (lo f m).z ≤ (f k).z
  | 0, h => absurd h (by omega)
  | m + 1, h => by
    have e1 := mn_le (lo f m).x (f m).x
    have e2 := mn_le (lo f m).y (f m).y
    have e3 := mn_le (lo f m).z (f m).z
    by_cases hk : k = m
    · subst hk
      exact ⟨e1.2, e2.2, e3.2⟩
    · obtain ⟨h1, h2, h3⟩ := lo_le f m (by omega : k < m)
      exact ⟨Int.le_trans e1.1 h1, Int.le_trans e2.1 h2, Int.le_trans e3.1 h3⟩
theorem hi_ge (f : Nat → V) {k : Nat} : ∀ m, k < m → (f k).x ≤ (hi f m).x ∧ (f k).y ≤ (hi f m).y ∧ (f k).z ≤ (hi f m).z
  | 0, h => absurd h (by omega)
  | m + 1, h => by
    have e1 := mx_ge (hi f m).x (f m).x
    have e2 := mx_ge (hi f m).y (f m).y
    have e3 := mx_ge (hi f m).z (f m).z
    by_cases hk : k = m
    · subst hk
      exact ⟨e1.2, e2.2, e3.2⟩
    · obtain ⟨h1, h2, h3⟩ := hi_ge f m (by omega : k < m)
      exact ⟨Int.le_trans h1 e1.1, Int.le_trans h2 e2.1, Int.le_trans h3 e3.1⟩

set_option maxRecDepth 1000000 in
set_option maxHeartbeats 2000000 in
theorem vecBounds_some (b o n cap : Nat) (f : Nat → V) (w : World) (h0 : 0 < n) (hcap : n ≤ cap) (S : Sl b o n f w) :
    Calls Try.prog 7 #[.slice (some ⟨b, o, none⟩) n cap] w fun e w' => e = .returned (.bool true) ∧ Below w.heap.size w w' := by
  go_enter Try.func7, Try.ntmps7
  go_upto_if 13 with fail
  go_cut [0] (fun s0 w' => ∃ m : Nat, 0 < m ∧ m ≤ 300 ∧ m ≤ n ∧ s0 = .slice (some ⟨b, o, none⟩) m cap ∧ w' = w)
  case first => as_aux_lemma =>
    by_cases h : n ≤ 300
    · have d1 : decide ((300 : Int) < n) = false := by simp; omega
      go_wp2_with fail
      go_meet
      exact ⟨n, h0, h, Nat.le_refl _, rfl, rfl⟩
    · have d1 : decide ((300 : Int) < n) = true := by simp; omega
      have hc : 300 ≤ cap := by omega
      go_wp2_with fail
      go_meet
      exact ⟨300, by omega, by omega, by omega, rfl, rfl⟩
  case rest =>
    obtain ⟨m, m0, m1, m2, hs, hw⟩ := hcut
    subst hs hw
    have S' : Sl b o m f _ := ⟨S.hb, fun i hi => S.hc i (by omega)⟩
    clear S
    go_wp2_with fail
    refine (bounds_some b o m cap f _ m0 m1 S').mono ?_
    rintro e w1 ⟨rfl, hb1⟩
    go_wp2_with fail
    obtain ⟨HB1, X1, X2⟩ := two_boxes w1 (lo f m).x (lo f m).y (lo f m).z (hi f m).x (hi f m).y (hi f m).z
    have HW := below_next hb1 HB1
    have S2 := S'.next HW
    clear HB1 hb1
    generalize (w1.alloc _).alloc _ = w2 at X1 X2 HW S2 ⊢
    generalize w1.heap.size + 1 = q at X2 ⊢
    generalize w1.heap.size = p at X1 ⊢
    refine (bounds_somer b o m cap f _ m0 m1 S2).mono ?_
    rintro e w3 ⟨rfl, hb3⟩
    obtain ⟨HB3, Y1, Y2⟩ := two_boxes w3 (lo f m).x (lo f m).y (lo f m).z (hi f m).x (hi f m).y (hi f m).z
    have A := (X1.next hb3).next HB3
    have B := (X2.next hb3).next HB3
    have HV := below_next (below_next HW hb3) HB3
    have S3 := (S2.next hb3).next HB3
    have a0 := A.c0
    have a1 := A.c1
    have a2 := A.c2
    have b0 := B.c0
    have b1 := B.c1
    have b2 := B.c2
    have y0 := Y1.c0
    have y1 := Y1.c1
    have y2 := Y1.c2
    have z0 := Y2.c0
    have z1 := Y2.c1
    have z2 := Y2.c2
    have hm : decide ((0 : Int) < m) = true := by simp; omega
    go_wp2_with fail
    clear a0 a1 a2 b0 b1 b2 y0 y1 y2 z0 z1 z2 Y1 Y2 HB3 S2 X1 X2 HW hb3
    generalize (w3.alloc _).alloc _ = w4 at A B HV S3 ⊢
    go_loopw [50] (fun i wk => ∃ k : Nat, k ≤ m ∧ i = .int .i64 k ∧ At p (lo f m).x (lo f m).y (lo f m).z wk ∧ At q (hi f m).x (hi f m).y (hi f m).z wk ∧ Below w4.heap.size w4 wk) (fun i _ => m - (intOf i).toNat)
    case atStart => exact ⟨0, by omega, rfl, A, B, Below.refl _ _⟩
    case round =>
      obtain ⟨k, hk, rfl, A2, B2, hV⟩ := hrel
      by_cases hlt : k < m
      · obtain ⟨s0, s1, s2⟩ := (S3.next hV).hc k hlt
        obtain ⟨l1, l2, l3⟩ := lo_le f m hlt
        obtain ⟨h1, h2, h3⟩ := hi_ge f m hlt
        have t1 : decide ((f k).x < (lo f m).x) = false := by simpa using l1
        have t2 : decide ((f k).y < (lo f m).y) = false := by simpa using l2
        have t3 : decide ((f k).z < (lo f m).z) = false := by simpa using l3
        have t4 : decide ((hi f m).x < (f k).x) = false := by simpa using h1
        have t5 : decide ((hi f m).y < (f k).y) = false := by simpa using h2
        have t6 : decide ((hi f m).z < (f k).z) = false := by simpa using h3
        have A3 := A2.next (below_alloc wr (.cells #[.int .i64 (f k).x, .int .i64 (f k).y, .int .i64 (f k).z] 23))
        have B3 := B2.next (below_alloc wr (.cells #[.int .i64 (f k).x, .int .i64 (f k).y, .int .i64 (f k).z] 23))
        have hV3 := below_next hV (below_alloc wr (.cells #[.int .i64 (f k).x, .int .i64 (f k).y, .int .i64 (f k).z] 23))
        have a0 := A3.c0
        have a1 := A3.c1
        have a2 := A3.c2
        have b0 := B3.c0
        have b1 := B3.c1
        have b2 := B3.c2
        clear l1 l2 l3 h1 h2 h3
        go_wp2
        go_roundw
        case rel =>
          first
            | exact ⟨k + 1, by omega, by go_num, A3, B3, hV3⟩
            | (repeat apply Exists.intro
               exact ⟨⟨k + 1, by omega, by go_num, A3, B3, hV3⟩, rfl⟩)
        case measure => simp [intOf]; omega
      · obtain rfl : k = m := by omega
        go_wp2_with fail
        refine (awake_any _).mono ?_
        rintro e w5 ⟨rfl, hb5⟩
        go_wp2_with fail
        go_ret
        exact ⟨rfl, below_next (below_next HV hV) hb5⟩

set_option maxRecDepth 1000000 in
set_option maxHeartbeats 2000000 in
theorem vecBounds_nil (a : Option Addr) (cap : Nat) (w : World) :
    Calls Try.prog 7 #[.slice a 0 cap] w fun e w' => e = .returned (.bool true) ∧ Below w.heap.size w w' := by
  go_enter Try.func7, Try.ntmps7
  go_wp2_with fail
  refine (bounds_nil a cap _).mono ?_
  rintro e w1 ⟨rfl, hb1⟩
  go_wp2_with fail
  obtain ⟨HB1, X1, X2⟩ := two_boxes w1 0 0 0 0 0 0
  have HW := below_next hb1 HB1
  clear HB1 hb1
  generalize (w1.alloc _).alloc _ = w2 at X1 X2 HW ⊢
  generalize w1.heap.size + 1 = q at X2 ⊢
  generalize w1.heap.size = p at X1 ⊢
  refine (bounds_nilr a cap _).mono ?_
  rintro e w3 ⟨rfl, hb3⟩
  obtain ⟨HB3, Y1, Y2⟩ := two_boxes w3 0 0 0 0 0 0
  have A := (X1.next hb3).next HB3
  have B := (X2.next hb3).next HB3
  have HV := below_next (below_next HW hb3) HB3
  have a0 := A.c0
  have a1 := A.c1
  have a2 := A.c2
  have b0 := B.c0
  have b1 := B.c1
  have b2 := B.c2
  have y0 := Y1.c0
  have y1 := Y1.c1
  have y2 := Y1.c2
  have z0 := Y2.c0
  have z1 := Y2.c1
  have z2 := Y2.c2
  go_wp2_with fail
  clear a0 a1 a2 b0 b1 b2 y0 y1 y2 z0 z1 z2 Y1 Y2 HB3 X1 X2 HW hb3
  generalize (w3.alloc _).alloc _ = w4 at A B HV ⊢
  go_loopw [50] (fun i wk => i = .int .i64 0 ∧ wk = w4) (fun _ _ => 0)
  case atStart => exact ⟨rfl, rfl⟩
  case round =>
    obtain ⟨rfl, rfl⟩ := hrel
    go_wp2_with fail
    refine (awake_any _).mono ?_
    rintro e w5 ⟨rfl, hb5⟩
    go_wp2_with fail
    go_ret
    exact ⟨rfl, below_next HV hb5⟩
theorem vecBounds_walk (v : Value) (w : World) (h : (∃ (a : Option Addr) (cap : Nat), v = .slice a 0 cap) ∨ ∃ (b o n cap : Nat) (f : Nat → V), 0 < n ∧ n ≤ cap ∧ v = .slice (some ⟨b, o, none⟩) n cap ∧ Sl b o n f w) :
    Calls Try.prog 7 #[v] w fun e w' => e = .returned (.bool true) ∧ Below w.heap.size w w' := by
  rcases h with ⟨a, cap, rfl⟩ | ⟨b, o, n, cap, f, h0, h1, rfl, S⟩
  · exact vecBounds_nil a cap w
  · exact vecBounds_some b o n cap f w h0 h1 S
end Go.Proofs.Ythhlofcponekhaa
