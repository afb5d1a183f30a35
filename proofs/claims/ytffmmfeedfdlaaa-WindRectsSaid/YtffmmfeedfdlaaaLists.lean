/- The contracts of points, heavy, Area2 of polygons, crosses, the reference's Winding. Printed by lists.py. -/
import Derived.Test.YtffmmfeedfdlaaaArea
namespace Go.Proofs.Ytffmmfeedfdlaaa
open Go.ChangeShapes Go.WideShapes Go.ChangeAt Go.RowKit
set_option linter.unusedVariables false

/-- The sum of the areas. -/
def pal (L : Nat → Pg) : Nat → Int
  | 0 => 0
  | i + 1 => pal L i + parea (L i)
theorem pal_in (L : Nat → Pg) : ∀ i : Nat, -(562949953421312 * (tot L i : Int)) ≤ pal L i ∧ pal L i ≤ 562949953421312 * (tot L i : Int)
  | 0 => by simp [pal, tot]
  | i + 1 => by
    have h := pal_in L i
    have k := parea_in (L i)
    simp only [pal, tot]
    omega
set_option maxRecDepth 100000 in
theorem points_any (a : Option Addr) (N c : Nat) (L : Nat → Pg) (w : World) (S : Ll a N L w) (hN : N ≤ 1000) (hT : tot L N ≤ 4611686018427387904) :
    Calls Try.prog 16 #[.slice a N c] w fun e w' => e = .returned (.int .i64 (tot L N)) ∧ Below w.heap.size w w' := by
  have hT' : (tot L N : Int) ≤ 4611686018427387904 := by omega
  clear hT
  go_enter Try.func16, Try.ntmps16
  go_wp2_with fail
  go_loopw [3, 8] (fun s i wk => ∃ j : Nat, j ≤ N ∧ i = .int .i64 j ∧ s = .int .i64 (tot L j) ∧ Below w.heap.size w wk) (fun _ i _ => N - (intOf i).toNat)
  case atStart => exact ⟨0, by omega, rfl, rfl, Below.refl _ _⟩
  case round =>
    obtain ⟨j, hj, rfl, rfl, hW⟩ := hrel
    by_cases hlt : j < N
    · rcases S.next hW with h0 | ⟨b, o, rfl, X⟩
      · omega
      · have x0 := (X.hc j hlt).1
        have ht : (tot L j : Int) + (L j).n ≤ tot L N := by have := tot_one L hlt; omega
        go_wp2_with fail
        go_roundw
        case rel => exact ⟨j + 1, by omega, by go_num, by simp [tot], hW.trans ((below_alloc _ _).mono hW.size)⟩
        case measure => simp [intOf]; omega
    · obtain rfl : j = N := by omega
      go_wp2_with fail
      go_ret
      exact ⟨rfl, hW⟩
theorem heavy_len (a : Option Addr) (N c : Nat) (w : World) (h : 100 < N) :
    Calls Try.prog 8 #[.slice a N c] w fun e w' => e = .returned (.bool true) ∧ Below w.heap.size w w' := by
  have d1 : decide ((100 : Int) < (N : Int)) = true := by simp; omega
  go_enter Try.func8, Try.ntmps8
  go_wp2_with fail
  go_ret
  exact ⟨rfl, Below.refl _ _⟩
theorem heavy_tot (a : Option Addr) (N c : Nat) (L : Nat → Pg) (w : World) (S : Ll a N L w) (h : N ≤ 100) (hT : tot L N ≤ 4611686018427387904) (r : Bool) (hr : decide (400 < tot L N) = r) :
    Calls Try.prog 8 #[.slice a N c] w fun e w' => e = .returned (.bool r) ∧ Below w.heap.size w w' := by
  have d1 : decide ((100 : Int) < (N : Int)) = false := by simp; omega
  have d2 : decide ((400 : Int) < (tot L N : Int)) = r := by rw [← hr]; exact decide_eq_decide.2 (by omega)
  have D2 := Lib.hid d2
  have D3 := Lib.hid hr
  clear hr d2
  go_enter Try.func8, Try.ntmps8
  go_wp2_with fail
  refine (points_any a N c L _ S (by omega) hT).mono ?_
  rintro e w1 ⟨rfl, hb⟩
  have d2 := D2.out
  cases r with
  | false =>
    go_wp2_with fail
    go_ret
    exact ⟨rfl, hb⟩
  | true =>
    go_wp2_with fail
    go_ret
    exact ⟨rfl, hb⟩
set_option maxRecDepth 100000 in
set_option maxHeartbeats 1000000 in
theorem areas_any (a : Option Addr) (N c : Nat) (L : Nat → Pg) (w : World) (S : Ll a N L w) (hN : N ≤ 1000) (hT : tot L N ≤ 4000) :
    Calls Try.prog 13 #[.slice a N c] w fun e w' => e = .returned (.int .i64 (pal L N)) ∧ Below w.heap.size w w' := by
  go_enter Try.func13, Try.ntmps13
  go_wp2_with fail
  go_loopw [3, 4, 9] (fun p s i wk => ∃ j : Nat, j ≤ N ∧ i = .int .i64 j ∧ p = .int .i64 (tot L j) ∧ s = .int .i64 (pal L j) ∧ Below w.heap.size w wk) (fun _ _ i _ => N - (intOf i).toNat)
  case atStart => exact ⟨0, by omega, rfl, rfl, rfl, Below.refl _ _⟩
  case round =>
    obtain ⟨j, hj, rfl, rfl, rfl, hW⟩ := hrel
    by_cases hlt : j < N
    · rcases S.next hW with h0 | ⟨b, o, rfl, X⟩
      · omega
      · obtain ⟨x0, X1⟩ := X.hc j hlt
        have ht := tot_one L hlt
        have k1 := pal_in L j
        have k2 := pal_in L (j + 1)
        have t1 : (tot L j : Int) + (L j).n ≤ 4000 := by omega
        have d1 : decide ((8192 : Int) < (tot L j : Int) + (L j).n) = false := by simp; omega
        have hn : (L j).n ≤ 8192 := by omega
        have B := Bx.new wr (.slice (L j).a (L j).n (L j).c) 33
        have HB := below_alloc wr (.cells #[.slice (L j).a (L j).n (L j).c] 33)
        have X2 := X1.next HB
        obtain ⟨v, hv⟩ : ∃ v, parea (L j) = v := ⟨_, rfl⟩
        have e1 : pal L (j + 1) = pal L j + v := by rw [← hv]; rfl
        have e2 : (tot L (j + 1) : Int) = tot L j + (L j).n := by simp [tot]
        rw [e1, e2] at k2
        have HV := Lib.hid hv
        have E1 := Lib.hid e1
        clear hv e1 e2
        go_wp2_with fail
        refine (area_is (L j) _ X2 hn v HV.out).mono ?_
        rintro e wv ⟨rfl, hb⟩
        have HW := hW.trans ((below_next HB hb).mono hW.size)
        clear hb X2 HB B
        go_wp2_with fail
        go_roundw
        case rel => exact ⟨j + 1, by omega, by go_num, by simp [tot], by rw [E1.out], HW⟩
        case measure => simp [intOf]; omega
    · obtain rfl : j = N := by omega
      go_wp2_with fail
      go_ret
      exact ⟨rfl, hW⟩
set_option maxRecDepth 100000 in
set_option maxHeartbeats 1000000 in
theorem areas_anyr (a : Option Addr) (N c : Nat) (L : Nat → Pg) (w : World) (S : Ll a N L w) (hN : N ≤ 1000) (hT : tot L N ≤ 4000) :
    Calls Try.prog 14 #[.slice a N c] w fun e w' => e = .returned (.int .i64 (pal L N)) ∧ Below w.heap.size w w' := by
  go_enter Try.func14, Try.ntmps14
  go_wp2_with fail
  go_loopw [3, 4, 9] (fun p s i wk => ∃ j : Nat, j ≤ N ∧ i = .int .i64 j ∧ p = .int .i64 (tot L j) ∧ s = .int .i64 (pal L j) ∧ Below w.heap.size w wk) (fun _ _ i _ => N - (intOf i).toNat)
  case atStart => exact ⟨0, by omega, rfl, rfl, rfl, Below.refl _ _⟩
  case round =>
    obtain ⟨j, hj, rfl, rfl, rfl, hW⟩ := hrel
    by_cases hlt : j < N
    · rcases S.next hW with h0 | ⟨b, o, rfl, X⟩
      · omega
      · obtain ⟨x0, X1⟩ := X.hc j hlt
        have ht := tot_one L hlt
        have k1 := pal_in L j
        have k2 := pal_in L (j + 1)
        have t1 : (tot L j : Int) + (L j).n ≤ 4000 := by omega
        have d1 : decide ((8192 : Int) < (tot L j : Int) + (L j).n) = false := by simp; omega
        have hn : (L j).n ≤ 8192 := by omega
        have B := Bx.new wr (.slice (L j).a (L j).n (L j).c) 33
        have HB := below_alloc wr (.cells #[.slice (L j).a (L j).n (L j).c] 33)
        have X2 := X1.next HB
        obtain ⟨v, hv⟩ : ∃ v, parea (L j) = v := ⟨_, rfl⟩
        have e1 : pal L (j + 1) = pal L j + v := by rw [← hv]; rfl
        have e2 : (tot L (j + 1) : Int) = tot L j + (L j).n := by simp [tot]
        rw [e1, e2] at k2
        have HV := Lib.hid hv
        have E1 := Lib.hid e1
        clear hv e1 e2
        go_wp2_with fail
        refine (area_isr (L j) _ X2 hn v HV.out).mono ?_
        rintro e wv ⟨rfl, hb⟩
        have HW := hW.trans ((below_next HB hb).mono hW.size)
        clear hb X2 HB B
        go_wp2_with fail
        go_roundw
        case rel => exact ⟨j + 1, by omega, by go_num, by simp [tot], by rw [E1.out], HW⟩
        case measure => simp [intOf]; omega
    · obtain rfl : j = N := by omega
      go_wp2_with fail
      go_ret
      exact ⟨rfl, hW⟩

set_option maxRecDepth 100000 in
set_option maxHeartbeats 1000000 in
theorem crosses_any (a b p : P) (w : World) : Calls Try.prog 22 #[.agg #[.int .i64 a.x, .int .i64 a.y], .agg #[.int .i64 b.x, .int .i64 b.y], .agg #[.int .i64 p.x, .int .i64 p.y]] w fun e w' => e = .returned (.int .i64 (cr a b p)) ∧ Below w.heap.size w w' := by
  by_cases h1 : a.Ok
  · by_cases h2 : b.Ok
    · obtain ⟨v, hv⟩ : ∃ v, cr a b p = v := ⟨_, rfl⟩
      obtain ⟨t, ht⟩ : ∃ t, pturn a b p = t := ⟨_, rfl⟩
      have hc : v = if (a.y ≤ p.y ∧ p.y < b.y) ∧ 0 < t then 1 else if (b.y ≤ p.y ∧ p.y < a.y) ∧ t < 0 then -1 else 0 := by rw [← hv, ← ht]; exact if_pos ⟨h1, h2⟩
      rw [hv]
      have HC := Lib.hid hc
      have HT := Lib.hid ht
      have H1 := Lib.hid h1
      have H2 := Lib.hid h2
      clear h1 h2 hv ht hc
      go_enter Try.func22, Try.ntmps22
      go_wp2_with fail
      refine (valid_isr (decide_eq_true H1.out) _).mono ?_
      rintro e w1 ⟨rfl, hb1⟩
      have F1 := (B3.new w a b p).next hb1
      have c0 := F1.b.c0
      have c1 := F1.b.c1
      go_wp2_with fail
      refine (valid_isr (decide_eq_true H2.out) _).mono ?_
      rintro e w2 ⟨rfl, hb2⟩
      have F2 := F1.next hb2
      clear c0 c1 F1 hb1 hb2
      have a0 := F2.a.c0
      have a1 := F2.a.c1
      have b0 := F2.b.c0
      have b1 := F2.b.c1
      have p0 := F2.c.c0
      have p1 := F2.c.c1
      by_cases hA : a.y ≤ p.y ∧ p.y < b.y
      · obtain ⟨x1, x2⟩ := hA
        have x3 : ¬ b.y ≤ p.y := by omega
        go_wp2_with fail
        refine (turn_isr a b p _ t HT.out).mono ?_
        rintro e w3 ⟨rfl, hb3⟩
        have F3 := F2.next hb3
        clear a0 a1 b0 b1 p0 p1
        have a0 := F3.a.c1
        have b0 := F3.b.c1
        have p0 := F3.c.c1
        by_cases hp : 0 < t
        · go_wp2_with fail
          go_ret
          exact ⟨ret_int (by rw [HC.out, if_pos ⟨⟨x1, x2⟩, hp⟩]), F3.hB⟩
        · go_wp2_with fail
          go_ret
          exact ⟨ret_int (by rw [HC.out, if_neg (by omega), if_neg (by omega)]), F3.hB⟩
      · by_cases hB : b.y ≤ p.y ∧ p.y < a.y
        · obtain ⟨x1, x2⟩ := hB
          have x3 : ¬ a.y ≤ p.y := by omega
          go_wp2_with fail
          refine (turn_isr a b p _ t HT.out).mono ?_
          rintro e w3 ⟨rfl, hb3⟩
          have F3 := F2.next hb3
          by_cases hp : t < 0
          · go_wp2_with fail
            go_ret
            exact ⟨ret_int (by rw [HC.out, if_neg (fun k => hA k.1), if_pos ⟨⟨x1, x2⟩, hp⟩]), F3.hB⟩
          · go_wp2_with fail
            go_ret
            exact ⟨ret_int (by rw [HC.out, if_neg (fun k => hA k.1), if_neg (by omega)]), F3.hB⟩
        · have hv : v = 0 := by rw [HC.out, if_neg (fun k => hA k.1), if_neg (fun k => hB k.1)]
          have HV := Lib.hid hv
          clear hv
          go_wp2
          all_goals go_ret
          all_goals first
            | exact ⟨ret_int (by rw [HV.out]), F2.hB⟩
            | (exfalso; omega)
    · rw [show cr a b p = 0 from if_neg fun k => h2 k.2]
      have H1 := Lib.hid h1
      have H2 := Lib.hid h2
      clear h1 h2
      go_enter Try.func22, Try.ntmps22
      go_wp2_with fail
      refine (valid_isr (decide_eq_true H1.out) _).mono ?_
      rintro e w1 ⟨rfl, hb1⟩
      have F1 := (B3.new w a b p).next hb1
      have c0 := F1.b.c0
      have c1 := F1.b.c1
      go_wp2_with fail
      refine (valid_isr (decide_eq_false H2.out) _).mono ?_
      rintro e w2 ⟨rfl, hb2⟩
      have F2 := F1.next hb2
      go_wp2_with fail
      go_ret
      exact ⟨rfl, F2.hB⟩
  · rw [show cr a b p = 0 from if_neg fun k => h1 k.1]
    have H1 := Lib.hid h1
    clear h1
    go_enter Try.func22, Try.ntmps22
    go_wp2_with fail
    refine (valid_isr (decide_eq_false H1.out) _).mono ?_
    rintro e w1 ⟨rfl, hb1⟩
    have F1 := (B3.new w a b p).next hb1
    go_wp2_with fail
    go_ret
    exact ⟨rfl, F1.hB⟩
end Go.Proofs.Ytffmmfeedfdlaaa
