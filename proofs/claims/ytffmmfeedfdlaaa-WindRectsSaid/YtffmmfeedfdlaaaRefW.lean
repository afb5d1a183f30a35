/- The contract of the reference's Winding. -/
import Derived.Test.YtffmmfeedfdlaaaLists
namespace Go.Proofs.Ytffmmfeedfdlaaa
open Go.ChangeShapes Go.WideShapes Go.ChangeAt Go.RowKit
set_option linter.unusedVariables false

theorem crosses_is (a b p : P) (w : World) (v : Int) (hv : cr a b p = v) : Calls Try.prog 22 #[.agg #[.int .i64 a.x, .int .i64 a.y], .agg #[.int .i64 b.x, .int .i64 b.y], .agg #[.int .i64 p.x, .int .i64 p.y]] w fun e w' => e = .returned (.int .i64 v) ∧ Below w.heap.size w w' := hv ▸ crosses_any a b p w

set_option maxRecDepth 100000 in
set_option maxHeartbeats 2000000 in
theorem windr_ok (a : Option Addr) (N c : Nat) (L : Nat → Pg) (p : P) (w : World) (S : Ll a N L w) (hN : N ≤ 1000) (hT : tot L N ≤ 4000) (hp : p.Ok) :
    Calls Try.prog 11 #[.slice a N c, .agg #[.int .i64 p.x, .int .i64 p.y]] w fun e w' => e = .returned (.int .i64 (wl L p N)) ∧ Below w.heap.size w w' := by
  have HP := Lib.hid hp
  clear hp
  go_enter Try.func11, Try.ntmps11
  go_wp2_with fail
  refine (valid_isr (decide_eq_true HP.out) _).mono ?_
  rintro e wz ⟨rfl, hb⟩
  have A := (At.new w p.x p.y).next hb
  have HB := below_next (below_alloc w (.cells #[.int .i64 p.x, .int .i64 p.y] 24)) hb
  have S1 := S.next HB
  clear hb S
  go_wp2_with fail
  go_loopw [5, 14] (fun s i wk => ∃ j : Nat, j ≤ N ∧ i = .int .i64 j ∧ s = .int .i64 (wl L p j) ∧ Below wz.heap.size wz wk) (fun _ i _ => N - (intOf i).toNat)
  case atStart => exact ⟨0, by omega, rfl, rfl, Below.refl _ _⟩
  case round =>
    obtain ⟨j, hj, rfl, rfl, hW⟩ := hrel
    by_cases hlt : j < N
    · rcases S1.next hW with h0 | ⟨b, o, rfl, X⟩
      · omega
      · obtain ⟨x0, X1⟩ := X.hc j hlt
        have ht := tot_one L hlt
        have k1 := wl_in L p j
        have B := Bx.new wr (.slice (L j).a (L j).n (L j).c) 33
        have HB2 := below_alloc wr (.cells #[.slice (L j).a (L j).n (L j).c] 33)
        have X2 := X1.next HB2
        have A2 := (A.next hW).next HB2
        have HW := below_next hW HB2
        go_wp2_with fail
        clear x0 X X1 HB2 hW
        generalize hwo : wr.alloc (.cells #[.slice (L j).a (L j).n (L j).c] 33) = wo at B X2 A2 HW ⊢
        generalize wr.heap.size = Q at B ⊢
        clear hwo
        go_loopw [5, 21] (fun s i wk => ∃ m : Nat, m ≤ (L j).n ∧ i = .int .i64 m ∧ s = .int .i64 (wl L p j + wp1 (L j) p m) ∧ Below wo.heap.size wo wk) (fun _ i _ => (L j).n - (intOf i).toNat)
        case atStart => exact ⟨0, by omega, rfl, by simp [wp1], Below.refl _ _⟩
        case round =>
          obtain ⟨m, hm, rfl, rfl, hV⟩ := hrel
          by_cases hlm : m < (L j).n
          · rcases X2.next hV with h0 | ⟨b2, o2, ea, Y⟩
            · omega
            · obtain ⟨y0, y1⟩ := Y.hc m hlm
              obtain ⟨q, hq⟩ : ∃ q, (m + 1) % (L j).n = q := ⟨_, rfl⟩
              have hqn : q < (L j).n := by rw [← hq]; exact Nat.mod_lt _ (by omega)
              have hqi : ((m : Int) + 1) % (L j).n = q := by rw [← hq]; simp
              obtain ⟨z0, z1⟩ := Y.hc q hqn
              have B3 := B.next hV
              have A3 := A2.next hV
              have a0 := A3.c0
              have a1 := A3.c1
              have bb := B3.c0
              rw [ea] at bb
              have n4 : (L j).n ≤ 4000 := by omega
              have m0 : (0 : Int) ≤ m := by omega
              have m1 : (m : Int) < (L j).n := by omega
              have q0 : (0 : Int) ≤ q := by omega
              have q1 : (q : Int) < (L j).n := by omega
              have wm : IntKind.i64.wrap ((m : Int) + 1) = m + 1 := IntWalk.i64_in _ (by omega)
              have hmt : ((m : Int) + 1).tmod (L j).n = q := by rw [Int.tmod_eq_emod_of_nonneg (by omega)]; exact hqi
              have nz : ¬ (L j).n = 0 := by omega
              obtain ⟨v, hv⟩ : ∃ v, cr ((L j).f m) ((L j).f q) p = v := ⟨_, rfl⟩
              have k2 := wp1_in (L j) p m
              have k3 := cr_in ((L j).f m) ((L j).f q) p
              rw [hv] at k3
              have e1 : wp1 (L j) p (m + 1) = wp1 (L j) p m + v := by rw [← hv, ← hq]; rfl
              have ws : IntKind.i64.wrap (wl L p j + wp1 (L j) p m + v) = wl L p j + wp1 (L j) p m + v := IntWalk.i64_in _ (by omega)
              have HV := Lib.hid hv
              have E1 := Lib.hid e1
              have EA := Lib.hid ea
              clear hv e1 hq ea
              go_wp2_with fail
              have MK : Hid (∀ w', Below wr.heap.size wr w' → Below wr.heap.size wr w' ∧ w'.cell? ⟨w.heap.size, 0, none⟩ = some (.int .i64 p.x) ∧ w'.cell? ⟨w.heap.size, 1, none⟩ = some (.int .i64 p.y) ∧ w'.cell? ⟨Q, 0, none⟩ = some (.slice (some ⟨b2, o2, none⟩) (L j).n (L j).c)
                  ∧ w'.cell? ⟨b2, o2 + m * 2, none⟩ = some (.int .i64 ((L j).f m).x) ∧ w'.cell? ⟨b2, o2 + m * 2 + 1, none⟩ = some (.int .i64 ((L j).f m).y) ∧ w'.cell? ⟨b2, o2 + q * 2, none⟩ = some (.int .i64 ((L j).f q).x) ∧ w'.cell? ⟨b2, o2 + q * 2 + 1, none⟩ = some (.int .i64 ((L j).f q).y)) := fun w' h =>
                ⟨h, (A3.next h).c0, (A3.next h).c1, by rw [← EA.out]; exact (B3.next h).c0, ((Y.next h).hc m hlm).1, ((Y.next h).hc m hlm).2, ((Y.next h).hc q hqn).1, ((Y.next h).hc q hqn).2⟩
              go_region_held3 (fun w' => Below wr.heap.size wr w' ∧ w'.cell? ⟨w.heap.size, 0, none⟩ = some (.int .i64 p.x) ∧ w'.cell? ⟨w.heap.size, 1, none⟩ = some (.int .i64 p.y) ∧ w'.cell? ⟨Q, 0, none⟩ = some (.slice (some ⟨b2, o2, none⟩) (L j).n (L j).c)
                  ∧ w'.cell? ⟨b2, o2 + m * 2, none⟩ = some (.int .i64 ((L j).f m).x) ∧ w'.cell? ⟨b2, o2 + m * 2 + 1, none⟩ = some (.int .i64 ((L j).f m).y) ∧ w'.cell? ⟨b2, o2 + q * 2, none⟩ = some (.int .i64 ((L j).f q).x) ∧ w'.cell? ⟨b2, o2 + q * 2 + 1, none⟩ = some (.int .i64 ((L j).f q).y))
                (first | exact MK.out _ (Below.refl _ _).drew | exact MK.out _ (below_next (by go_split_ands; assumption) hb))
                ((go_at_call 22; with_reducible refine (crosses_is ((L j).f m) ((L j).f q) p _ v HV.out).mono ?_; rintro e wt ⟨rfl, hb⟩))
              have HZ : Below wo.heap.size wo _ := below_next hV (by go_split_ands; assumption)
              clear MK
              go_wp2_with fail
              go_roundw
              case rel => exact ⟨m + 1, by omega, by go_num, by rw [E1.out, Int.add_assoc], HZ⟩
              case measure => simp [intOf]; omega
          · obtain rfl : m = (L j).n := by omega
            go_wp2_with fail
            go_roundw
            case rel => exact ⟨j + 1, by omega, by go_num, rfl, below_next HW hV⟩
            case measure => simp [intOf]; omega
    · obtain rfl : j = N := by omega
      go_wp2_with fail
      go_ret
      exact ⟨rfl, below_next HB hW⟩
theorem windr_no (a : Option Addr) (N c : Nat) (p : P) (w : World) (hp : ¬ p.Ok) :
    Calls Try.prog 11 #[.slice a N c, .agg #[.int .i64 p.x, .int .i64 p.y]] w fun e w' => e = .returned (.int .i64 0) ∧ Below w.heap.size w w' := by
  have HP := Lib.hid hp
  clear hp
  go_enter Try.func11, Try.ntmps11
  go_wp2_with fail
  refine (valid_isr (decide_eq_false HP.out) _).mono ?_
  rintro e wz ⟨rfl, hb⟩
  go_wp2_with fail
  go_ret
  exact ⟨rfl, below_next (below_alloc _ _) hb⟩
theorem windr_is (a : Option Addr) (N c : Nat) (L : Nat → Pg) (p : P) (w : World) (S : Ll a N L w) (hN : N ≤ 1000) (hT : tot L N ≤ 4000) (v : Int) (hv : wind N L p = v) :
    Calls Try.prog 11 #[.slice a N c, .agg #[.int .i64 p.x, .int .i64 p.y]] w fun e w' => e = .returned (.int .i64 v) ∧ Below w.heap.size w w' := by
  by_cases hp : p.Ok
  · rw [show v = wl L p N by rw [← hv]; exact if_pos hp]
    exact windr_ok a N c L p w S hN hT hp
  · rw [show v = 0 by rw [← hv]; exact if_neg hp]
    exact windr_no a N c p w hp
end Go.Proofs.Ytffmmfeedfdlaaa
