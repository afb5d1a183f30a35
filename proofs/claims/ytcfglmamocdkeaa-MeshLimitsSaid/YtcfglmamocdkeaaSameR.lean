/- The contract of the reference's Same. -/
import Derived.Test.YtcfglmamocdkeaaSame
namespace Go.Proofs.Ytcfglmamocdkeaa
open Go.ChangeShapes Go.WideShapes Go.ChangeAt Go.RowKit

set_option maxRecDepth 100000 in
set_option maxHeartbeats 2000000 in
theorem same_auxr (a b a' b' : Option Addr) (n k n' k' c1 c2 c3 c4 : Nat) (f g f' g' : Nat → V) (w : World) (SA : Sx a n f w) (SB : Sx b k g w) (SA' : Sx a' n' f' w) (SB' : Sx b' k' g' w) (hN : n ≤ 100000) (hK : k ≤ 100000) (r : Bool) (hr : r = psame n k n' k' f g f' g') :
    Calls Try.prog 15 #[.agg #[.slice a n c1, .slice b k c2], .agg #[.slice a' n' c3, .slice b' k' c4]] w fun e w' => e = .returned (.bool r) ∧ Below w.heap.size w w' := by
  by_cases hn : n = n'
  · subst hn
    by_cases hk : k = k'
    · subst hk
      have HR := Lib.hid hr
      clear hr
      go_enter Try.func15, Try.ntmps15
      go_wp2_with fail
      have M1 := (Mb.new w (.slice a n c1) (.slice b k c2)).next (below_alloc _ (.cells #[.slice a' n c3, .slice b' k c4] 25))
      have M2 := Mb.new (w.alloc (.cells #[.slice a n c1, .slice b k c2] 25)) (.slice a' n c3) (.slice b' k c4)
      have HB := below_next (below_alloc w (.cells #[.slice a n c1, .slice b k c2] 25)) (below_alloc _ (.cells #[.slice a' n c3, .slice b' k c4] 25))
      rw [World.size_alloc] at M2
      have SA1 := SA.next HB
      have SB1 := SB.next HB
      have SA2 := SA'.next HB
      have SB2 := SB'.next HB
      generalize (w.alloc _).alloc _ = wz at M1 M2 HB SA1 SB1 SA2 SB2 ⊢
      go_loopw [26] (fun i wk => ∃ j : Nat, j ≤ n ∧ i = .int .i64 j ∧ (∀ l, l < j → EqV (f l) (f' l)) ∧ Below wz.heap.size wz wk) (fun i _ => n - (intOf i).toNat)
      case atStart => exact ⟨0, by omega, rfl, fun l hl => absurd hl (by omega), Below.refl _ _⟩
      case round =>
        obtain ⟨j, hj, rfl, hall, hW⟩ := hrel
        have HALL := Lib.hid hall
        clear hall
        have m0 := (M1.next hW).c0
        have m1 := (M2.next hW).c0
        by_cases hlt : j < n
        · rcases SA1.next hW with h0 | ⟨b0, o0, rfl, S⟩
          · omega
          · rcases SA2.next hW with h0 | ⟨b1, o1, rfl, S'⟩
            · omega
            · obtain ⟨s0, s1, s2⟩ := S.hc j hlt
              obtain ⟨t0, t1, t2⟩ := S'.hc j hlt
              by_cases hv : EqV (f j) (f' j)
              · have HV := Lib.hid hv
                obtain ⟨e0, e1, e2⟩ := hv
                go_wp2_with fail
                go_region
                all_goals go_wp2
                all_goals go_roundw
                case rel =>
                  refine ⟨j + 1, by omega, by go_num, fun l hl => ?_, hW.drew⟩
                  rcases Nat.lt_or_ge l j with h' | h'
                  · exact HALL.out l h'
                  · obtain rfl : l = j := by omega
                    exact HV.out
                case measure => simp [intOf]; omega
              · have e : r = false := by rw [HR.out]; refine decide_eq_false fun h => hv (h.2.2.1 j hlt)
                have HE := Lib.hid e
                clear e
                by_cases e0 : (f j).x = (f' j).x
                · by_cases e1 : (f j).y = (f' j).y
                  · by_cases e2 : (f j).z = (f' j).z
                    · exact absurd ⟨e0, e1, e2⟩ hv
                    · go_wp2_with fail
                      go_region
                      all_goals go_wp2
                      all_goals go_ret
                      all_goals exact ⟨by rw [HE.out]; rfl, (below_next HB hW).drew⟩
                  · go_wp2_with fail
                    go_region
                    all_goals go_wp2
                    all_goals go_ret
                    all_goals exact ⟨by rw [HE.out]; rfl, (below_next HB hW).drew⟩
                · go_wp2_with fail
                  go_region
                  all_goals go_wp2
                  all_goals go_ret
                  all_goals exact ⟨by rw [HE.out]; rfl, (below_next HB hW).drew⟩
        · obtain rfl : j = n := by omega
          clear m0 m1
          have N1 := M1.next hW
          have N2 := M2.next hW
          have HF := HALL
          have HB2 := below_next HB hW
          have SB3 := SB1.next hW
          have SB4 := SB2.next hW
          have m0 := N1.c0
          have m1 := N1.c1
          have m2 := N2.c1
          clear HALL hW
          go_wp2_with fail
          clear m0 m1 m2
          go_loopw [44] (fun i wk => ∃ l : Nat, l ≤ k ∧ i = .int .i64 l ∧ (∀ t, t < l → EqV (g t) (g' t)) ∧ Below wr.heap.size wr wk) (fun i _ => k - (intOf i).toNat)
          case atStart => exact ⟨0, by omega, rfl, fun l hl => absurd hl (by omega), Below.refl _ _⟩
          case round =>
            obtain ⟨j2, hj2, rfl, hall, hW⟩ := hrel
            have HALL := Lib.hid hall
            clear hall
            have m0 := (N1.next hW).c1
            have m1 := (N2.next hW).c1
            by_cases hlt2 : j2 < k
            · rcases SB3.next hW with h0 | ⟨b0, o0, rfl, S⟩
              · omega
              · rcases SB4.next hW with h0 | ⟨b1, o1, rfl, S'⟩
                · omega
                · obtain ⟨s0, s1, s2⟩ := S.hc j2 hlt2
                  obtain ⟨t0, t1, t2⟩ := S'.hc j2 hlt2
                  by_cases hv : EqV (g j2) (g' j2)
                  · have HV := Lib.hid hv
                    obtain ⟨e0, e1, e2⟩ := hv
                    go_wp2_with fail
                    go_region
                    all_goals go_wp2
                    all_goals go_roundw
                    case rel =>
                      refine ⟨j2 + 1, by omega, by go_num, fun l hl => ?_, hW.drew⟩
                      rcases Nat.lt_or_ge l j2 with h' | h'
                      · exact HALL.out l h'
                      · obtain rfl : l = j2 := by omega
                        exact HV.out
                    case measure => simp [intOf]; omega
                  · have e : r = false := by rw [HR.out]; refine decide_eq_false fun h => hv (h.2.2.2 j2 hlt2)
                    have HE := Lib.hid e
                    clear e
                    by_cases e0 : (g j2).x = (g' j2).x
                    · by_cases e1 : (g j2).y = (g' j2).y
                      · by_cases e2 : (g j2).z = (g' j2).z
                        · exact absurd ⟨e0, e1, e2⟩ hv
                        · go_wp2_with fail
                          go_region
                          all_goals go_wp2
                          all_goals go_ret
                          all_goals exact ⟨by rw [HE.out]; rfl, (below_next HB2 hW).drew⟩
                      · go_wp2_with fail
                        go_region
                        all_goals go_wp2
                        all_goals go_ret
                        all_goals exact ⟨by rw [HE.out]; rfl, (below_next HB2 hW).drew⟩
                    · go_wp2_with fail
                      go_region
                      all_goals go_wp2
                      all_goals go_ret
                      all_goals exact ⟨by rw [HE.out]; rfl, (below_next HB2 hW).drew⟩
            · obtain rfl : j2 = k := by omega
              have e : r = true := by rw [HR.out]; exact decide_eq_true ⟨rfl, rfl, HF.out, HALL.out⟩
              have HE := Lib.hid e
              clear e
              go_wp2_with fail
              go_ret
              exact ⟨by rw [HE.out]; rfl, below_next HB2 hW⟩
    · have e : r = false := by rw [hr]; unfold psame; simp [hk]
      subst e
      clear hr
      have d0 : ((k : Int) != k') = true := by simp; omega
      go_enter Try.func15, Try.ntmps15
      go_wp2_with fail
      go_ret
      exact ⟨rfl, below_next (below_alloc _ _) (below_alloc _ _)⟩
  · have e : r = false := by rw [hr]; unfold psame; simp [hn]
    subst e
    clear hr
    have d0 : ((n : Int) != n') = true := by simp; omega
    go_enter Try.func15, Try.ntmps15
    go_wp2_with fail
    go_ret
    exact ⟨rfl, below_next (below_alloc _ _) (below_alloc _ _)⟩
end Go.Proofs.Ytcfglmamocdkeaa
