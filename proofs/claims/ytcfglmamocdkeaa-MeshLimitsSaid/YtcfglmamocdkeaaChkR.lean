/- The contract of the reference's Check. -/
import Derived.Test.YtcfglmamocdkeaaChk
namespace Go.Proofs.Ytcfglmamocdkeaa
open Go.ChangeShapes Go.WideShapes Go.ChangeAt Go.RowKit

theorem valid_isr {a : V} {r : Bool} (h : decide (a.In 65536) = r) (w : World) : Calls Try.prog 32 #[.agg #[.int .i64 a.x, .int .i64 a.y, .int .i64 a.z]] w fun e w' => e = .returned (.bool r) ∧ Below w.heap.size w w' := h ▸ valid_anyr a w

set_option maxRecDepth 100000 in
set_option maxHeartbeats 2000000 in
theorem check_auxr (a b : Option Addr) (n k cap cap' : Nat) (f g : Nat → V) (w : World) (SA : Sx a n f w) (SB : Sx b k g w) (r : Int) (hr : r = pcheck n k f g) :
    Calls Try.prog 21 #[.agg #[.slice a n cap, .slice b k cap']] w fun e w' => e = .returned (.int .i64 r) ∧ Below w.heap.size w w' := by
  by_cases hn : 4096 < n
  · have d1 : decide ((4096 : Int) < n) = true := by simp; omega
    have e : pcheck n k f g = 2 := by unfold pcheck; rw [if_pos (.inl hn)]
    rw [e] at hr
    subst hr
    clear e
    go_enter Try.func21, Try.ntmps21
    go_wp2_with fail
    go_ret
    exact ⟨rfl, below_alloc _ _⟩
  · have d1 : decide ((4096 : Int) < n) = false := by simp; omega
    by_cases hk : 4096 < k
    · have d2 : decide ((4096 : Int) < k) = true := by simp; omega
      have e : pcheck n k f g = 2 := by unfold pcheck; rw [if_pos (.inr hk)]
      rw [e] at hr
      subst hr
      clear e
      go_enter Try.func21, Try.ntmps21
      go_wp2_with fail
      go_ret
      exact ⟨rfl, below_alloc _ _⟩
    · have d2 : decide ((4096 : Int) < k) = false := by simp; omega
      have e : pcheck n k f g = if AllV n f then (if AllT n k g then 0 else 1) else 8 := by unfold pcheck; rw [if_neg (by omega)]
      rw [e] at hr
      have HR := Lib.hid hr
      clear e hr
      go_enter Try.func21, Try.ntmps21
      go_wp2_with fail
      have M := Mb.new w (.slice a n cap) (.slice b k cap')
      have HB := below_alloc w (.cells #[.slice a n cap, .slice b k cap'] 25)
      have SA1 := SA.next HB
      have SB1 := SB.next HB
      generalize w.alloc _ = wz at M HB SA1 SB1 ⊢
      go_loopw [21] (fun i wk => ∃ j : Nat, j ≤ n ∧ i = .int .i64 j ∧ (∀ l, l < j → (f l).In 65536) ∧ Below wz.heap.size wz wk) (fun i _ => n - (intOf i).toNat)
      case atStart => exact ⟨0, by omega, rfl, fun l hl => absurd hl (by omega), Below.refl _ _⟩
      case round =>
        obtain ⟨j, hj, rfl, hall, hW⟩ := hrel
        have HALL := Lib.hid hall
        clear hall
        by_cases hlt : j < n
        · rcases SA1.next hW with h0 | ⟨b0, o0, rfl, S⟩
          · omega
          · obtain ⟨s0, s1, s2⟩ := S.hc j hlt
            by_cases hv : (f j).In 65536
            · have HV := Lib.hid hv
              clear hv
              go_wp2_with (go_at_call 32; refine (valid_isr (decide_eq_true HV.out) _).mono ?_; rintro e wv ⟨rfl, hbv⟩)
              go_wp2
              go_roundw
              case rel =>
                refine ⟨j + 1, by omega, by go_num, fun l hl => ?_, below_next hW (below_next (below_alloc _ _) hbv)⟩
                rcases Nat.lt_or_ge l j with h' | h'
                · exact HALL.out l h'
                · obtain rfl : l = j := by omega
                  exact HV.out
              case measure => simp [intOf]; omega
            · have e : r = 8 := HR.out.trans (if_neg fun h => hv (h j hlt))
              have HV := Lib.hid hv
              have HE := Lib.hid e
              clear hv e
              go_wp2_with (go_at_call 32; refine (valid_isr (decide_eq_false HV.out) _).mono ?_; rintro e wv ⟨rfl, hbv⟩)
              go_ret
              exact ⟨by rw [HE.out]; rfl, below_next HB (below_next hW (below_next (below_alloc _ _) hbv))⟩
        · obtain rfl : j = n := by omega
          have e : r = if AllT j k g then 0 else 1 := HR.out.trans (if_pos HALL.out)
          have HE := Lib.hid e
          clear e HALL HR
          have M2 := M.next hW
          have HB2 := below_next HB hW
          have SB2 := SB1.next hW
          have m0 := M2.c0
          have m1 := M2.c1
          go_wp2_with fail
          clear m0 m1 M SA1 SB1 HB hW SA SB
          go_loopw [35] (fun i wk => ∃ l : Nat, l ≤ k ∧ i = .int .i64 l ∧ (∀ t, t < l → TriOk j (g t)) ∧ Below wr.heap.size wr wk) (fun i _ => k - (intOf i).toNat)
          case atStart => exact ⟨0, by omega, rfl, fun l hl => absurd hl (by omega), Below.refl _ _⟩
          case round =>
            obtain ⟨l, hl, rfl, hall, hW⟩ := hrel
            have HALL := Lib.hid hall
            clear hall
            by_cases hlt : l < k
            · rcases SB2.next hW with h0 | ⟨b0, o0, rfl, S⟩
              · omega
              · obtain ⟨s0, s1, s2⟩ := S.hc l hlt
                by_cases hv : TriOk j (g l)
                · have HV := Lib.hid hv
                  unfold TriOk at hv
                  go_wp2
                  all_goals go_roundw
                  all_goals first
                    | (refine ⟨l + 1, by omega, by go_num, fun t ht => ?_, below_next hW (below_alloc _ _)⟩
                       rcases Nat.lt_or_ge t l with h' | h'
                       · exact HALL.out t h'
                       · obtain rfl : t = l := by omega
                         exact HV.out)
                    | (simp [intOf]; omega)
                · have e : r = 1 := HE.out.trans (if_neg fun h => hv (h l hlt))
                  have HF := Lib.hid e
                  clear e
                  unfold TriOk at hv
                  go_wp2
                  all_goals go_ret
                  all_goals exact ⟨by rw [HF.out]; rfl, below_next HB2 (below_next hW (below_alloc _ _))⟩
            · obtain rfl : l = k := by omega
              have e : r = 0 := HE.out.trans (if_pos HALL.out)
              have HF := Lib.hid e
              clear e
              go_wp2_with fail
              go_ret
              exact ⟨by rw [HF.out]; rfl, below_next HB2 hW⟩

theorem check_any (a b : Option Addr) (n k cap cap' : Nat) (f g : Nat → V) (w : World) (SA : Sx a n f w) (SB : Sx b k g w) :
    Calls Try.prog 17 #[.agg #[.slice a n cap, .slice b k cap']] w fun e w' => e = .returned (.int .i64 (pcheck n k f g)) ∧ Below w.heap.size w w' := check_aux a b n k cap cap' f g w SA SB _ rfl
theorem check_anyr (a b : Option Addr) (n k cap cap' : Nat) (f g : Nat → V) (w : World) (SA : Sx a n f w) (SB : Sx b k g w) :
    Calls Try.prog 21 #[.agg #[.slice a n cap, .slice b k cap']] w fun e w' => e = .returned (.int .i64 (pcheck n k f g)) ∧ Below w.heap.size w w' := check_auxr a b n k cap cap' f g w SA SB _ rfl
end Go.Proofs.Ytcfglmamocdkeaa
