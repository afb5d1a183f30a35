/- The contracts of the reference's Volume6. Printed by turnref.py. -/
import Derived.Test.YtcfglmamocdkeaaVol
namespace Go.Proofs.Ytcfglmamocdkeaa
open Go.ChangeShapes Go.WideShapes Go.ChangeAt Go.RowKit

set_option maxRecDepth 100000 in
set_option maxHeartbeats 2000000 in
theorem vol_okr (a b : Option Addr) (n k cap cap' : Nat) (f g : Nat → V) (w : World) (SA : Sx a n f w) (SB : Sx b k g w) (hk : k ≤ 400) (hp : pcheck n k f g = 0) (ht : AllT n k g) :
    Calls Try.prog 26 #[.agg #[.slice a n cap, .slice b k cap']] w fun e w' => e = .returned (.int .i64 (vol f g k)) ∧ Below w.heap.size w w' := by
  have HT := Lib.hid ht
  clear ht
  go_enter Try.func26, Try.ntmps26
  go_wp2_with fail
  refine (check_auxr a b n k cap cap' f g _ (SA.next (below_alloc _ _)) (SB.next (below_alloc _ _)) 0 hp.symm).mono ?_
  rintro e w1 ⟨rfl, hb1⟩
  have M := (Mb.new w (.slice a n cap) (.slice b k cap')).next hb1
  have HB := below_next (below_alloc w (.cells #[.slice a n cap, .slice b k cap'] 25)) hb1
  have SA1 := SA.next HB
  have SB1 := SB.next HB
  have m1 := M.c1
  clear hb1
  go_wp2_with fail
  clear m1
  go_loopw [3, 12] (fun sm i wk => ∃ j : Nat, j ≤ k ∧ i = .int .i64 j ∧ sm = .int .i64 (vol f g j) ∧ Below w1.heap.size w1 wk) (fun _ i _ => k - (intOf i).toNat)
  case atStart => exact ⟨0, by omega, rfl, rfl, Below.refl _ _⟩
  case round =>
    obtain ⟨j, hj, rfl, rfl, hW⟩ := hrel
    by_cases hlt : j < k
    · rcases SB1.next hW with h0 | ⟨b1, o1, rfl, S⟩
      · omega
      · obtain ⟨s0, s1, s2⟩ := S.hc j hlt
        have tri := HT.out j hlt
        unfold TriOk at tri
        rcases SA1.next hW with h0 | ⟨b0, o0, rfl, S'⟩
        · omega
        · obtain ⟨p, hp⟩ : ∃ p : Nat, (g j).x = p := ⟨(g j).x.toNat, by omega⟩
          obtain ⟨q, hq⟩ : ∃ q : Nat, (g j).y = q := ⟨(g j).y.toNat, by omega⟩
          obtain ⟨t, ht⟩ : ∃ t : Nat, (g j).z = t := ⟨(g j).z.toNat, by omega⟩
          have hp' : p < n := by omega
          have hq' : q < n := by omega
          have ht' : t < n := by omega
          have hw : wrap64 (vol f g j + pdet (f p) (f q) (f t)) = vol f g (j + 1) := by
            have v := vol_in f g (j + 1)
            have e : vol f g (j + 1) = vol f g j + pdet (f p) (f q) (f t) := by simp [vol, cor, hp, hq, ht]
            rw [← e]
            unfold wrap64
            omega
          rw [hp] at s0
          rw [hq] at s1
          rw [ht] at s2
          have HB' := below_alloc wr (.cells #[.int .i64 p, .int .i64 q, .int .i64 t] 47)
          have FC : Vc w1 w.heap.size (.slice (some ⟨b0, o0, none⟩) n cap) (.slice (some ⟨b1, o1, none⟩) k cap') wr.heap.size ⟨p, q, t⟩ b0 o0 n f (wr.alloc (.cells #[.int .i64 p, .int .i64 q, .int .i64 t] 47)) :=
            ⟨(M.next hW).next HB', Tb.new wr p q t, S'.next HB', below_next hW HB'⟩
          clear hp hq ht tri
          go_wp2_with fail
          refine wp_quiet_in (Vc w1 w.heap.size (.slice (some ⟨b0, o0, none⟩) n cap) (.slice (some ⟨b1, o1, none⟩) k cap') wr.heap.size ⟨p, q, t⟩ b0 o0 n f) (by kernel_rfl) (by kernel_rfl) ⟨⟨FC.m.row⟩, ⟨FC.t.row⟩, ⟨FC.s.hb, FC.s.hc⟩, FC.hB.drew⟩ ?_
          repeat (first
            | go_big_quiet_skip
            | (go_big_quiet_want
               first
                 | (refine quiet_load_verts 17 rfl rfl (fun _ h => (Vc.m h).c0) ?_; go_simp; go_big_quiet_on)
                 | (refine quiet_load_verts 23 rfl rfl (fun _ h => (Vc.m h).c0) ?_; go_simp; go_big_quiet_on)
                 | (refine quiet_load_verts 29 rfl rfl (fun _ h => (Vc.m h).c0) ?_; go_simp; go_big_quiet_on)
                 | (refine quiet_load_int 19 rfl rfl (fun _ h => (Vc.t h).c0) ?_; go_simp; go_big_quiet_on)
                 | (refine quiet_load_int 25 rfl rfl (fun _ h => (Vc.t h).c1) ?_; go_simp; go_big_quiet_on)
                 | (refine quiet_load_int 31 rfl rfl (fun _ h => (Vc.t h).c2) ?_; go_simp; go_big_quiet_on)
                 | (refine quiet_load_at 21 rfl rfl (fun _ h => (Vc.s h).hc p hp') ?_; go_simp; go_big_quiet_on)
                 | (refine quiet_load_at 27 rfl rfl (fun _ h => (Vc.s h).hc q hq') ?_; go_simp; go_big_quiet_on)
                 | (refine quiet_load_at 33 rfl rfl (fun _ h => (Vc.s h).hc t ht') ?_; go_simp; go_big_quiet_on)
                 | (go_big_quiet_op
                    first
                      | go_big_quiet_on
                      | (refine ⟨_, fun _ _ => rfl, ?_⟩; go_big_quiet_on)
                      | (apply Exists.intro
                         refine ⟨fun w' h' => ?_, ?_⟩
                         · first
                             | (go_at_call 39; with_reducible exact Vc.on h' (det_anyr (f p) (f q) (f t) _))
                         go_big_quiet_on)
                 )))
          refine wpQuiet_nil ?_
          intro w' h'
          go_wp2
          go_roundw
          case rel => exact ⟨j + 1, by omega, by go_num, by rw [hw], h'.hB⟩
          case measure => simp [intOf]; omega
    · obtain rfl : j = k := by omega
      go_wp2_with fail
      go_ret
      exact ⟨rfl, below_next HB hW⟩
theorem vol_badr (a b : Option Addr) (n k cap cap' : Nat) (f g : Nat → V) (w : World) (SA : Sx a n f w) (SB : Sx b k g w) (hp : pcheck n k f g ≠ 0) :
    Calls Try.prog 26 #[.agg #[.slice a n cap, .slice b k cap']] w fun e w' => e = .returned (.int .i64 0) ∧ Below w.heap.size w w' := by
  obtain ⟨r, hr, h0⟩ : ∃ r, r = pcheck n k f g ∧ (r != 0) = true := ⟨_, rfl, by simpa using hp⟩
  have HR := Lib.hid hr
  clear hp hr
  go_enter Try.func26, Try.ntmps26
  go_wp2_with fail
  have HB0 := below_alloc w (.cells #[.slice a n cap, .slice b k cap'] 25)
  refine (check_auxr a b n k cap cap' f g _ (SA.next HB0) (SB.next HB0) r HR.out).mono ?_
  rintro e w1 ⟨rfl, hb1⟩
  go_wp2_with fail
  go_ret
  exact ⟨rfl, below_next HB0 hb1⟩
theorem vol_anyr (a b : Option Addr) (n k cap cap' : Nat) (f g : Nat → V) (w : World) (SA : Sx a n f w) (SB : Sx b k g w) (hk : k ≤ 400) (v : Int) (hv : pvol n k f g = v) :
    Calls Try.prog 26 #[.agg #[.slice a n cap, .slice b k cap']] w fun e w' => e = .returned (.int .i64 v) ∧ Below w.heap.size w w' := by
  subst hv
  by_cases h : pcheck n k f g = 0
  · rw [show pvol n k f g = vol f g k from if_pos h]
    exact vol_okr a b n k cap cap' f g w SA SB hk h (pcheck_all h).2.2.2
  · rw [show pvol n k f g = 0 from if_neg h]
    exact vol_badr a b n k cap cap' f g w SA SB h
end Go.Proofs.Ytcfglmamocdkeaa
