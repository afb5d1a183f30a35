/- The walk of MeshTurns. Printed by mlaws.py. -/
import Derived.Test.YtcfglmamocdkeaaCls
namespace Go.Proofs.Ytcfglmamocdkeaa
open Go.ChangeShapes Go.WideShapes Go.ChangeAt Go.RowKit
set_option linter.unusedVariables false

theorem meshTurns_heavy1 (a b : Option Addr) (n k c1 c2 : Nat) (f g : Nat → V) (w : World) (SA : Sx a n f w) (SB : Sx b k g w) (h1 : 200 < n ∨ 200 < k) :
    Calls Try.prog 4 #[.agg #[.slice a n c1, .slice b k c2]] w fun e w' => e = .returned (.bool true) ∧ Below w.heap.size w w' := by
  have H1 := Lib.hid h1
  clear h1
  go_enter Try.func4, Try.ntmps4
  go_wp2_with fail
  have HB0 := below_alloc w (.cells #[.slice a n c1, .slice b k c2] 25)
  have M0 := Mb.new w (.slice a n c1) (.slice b k c2)
  refine (heavy_is (decide_eq_true H1.out)).mono ?_
  rintro e wh1 ⟨rfl, hb⟩
  have M1 := M0.next hb
  have HB1 := below_next HB0 hb
  clear M0 HB0 hb
  go_wp2_with fail
  refine (awake_any _).mono ?_
  rintro e wf ⟨rfl, hb⟩
  go_wp2_with fail
  go_ret
  exact ⟨rfl, below_next HB1 hb⟩
set_option maxRecDepth 100000 in
set_option maxHeartbeats 2000000 in
theorem meshTurns_ok (a b : Option Addr) (n k c1 c2 : Nat) (f g : Nat → V) (w : World) (SA : Sx a n f w) (SB : Sx b k g w) (h1 : ¬ (200 < n ∨ 200 < k)) (hp : pcheck n k f g = 0) :
    Calls Try.prog 4 #[.agg #[.slice a n c1, .slice b k c2]] w fun e w' => e = .returned (.bool true) ∧ Below w.heap.size w w' := by
  have HP := Lib.hid hp
  have HS := Lib.hid ((pcheck_swp n k f g).trans hp)
  clear hp
  have hn : n ≤ 200 := by omega
  have hk : k ≤ 200 := by omega
  have H1 := Lib.hid h1
  clear h1
  go_enter Try.func4, Try.ntmps4
  go_wp2_with fail
  have HB0 := below_alloc w (.cells #[.slice a n c1, .slice b k c2] 25)
  have M0 := Mb.new w (.slice a n c1) (.slice b k c2)
  refine (heavy_is (decide_eq_false H1.out)).mono ?_
  rintro e wh1 ⟨rfl, hb⟩
  have M1 := M0.next hb
  have HB1 := below_next HB0 hb
  clear M0 HB0 hb
  clear H1
  have hn9 : n ≤ 4096 := by omega
  have hk9 : k ≤ 4096 := by omega
  have hn' : n ≤ 100000 := by omega
  have hk' : k ≤ 100000 := by omega
  have q0 := M1.c0
  have q1 := M1.c1
  go_wp2_with fail
  clear q0 q1
  refine (rev_ok a b n k c1 c2 f g _ (SA.next HB1) (SB.next HB1) hn9 hk9 HP.out).mono ?_
  rintro e w2 ⟨ra, rb, rc, rd, rfl, RA, RB, hb⟩
  have x1 := below_alloc w2 (.cells #[.slice ra n rc, .slice rb k rd] 25)
  have R2 := Mb.new w2 (.slice ra n rc) (.slice rb k rd)
  have K := below_next hb x1
  have M2 := M1.next K
  have HB2 := below_next HB1 K
  have RA2 := RA.next x1
  have RB2 := RB.next x1
  go_wp2_with fail
  clear K x1 hb M1 HB1 RA RB
  generalize w2.alloc (.cells #[.slice ra n rc, .slice rb k rd] 25) = w3 at R2 M2 HB2 RA2 RB2 ⊢
  generalize w2.heap.size = p2 at R2 ⊢
  have MK : Hid (∀ w', Below w3.heap.size w3 w' → Below w3.heap.size w3 w' ∧ w'.cell? ⟨w.heap.size, 0, none⟩ = some (.slice a n c1) ∧ w'.cell? ⟨w.heap.size, 1, none⟩ = some (.slice b k c2) ∧ w'.cell? ⟨p2, 0, none⟩ = some (.slice ra n rc) ∧ w'.cell? ⟨p2, 1, none⟩ = some (.slice rb k rd)) := fun w' h => ⟨h, (M2.next h).c0, (M2.next h).c1, (R2.next h).c0, (R2.next h).c1⟩
  go_region_held3 (fun w' => Below w3.heap.size w3 w' ∧ w'.cell? ⟨w.heap.size, 0, none⟩ = some (.slice a n c1) ∧ w'.cell? ⟨w.heap.size, 1, none⟩ = some (.slice b k c2) ∧ w'.cell? ⟨p2, 0, none⟩ = some (.slice ra n rc) ∧ w'.cell? ⟨p2, 1, none⟩ = some (.slice rb k rd))
    (first | exact MK.out _ (Below.refl _ _).drew | exact MK.out _ (below_next (by go_split_ands; assumption) hb))
    (first
      | (go_at_call 16; refine (rev_okr a b n k c1 c2 f g _ (SA.next (below_next HB2 (by go_split_ands; assumption))) (SB.next (below_next HB2 (by go_split_ands; assumption))) hn9 hk9 HP.out).mono ?_; rintro e wt ⟨ta, tb, tc, td, rfl, TA, TB, hb⟩)
      | (go_at_call 15; with_reducible refine (samer_is (RA2.next (by go_split_ands; assumption)) (RB2.next (by go_split_ands; assumption)) TA TB hn' hk' (psame_refl _ _ _ _)).mono ?_; rintro e wt ⟨rfl, hb⟩))
  have HZ : Below w.heap.size w _ := below_next HB2 (by go_split_ands; assumption)
  clear MK
  have M4 := M2.next (by go_split_ands; assumption)
  have R4 := R2.next (by go_split_ands; assumption)
  have RA4 := RA2.next (by go_split_ands; assumption)
  have RB4 := RB2.next (by go_split_ands; assumption)
  clear M2 R2 RA2 RB2 HB2 TA TB
  go_wp2_with fail
  have MK : Hid (∀ w', Below wt.heap.size wt w' → Below wt.heap.size wt w' ∧ w'.cell? ⟨w.heap.size, 0, none⟩ = some (.slice a n c1) ∧ w'.cell? ⟨w.heap.size, 1, none⟩ = some (.slice b k c2) ∧ w'.cell? ⟨p2, 0, none⟩ = some (.slice ra n rc) ∧ w'.cell? ⟨p2, 1, none⟩ = some (.slice rb k rd)) := fun w' h => ⟨h, (M4.next h).c0, (M4.next h).c1, (R4.next h).c0, (R4.next h).c1⟩
  go_region_held3 (fun w' => Below wt.heap.size wt w' ∧ w'.cell? ⟨w.heap.size, 0, none⟩ = some (.slice a n c1) ∧ w'.cell? ⟨w.heap.size, 1, none⟩ = some (.slice b k c2) ∧ w'.cell? ⟨p2, 0, none⟩ = some (.slice ra n rc) ∧ w'.cell? ⟨p2, 1, none⟩ = some (.slice rb k rd))
    (first | exact MK.out _ (Below.refl _ _).drew | exact MK.out _ (below_next (by go_split_ands; assumption) hb))
    (first
      | (go_at_call 17; with_reducible refine (check_is (SA.next (below_next HZ (by go_split_ands; assumption))) (SB.next (below_next HZ (by go_split_ands; assumption))) HP.out).mono ?_; rintro e wu ⟨rfl, hb⟩)
      | (go_at_call 13; refine (rev_ok ra rb n k rc rd f (fun i => swp (g i)) _ (RA4.next (by go_split_ands; assumption)) (RB4.next (by go_split_ands; assumption)) hn9 hk9 HS.out).mono ?_; rintro e wu ⟨va, vb, vc, vd, rfl, VA, VB, hb⟩)
      | (go_at_call 18; with_reducible refine (same_is VA VB (SA.next (below_next HZ (by go_split_ands; assumption))) (SB.next (below_next HZ (by go_split_ands; assumption))) hn' hk' (psame_swp _ _ _ _)).mono ?_; rintro e wu ⟨rfl, hb⟩)
      | (go_at_call 11; refine (awake_any _).mono ?_; rintro e wu ⟨rfl, hb⟩))
  have HZ2 : Below w.heap.size w _ := below_next HZ (by go_split_ands; assumption)
  go_wp2_with fail
  go_ret
  exact ⟨rfl, HZ2⟩
set_option maxRecDepth 100000 in
set_option maxHeartbeats 2000000 in
theorem meshTurns_bad (a b : Option Addr) (n k c1 c2 : Nat) (f g : Nat → V) (w : World) (SA : Sx a n f w) (SB : Sx b k g w) (h1 : ¬ (200 < n ∨ 200 < k)) (hp : pcheck n k f g ≠ 0) :
    Calls Try.prog 4 #[.agg #[.slice a n c1, .slice b k c2]] w fun e w' => e = .returned (.bool true) ∧ Below w.heap.size w w' := by
  obtain ⟨r, hr, h0⟩ : ∃ r, pcheck n k f g = r ∧ (r != 0) = true := ⟨_, rfl, by simpa using hp⟩
  have HR := Lib.hid hr
  have HP := Lib.hid hp
  clear hr hp
  have hn : n ≤ 200 := by omega
  have hk : k ≤ 200 := by omega
  have H1 := Lib.hid h1
  clear h1
  go_enter Try.func4, Try.ntmps4
  go_wp2_with fail
  have HB0 := below_alloc w (.cells #[.slice a n c1, .slice b k c2] 25)
  have M0 := Mb.new w (.slice a n c1) (.slice b k c2)
  refine (heavy_is (decide_eq_false H1.out)).mono ?_
  rintro e wh1 ⟨rfl, hb⟩
  have M1 := M0.next hb
  have HB1 := below_next HB0 hb
  clear M0 HB0 hb
  clear H1
  have hn9 : n ≤ 4096 := by omega
  have hk9 : k ≤ 4096 := by omega
  have hn' : n ≤ 100000 := by omega
  have hk' : k ≤ 100000 := by omega
  have q0 := M1.c0
  have q1 := M1.c1
  go_wp2_with fail
  clear q0 q1
  refine (rev_bad a b n k c1 c2 f g _ (SA.next HB1) (SB.next HB1) HP.out).mono ?_
  rintro e w2 ⟨ra, rb, rc, rd, rfl, RA, RB, hb⟩
  have x1 := below_alloc w2 (.cells #[.slice ra 0 rc, .slice rb 0 rd] 25)
  have R2 := Mb.new w2 (.slice ra 0 rc) (.slice rb 0 rd)
  have K := below_next hb x1
  have M2 := M1.next K
  have HB2 := below_next HB1 K
  have RA2 := RA.next x1
  have RB2 := RB.next x1
  go_wp2_with fail
  clear K x1 hb M1 HB1 RA RB
  generalize w2.alloc (.cells #[.slice ra 0 rc, .slice rb 0 rd] 25) = w3 at R2 M2 HB2 RA2 RB2 ⊢
  generalize w2.heap.size = p2 at R2 ⊢
  have MK : Hid (∀ w', Below w3.heap.size w3 w' → Below w3.heap.size w3 w' ∧ w'.cell? ⟨w.heap.size, 0, none⟩ = some (.slice a n c1) ∧ w'.cell? ⟨w.heap.size, 1, none⟩ = some (.slice b k c2) ∧ w'.cell? ⟨p2, 0, none⟩ = some (.slice ra 0 rc) ∧ w'.cell? ⟨p2, 1, none⟩ = some (.slice rb 0 rd)) := fun w' h => ⟨h, (M2.next h).c0, (M2.next h).c1, (R2.next h).c0, (R2.next h).c1⟩
  go_region_held3 (fun w' => Below w3.heap.size w3 w' ∧ w'.cell? ⟨w.heap.size, 0, none⟩ = some (.slice a n c1) ∧ w'.cell? ⟨w.heap.size, 1, none⟩ = some (.slice b k c2) ∧ w'.cell? ⟨p2, 0, none⟩ = some (.slice ra 0 rc) ∧ w'.cell? ⟨p2, 1, none⟩ = some (.slice rb 0 rd))
    (first | exact MK.out _ (Below.refl _ _).drew | exact MK.out _ (below_next (by go_split_ands; assumption) hb))
    (first
      | (go_at_call 16; refine (rev_badr a b n k c1 c2 f g _ (SA.next (below_next HB2 (by go_split_ands; assumption))) (SB.next (below_next HB2 (by go_split_ands; assumption))) HP.out).mono ?_; rintro e wt ⟨ta, tb, tc, td, rfl, TA, TB, hb⟩)
      | (go_at_call 15; with_reducible refine (samer_is (RA2.next (by go_split_ands; assumption)) (RB2.next (by go_split_ands; assumption)) TA TB (Nat.zero_le _) (Nat.zero_le _) (psame_nil _ _ _ _)).mono ?_; rintro e wt ⟨rfl, hb⟩))
  have HZ : Below w.heap.size w _ := below_next HB2 (by go_split_ands; assumption)
  clear MK
  have M4 := M2.next (by go_split_ands; assumption)
  have R4 := R2.next (by go_split_ands; assumption)
  have RA4 := RA2.next (by go_split_ands; assumption)
  have RB4 := RB2.next (by go_split_ands; assumption)
  clear M2 R2 RA2 RB2 HB2 TA TB
  go_wp2_with fail
  refine wp_quiet_in (Qz wt w.heap.size (.slice a n c1) (.slice b k c2)) (by kernel_rfl) (by kernel_rfl) ⟨⟨M4.row⟩, (Below.refl _ _).drew⟩ ?_
  repeat (first
    | go_big_quiet_skip
    | (go_big_quiet_want
       first
         | (refine quiet_load25 1 rfl rfl (fun _ h => Qz.m h) ?_; go_simp; go_big_quiet_on)
         | (go_big_quiet_op
            first
              | go_big_quiet_on
              | (refine ⟨_, fun _ _ => rfl, ?_⟩; go_big_quiet_on)
              | (apply Exists.intro
                 refine ⟨fun w' h' => ?_, ?_⟩
                 · first
                     | (go_at_call 17; with_reducible exact Qz.on h' (check_is (SA.next (below_next HZ h'.hB)) (SB.next (below_next HZ h'.hB)) HR.out))
                     | (go_at_call 11; with_reducible exact Qz.on h' (awake_any _))
                 go_big_quiet_on)
           )))
  refine wpQuiet_nil ?_
  intro w' h'
  have HZ2 : Below w.heap.size w w' := below_next HZ h'.hB
  go_wp2_with fail
  go_ret
  exact ⟨rfl, HZ2⟩
theorem meshTurns_all (a b : Option Addr) (n k c1 c2 : Nat) (f g : Nat → V) (w : World) (SA : Sx a n f w) (SB : Sx b k g w) :
    Calls Try.prog 4 #[.agg #[.slice a n c1, .slice b k c2]] w fun e w' => e = .returned (.bool true) ∧ Below w.heap.size w w' := by
  by_cases h1 : 200 < n ∨ 200 < k
  · exact meshTurns_heavy1 a b n k c1 c2 f g w SA SB h1
  · by_cases hp : pcheck n k f g = 0
    · exact meshTurns_ok a b n k c1 c2 f g w SA SB h1 hp
    · exact meshTurns_bad a b n k c1 c2 f g w SA SB h1 hp
theorem meshTurns_walk (v0 : Value) (w : World) (h0 : ∃ a n cap b k cap' f g, v0 = .agg #[.slice a n cap, .slice b k cap'] ∧ Sx a n f w ∧ Sx b k g w) :
    Calls Try.prog 4 #[v0] w fun e w' => e = .returned (.bool true) ∧ Below w.heap.size w w' := by
  obtain ⟨a, n, c1, b, k, c2, f, g, rfl, SA, SB⟩ := h0
  exact meshTurns_all a b n k c1 c2 f g w SA SB
end Go.Proofs.Ytcfglmamocdkeaa
