/- The walk of MeshLimits. Printed by mlaws.py. -/
import Derived.Test.YtcfglmamocdkeaaWide
namespace Go.Proofs.Ytcfglmamocdkeaa
open Go.ChangeShapes Go.WideShapes Go.ChangeAt Go.RowKit
set_option linter.unusedVariables false

theorem allV_wide (A : Nat) (h : A ≤ 4096) : AllV A wf := fun i hi => by
  unfold V.In wf
  dsimp only
  omega
theorem allT_wide {A : Nat} (B : Nat) (h : 0 < A) : AllT A B wg := fun j _ => by
  unfold TriOk wg
  dsimp only
  omega
theorem check_wide {A B : Nat} (h0 : 0 < A) (hA : A ≤ 4096) (hB : B ≤ 4096) : pcheck A B wf wg = 0 := pcheck_of hA hB (allV_wide A hA) (allT_wide B h0)
theorem check_over {A B : Nat} (h : 4096 < A ∨ 4096 < B) : pcheck A B wf wg = 2 := if_pos h
theorem limits_out (v t : Int) (w : World) (h : v < -3 ∨ 3 < v ∨ t < -3 ∨ 3 < t) : Calls Try.prog 9 #[.int .i64 v, .int .i64 t] w fun e w' => e = .returned (.bool true) ∧ Below w.heap.size w w' := by
  go_enter Try.func9, Try.ntmps9
  by_cases h1 : v < -3
  · go_wp2_with fail
    refine (awake_any _).mono ?_
    rintro e w1 ⟨rfl, hb⟩
    go_wp2_with fail
    go_ret
    exact ⟨rfl, hb⟩
  · by_cases h2 : 3 < v
    · go_wp2_with fail
      refine (awake_any _).mono ?_
      rintro e w1 ⟨rfl, hb⟩
      go_wp2_with fail
      go_ret
      exact ⟨rfl, hb⟩
    · by_cases h3 : t < -3
      · go_wp2_with fail
        refine (awake_any _).mono ?_
        rintro e w1 ⟨rfl, hb⟩
        go_wp2_with fail
        go_ret
        exact ⟨rfl, hb⟩
      · have h4 : 3 < t := by omega
        go_wp2_with fail
        refine (awake_any _).mono ?_
        rintro e w1 ⟨rfl, hb⟩
        go_wp2_with fail
        go_ret
        exact ⟨rfl, hb⟩
set_option maxRecDepth 100000 in
set_option maxHeartbeats 2000000 in
theorem limits_in (v t : Int) (w : World) (h1 : -3 ≤ v) (h2 : v ≤ 3) (h3 : -3 ≤ t) (h4 : t ≤ 3) (hv : v ≤ 0) (ht : t ≤ 0) : Calls Try.prog 9 #[.int .i64 v, .int .i64 t] w fun e w' => e = .returned (.bool true) ∧ Below w.heap.size w w' := by
  obtain ⟨A, hA⟩ : ∃ A : Nat, (A : Int) = 4096 + v := ⟨(4096 + v).toNat, by omega⟩
  obtain ⟨B, hB⟩ : ∃ B : Nat, (B : Int) = 4096 + t := ⟨(4096 + t).toNat, by omega⟩
  obtain ⟨A2, hA2⟩ : ∃ A2 : Nat, (A2 : Int) = 2048 + v := ⟨(2048 + v).toNat, by omega⟩
  obtain ⟨B2, hB2⟩ : ∃ B2 : Nat, (B2 : Int) = 2048 + t := ⟨(2048 + t).toNat, by omega⟩
  have a5 : A ≤ 5000 := by omega
  have b5 : B ≤ 5000 := by omega
  have a25 : A2 ≤ 5000 := by omega
  have b25 : B2 ≤ 5000 := by omega
  have d1 : decide (v < -3) = false := by simpa using h1
  have d2 : decide (3 < v) = false := by simpa using h2
  have d3 : decide (t < -3) = false := by simpa using h3
  have d4 : decide (3 < t) = false := by simpa using h4
  have k0 : pcheck 2048 2048 wf wg = 0 := check_wide (by omega) (by omega) (by omega)
  have k2 : pcheck A2 B2 wf wg = 0 := check_wide (by omega) (by omega) (by omega)
  have k1 : pcheck A B wf wg = 0 := check_wide (by omega) (by omega) (by omega)
  have s1 : 2048 + A2 ≤ 4096 := by omega
  have s2 : 2048 + B2 ≤ 4096 := by omega
  have a24 : A2 ≤ 4096 := by omega
  have b24 : B2 ≤ 4096 := by omega
  have tt : AllT A2 B2 wg := (pcheck_all k2).2.2.2
  have K0 := Lib.hid k0
  have K1 := Lib.hid k1
  have K2 := Lib.hid k2
  have TT := Lib.hid tt
  have EA := Lib.hid hA
  have EB := Lib.hid hB
  have EA2 := Lib.hid hA2
  have EB2 := Lib.hid hB2
  clear k0 k1 k2 tt hA hB hA2 hB2
  go_enter Try.func9, Try.ntmps9
  go_wp2_with fail
  rw [← EA.out, ← EB.out]
  refine (wide_any A B _ a5 b5).mono ?_
  rintro e w1 ⟨a, b, c, d, rfl, SA, SB, hb⟩
  have x1 := below_alloc w1 (.cells #[.slice a A c, .slice b B d] 25)
  have SA1 := SA.next x1
  have SB1 := SB.next x1
  have HB1 := below_next hb x1
  go_wp2_with fail
  clear hb x1 SA SB
  generalize w1.alloc (.cells #[.slice a A c, .slice b B d] 25) = w2 at SA1 SB1 HB1 ⊢
  refine (check_is SA1 SB1 K1.out).mono ?_
  rintro e w3 ⟨rfl, hb⟩
  have HB3 := below_next HB1 hb
  clear hb HB1 SA1 SB1
  go_wp2_with fail
  refine (wide_any 2048 2048 _ (by decide) (by decide)).mono ?_
  rintro e w4 ⟨a0, b0, c0, d0, rfl, SA, SB, hb⟩
  have HB4 := below_next HB3 hb
  clear hb HB3
  go_wp2_with fail
  rw [← EA2.out, ← EB2.out]
  refine (wide_any A2 B2 _ a25 b25).mono ?_
  rintro e w5 ⟨a2, b2, c2, d2, rfl, SA2, SB2, hb⟩
  have SA5 := SA.next hb
  have SB5 := SB.next hb
  have HB5 := below_next HB4 hb
  clear hb HB4 SA SB
  go_wp2_with fail
  refine (join_ok a0 b0 a2 b2 2048 2048 A2 B2 c0 d0 c2 d2 wf wg wf wg _ SA5 SB5 SA2 SB2 K0.out K2.out s1 s2 TT.out).mono ?_
  rintro e w6 ⟨ja, jb, jc, jd, rfl, JA, JB, hb⟩
  have HB6 := below_next HB5 hb
  clear hb HB5 JA JB SA5 SB5 SA2 SB2
  go_wp2_with fail
  refine (awake_any _).mono ?_
  rintro e wf' ⟨rfl, hb⟩
  go_wp2_with fail
  go_ret
  exact ⟨rfl, below_next (below_next HB6 (below_alloc _ _)) hb⟩
set_option maxRecDepth 100000 in
set_option maxHeartbeats 2000000 in
theorem limits_v (v t : Int) (w : World) (h1 : -3 ≤ v) (h2 : v ≤ 3) (h3 : -3 ≤ t) (h4 : t ≤ 3) (hv : 0 < v) : Calls Try.prog 9 #[.int .i64 v, .int .i64 t] w fun e w' => e = .returned (.bool true) ∧ Below w.heap.size w w' := by
  obtain ⟨A, hA⟩ : ∃ A : Nat, (A : Int) = 4096 + v := ⟨(4096 + v).toNat, by omega⟩
  obtain ⟨B, hB⟩ : ∃ B : Nat, (B : Int) = 4096 + t := ⟨(4096 + t).toNat, by omega⟩
  obtain ⟨A2, hA2⟩ : ∃ A2 : Nat, (A2 : Int) = 2048 + v := ⟨(2048 + v).toNat, by omega⟩
  obtain ⟨B2, hB2⟩ : ∃ B2 : Nat, (B2 : Int) = 2048 + t := ⟨(2048 + t).toNat, by omega⟩
  have a5 : A ≤ 5000 := by omega
  have b5 : B ≤ 5000 := by omega
  have a25 : A2 ≤ 5000 := by omega
  have b25 : B2 ≤ 5000 := by omega
  have d1 : decide (v < -3) = false := by simpa using h1
  have d2 : decide (3 < v) = false := by simpa using h2
  have d3 : decide (t < -3) = false := by simpa using h3
  have d4 : decide (3 < t) = false := by simpa using h4
  have k0 : pcheck 2048 2048 wf wg = 0 := check_wide (by omega) (by omega) (by omega)
  have k2 : pcheck A2 B2 wf wg = 0 := check_wide (by omega) (by omega) (by omega)
  have k1 : pcheck A B wf wg = 2 := check_over (.inl (by omega))
  have s1 : 4096 < 2048 + A2 := by omega
  have a24 : A2 ≤ 4096 := by omega
  have b24 : B2 ≤ 4096 := by omega
  have tt : AllT A2 B2 wg := (pcheck_all k2).2.2.2
  have K0 := Lib.hid k0
  have K1 := Lib.hid k1
  have K2 := Lib.hid k2
  have TT := Lib.hid tt
  have EA := Lib.hid hA
  have EB := Lib.hid hB
  have EA2 := Lib.hid hA2
  have EB2 := Lib.hid hB2
  clear k0 k1 k2 tt hA hB hA2 hB2
  go_enter Try.func9, Try.ntmps9
  go_wp2_with fail
  rw [← EA.out, ← EB.out]
  refine (wide_any A B _ a5 b5).mono ?_
  rintro e w1 ⟨a, b, c, d, rfl, SA, SB, hb⟩
  have x1 := below_alloc w1 (.cells #[.slice a A c, .slice b B d] 25)
  have SA1 := SA.next x1
  have SB1 := SB.next x1
  have HB1 := below_next hb x1
  go_wp2_with fail
  clear hb x1 SA SB
  generalize w1.alloc (.cells #[.slice a A c, .slice b B d] 25) = w2 at SA1 SB1 HB1 ⊢
  refine (check_is SA1 SB1 K1.out).mono ?_
  rintro e w3 ⟨rfl, hb⟩
  have HB3 := below_next HB1 hb
  clear hb HB1 SA1 SB1
  go_wp2_with fail
  refine (wide_any 2048 2048 _ (by decide) (by decide)).mono ?_
  rintro e w4 ⟨a0, b0, c0, d0, rfl, SA, SB, hb⟩
  have HB4 := below_next HB3 hb
  clear hb HB3
  go_wp2_with fail
  rw [← EA2.out, ← EB2.out]
  refine (wide_any A2 B2 _ a25 b25).mono ?_
  rintro e w5 ⟨a2, b2, c2, d2, rfl, SA2, SB2, hb⟩
  have SA5 := SA.next hb
  have SB5 := SB.next hb
  have HB5 := below_next HB4 hb
  clear hb HB4 SA SB
  go_wp2_with fail
  refine (join_big1 a0 b0 a2 b2 2048 2048 A2 B2 c0 d0 c2 d2 wf wg wf wg _ SA5 SB5 SA2 SB2 K0.out K2.out s1 (by decide) a24 (by decide) b24).mono ?_
  rintro e w6 ⟨ja, jb, jc, jd, rfl, JA, JB, hb⟩
  have HB6 := below_next HB5 hb
  clear hb HB5 JA JB SA5 SB5 SA2 SB2
  go_wp2_with fail
  refine (awake_any _).mono ?_
  rintro e wf' ⟨rfl, hb⟩
  go_wp2_with fail
  go_ret
  exact ⟨rfl, below_next (below_next HB6 (below_alloc _ _)) hb⟩
set_option maxRecDepth 100000 in
set_option maxHeartbeats 2000000 in
theorem limits_t (v t : Int) (w : World) (h1 : -3 ≤ v) (h2 : v ≤ 3) (h3 : -3 ≤ t) (h4 : t ≤ 3) (hv : v ≤ 0) (ht : 0 < t) : Calls Try.prog 9 #[.int .i64 v, .int .i64 t] w fun e w' => e = .returned (.bool true) ∧ Below w.heap.size w w' := by
  obtain ⟨A, hA⟩ : ∃ A : Nat, (A : Int) = 4096 + v := ⟨(4096 + v).toNat, by omega⟩
  obtain ⟨B, hB⟩ : ∃ B : Nat, (B : Int) = 4096 + t := ⟨(4096 + t).toNat, by omega⟩
  obtain ⟨A2, hA2⟩ : ∃ A2 : Nat, (A2 : Int) = 2048 + v := ⟨(2048 + v).toNat, by omega⟩
  obtain ⟨B2, hB2⟩ : ∃ B2 : Nat, (B2 : Int) = 2048 + t := ⟨(2048 + t).toNat, by omega⟩
  have a5 : A ≤ 5000 := by omega
  have b5 : B ≤ 5000 := by omega
  have a25 : A2 ≤ 5000 := by omega
  have b25 : B2 ≤ 5000 := by omega
  have d1 : decide (v < -3) = false := by simpa using h1
  have d2 : decide (3 < v) = false := by simpa using h2
  have d3 : decide (t < -3) = false := by simpa using h3
  have d4 : decide (3 < t) = false := by simpa using h4
  have k0 : pcheck 2048 2048 wf wg = 0 := check_wide (by omega) (by omega) (by omega)
  have k2 : pcheck A2 B2 wf wg = 0 := check_wide (by omega) (by omega) (by omega)
  have k1 : pcheck A B wf wg = 2 := check_over (.inr (by omega))
  have s1 : 2048 + A2 ≤ 4096 := by omega
  have s2 : 4096 < 2048 + B2 := by omega
  have a24 : A2 ≤ 4096 := by omega
  have b24 : B2 ≤ 4096 := by omega
  have tt : AllT A2 B2 wg := (pcheck_all k2).2.2.2
  have K0 := Lib.hid k0
  have K1 := Lib.hid k1
  have K2 := Lib.hid k2
  have TT := Lib.hid tt
  have EA := Lib.hid hA
  have EB := Lib.hid hB
  have EA2 := Lib.hid hA2
  have EB2 := Lib.hid hB2
  clear k0 k1 k2 tt hA hB hA2 hB2
  go_enter Try.func9, Try.ntmps9
  go_wp2_with fail
  rw [← EA.out, ← EB.out]
  refine (wide_any A B _ a5 b5).mono ?_
  rintro e w1 ⟨a, b, c, d, rfl, SA, SB, hb⟩
  have x1 := below_alloc w1 (.cells #[.slice a A c, .slice b B d] 25)
  have SA1 := SA.next x1
  have SB1 := SB.next x1
  have HB1 := below_next hb x1
  go_wp2_with fail
  clear hb x1 SA SB
  generalize w1.alloc (.cells #[.slice a A c, .slice b B d] 25) = w2 at SA1 SB1 HB1 ⊢
  refine (check_is SA1 SB1 K1.out).mono ?_
  rintro e w3 ⟨rfl, hb⟩
  have HB3 := below_next HB1 hb
  clear hb HB1 SA1 SB1
  go_wp2_with fail
  refine (wide_any 2048 2048 _ (by decide) (by decide)).mono ?_
  rintro e w4 ⟨a0, b0, c0, d0, rfl, SA, SB, hb⟩
  have HB4 := below_next HB3 hb
  clear hb HB3
  go_wp2_with fail
  rw [← EA2.out, ← EB2.out]
  refine (wide_any A2 B2 _ a25 b25).mono ?_
  rintro e w5 ⟨a2, b2, c2, d2, rfl, SA2, SB2, hb⟩
  have SA5 := SA.next hb
  have SB5 := SB.next hb
  have HB5 := below_next HB4 hb
  clear hb HB4 SA SB
  go_wp2_with fail
  refine (join_big2 a0 b0 a2 b2 2048 2048 A2 B2 c0 d0 c2 d2 wf wg wf wg _ SA5 SB5 SA2 SB2 K0.out K2.out s1 s2 (by decide) a24 (by decide) b24).mono ?_
  rintro e w6 ⟨ja, jb, jc, jd, rfl, JA, JB, hb⟩
  have HB6 := below_next HB5 hb
  clear hb HB5 JA JB SA5 SB5 SA2 SB2
  go_wp2_with fail
  refine (awake_any _).mono ?_
  rintro e wf' ⟨rfl, hb⟩
  go_wp2_with fail
  go_ret
  exact ⟨rfl, below_next (below_next HB6 (below_alloc _ _)) hb⟩
theorem meshLimits_walk (v t : Int) (w : World) (_w0 : (Lit.int .i64 v).wf = true) (_w1 : (Lit.int .i64 t).wf = true) : Calls Try.prog 9 #[.int .i64 v, .int .i64 t] w fun e w' => e = .returned (.bool true) ∧ Below w.heap.size w w' := by
  by_cases h : v < -3 ∨ 3 < v ∨ t < -3 ∨ 3 < t
  · exact limits_out v t w h
  · by_cases hv : v ≤ 0
    · by_cases ht : t ≤ 0
      · exact limits_in v t w (by omega) (by omega) (by omega) (by omega) hv ht
      · exact limits_t v t w (by omega) (by omega) (by omega) (by omega) hv (by omega)
    · exact limits_v v t w (by omega) (by omega) (by omega) (by omega) (by omega)
end Go.Proofs.Ytcfglmamocdkeaa
