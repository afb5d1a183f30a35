/- VecDet's walk. Printed by laws.py. -/
import Derived.Test.YthhlofcponekhaaAwake
import Derived.Test.YthhlofcponekhaaAlg
namespace Go.Proofs.Ythhlofcponekhaa
open Go.ChangeShapes Go.WideShapes Go.ChangeAt Go.RowKit
theorem neg_wrap (a b c : V) : wrap64 (-pdet a b c) = -pdet a b c := by have := pdet_in a b c; unfold wrap64; omega
set_option maxRecDepth 100000 in
set_option maxHeartbeats 2000000 in
theorem vecDet_walk (a b c : V) (w : World) : Calls Try.prog 4 #[.agg #[.int .i64 a.x, .int .i64 a.y, .int .i64 a.z], .agg #[.int .i64 b.x, .int .i64 b.y, .int .i64 b.z], .agg #[.int .i64 c.x, .int .i64 c.y, .int .i64 c.z]] w fun e w' => e = .returned (.bool true) ∧ Below w.heap.size w w' := by
  have hn := neg_wrap a b c
  go_enter Try.func4, Try.ntmps4
  go_wp2_with fail
  refine (det_any a b c _).mono ?_
  rintro e w1 ⟨rfl, hb1⟩
  have F1 := (B3.new w a b c).next hb1
  have a0 := F1.a.c0
  have a1 := F1.a.c1
  have a2 := F1.a.c2
  have b0 := F1.b.c0
  have b1 := F1.b.c1
  have b2 := F1.b.c2
  have c0 := F1.c.c0
  have c1 := F1.c.c1
  have c2 := F1.c.c2
  go_wp2_with fail
  refine (det_anyr a b c _).mono ?_
  rintro e w2 ⟨rfl, hb2⟩
  have F2 := F1.next hb2
  clear a0 a1 a2 b0 b1 b2 c0 c1 c2
  have a0 := F2.a.c0
  have a1 := F2.a.c1
  have a2 := F2.a.c2
  have b0 := F2.b.c0
  have b1 := F2.b.c1
  have b2 := F2.b.c2
  have c0 := F2.c.c0
  have c1 := F2.c.c1
  have c2 := F2.c.c2
  go_wp2_with fail
  refine (det_is (pdet_rot a b c) _).mono ?_
  rintro e w3 ⟨rfl, hb3⟩
  have F3 := F2.next hb3
  clear a0 a1 a2 b0 b1 b2 c0 c1 c2
  have a0 := F3.a.c0
  have a1 := F3.a.c1
  have a2 := F3.a.c2
  have b0 := F3.b.c0
  have b1 := F3.b.c1
  have b2 := F3.b.c2
  have c0 := F3.c.c0
  have c1 := F3.c.c1
  have c2 := F3.c.c2
  go_wp2_with fail
  refine (det_is (pdet_swap1 a b c) _).mono ?_
  rintro e w4 ⟨rfl, hb4⟩
  have F4 := F3.next hb4
  clear a0 a1 a2 b0 b1 b2 c0 c1 c2
  have a0 := F4.a.c0
  have a1 := F4.a.c1
  have a2 := F4.a.c2
  have b0 := F4.b.c0
  have b1 := F4.b.c1
  have b2 := F4.b.c2
  have c0 := F4.c.c0
  have c1 := F4.c.c1
  have c2 := F4.c.c2
  go_wp2_with fail
  refine (det_is (pdet_swap2 a b c) _).mono ?_
  rintro e w5 ⟨rfl, hb5⟩
  have F5 := F4.next hb5
  clear a0 a1 a2 b0 b1 b2 c0 c1 c2
  have a0 := F5.a.c0
  have a1 := F5.a.c1
  have a2 := F5.a.c2
  have b0 := F5.b.c0
  have b1 := F5.b.c1
  have b2 := F5.b.c2
  have c0 := F5.c.c0
  have c1 := F5.c.c1
  have c2 := F5.c.c2
  go_wp2_with fail
  refine (det_is (pdet_same1 a b) _).mono ?_
  rintro e w6 ⟨rfl, hb6⟩
  have F6 := F5.next hb6
  clear a0 a1 a2 b0 b1 b2 c0 c1 c2
  have a0 := F6.a.c0
  have a1 := F6.a.c1
  have a2 := F6.a.c2
  have b0 := F6.b.c0
  have b1 := F6.b.c1
  have b2 := F6.b.c2
  have c0 := F6.c.c0
  have c1 := F6.c.c1
  have c2 := F6.c.c2
  go_wp2_with fail
  refine (det_is (pdet_same2 a b) _).mono ?_
  rintro e w7 ⟨rfl, hb7⟩
  have F7 := F6.next hb7
  clear a0 a1 a2 b0 b1 b2 c0 c1 c2
  have a0 := F7.a.c0
  have a1 := F7.a.c1
  have a2 := F7.a.c2
  have b0 := F7.b.c0
  have b1 := F7.b.c1
  have b2 := F7.b.c2
  have c0 := F7.c.c0
  have c1 := F7.c.c1
  have c2 := F7.c.c2
  go_wp2_with fail
  refine (awake_any _).mono ?_
  rintro e w8 ⟨rfl, hb8⟩
  have F8 := F7.next hb8
  clear a0 a1 a2 b0 b1 b2 c0 c1 c2
  have a0 := F8.a.c0
  have a1 := F8.a.c1
  have a2 := F8.a.c2
  have b0 := F8.b.c0
  have b1 := F8.b.c1
  have b2 := F8.b.c2
  have c0 := F8.c.c0
  have c1 := F8.c.c1
  have c2 := F8.c.c2
  go_wp2_with fail
  go_ret
  exact ⟨rfl, F8.hB⟩
end Go.Proofs.Ythhlofcponekhaa
