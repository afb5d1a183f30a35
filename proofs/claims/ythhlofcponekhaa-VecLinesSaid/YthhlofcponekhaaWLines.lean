/- VecLines' walk. Printed by laws.py. -/
import Derived.Test.YthhlofcponekhaaAwake
namespace Go.Proofs.Ythhlofcponekhaa
open Go.ChangeShapes Go.WideShapes Go.ChangeAt Go.RowKit
theorem col_facts {a b c : V} (ha : a.In 65536) (hb : b.In 65536) (hc : c.In 65536) : pcross (psub b a) (psub c a) =
    ⟨(b.y - a.y) * (c.z - a.z) - (b.z - a.z) * (c.y - a.y), (b.z - a.z) * (c.x - a.x) - (b.x - a.x) * (c.z - a.z), (b.x - a.x) * (c.y - a.y) - (b.y - a.y) * (c.x - a.x)⟩ := by
  rw [psub_yes hb ha, psub_yes hc ha, pcross_yes]
  · unfold V.In at ha hb ⊢; dsimp only; omega
  · unfold V.In at ha hc ⊢; dsimp only; omega
theorem pcol_rot (a b c : V) : pcol b c a = pcol a b c := by
  by_cases h : a.In 65536 ∧ b.In 65536 ∧ c.In 65536
  · obtain ⟨ha, hb, hc⟩ := h
    rw [pcol_yes ha hb hc, pcol_yes hb hc ha, col_facts ha hb hc, col_facts hb hc ha]
    refine decide_eq_decide.2 ?_
    unfold Z3
    simp only [Int.mul_sub, Int.sub_mul]
    simp only [Int.mul_comm]
    omega
  · rw [pcol_no h, pcol_no fun k => h ⟨k.2.2, k.1, k.2.1⟩]
theorem pcol_swap (a b c : V) : pcol b a c = pcol a b c := by
  by_cases h : a.In 65536 ∧ b.In 65536 ∧ c.In 65536
  · obtain ⟨ha, hb, hc⟩ := h
    rw [pcol_yes ha hb hc, pcol_yes hb ha hc, col_facts ha hb hc, col_facts hb ha hc]
    refine decide_eq_decide.2 ?_
    unfold Z3
    simp only [Int.mul_sub, Int.sub_mul]
    simp only [Int.mul_comm]
    omega
  · rw [pcol_no h, pcol_no fun k => h ⟨k.2.1, k.1, k.2.2⟩]
set_option maxRecDepth 100000 in
set_option maxHeartbeats 2000000 in
theorem vecLines_walk (a b c : V) (w : World) : Calls Try.prog 8 #[.agg #[.int .i64 a.x, .int .i64 a.y, .int .i64 a.z], .agg #[.int .i64 b.x, .int .i64 b.y, .int .i64 b.z], .agg #[.int .i64 c.x, .int .i64 c.y, .int .i64 c.z]] w fun e w' => e = .returned (.bool true) ∧ Below w.heap.size w w' := by
  go_enter Try.func8, Try.ntmps8
  go_wp2_with fail
  refine (col_any a b c _).mono ?_
  rintro e w1 ⟨rfl, hb1⟩
  have F1 := (B3.new w a b c).next hb1
  have a0 := F1.a.c0
  have a1 := F1.a.c1
  have a2 := F1.a.c2
  have b0 := F1.b.c0
  have b1 := F1.b.c1
  have b2 := F1.b.c2
  have c0 := F1.c.c0
  have c1 := F1.c.c1
  have c2 := F1.c.c2
  go_wp2_with fail
  refine (col_anyr a b c _).mono ?_
  rintro e w2 ⟨rfl, hb2⟩
  have F2 := F1.next hb2
  clear a0 a1 a2 b0 b1 b2 c0 c1 c2
  have a0 := F2.a.c0
  have a1 := F2.a.c1
  have a2 := F2.a.c2
  have b0 := F2.b.c0
  have b1 := F2.b.c1
  have b2 := F2.b.c2
  have c0 := F2.c.c0
  have c1 := F2.c.c1
  have c2 := F2.c.c2
  go_wp2_with fail
  refine (col_is (pcol_rot a b c) _).mono ?_
  rintro e w3 ⟨rfl, hb3⟩
  have F3 := F2.next hb3
  clear a0 a1 a2 b0 b1 b2 c0 c1 c2
  have a0 := F3.a.c0
  have a1 := F3.a.c1
  have a2 := F3.a.c2
  have b0 := F3.b.c0
  have b1 := F3.b.c1
  have b2 := F3.b.c2
  have c0 := F3.c.c0
  have c1 := F3.c.c1
  have c2 := F3.c.c2
  go_wp2_with fail
  refine (col_is (pcol_swap a b c) _).mono ?_
  rintro e w4 ⟨rfl, hb4⟩
  have F4 := F3.next hb4
  clear a0 a1 a2 b0 b1 b2 c0 c1 c2
  have a0 := F4.a.c0
  have a1 := F4.a.c1
  have a2 := F4.a.c2
  have b0 := F4.b.c0
  have b1 := F4.b.c1
  have b2 := F4.b.c2
  have c0 := F4.c.c0
  have c1 := F4.c.c1
  have c2 := F4.c.c2
  go_wp2_with fail
  refine (awake_any _).mono ?_
  rintro e w5 ⟨rfl, hb5⟩
  have F5 := F4.next hb5
  clear a0 a1 a2 b0 b1 b2 c0 c1 c2
  have a0 := F5.a.c0
  have a1 := F5.a.c1
  have a2 := F5.a.c2
  have b0 := F5.b.c0
  have b1 := F5.b.c1
  have b2 := F5.b.c2
  have c0 := F5.c.c0
  have c1 := F5.c.c1
  have c2 := F5.c.c2
  go_wp2_with fail
  go_ret
  exact ⟨rfl, F5.hB⟩
end Go.Proofs.Ythhlofcponekhaa
