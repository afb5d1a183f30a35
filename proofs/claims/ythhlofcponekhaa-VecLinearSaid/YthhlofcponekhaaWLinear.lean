/- VecLinear's walk. Printed by laws.py. -/
import Derived.Test.YthhlofcponekhaaAwake
import Derived.Test.YthhlofcponekhaaAlg
namespace Go.Proofs.Ythhlofcponekhaa
open Go.ChangeShapes Go.WideShapes Go.ChangeAt Go.RowKit
/-- The law's own copy of its argument. -/
structure L4 (w : World) (a b c d : V) (w1 : World) : Prop where
  row : w1.heap[w.heap.size]? = some (.cells #[.int .i64 a.x, .int .i64 a.y, .int .i64 a.z, .int .i64 b.x, .int .i64 b.y, .int .i64 b.z, .int .i64 c.x, .int .i64 c.y, .int .i64 c.z, .int .i64 d.x, .int .i64 d.y, .int .i64 d.z] 32)
  hB : Below w.heap.size w w1
  hZ : w.heap.size < w1.heap.size
theorem L4.next {w u v : World} {a b c d : V} (h : L4 w a b c d u) (hb : Below u.heap.size u v) : L4 w a b c d v := ⟨(hb.block _ h.hZ).trans h.row, below_next h.hB hb, Nat.lt_of_lt_of_le h.hZ hb.size⟩
theorem L4.new (w : World) (a b c d : V) : L4 w a b c d (w.alloc (.cells #[.int .i64 a.x, .int .i64 a.y, .int .i64 a.z, .int .i64 b.x, .int .i64 b.y, .int .i64 b.z, .int .i64 c.x, .int .i64 c.y, .int .i64 c.z, .int .i64 d.x, .int .i64 d.y, .int .i64 d.z] 32)) := ⟨heap_alloc_new w _, below_alloc _ _, by simp⟩
theorem L4.on {w w' : World} {a b c d : V} {f : FuncId} {args : Array Value} {v : Value} (h' : L4 w a b c d w') (h : Calls Try.prog f args w' fun e w'' => e = .returned v ∧ Below w'.heap.size w' w'') :
    Calls Try.prog f args w' fun e w'' => e = .returned v ∧ L4 w a b c d w'' := h.mono fun _ _ ⟨he, hb⟩ => ⟨he, h'.next hb⟩
theorem L4.drew {w w' : World} {a b c d : V} (h : L4 w a b c d w') : L4 w a b c d { w' with drawn := w'.drawn + 1 } := ⟨h.row, h.hB.drew, h.hZ⟩
theorem L4.k0 {w w1 : World} {a b c d : V} (h : L4 w a b c d w1) : w1.cell? ⟨w.heap.size, 0, none⟩ = some (.int .i64 a.x) := cell_of_row _ _ _ _ _ _ h.row
theorem L4.k1 {w w1 : World} {a b c d : V} (h : L4 w a b c d w1) : w1.cell? ⟨w.heap.size, 1, none⟩ = some (.int .i64 a.y) := cell_of_row _ _ _ _ _ _ h.row
theorem L4.k2 {w w1 : World} {a b c d : V} (h : L4 w a b c d w1) : w1.cell? ⟨w.heap.size, 2, none⟩ = some (.int .i64 a.z) := cell_of_row _ _ _ _ _ _ h.row
theorem L4.k3 {w w1 : World} {a b c d : V} (h : L4 w a b c d w1) : w1.cell? ⟨w.heap.size, 3, none⟩ = some (.int .i64 b.x) := cell_of_row _ _ _ _ _ _ h.row
theorem L4.k4 {w w1 : World} {a b c d : V} (h : L4 w a b c d w1) : w1.cell? ⟨w.heap.size, 4, none⟩ = some (.int .i64 b.y) := cell_of_row _ _ _ _ _ _ h.row
theorem L4.k5 {w w1 : World} {a b c d : V} (h : L4 w a b c d w1) : w1.cell? ⟨w.heap.size, 5, none⟩ = some (.int .i64 b.z) := cell_of_row _ _ _ _ _ _ h.row
theorem L4.k6 {w w1 : World} {a b c d : V} (h : L4 w a b c d w1) : w1.cell? ⟨w.heap.size, 6, none⟩ = some (.int .i64 c.x) := cell_of_row _ _ _ _ _ _ h.row
theorem L4.k7 {w w1 : World} {a b c d : V} (h : L4 w a b c d w1) : w1.cell? ⟨w.heap.size, 7, none⟩ = some (.int .i64 c.y) := cell_of_row _ _ _ _ _ _ h.row
theorem L4.k8 {w w1 : World} {a b c d : V} (h : L4 w a b c d w1) : w1.cell? ⟨w.heap.size, 8, none⟩ = some (.int .i64 c.z) := cell_of_row _ _ _ _ _ _ h.row
theorem L4.k9 {w w1 : World} {a b c d : V} (h : L4 w a b c d w1) : w1.cell? ⟨w.heap.size, 9, none⟩ = some (.int .i64 d.x) := cell_of_row _ _ _ _ _ _ h.row
theorem L4.k10 {w w1 : World} {a b c d : V} (h : L4 w a b c d w1) : w1.cell? ⟨w.heap.size, 10, none⟩ = some (.int .i64 d.y) := cell_of_row _ _ _ _ _ _ h.row
theorem L4.k11 {w w1 : World} {a b c d : V} (h : L4 w a b c d w1) : w1.cell? ⟨w.heap.size, 11, none⟩ = some (.int .i64 d.z) := cell_of_row _ _ _ _ _ _ h.row
theorem quiet_load_at {b o : Nat} {x y z : Int} {q : Oper} {a : Act} {C : World → Prop} {K : Act → Prop} (i : Nat) (h : q.op = .load 23 (.tmp i)) (ha : a.eval (.tmp i) = .pointer (some ⟨b, o, none⟩))
    (hC : ∀ w, C w → w.cell? ⟨b, o, none⟩ = some (.int .i64 x) ∧ w.cell? ⟨b, o + 1, none⟩ = some (.int .i64 y) ∧ w.cell? ⟨b, o + 2, none⟩ = some (.int .i64 z))
    (hk : K (a.put q.dst (.agg #[.int .i64 x, .int .i64 y, .int .i64 z]))) : q.quiet Try.prog a C K := by
  refine ⟨_, fun w' h' => ?_, hk⟩
  obtain ⟨d0, d1, d2⟩ := hC w' h'
  obtain ⟨dst, op, type, pos, after, guard⟩ := q
  dsimp only at h
  subst h
  unfold Oper.quietAt execOp
  simp only [ha]
  go_simp
theorem valid_is {a : V} {r : Bool} (h : decide (a.In 65536) = r) (w : World) : Calls Try.prog 10 #[.agg #[.int .i64 a.x, .int .i64 a.y, .int .i64 a.z]] w fun e w' => e = .returned (.bool r) ∧ Below w.heap.size w w' := h ▸ valid_any a w
theorem sub_wrap (a b c d : V) : wrap64 (pdet a c d - pdet b c d) = pdet a c d - pdet b c d := by
  have := pdet_in a c d
  have := pdet_in b c d
  unfold wrap64; omega

set_option maxRecDepth 100000 in
set_option maxHeartbeats 2000000 in
theorem linear_0 {a b c d : V} (e1 : decide (a.In 65536) = true) (e2 : decide (b.In 65536) = true) (e3 : decide (c.In 65536) = true) (e4 : decide (d.In 65536) = true) (e5 : pdet (psub a b) c d = pdet a c d - pdet b c d) (w : World) : Calls Try.prog 5 #[.agg #[.int .i64 a.x, .int .i64 a.y, .int .i64 a.z, .int .i64 b.x, .int .i64 b.y, .int .i64 b.z, .int .i64 c.x, .int .i64 c.y, .int .i64 c.z, .int .i64 d.x, .int .i64 d.y, .int .i64 d.z]] w fun e w' => e = .returned (.bool true) ∧ Below w.heap.size w w' := by
  go_enter Try.func5, Try.ntmps5
  have F0 := L4.new w a b c d
  have k0 := F0.k0
  have k1 := F0.k1
  have k2 := F0.k2
  have k3 := F0.k3
  have k4 := F0.k4
  have k5 := F0.k5
  have k6 := F0.k6
  have k7 := F0.k7
  have k8 := F0.k8
  have k9 := F0.k9
  have k10 := F0.k10
  have k11 := F0.k11
  repeat (
    go_wp2_with fail
    first
      | (go_at_call 10; with_reducible refine (valid_is e1 _).mono ?_)
      | (go_at_call 10; with_reducible refine (valid_is e2 _).mono ?_)
      | (go_at_call 10; with_reducible refine (valid_is e3 _).mono ?_)
      | (go_at_call 10; with_reducible refine (valid_is e4 _).mono ?_)
    rintro e wn ⟨rfl, hbn⟩
    replace F0 := L4.next F0 hbn
    clear k0 k1 k2 k3 k4 k5 k6 k7 k8 k9 k10 k11 hbn
    have k0 := F0.k0
    have k1 := F0.k1
    have k2 := F0.k2
    have k3 := F0.k3
    have k4 := F0.k4
    have k5 := F0.k5
    have k6 := F0.k6
    have k7 := F0.k7
    have k8 := F0.k8
    have k9 := F0.k9
    have k10 := F0.k10
    have k11 := F0.k11)
  go_wp2_with fail
  have hw := sub_wrap a b c d
  clear k0 k1 k2 k3 k4 k5 k6 k7 k8 k9 k10 k11
  refine wp_quiet_in (L4 w a b c d) (by kernel_rfl) (by kernel_rfl) F0.drew ?_
  repeat (first
    | go_big_quiet_skip
    | (go_big_quiet_want
       first
         | (refine quiet_load_at 26 rfl rfl (fun _ h => ⟨L4.k0 h, L4.k1 h, L4.k2 h⟩) ?_; go_simp; go_big_quiet_on)
         | (refine quiet_load_at 28 rfl rfl (fun _ h => ⟨L4.k3 h, L4.k4 h, L4.k5 h⟩) ?_; go_simp; go_big_quiet_on)
         | (refine quiet_load_at 31 rfl rfl (fun _ h => ⟨L4.k6 h, L4.k7 h, L4.k8 h⟩) ?_; go_simp; go_big_quiet_on)
         | (refine quiet_load_at 33 rfl rfl (fun _ h => ⟨L4.k9 h, L4.k10 h, L4.k11 h⟩) ?_; go_simp; go_big_quiet_on)
         | (refine quiet_load_at 36 rfl rfl (fun _ h => ⟨L4.k0 h, L4.k1 h, L4.k2 h⟩) ?_; go_simp; go_big_quiet_on)
         | (refine quiet_load_at 38 rfl rfl (fun _ h => ⟨L4.k6 h, L4.k7 h, L4.k8 h⟩) ?_; go_simp; go_big_quiet_on)
         | (refine quiet_load_at 40 rfl rfl (fun _ h => ⟨L4.k9 h, L4.k10 h, L4.k11 h⟩) ?_; go_simp; go_big_quiet_on)
         | (refine quiet_load_at 43 rfl rfl (fun _ h => ⟨L4.k3 h, L4.k4 h, L4.k5 h⟩) ?_; go_simp; go_big_quiet_on)
         | (refine quiet_load_at 45 rfl rfl (fun _ h => ⟨L4.k6 h, L4.k7 h, L4.k8 h⟩) ?_; go_simp; go_big_quiet_on)
         | (refine quiet_load_at 47 rfl rfl (fun _ h => ⟨L4.k9 h, L4.k10 h, L4.k11 h⟩) ?_; go_simp; go_big_quiet_on)
         | (go_big_quiet_op
            first
              | go_big_quiet_on
              | (refine ⟨_, fun _ _ => rfl, ?_⟩; go_big_quiet_on)
              | (apply Exists.intro
                 refine ⟨fun w' h' => ?_, ?_⟩
                 · first
                     | (go_at_call 12; with_reducible exact L4.on h' (sub_any _ _ _))
                     | (go_at_call 19; with_reducible exact L4.on h' (det_is e5 _))
                     | (go_at_call 19; with_reducible exact L4.on h' (det_any a c d _))
                     | (go_at_call 19; with_reducible exact L4.on h' (det_any b c d _))
                     | (go_at_call 18; with_reducible exact L4.on h' (awake_any _))
                 go_big_quiet_on)
         )))
  refine wpQuiet_nil ?_
  intro w0 F1
  go_wp2_with fail
  go_ret
  exact ⟨rfl, F1.hB⟩

set_option maxRecDepth 100000 in
set_option maxHeartbeats 2000000 in
theorem linear_1 {a b c d : V} (e1 : decide (a.In 65536) = false) (w : World) : Calls Try.prog 5 #[.agg #[.int .i64 a.x, .int .i64 a.y, .int .i64 a.z, .int .i64 b.x, .int .i64 b.y, .int .i64 b.z, .int .i64 c.x, .int .i64 c.y, .int .i64 c.z, .int .i64 d.x, .int .i64 d.y, .int .i64 d.z]] w fun e w' => e = .returned (.bool true) ∧ Below w.heap.size w w' := by
  go_enter Try.func5, Try.ntmps5
  have F0 := L4.new w a b c d
  have k0 := F0.k0
  have k1 := F0.k1
  have k2 := F0.k2
  have k3 := F0.k3
  have k4 := F0.k4
  have k5 := F0.k5
  have k6 := F0.k6
  have k7 := F0.k7
  have k8 := F0.k8
  have k9 := F0.k9
  have k10 := F0.k10
  have k11 := F0.k11
  repeat (
    go_wp2_with fail
    first
      | (go_at_call 10; with_reducible refine (valid_is e1 _).mono ?_)
      | (go_at_call 18; with_reducible refine (awake_any _).mono ?_)
    rintro e wn ⟨rfl, hbn⟩
    replace F0 := L4.next F0 hbn
    clear k0 k1 k2 k3 k4 k5 k6 k7 k8 k9 k10 k11 hbn
    have k0 := F0.k0
    have k1 := F0.k1
    have k2 := F0.k2
    have k3 := F0.k3
    have k4 := F0.k4
    have k5 := F0.k5
    have k6 := F0.k6
    have k7 := F0.k7
    have k8 := F0.k8
    have k9 := F0.k9
    have k10 := F0.k10
    have k11 := F0.k11)
  go_wp2_with fail
  go_ret
  exact ⟨rfl, F0.hB⟩

set_option maxRecDepth 100000 in
set_option maxHeartbeats 2000000 in
theorem linear_2 {a b c d : V} (e1 : decide (a.In 65536) = true) (e2 : decide (b.In 65536) = false) (w : World) : Calls Try.prog 5 #[.agg #[.int .i64 a.x, .int .i64 a.y, .int .i64 a.z, .int .i64 b.x, .int .i64 b.y, .int .i64 b.z, .int .i64 c.x, .int .i64 c.y, .int .i64 c.z, .int .i64 d.x, .int .i64 d.y, .int .i64 d.z]] w fun e w' => e = .returned (.bool true) ∧ Below w.heap.size w w' := by
  go_enter Try.func5, Try.ntmps5
  have F0 := L4.new w a b c d
  have k0 := F0.k0
  have k1 := F0.k1
  have k2 := F0.k2
  have k3 := F0.k3
  have k4 := F0.k4
  have k5 := F0.k5
  have k6 := F0.k6
  have k7 := F0.k7
  have k8 := F0.k8
  have k9 := F0.k9
  have k10 := F0.k10
  have k11 := F0.k11
  repeat (
    go_wp2_with fail
    first
      | (go_at_call 10; with_reducible refine (valid_is e1 _).mono ?_)
      | (go_at_call 10; with_reducible refine (valid_is e2 _).mono ?_)
      | (go_at_call 18; with_reducible refine (awake_any _).mono ?_)
    rintro e wn ⟨rfl, hbn⟩
    replace F0 := L4.next F0 hbn
    clear k0 k1 k2 k3 k4 k5 k6 k7 k8 k9 k10 k11 hbn
    have k0 := F0.k0
    have k1 := F0.k1
    have k2 := F0.k2
    have k3 := F0.k3
    have k4 := F0.k4
    have k5 := F0.k5
    have k6 := F0.k6
    have k7 := F0.k7
    have k8 := F0.k8
    have k9 := F0.k9
    have k10 := F0.k10
    have k11 := F0.k11)
  go_wp2_with fail
  go_ret
  exact ⟨rfl, F0.hB⟩

set_option maxRecDepth 100000 in
set_option maxHeartbeats 2000000 in
theorem linear_3 {a b c d : V} (e1 : decide (a.In 65536) = true) (e2 : decide (b.In 65536) = true) (e3 : decide (c.In 65536) = false) (w : World) : Calls Try.prog 5 #[.agg #[.int .i64 a.x, .int .i64 a.y, .int .i64 a.z, .int .i64 b.x, .int .i64 b.y, .int .i64 b.z, .int .i64 c.x, .int .i64 c.y, .int .i64 c.z, .int .i64 d.x, .int .i64 d.y, .int .i64 d.z]] w fun e w' => e = .returned (.bool true) ∧ Below w.heap.size w w' := by
  go_enter Try.func5, Try.ntmps5
  have F0 := L4.new w a b c d
  have k0 := F0.k0
  have k1 := F0.k1
  have k2 := F0.k2
  have k3 := F0.k3
  have k4 := F0.k4
  have k5 := F0.k5
  have k6 := F0.k6
  have k7 := F0.k7
  have k8 := F0.k8
  have k9 := F0.k9
  have k10 := F0.k10
  have k11 := F0.k11
  repeat (
    go_wp2_with fail
    first
      | (go_at_call 10; with_reducible refine (valid_is e1 _).mono ?_)
      | (go_at_call 10; with_reducible refine (valid_is e2 _).mono ?_)
      | (go_at_call 10; with_reducible refine (valid_is e3 _).mono ?_)
      | (go_at_call 18; with_reducible refine (awake_any _).mono ?_)
    rintro e wn ⟨rfl, hbn⟩
    replace F0 := L4.next F0 hbn
    clear k0 k1 k2 k3 k4 k5 k6 k7 k8 k9 k10 k11 hbn
    have k0 := F0.k0
    have k1 := F0.k1
    have k2 := F0.k2
    have k3 := F0.k3
    have k4 := F0.k4
    have k5 := F0.k5
    have k6 := F0.k6
    have k7 := F0.k7
    have k8 := F0.k8
    have k9 := F0.k9
    have k10 := F0.k10
    have k11 := F0.k11)
  go_wp2_with fail
  go_ret
  exact ⟨rfl, F0.hB⟩

set_option maxRecDepth 100000 in
set_option maxHeartbeats 2000000 in
theorem linear_4 {a b c d : V} (e1 : decide (a.In 65536) = true) (e2 : decide (b.In 65536) = true) (e3 : decide (c.In 65536) = true) (e4 : decide (d.In 65536) = false) (w : World) : Calls Try.prog 5 #[.agg #[.int .i64 a.x, .int .i64 a.y, .int .i64 a.z, .int .i64 b.x, .int .i64 b.y, .int .i64 b.z, .int .i64 c.x, .int .i64 c.y, .int .i64 c.z, .int .i64 d.x, .int .i64 d.y, .int .i64 d.z]] w fun e w' => e = .returned (.bool true) ∧ Below w.heap.size w w' := by
  go_enter Try.func5, Try.ntmps5
  have F0 := L4.new w a b c d
  have k0 := F0.k0
  have k1 := F0.k1
  have k2 := F0.k2
  have k3 := F0.k3
  have k4 := F0.k4
  have k5 := F0.k5
  have k6 := F0.k6
  have k7 := F0.k7
  have k8 := F0.k8
  have k9 := F0.k9
  have k10 := F0.k10
  have k11 := F0.k11
  repeat (
    go_wp2_with fail
    first
      | (go_at_call 10; with_reducible refine (valid_is e1 _).mono ?_)
      | (go_at_call 10; with_reducible refine (valid_is e2 _).mono ?_)
      | (go_at_call 10; with_reducible refine (valid_is e3 _).mono ?_)
      | (go_at_call 10; with_reducible refine (valid_is e4 _).mono ?_)
      | (go_at_call 18; with_reducible refine (awake_any _).mono ?_)
    rintro e wn ⟨rfl, hbn⟩
    replace F0 := L4.next F0 hbn
    clear k0 k1 k2 k3 k4 k5 k6 k7 k8 k9 k10 k11 hbn
    have k0 := F0.k0
    have k1 := F0.k1
    have k2 := F0.k2
    have k3 := F0.k3
    have k4 := F0.k4
    have k5 := F0.k5
    have k6 := F0.k6
    have k7 := F0.k7
    have k8 := F0.k8
    have k9 := F0.k9
    have k10 := F0.k10
    have k11 := F0.k11)
  go_wp2_with fail
  go_ret
  exact ⟨rfl, F0.hB⟩

theorem vecLinear_walk (a b c d : V) (w : World) : Calls Try.prog 5 #[.agg #[.int .i64 a.x, .int .i64 a.y, .int .i64 a.z, .int .i64 b.x, .int .i64 b.y, .int .i64 b.z, .int .i64 c.x, .int .i64 c.y, .int .i64 c.z, .int .i64 d.x, .int .i64 d.y, .int .i64 d.z]] w fun e w' => e = .returned (.bool true) ∧ Below w.heap.size w w' := by
  by_cases h1 : a.In 65536
  · by_cases h2 : b.In 65536
    · by_cases h3 : c.In 65536
      · by_cases h4 : d.In 65536
        · exact linear_0 (decide_eq_true h1) (decide_eq_true h2) (decide_eq_true h3) (decide_eq_true h4) (pdet_sub h1 h2 h3 h4) w
        · exact linear_4 (decide_eq_true h1) (decide_eq_true h2) (decide_eq_true h3) (decide_eq_false h4) w
      · exact linear_3 (decide_eq_true h1) (decide_eq_true h2) (decide_eq_false h3) w
    · exact linear_2 (decide_eq_true h1) (decide_eq_false h2) w
  · exact linear_1 (decide_eq_false h1) w
end Go.Proofs.Ythhlofcponekhaa
