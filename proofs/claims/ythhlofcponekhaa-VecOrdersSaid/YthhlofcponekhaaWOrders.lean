/- VecOrders' walk. Printed by laws.py. -/
import Derived.Test.YthhlofcponekhaaAwake
namespace Go.Proofs.Ythhlofcponekhaa
open Go.ChangeShapes Go.WideShapes Go.ChangeAt Go.RowKit
theorem less_isr {a b : V} {r : Bool} (h : decide (PLess a b) = r) (w : World) :
    Calls Try.prog 22 #[.agg #[.int .i64 a.x, .int .i64 a.y, .int .i64 a.z], .agg #[.int .i64 b.x, .int .i64 b.y, .int .i64 b.z]] w fun e w' => e = .returned (.bool r) ∧ Below w.heap.size w w' := h ▸ less_anyr a b w
theorem less_irr (a : V) : decide (PLess a a) = false := by refine decide_eq_false ?_; unfold PLess; omega
theorem less_asym {a b : V} (h : PLess a b) : decide (PLess b a) = false := by refine decide_eq_false ?_; unfold PLess at h ⊢; omega
theorem less_trans {a b c : V} (h : PLess a b) (k : PLess b c) : decide (PLess a c) = true := by refine decide_eq_true ?_; unfold PLess at h k ⊢; omega
theorem less_none {a b : V} (h : ¬ PLess a b) (k : ¬ PLess b a) : a = b := by
  cases a; cases b
  unfold PLess at h k
  dsimp only at h k
  simp only [V.mk.injEq]
  omega
theorem less_ne {a b : V} (h : PLess a b ∨ PLess b a) : a.x ≠ b.x ∨ (a.x = b.x ∧ a.y ≠ b.y) ∨ (a.x = b.x ∧ a.y = b.y ∧ a.z ≠ b.z) := by
  unfold PLess at h
  omega

set_option maxRecDepth 100000 in
set_option maxHeartbeats 2000000 in
theorem orders_A1 {a b c : V} (e1 : decide (PLess a b) = true) (e2 : decide (PLess b a) = false) (e3 : decide (PLess b c) = true) (e4 : decide (PLess a c) = true) (NE : Hid (a.x ≠ b.x ∨ (a.x = b.x ∧ a.y ≠ b.y) ∨ (a.x = b.x ∧ a.y = b.y ∧ a.z ≠ b.z))) (w : World) : Calls Try.prog 6 #[.agg #[.int .i64 a.x, .int .i64 a.y, .int .i64 a.z], .agg #[.int .i64 b.x, .int .i64 b.y, .int .i64 b.z], .agg #[.int .i64 c.x, .int .i64 c.y, .int .i64 c.z]] w fun e w' => e = .returned (.bool true) ∧ Below w.heap.size w w' := by
  go_enter Try.func6, Try.ntmps6
  go_wp2_with fail
  refine wp_quiet_in (B3 w a b c) (by kernel_rfl) (by kernel_rfl) (B3.new w a b c).drew ?_
  repeat (first
    | go_big_quiet_skip
    | (go_big_quiet_want
       first
         | (refine quiet_load 3 rfl rfl (fun _ h => B3.a h) ?_; go_simp; go_big_quiet_on)
         | (refine quiet_load 4 rfl rfl (fun _ h => B3.b h) ?_; go_simp; go_big_quiet_on)
         | (refine quiet_load 5 rfl rfl (fun _ h => B3.c h) ?_; go_simp; go_big_quiet_on)
         | (go_big_quiet_op
            first
              | go_big_quiet_on
              | (refine ⟨_, fun _ _ => rfl, ?_⟩; go_big_quiet_on)
              | (apply Exists.intro
                 refine ⟨fun w' h' => ?_, ?_⟩
                 · first
                     | (go_at_call 21; with_reducible exact B3.on h' (less_is e1 _))
                     | (go_at_call 22; with_reducible exact B3.on h' (less_isr e1 _))
                     | (go_at_call 21; with_reducible exact B3.on h' (less_is e2 _))
                     | (go_at_call 22; with_reducible exact B3.on h' (less_isr e2 _))
                     | (go_at_call 21; with_reducible exact B3.on h' (less_is e3 _))
                     | (go_at_call 22; with_reducible exact B3.on h' (less_isr e3 _))
                     | (go_at_call 21; with_reducible exact B3.on h' (less_is e4 _))
                     | (go_at_call 22; with_reducible exact B3.on h' (less_isr e4 _))
                     | (go_at_call 21; with_reducible exact B3.on h' (less_is (less_irr _) _))
                     | (go_at_call 22; with_reducible exact B3.on h' (less_isr (less_irr _) _))
                     | (go_at_call 18; with_reducible exact B3.on h' (awake_any _))
                 go_big_quiet_on)
              | (refine ⟨.bool true, fun _ _ => (by rcases NE.out with k1 | ⟨k1, k2⟩ | ⟨k1, k2, k3⟩ <;> simp [*]), ?_⟩; go_big_quiet_on)
         )))
  refine wpQuiet_nil ?_
  intro w0 F0
  have a0 := F0.a.c0
  have a1 := F0.a.c1
  have a2 := F0.a.c2
  have b0 := F0.b.c0
  have b1 := F0.b.c1
  have b2 := F0.b.c2
  have c0 := F0.c.c0
  have c1 := F0.c.c1
  have c2 := F0.c.c2
  repeat (
    go_wp2_with fail
    first
      | (go_at_call 21; with_reducible refine (less_is e1 _).mono ?_)
      | (go_at_call 22; with_reducible refine (less_isr e1 _).mono ?_)
      | (go_at_call 21; with_reducible refine (less_is e2 _).mono ?_)
      | (go_at_call 22; with_reducible refine (less_isr e2 _).mono ?_)
      | (go_at_call 21; with_reducible refine (less_is e3 _).mono ?_)
      | (go_at_call 22; with_reducible refine (less_isr e3 _).mono ?_)
      | (go_at_call 21; with_reducible refine (less_is e4 _).mono ?_)
      | (go_at_call 22; with_reducible refine (less_isr e4 _).mono ?_)
      | (go_at_call 21; with_reducible refine (less_is (less_irr _) _).mono ?_)
      | (go_at_call 22; with_reducible refine (less_isr (less_irr _) _).mono ?_)
      | (go_at_call 18; with_reducible refine (awake_any _).mono ?_)
    rintro e wn ⟨rfl, hbn⟩
    replace F0 := B3.next F0 hbn
    clear hbn a0 a1 a2 b0 b1 b2 c0 c1 c2
    have a0 := F0.a.c0
    have a1 := F0.a.c1
    have a2 := F0.a.c2
    have b0 := F0.b.c0
    have b1 := F0.b.c1
    have b2 := F0.b.c2
    have c0 := F0.c.c0
    have c1 := F0.c.c1
    have c2 := F0.c.c2)
  go_wp2_with fail
  go_ret
  exact ⟨rfl, F0.hB⟩

set_option maxRecDepth 100000 in
set_option maxHeartbeats 2000000 in
theorem orders_A2 {a b c : V} (e1 : decide (PLess a b) = true) (e2 : decide (PLess b a) = false) (e3 : decide (PLess b c) = false) (NE : Hid (a.x ≠ b.x ∨ (a.x = b.x ∧ a.y ≠ b.y) ∨ (a.x = b.x ∧ a.y = b.y ∧ a.z ≠ b.z))) (w : World) : Calls Try.prog 6 #[.agg #[.int .i64 a.x, .int .i64 a.y, .int .i64 a.z], .agg #[.int .i64 b.x, .int .i64 b.y, .int .i64 b.z], .agg #[.int .i64 c.x, .int .i64 c.y, .int .i64 c.z]] w fun e w' => e = .returned (.bool true) ∧ Below w.heap.size w w' := by
  go_enter Try.func6, Try.ntmps6
  go_wp2_with fail
  refine wp_quiet_in (B3 w a b c) (by kernel_rfl) (by kernel_rfl) (B3.new w a b c).drew ?_
  repeat (first
    | go_big_quiet_skip
    | (go_big_quiet_want
       first
         | (refine quiet_load 3 rfl rfl (fun _ h => B3.a h) ?_; go_simp; go_big_quiet_on)
         | (refine quiet_load 4 rfl rfl (fun _ h => B3.b h) ?_; go_simp; go_big_quiet_on)
         | (refine quiet_load 5 rfl rfl (fun _ h => B3.c h) ?_; go_simp; go_big_quiet_on)
         | (go_big_quiet_op
            first
              | go_big_quiet_on
              | (refine ⟨_, fun _ _ => rfl, ?_⟩; go_big_quiet_on)
              | (apply Exists.intro
                 refine ⟨fun w' h' => ?_, ?_⟩
                 · first
                     | (go_at_call 21; with_reducible exact B3.on h' (less_is e1 _))
                     | (go_at_call 22; with_reducible exact B3.on h' (less_isr e1 _))
                     | (go_at_call 21; with_reducible exact B3.on h' (less_is e2 _))
                     | (go_at_call 22; with_reducible exact B3.on h' (less_isr e2 _))
                     | (go_at_call 21; with_reducible exact B3.on h' (less_is e3 _))
                     | (go_at_call 22; with_reducible exact B3.on h' (less_isr e3 _))
                     | (go_at_call 21; with_reducible exact B3.on h' (less_is (less_irr _) _))
                     | (go_at_call 22; with_reducible exact B3.on h' (less_isr (less_irr _) _))
                     | (go_at_call 18; with_reducible exact B3.on h' (awake_any _))
                 go_big_quiet_on)
              | (refine ⟨.bool true, fun _ _ => (by rcases NE.out with k1 | ⟨k1, k2⟩ | ⟨k1, k2, k3⟩ <;> simp [*]), ?_⟩; go_big_quiet_on)
         )))
  refine wpQuiet_nil ?_
  intro w0 F0
  have a0 := F0.a.c0
  have a1 := F0.a.c1
  have a2 := F0.a.c2
  have b0 := F0.b.c0
  have b1 := F0.b.c1
  have b2 := F0.b.c2
  have c0 := F0.c.c0
  have c1 := F0.c.c1
  have c2 := F0.c.c2
  repeat (
    go_wp2_with fail
    first
      | (go_at_call 21; with_reducible refine (less_is e1 _).mono ?_)
      | (go_at_call 22; with_reducible refine (less_isr e1 _).mono ?_)
      | (go_at_call 21; with_reducible refine (less_is e2 _).mono ?_)
      | (go_at_call 22; with_reducible refine (less_isr e2 _).mono ?_)
      | (go_at_call 21; with_reducible refine (less_is e3 _).mono ?_)
      | (go_at_call 22; with_reducible refine (less_isr e3 _).mono ?_)
      | (go_at_call 21; with_reducible refine (less_is (less_irr _) _).mono ?_)
      | (go_at_call 22; with_reducible refine (less_isr (less_irr _) _).mono ?_)
      | (go_at_call 18; with_reducible refine (awake_any _).mono ?_)
    rintro e wn ⟨rfl, hbn⟩
    replace F0 := B3.next F0 hbn
    clear hbn a0 a1 a2 b0 b1 b2 c0 c1 c2
    have a0 := F0.a.c0
    have a1 := F0.a.c1
    have a2 := F0.a.c2
    have b0 := F0.b.c0
    have b1 := F0.b.c1
    have b2 := F0.b.c2
    have c0 := F0.c.c0
    have c1 := F0.c.c1
    have c2 := F0.c.c2)
  go_wp2_with fail
  go_ret
  exact ⟨rfl, F0.hB⟩

set_option maxRecDepth 100000 in
set_option maxHeartbeats 2000000 in
theorem orders_B {a b c : V} (e1 : decide (PLess a b) = false) (e2 : decide (PLess b a) = true) (NE : Hid (a.x ≠ b.x ∨ (a.x = b.x ∧ a.y ≠ b.y) ∨ (a.x = b.x ∧ a.y = b.y ∧ a.z ≠ b.z))) (w : World) : Calls Try.prog 6 #[.agg #[.int .i64 a.x, .int .i64 a.y, .int .i64 a.z], .agg #[.int .i64 b.x, .int .i64 b.y, .int .i64 b.z], .agg #[.int .i64 c.x, .int .i64 c.y, .int .i64 c.z]] w fun e w' => e = .returned (.bool true) ∧ Below w.heap.size w w' := by
  go_enter Try.func6, Try.ntmps6
  go_wp2_with fail
  refine wp_quiet_in (B3 w a b c) (by kernel_rfl) (by kernel_rfl) (B3.new w a b c).drew ?_
  repeat (first
    | go_big_quiet_skip
    | (go_big_quiet_want
       first
         | (refine quiet_load 3 rfl rfl (fun _ h => B3.a h) ?_; go_simp; go_big_quiet_on)
         | (refine quiet_load 4 rfl rfl (fun _ h => B3.b h) ?_; go_simp; go_big_quiet_on)
         | (refine quiet_load 5 rfl rfl (fun _ h => B3.c h) ?_; go_simp; go_big_quiet_on)
         | (go_big_quiet_op
            first
              | go_big_quiet_on
              | (refine ⟨_, fun _ _ => rfl, ?_⟩; go_big_quiet_on)
              | (apply Exists.intro
                 refine ⟨fun w' h' => ?_, ?_⟩
                 · first
                     | (go_at_call 21; with_reducible exact B3.on h' (less_is e1 _))
                     | (go_at_call 22; with_reducible exact B3.on h' (less_isr e1 _))
                     | (go_at_call 21; with_reducible exact B3.on h' (less_is e2 _))
                     | (go_at_call 22; with_reducible exact B3.on h' (less_isr e2 _))
                     | (go_at_call 21; with_reducible exact B3.on h' (less_is (less_irr _) _))
                     | (go_at_call 22; with_reducible exact B3.on h' (less_isr (less_irr _) _))
                     | (go_at_call 18; with_reducible exact B3.on h' (awake_any _))
                 go_big_quiet_on)
              | (refine ⟨.bool true, fun _ _ => (by rcases NE.out with k1 | ⟨k1, k2⟩ | ⟨k1, k2, k3⟩ <;> simp [*]), ?_⟩; go_big_quiet_on)
         )))
  refine wpQuiet_nil ?_
  intro w0 F0
  have a0 := F0.a.c0
  have a1 := F0.a.c1
  have a2 := F0.a.c2
  have b0 := F0.b.c0
  have b1 := F0.b.c1
  have b2 := F0.b.c2
  have c0 := F0.c.c0
  have c1 := F0.c.c1
  have c2 := F0.c.c2
  repeat (
    go_wp2_with fail
    first
      | (go_at_call 21; with_reducible refine (less_is e1 _).mono ?_)
      | (go_at_call 22; with_reducible refine (less_isr e1 _).mono ?_)
      | (go_at_call 21; with_reducible refine (less_is e2 _).mono ?_)
      | (go_at_call 22; with_reducible refine (less_isr e2 _).mono ?_)
      | (go_at_call 21; with_reducible refine (less_is (less_irr _) _).mono ?_)
      | (go_at_call 22; with_reducible refine (less_isr (less_irr _) _).mono ?_)
      | (go_at_call 18; with_reducible refine (awake_any _).mono ?_)
    rintro e wn ⟨rfl, hbn⟩
    replace F0 := B3.next F0 hbn
    clear hbn a0 a1 a2 b0 b1 b2 c0 c1 c2
    have a0 := F0.a.c0
    have a1 := F0.a.c1
    have a2 := F0.a.c2
    have b0 := F0.b.c0
    have b1 := F0.b.c1
    have b2 := F0.b.c2
    have c0 := F0.c.c0
    have c1 := F0.c.c1
    have c2 := F0.c.c2)
  go_wp2_with fail
  go_ret
  exact ⟨rfl, F0.hB⟩

set_option maxRecDepth 100000 in
set_option maxHeartbeats 2000000 in
theorem orders_C {a c : V} (w : World) : Calls Try.prog 6 #[.agg #[.int .i64 a.x, .int .i64 a.y, .int .i64 a.z], .agg #[.int .i64 a.x, .int .i64 a.y, .int .i64 a.z], .agg #[.int .i64 c.x, .int .i64 c.y, .int .i64 c.z]] w fun e w' => e = .returned (.bool true) ∧ Below w.heap.size w w' := by
  go_enter Try.func6, Try.ntmps6
  go_wp2_with fail
  refine wp_quiet_in (B3 w a a c) (by kernel_rfl) (by kernel_rfl) (B3.new w a a c).drew ?_
  repeat (first
    | go_big_quiet_skip
    | (go_big_quiet_want
       first
         | (refine quiet_load 3 rfl rfl (fun _ h => B3.a h) ?_; go_simp; go_big_quiet_on)
         | (refine quiet_load 4 rfl rfl (fun _ h => B3.b h) ?_; go_simp; go_big_quiet_on)
         | (refine quiet_load 5 rfl rfl (fun _ h => B3.c h) ?_; go_simp; go_big_quiet_on)
         | (go_big_quiet_op
            first
              | go_big_quiet_on
              | (refine ⟨_, fun _ _ => rfl, ?_⟩; go_big_quiet_on)
              | (apply Exists.intro
                 refine ⟨fun w' h' => ?_, ?_⟩
                 · first
                     | (go_at_call 21; with_reducible exact B3.on h' (less_is (less_irr _) _))
                     | (go_at_call 22; with_reducible exact B3.on h' (less_isr (less_irr _) _))
                     | (go_at_call 18; with_reducible exact B3.on h' (awake_any _))
                 go_big_quiet_on)
         )))
  refine wpQuiet_nil ?_
  intro w0 F0
  have a0 := F0.a.c0
  have a1 := F0.a.c1
  have a2 := F0.a.c2
  have b0 := F0.b.c0
  have b1 := F0.b.c1
  have b2 := F0.b.c2
  have c0 := F0.c.c0
  have c1 := F0.c.c1
  have c2 := F0.c.c2
  repeat (
    go_wp2_with fail
    first
      | (go_at_call 21; with_reducible refine (less_is (less_irr _) _).mono ?_)
      | (go_at_call 22; with_reducible refine (less_isr (less_irr _) _).mono ?_)
      | (go_at_call 18; with_reducible refine (awake_any _).mono ?_)
    rintro e wn ⟨rfl, hbn⟩
    replace F0 := B3.next F0 hbn
    clear hbn a0 a1 a2 b0 b1 b2 c0 c1 c2
    have a0 := F0.a.c0
    have a1 := F0.a.c1
    have a2 := F0.a.c2
    have b0 := F0.b.c0
    have b1 := F0.b.c1
    have b2 := F0.b.c2
    have c0 := F0.c.c0
    have c1 := F0.c.c1
    have c2 := F0.c.c2)
  go_wp2_with fail
  go_ret
  exact ⟨rfl, F0.hB⟩

theorem vecOrders_walk (a b c : V) (w : World) : Calls Try.prog 6 #[.agg #[.int .i64 a.x, .int .i64 a.y, .int .i64 a.z], .agg #[.int .i64 b.x, .int .i64 b.y, .int .i64 b.z], .agg #[.int .i64 c.x, .int .i64 c.y, .int .i64 c.z]] w fun e w' => e = .returned (.bool true) ∧ Below w.heap.size w w' := by
  by_cases h : PLess a b
  · by_cases k : PLess b c
    · exact orders_A1 (decide_eq_true h) (less_asym h) (decide_eq_true k) (less_trans h k) (Lib.hid (less_ne (.inl h))) w
    · exact orders_A2 (decide_eq_true h) (less_asym h) (decide_eq_false k) (Lib.hid (less_ne (.inl h))) w
  · by_cases k : PLess b a
    · exact orders_B (decide_eq_false h) (decide_eq_true k) (Lib.hid (less_ne (.inr k))) w
    · obtain rfl := less_none h k
      exact orders_C w
end Go.Proofs.Ythhlofcponekhaa
