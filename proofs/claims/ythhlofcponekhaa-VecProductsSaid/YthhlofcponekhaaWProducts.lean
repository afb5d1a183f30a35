/- VecProducts' walk. Printed by laws.py. -/
import Derived.Test.YthhlofcponekhaaAwake
import Derived.Test.YthhlofcponekhaaAlg
namespace Go.Proofs.Ythhlofcponekhaa
open Go.ChangeShapes Go.WideShapes Go.ChangeAt Go.RowKit
/-- The law's own copies of its arguments, and the cross product in block p. -/
structure P3 (w : World) (a b c : V) (p : Nat) (w1 : World) : Prop where
  a : At w.heap.size a.x a.y a.z w1
  b : At (w.heap.size + 1) b.x b.y b.z w1
  c : At p c.x c.y c.z w1
  hB : Below w.heap.size w w1
theorem P3.next {w : World} {u v : World} {a b c : V} {p : Nat} (h : P3 w a b c p u) (hb : Below u.heap.size u v) : P3 w a b c p v := ⟨h.a.next hb, h.b.next hb, h.c.next hb, below_next h.hB hb⟩
theorem P3.on {w w' : World} {a b c : V} {p : Nat} {f : FuncId} {args : Array Value} {v : Value} (h' : P3 w a b c p w') (h : Calls Try.prog f args w' fun e w'' => e = .returned v ∧ Below w'.heap.size w' w'') :
    Calls Try.prog f args w' fun e w'' => e = .returned v ∧ P3 w a b c p w'' := h.mono fun _ _ ⟨he, hb⟩ => ⟨he, h'.next hb⟩
theorem P3.drew {w w' : World} {a b c : V} {p : Nat} (h : P3 w a b c p w') : P3 w a b c p { w' with drawn := w'.drawn + 1 } := ⟨⟨h.a.row⟩, ⟨h.b.row⟩, ⟨h.c.row⟩, h.hB.drew⟩
theorem lawsmall_is {a : V} {r : Bool} (h : decide (a.In 131072) = r) (w : World) : Calls Try.prog 17 #[.agg #[.int .i64 a.x, .int .i64 a.y, .int .i64 a.z]] w fun e w' => e = .returned (.bool r) ∧ Below w.heap.size w w' := h ▸ lawsmall_any a w
theorem dot_is {a b : V} {r : Int} (h : pdot a b = r) (w : World) : Calls Try.prog 15 #[.agg #[.int .i64 a.x, .int .i64 a.y, .int .i64 a.z], .agg #[.int .i64 b.x, .int .i64 b.y, .int .i64 b.z]] w fun e w' => e = .returned (.int .i64 r) ∧ Below w.heap.size w w' := h ▸ dot_any a b w

set_option maxRecDepth 100000 in
set_option maxHeartbeats 2000000 in
theorem products_1 {a b : V} (e1 : decide (a.In 131072) = true) (e2 : decide (b.In 131072) = true) (e3 : pdot a (pcross a b) = 0) (e4 : pdot b (pcross a b) = 0) (w : World) : Calls Try.prog 3 #[.agg #[.int .i64 a.x, .int .i64 a.y, .int .i64 a.z], .agg #[.int .i64 b.x, .int .i64 b.y, .int .i64 b.z]] w fun e w' => e = .returned (.bool true) ∧ Below w.heap.size w w' := by
  go_enter Try.func3, Try.ntmps3
  go_wp2_with fail
  refine (cross_any a b _).mono ?_
  rintro e w1 ⟨rfl, hb1⟩
  have G := (B2.new w a b).next hb1
  clear hb1
  go_wp2_with fail
  have G1 := G.next (below_alloc w1 (.cells #[.int .i64 (pcross a b).x, .int .i64 (pcross a b).y, .int .i64 (pcross a b).z] 23))
  have G2 := At.new w1 (pcross a b).x (pcross a b).y (pcross a b).z
  have F : P3 w a b (pcross a b) w1.heap.size _ := ⟨G1.a, G1.b, G2, G1.hB⟩
  clear G G1 G2
  generalize w1.heap.size = p at F ⊢
  generalize w1.alloc _ = w2 at F ⊢
  refine wp_quiet_in (P3 w a b (pcross a b) p) (by kernel_rfl) (by kernel_rfl) F.drew ?_
  repeat (first
    | go_big_quiet_skip
    | (go_big_quiet_want
       first
         | (refine quiet_load 2 rfl rfl (fun _ h => P3.a h) ?_; go_simp; go_big_quiet_on)
         | (refine quiet_load 3 rfl rfl (fun _ h => P3.b h) ?_; go_simp; go_big_quiet_on)
         | (refine quiet_load 5 rfl rfl (fun _ h => P3.c h) ?_; go_simp; go_big_quiet_on)
         | (go_big_quiet_op
            first
              | go_big_quiet_on
              | (refine ⟨_, fun _ _ => rfl, ?_⟩; go_big_quiet_on)
              | (apply Exists.intro
                 refine ⟨fun w' h' => ?_, ?_⟩
                 · first
                     | (go_at_call 10; with_reducible exact P3.on h' (valid_any _ _))
                     | (go_at_call 11; with_reducible exact P3.on h' (valid_anyr _ _))
                     | (go_at_call 12; with_reducible exact P3.on h' (sub_any _ _ _))
                     | (go_at_call 13; with_reducible exact P3.on h' (sub_anyr _ _ _))
                     | (go_at_call 14; with_reducible exact P3.on h' (cross_anyr _ _ _))
                     | (go_at_call 15; with_reducible exact P3.on h' (dot_any _ _ _))
                     | (go_at_call 16; with_reducible exact P3.on h' (dot_anyr _ _ _))
                 go_big_quiet_on)
         )))
  refine wpQuiet_nil ?_
  intro w0 F0
  clear F
  have a0 := F0.a.c0
  have a1 := F0.a.c1
  have a2 := F0.a.c2
  have b0 := F0.b.c0
  have b1 := F0.b.c1
  have b2 := F0.b.c2
  have c0 := F0.c.c0
  have c1 := F0.c.c1
  have c2 := F0.c.c2
  repeat (
    go_wp2_with fail
    first
      | (go_at_call 17; with_reducible refine (lawsmall_is e1 _).mono ?_)
      | (go_at_call 17; with_reducible refine (lawsmall_is e2 _).mono ?_)
      | (go_at_call 15; with_reducible refine (dot_is e3 _).mono ?_)
      | (go_at_call 15; with_reducible refine (dot_is e4 _).mono ?_)
      | (go_at_call 18; with_reducible refine (awake_any _).mono ?_)
    rintro e wn ⟨rfl, hbn⟩
    replace F0 := P3.next F0 hbn
    clear hbn a0 a1 a2 b0 b1 b2 c0 c1 c2
    have a0 := F0.a.c0
    have a1 := F0.a.c1
    have a2 := F0.a.c2
    have b0 := F0.b.c0
    have b1 := F0.b.c1
    have b2 := F0.b.c2
    have c0 := F0.c.c0
    have c1 := F0.c.c1
    have c2 := F0.c.c2)
  go_wp2_with fail
  go_ret
  exact ⟨rfl, F0.hB⟩

set_option maxRecDepth 100000 in
set_option maxHeartbeats 2000000 in
theorem products_2 {a b : V} (e1 : decide (a.In 131072) = true) (e2 : decide (b.In 131072) = false) (w : World) : Calls Try.prog 3 #[.agg #[.int .i64 a.x, .int .i64 a.y, .int .i64 a.z], .agg #[.int .i64 b.x, .int .i64 b.y, .int .i64 b.z]] w fun e w' => e = .returned (.bool true) ∧ Below w.heap.size w w' := by
  go_enter Try.func3, Try.ntmps3
  go_wp2_with fail
  refine (cross_any a b _).mono ?_
  rintro e w1 ⟨rfl, hb1⟩
  have G := (B2.new w a b).next hb1
  clear hb1
  go_wp2_with fail
  have G1 := G.next (below_alloc w1 (.cells #[.int .i64 (pcross a b).x, .int .i64 (pcross a b).y, .int .i64 (pcross a b).z] 23))
  have G2 := At.new w1 (pcross a b).x (pcross a b).y (pcross a b).z
  have F : P3 w a b (pcross a b) w1.heap.size _ := ⟨G1.a, G1.b, G2, G1.hB⟩
  clear G G1 G2
  generalize w1.heap.size = p at F ⊢
  generalize w1.alloc _ = w2 at F ⊢
  refine wp_quiet_in (P3 w a b (pcross a b) p) (by kernel_rfl) (by kernel_rfl) F.drew ?_
  repeat (first
    | go_big_quiet_skip
    | (go_big_quiet_want
       first
         | (refine quiet_load 2 rfl rfl (fun _ h => P3.a h) ?_; go_simp; go_big_quiet_on)
         | (refine quiet_load 3 rfl rfl (fun _ h => P3.b h) ?_; go_simp; go_big_quiet_on)
         | (refine quiet_load 5 rfl rfl (fun _ h => P3.c h) ?_; go_simp; go_big_quiet_on)
         | (go_big_quiet_op
            first
              | go_big_quiet_on
              | (refine ⟨_, fun _ _ => rfl, ?_⟩; go_big_quiet_on)
              | (apply Exists.intro
                 refine ⟨fun w' h' => ?_, ?_⟩
                 · first
                     | (go_at_call 10; with_reducible exact P3.on h' (valid_any _ _))
                     | (go_at_call 11; with_reducible exact P3.on h' (valid_anyr _ _))
                     | (go_at_call 12; with_reducible exact P3.on h' (sub_any _ _ _))
                     | (go_at_call 13; with_reducible exact P3.on h' (sub_anyr _ _ _))
                     | (go_at_call 14; with_reducible exact P3.on h' (cross_anyr _ _ _))
                     | (go_at_call 15; with_reducible exact P3.on h' (dot_any _ _ _))
                     | (go_at_call 16; with_reducible exact P3.on h' (dot_anyr _ _ _))
                 go_big_quiet_on)
         )))
  refine wpQuiet_nil ?_
  intro w0 F0
  clear F
  have a0 := F0.a.c0
  have a1 := F0.a.c1
  have a2 := F0.a.c2
  have b0 := F0.b.c0
  have b1 := F0.b.c1
  have b2 := F0.b.c2
  have c0 := F0.c.c0
  have c1 := F0.c.c1
  have c2 := F0.c.c2
  repeat (
    go_wp2_with fail
    first
      | (go_at_call 17; with_reducible refine (lawsmall_is e1 _).mono ?_)
      | (go_at_call 17; with_reducible refine (lawsmall_is e2 _).mono ?_)
      | (go_at_call 18; with_reducible refine (awake_any _).mono ?_)
    rintro e wn ⟨rfl, hbn⟩
    replace F0 := P3.next F0 hbn
    clear hbn a0 a1 a2 b0 b1 b2 c0 c1 c2
    have a0 := F0.a.c0
    have a1 := F0.a.c1
    have a2 := F0.a.c2
    have b0 := F0.b.c0
    have b1 := F0.b.c1
    have b2 := F0.b.c2
    have c0 := F0.c.c0
    have c1 := F0.c.c1
    have c2 := F0.c.c2)
  go_wp2_with fail
  go_ret
  exact ⟨rfl, F0.hB⟩

set_option maxRecDepth 100000 in
set_option maxHeartbeats 2000000 in
theorem products_3 {a b : V} (e1 : decide (a.In 131072) = false) (w : World) : Calls Try.prog 3 #[.agg #[.int .i64 a.x, .int .i64 a.y, .int .i64 a.z], .agg #[.int .i64 b.x, .int .i64 b.y, .int .i64 b.z]] w fun e w' => e = .returned (.bool true) ∧ Below w.heap.size w w' := by
  go_enter Try.func3, Try.ntmps3
  go_wp2_with fail
  refine (cross_any a b _).mono ?_
  rintro e w1 ⟨rfl, hb1⟩
  have G := (B2.new w a b).next hb1
  clear hb1
  go_wp2_with fail
  have G1 := G.next (below_alloc w1 (.cells #[.int .i64 (pcross a b).x, .int .i64 (pcross a b).y, .int .i64 (pcross a b).z] 23))
  have G2 := At.new w1 (pcross a b).x (pcross a b).y (pcross a b).z
  have F : P3 w a b (pcross a b) w1.heap.size _ := ⟨G1.a, G1.b, G2, G1.hB⟩
  clear G G1 G2
  generalize w1.heap.size = p at F ⊢
  generalize w1.alloc _ = w2 at F ⊢
  refine wp_quiet_in (P3 w a b (pcross a b) p) (by kernel_rfl) (by kernel_rfl) F.drew ?_
  repeat (first
    | go_big_quiet_skip
    | (go_big_quiet_want
       first
         | (refine quiet_load 2 rfl rfl (fun _ h => P3.a h) ?_; go_simp; go_big_quiet_on)
         | (refine quiet_load 3 rfl rfl (fun _ h => P3.b h) ?_; go_simp; go_big_quiet_on)
         | (refine quiet_load 5 rfl rfl (fun _ h => P3.c h) ?_; go_simp; go_big_quiet_on)
         | (go_big_quiet_op
            first
              | go_big_quiet_on
              | (refine ⟨_, fun _ _ => rfl, ?_⟩; go_big_quiet_on)
              | (apply Exists.intro
                 refine ⟨fun w' h' => ?_, ?_⟩
                 · first
                     | (go_at_call 10; with_reducible exact P3.on h' (valid_any _ _))
                     | (go_at_call 11; with_reducible exact P3.on h' (valid_anyr _ _))
                     | (go_at_call 12; with_reducible exact P3.on h' (sub_any _ _ _))
                     | (go_at_call 13; with_reducible exact P3.on h' (sub_anyr _ _ _))
                     | (go_at_call 14; with_reducible exact P3.on h' (cross_anyr _ _ _))
                     | (go_at_call 15; with_reducible exact P3.on h' (dot_any _ _ _))
                     | (go_at_call 16; with_reducible exact P3.on h' (dot_anyr _ _ _))
                 go_big_quiet_on)
         )))
  refine wpQuiet_nil ?_
  intro w0 F0
  clear F
  have a0 := F0.a.c0
  have a1 := F0.a.c1
  have a2 := F0.a.c2
  have b0 := F0.b.c0
  have b1 := F0.b.c1
  have b2 := F0.b.c2
  have c0 := F0.c.c0
  have c1 := F0.c.c1
  have c2 := F0.c.c2
  repeat (
    go_wp2_with fail
    first
      | (go_at_call 17; with_reducible refine (lawsmall_is e1 _).mono ?_)
      | (go_at_call 18; with_reducible refine (awake_any _).mono ?_)
    rintro e wn ⟨rfl, hbn⟩
    replace F0 := P3.next F0 hbn
    clear hbn a0 a1 a2 b0 b1 b2 c0 c1 c2
    have a0 := F0.a.c0
    have a1 := F0.a.c1
    have a2 := F0.a.c2
    have b0 := F0.b.c0
    have b1 := F0.b.c1
    have b2 := F0.b.c2
    have c0 := F0.c.c0
    have c1 := F0.c.c1
    have c2 := F0.c.c2)
  go_wp2_with fail
  go_ret
  exact ⟨rfl, F0.hB⟩

theorem vecProducts_walk (a b : V) (w : World) : Calls Try.prog 3 #[.agg #[.int .i64 a.x, .int .i64 a.y, .int .i64 a.z], .agg #[.int .i64 b.x, .int .i64 b.y, .int .i64 b.z]] w fun e w' => e = .returned (.bool true) ∧ Below w.heap.size w w' := by
  by_cases h : a.In 131072
  · by_cases k : b.In 131072
    · exact products_1 (decide_eq_true h) (decide_eq_true k) (orth1 h k) (orth2 h k) w
    · exact products_2 (decide_eq_true h) (decide_eq_false k) w
  · exact products_3 (decide_eq_false h) w
end Go.Proofs.Ythhlofcponekhaa
