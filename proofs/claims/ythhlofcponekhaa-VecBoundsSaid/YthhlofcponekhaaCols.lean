/- The contracts of vec: Collinear, of the program and of the reference. Printed by cols.py. -/
import Derived.Test.YthhlofcponekhaaDets
namespace Go.Proofs.Ythhlofcponekhaa
open Go.ChangeShapes Go.WideShapes Go.ChangeAt Go.RowKit

def Z3 (a : V) : Prop := a.x = 0 ∧ a.y = 0 ∧ a.z = 0
instance (a : V) : Decidable (Z3 a) := by unfold Z3; exact inferInstance
def pcol (a b c : V) : Bool := (decide (a.In 65536) && decide (b.In 65536) && decide (c.In 65536)) && decide (Z3 (pcross (psub b a) (psub c a)))
theorem pcol_yes {a b c : V} (ha : a.In 65536) (hb : b.In 65536) (hc : c.In 65536) : pcol a b c = decide (Z3 (pcross (psub b a) (psub c a))) := by unfold pcol; simp [ha, hb, hc]
theorem pcol_no {a b c : V} (h : ¬ (a.In 65536 ∧ b.In 65536 ∧ c.In 65536)) : pcol a b c = false := by
  unfold pcol
  rw [Bool.and_eq_false_iff]
  refine .inl ?_
  rw [Bool.eq_false_iff]
  intro k
  simp only [Bool.and_eq_true, decide_eq_true_eq] at k
  exact h ⟨k.1.1, k.1.2, k.2⟩


set_option maxRecDepth 100000 in
set_option maxHeartbeats 1000000 in
theorem col_any (a b c : V) (w : World) : Calls Try.prog 25 #[.agg #[.int .i64 a.x, .int .i64 a.y, .int .i64 a.z], .agg #[.int .i64 b.x, .int .i64 b.y, .int .i64 b.z], .agg #[.int .i64 c.x, .int .i64 c.y, .int .i64 c.z]] w fun e w' => e = .returned (.bool (pcol a b c)) ∧ Below w.heap.size w w' := by
  by_cases ha : a.In 65536
  · by_cases hb : b.In 65536
    · by_cases hc : c.In 65536
      · rw [pcol_yes ha hb hc]
        have Ha := Lib.hid ha
        have Hb := Lib.hid hb
        have Hc := Lib.hid hc
        clear ha hb hc
        go_enter Try.func25, Try.ntmps25
        go_wp2_with fail
        refine wp_quiet_in (B3 w a b c) (by kernel_rfl) (by kernel_rfl) (B3.new w a b c).drew ?_
        repeat (first
          | go_big_quiet_skip
          | (go_big_quiet_want
             first
               | (refine quiet_load 3 rfl rfl (fun _ h => B3.a h) ?_; go_simp; go_big_quiet_on)
               | (refine quiet_load 4 rfl rfl (fun _ h => B3.b h) ?_; go_simp; go_big_quiet_on)
               | (refine quiet_load 5 rfl rfl (fun _ h => B3.c h) ?_; go_simp; go_big_quiet_on)
               | (go_big_quiet_op
                  first
                    | go_big_quiet_on
                    | (refine ⟨_, fun _ _ => rfl, ?_⟩; go_big_quiet_on)
                    | (apply Exists.intro
                       refine ⟨fun w' h' => ?_, ?_⟩
                       · first
                           | exact B3.on h' (valid_yes _ _ Ha.out)
                           | exact B3.on h' (valid_yes _ _ Hb.out)
                           | exact B3.on h' (valid_yes _ _ Hc.out)
                           | exact B3.on h' (sub_any _ _ _)
                           | exact B3.on h' (cross_any _ _ _)
                       go_big_quiet_on)
                    | (refine ⟨.bool (decide (Z3 (pcross (psub b a) (psub c a)))), fun _ _ => (by unfold Z3; by_cases k1 : (pcross (psub b a) (psub c a)).x = 0 <;> by_cases k2 : (pcross (psub b a) (psub c a)).y = 0 <;> by_cases k3 : (pcross (psub b a) (psub c a)).z = 0 <;> simp [k1, k2, k3]), ?_⟩; go_big_quiet_on)
               )))
        refine wpQuiet_nil ?_
        intro w' h'
        go_wp2_with fail
        go_ret
        exact ⟨rfl, h'.hB⟩

      · rw [pcol_no fun k => hc k.2.2]
        have Ha := Lib.hid ha
        have Hb := Lib.hid hb
        have Hc := Lib.hid hc
        clear ha hb hc
        go_enter Try.func25, Try.ntmps25
        go_wp2_with fail
        refine wp_quiet_in (B3 w a b c) (by kernel_rfl) (by kernel_rfl) (B3.new w a b c).drew ?_
        repeat (first
          | go_big_quiet_skip
          | (go_big_quiet_want
             first
               | (refine quiet_load 3 rfl rfl (fun _ h => B3.a h) ?_; go_simp; go_big_quiet_on)
               | (refine quiet_load 4 rfl rfl (fun _ h => B3.b h) ?_; go_simp; go_big_quiet_on)
               | (refine quiet_load 5 rfl rfl (fun _ h => B3.c h) ?_; go_simp; go_big_quiet_on)
               | (go_big_quiet_op
                  first
                    | go_big_quiet_on
                    | (refine ⟨_, fun _ _ => rfl, ?_⟩; go_big_quiet_on)
                    | (apply Exists.intro
                       refine ⟨fun w' h' => ?_, ?_⟩
                       · first
                           | exact B3.on h' (valid_yes _ _ Ha.out)
                           | exact B3.on h' (valid_yes _ _ Hb.out)
                           | exact B3.on h' (valid_no _ _ Hc.out)
                       go_big_quiet_on)
               )))
        refine wpQuiet_nil ?_
        intro w' h'
        go_wp2_with fail
        go_ret
        exact ⟨rfl, h'.hB⟩

    · rw [pcol_no fun k => hb k.2.1]
      have Ha := Lib.hid ha
      have Hb := Lib.hid hb
      clear ha hb
      go_enter Try.func25, Try.ntmps25
      go_wp2_with fail
      refine wp_quiet_in (B3 w a b c) (by kernel_rfl) (by kernel_rfl) (B3.new w a b c).drew ?_
      repeat (first
        | go_big_quiet_skip
        | (go_big_quiet_want
           first
             | (refine quiet_load 3 rfl rfl (fun _ h => B3.a h) ?_; go_simp; go_big_quiet_on)
             | (refine quiet_load 4 rfl rfl (fun _ h => B3.b h) ?_; go_simp; go_big_quiet_on)
             | (refine quiet_load 5 rfl rfl (fun _ h => B3.c h) ?_; go_simp; go_big_quiet_on)
             | (go_big_quiet_op
                first
                  | go_big_quiet_on
                  | (refine ⟨_, fun _ _ => rfl, ?_⟩; go_big_quiet_on)
                  | (apply Exists.intro
                     refine ⟨fun w' h' => ?_, ?_⟩
                     · first
                         | exact B3.on h' (valid_yes _ _ Ha.out)
                         | exact B3.on h' (valid_no _ _ Hb.out)
                     go_big_quiet_on)
             )))
      refine wpQuiet_nil ?_
      intro w' h'
      go_wp2_with fail
      go_ret
      exact ⟨rfl, h'.hB⟩

  · rw [pcol_no fun k => ha k.1]
    have Ha := Lib.hid ha
    clear ha
    go_enter Try.func25, Try.ntmps25
    go_wp2_with fail
    refine wp_quiet_in (B3 w a b c) (by kernel_rfl) (by kernel_rfl) (B3.new w a b c).drew ?_
    repeat (first
      | go_big_quiet_skip
      | (go_big_quiet_want
         first
           | (refine quiet_load 3 rfl rfl (fun _ h => B3.a h) ?_; go_simp; go_big_quiet_on)
           | (refine quiet_load 4 rfl rfl (fun _ h => B3.b h) ?_; go_simp; go_big_quiet_on)
           | (refine quiet_load 5 rfl rfl (fun _ h => B3.c h) ?_; go_simp; go_big_quiet_on)
           | (go_big_quiet_op
              first
                | go_big_quiet_on
                | (refine ⟨_, fun _ _ => rfl, ?_⟩; go_big_quiet_on)
                | (apply Exists.intro
                   refine ⟨fun w' h' => ?_, ?_⟩
                   · first
                       | exact B3.on h' (valid_no _ _ Ha.out)
                   go_big_quiet_on)
           )))
    refine wpQuiet_nil ?_
    intro w' h'
    go_wp2_with fail
    go_ret
    exact ⟨rfl, h'.hB⟩



set_option maxRecDepth 100000 in
set_option maxHeartbeats 1000000 in
theorem col_anyr (a b c : V) (w : World) : Calls Try.prog 26 #[.agg #[.int .i64 a.x, .int .i64 a.y, .int .i64 a.z], .agg #[.int .i64 b.x, .int .i64 b.y, .int .i64 b.z], .agg #[.int .i64 c.x, .int .i64 c.y, .int .i64 c.z]] w fun e w' => e = .returned (.bool (pcol a b c)) ∧ Below w.heap.size w w' := by
  by_cases ha : a.In 65536
  · by_cases hb : b.In 65536
    · by_cases hc : c.In 65536
      · rw [pcol_yes ha hb hc]
        have Ha := Lib.hid ha
        have Hb := Lib.hid hb
        have Hc := Lib.hid hc
        clear ha hb hc
        go_enter Try.func26, Try.ntmps26
        go_wp2_with fail
        refine (valid_yesr _ _ Ha.out).mono ?_
        rintro e w1 ⟨rfl, hb1⟩
        have F1 := (B3.new w a b c).next hb1
        have d0 := F1.b.c0
        have d1 := F1.b.c1
        have d2 := F1.b.c2
        go_wp2_with fail
        refine (valid_yesr _ _ Hb.out).mono ?_
        rintro e w2 ⟨rfl, hb2⟩
        have F2 := F1.next hb2
        clear d0 d1 d2
        have d0 := F2.c.c0
        have d1 := F2.c.c1
        have d2 := F2.c.c2
        go_wp2_with fail
        refine (valid_yesr _ _ Hc.out).mono ?_
        rintro e w3 ⟨rfl, hb3⟩
        have F3 := F2.next hb3
        clear d0 d1 d2
        go_wp2_with fail
        refine wp_quiet_in (B3 w a b c) (by kernel_rfl) (by kernel_rfl) F3.drew ?_
        repeat (first
          | go_big_quiet_skip
          | (go_big_quiet_want
             first
               | (refine quiet_load 3 rfl rfl (fun _ h => B3.a h) ?_; go_simp; go_big_quiet_on)
               | (refine quiet_load 4 rfl rfl (fun _ h => B3.b h) ?_; go_simp; go_big_quiet_on)
               | (refine quiet_load 5 rfl rfl (fun _ h => B3.c h) ?_; go_simp; go_big_quiet_on)
               | (go_big_quiet_op
                  first
                    | go_big_quiet_on
                    | (refine ⟨_, fun _ _ => rfl, ?_⟩; go_big_quiet_on)
                    | (apply Exists.intro
                       refine ⟨fun w' h' => ?_, ?_⟩
                       · first
                           | exact B3.on h' (sub_anyr _ _ _)
                           | exact B3.on h' (cross_anyr _ _ _)
                       go_big_quiet_on)
                    | (refine ⟨.bool (decide (Z3 (pcross (psub b a) (psub c a)))), fun _ _ => (by unfold Z3; by_cases k1 : (pcross (psub b a) (psub c a)).x = 0 <;> by_cases k2 : (pcross (psub b a) (psub c a)).y = 0 <;> by_cases k3 : (pcross (psub b a) (psub c a)).z = 0 <;> simp [k1, k2, k3]), ?_⟩; go_big_quiet_on)
               )))
        refine wpQuiet_nil ?_
        intro w' h'
        go_wp2_with fail
        go_ret
        exact ⟨rfl, h'.hB⟩

      · rw [pcol_no fun k => hc k.2.2]
        have Ha := Lib.hid ha
        have Hb := Lib.hid hb
        have Hc := Lib.hid hc
        clear ha hb hc
        go_enter Try.func26, Try.ntmps26
        go_wp2_with fail
        refine (valid_yesr _ _ Ha.out).mono ?_
        rintro e w1 ⟨rfl, hb1⟩
        have F1 := (B3.new w a b c).next hb1
        have d0 := F1.b.c0
        have d1 := F1.b.c1
        have d2 := F1.b.c2
        go_wp2_with fail
        refine (valid_yesr _ _ Hb.out).mono ?_
        rintro e w2 ⟨rfl, hb2⟩
        have F2 := F1.next hb2
        clear d0 d1 d2
        have d0 := F2.c.c0
        have d1 := F2.c.c1
        have d2 := F2.c.c2
        go_wp2_with fail
        refine (valid_nor _ _ Hc.out).mono ?_
        rintro e w3 ⟨rfl, hb3⟩
        have F3 := F2.next hb3
        clear d0 d1 d2
        go_wp2_with fail
        go_ret
        exact ⟨rfl, F3.hB⟩

    · rw [pcol_no fun k => hb k.2.1]
      have Ha := Lib.hid ha
      have Hb := Lib.hid hb
      clear ha hb
      go_enter Try.func26, Try.ntmps26
      go_wp2_with fail
      refine (valid_yesr _ _ Ha.out).mono ?_
      rintro e w1 ⟨rfl, hb1⟩
      have F1 := (B3.new w a b c).next hb1
      have d0 := F1.b.c0
      have d1 := F1.b.c1
      have d2 := F1.b.c2
      go_wp2_with fail
      refine (valid_nor _ _ Hb.out).mono ?_
      rintro e w2 ⟨rfl, hb2⟩
      have F2 := F1.next hb2
      clear d0 d1 d2
      go_wp2_with fail
      go_ret
      exact ⟨rfl, F2.hB⟩

  · rw [pcol_no fun k => ha k.1]
    have Ha := Lib.hid ha
    clear ha
    go_enter Try.func26, Try.ntmps26
    go_wp2_with fail
    refine (valid_nor _ _ Ha.out).mono ?_
    rintro e w1 ⟨rfl, hb1⟩
    have F1 := (B3.new w a b c).next hb1
    go_wp2_with fail
    go_ret
    exact ⟨rfl, F1.hB⟩


end Go.Proofs.Ythhlofcponekhaa
