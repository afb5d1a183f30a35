/- The contracts of vec: Det, of the program and of the reference. -/
import Derived.Test.YtcfglmamocdkeaaVecs
namespace Go.Proofs.Ytcfglmamocdkeaa
open Go.ChangeShapes Go.WideShapes Go.ChangeAt Go.RowKit

theorem wp_quiet_in {P : Program} {id : Nat} {Q : Exit → Act → World → Prop} {a : Act} {w : World} {l : List Oper} (C : World → Prop) (hm : P.follows .mixedOrders = true) (hB : Region.lexB .any l.toArray = true) (hC : C { w with drawn := w.drawn + 1 })
    (h : wpQuiet P l.toArray C (fun a' => ∀ w', C w' → Q .normal a' w') l a) : (Code.region id l.toArray true).wp P Q a w :=
  wp_region_quiet hm hB hC (by simpa using h)
theorem quiet_load {b : Nat} {x y z : Int} {o : Oper} {a : Act} {C : World → Prop} {K : Act → Prop} (i : Nat) (h : o.op = .load 36 (.tmp i)) (ha : a.eval (.tmp i) = .pointer (some ⟨b, 0, none⟩)) (hC : ∀ w, C w → At b x y z w)
    (hk : K (a.put o.dst (.agg #[.int .i64 x, .int .i64 y, .int .i64 z]))) : o.quiet Try.prog a C K := by
  refine ⟨_, fun w' h' => ?_, hk⟩
  have A := hC w' h'
  have d0 := A.c0
  have d1 := A.c1
  have d2 := A.c2
  obtain ⟨dst, op, type, pos, after, guard⟩ := o
  dsimp only at h
  subst h
  unfold Oper.quietAt execOp
  simp only [ha]
  go_simp
theorem B3.on {w w' : World} {a b c : V} {f : FuncId} {args : Array Value} {v : Value} (h' : B3 w a b c w') (h : Calls Try.prog f args w' fun e w'' => e = .returned v ∧ Below w'.heap.size w' w'') :
    Calls Try.prog f args w' fun e w'' => e = .returned v ∧ B3 w a b c w'' := h.mono fun _ _ ⟨he, hb⟩ => ⟨he, h'.next hb⟩
theorem B3.drew {w w' : World} {a b c : V} (h : B3 w a b c w') : B3 w a b c { w' with drawn := w'.drawn + 1 } := ⟨⟨h.a.row⟩, ⟨h.b.row⟩, ⟨h.c.row⟩, h.hB.drew⟩

set_option maxRecDepth 100000 in
set_option maxHeartbeats 1000000 in
theorem det_any (a b c : V) (w : World) : Calls Try.prog 30 #[.agg #[.int .i64 a.x, .int .i64 a.y, .int .i64 a.z], .agg #[.int .i64 b.x, .int .i64 b.y, .int .i64 b.z], .agg #[.int .i64 c.x, .int .i64 c.y, .int .i64 c.z]] w fun e w' => e = .returned (.int .i64 (pdet a b c)) ∧ Below w.heap.size w w' := by
  by_cases h : b.In 131072
  · by_cases h' : c.In 131072
    · rw [pdet_yes h h']
      have H := Lib.hid h
      have H' := Lib.hid h'
      clear h h'
      go_enter Try.func30, Try.ntmps30
      go_wp2_with fail
      refine (small_yes _ _ H.out).mono ?_
      rintro e w1 ⟨rfl, hb1⟩
      have F1 := (B3.new w a b c).next hb1
      have d0 := F1.c.c0
      have d1 := F1.c.c1
      have d2 := F1.c.c2
      go_wp2_with fail
      refine (small_yes _ _ H'.out).mono ?_
      rintro e w2 ⟨rfl, hb2⟩
      have F2 := F1.next hb2
      clear d0 d1 d2
      go_wp2_with fail
      refine wp_quiet_in (B3 w a b c) (by kernel_rfl) (by kernel_rfl) F2.drew ?_
      go_big_quiet_want
      refine quiet_load 3 rfl rfl (fun _ h => B3.a h) ?_
      go_simp
      go_big_quiet_on
      go_big_quiet_want
      refine quiet_load 4 rfl rfl (fun _ h => B3.b h) ?_
      go_simp
      go_big_quiet_on
      go_big_quiet_want
      refine quiet_load 5 rfl rfl (fun _ h => B3.c h) ?_
      go_simp
      go_big_quiet_on
      go_big_quiet_want
      apply Exists.intro
      refine ⟨fun w' h' => ?_, ?_⟩
      · go_simp
        exact B3.on h' (cross_any _ _ _)
      go_simp
      go_big_quiet_on
      go_big_quiet_want
      apply Exists.intro
      refine ⟨fun w' h' => ?_, ?_⟩
      · go_simp
        exact B3.on h' (dot_any _ _ _)
      go_simp
      go_big_quiet_on
      go_big_quiet_want
      go_big_quiet_op
      go_big_quiet_on
      refine wpQuiet_nil ?_
      intro w' h'
      go_wp2_with fail
      go_ret
      exact ⟨rfl, h'.hB⟩
    · rw [pdet_no2 h']
      have H := Lib.hid h
      have H' := Lib.hid h'
      clear h h'
      go_enter Try.func30, Try.ntmps30
      go_wp2_with fail
      refine (small_yes _ _ H.out).mono ?_
      rintro e w1 ⟨rfl, hb1⟩
      have F1 := (B3.new w a b c).next hb1
      have d0 := F1.c.c0
      have d1 := F1.c.c1
      have d2 := F1.c.c2
      go_wp2_with fail
      refine (small_no _ _ H'.out).mono ?_
      rintro e w2 ⟨rfl, hb2⟩
      have F2 := F1.next hb2
      go_wp2_with fail
      go_ret
      exact ⟨rfl, F2.hB⟩
  · rw [pdet_no1 h]
    have H := Lib.hid h
    clear h
    go_enter Try.func30, Try.ntmps30
    go_wp2_with fail
    refine (small_no _ _ H.out).mono ?_
    rintro e w1 ⟨rfl, hb1⟩
    have F1 := (B3.new w a b c).next hb1
    go_wp2_with fail
    go_ret
    exact ⟨rfl, F1.hB⟩


set_option maxRecDepth 100000 in
set_option maxHeartbeats 1000000 in
theorem det_anyr (a b c : V) (w : World) : Calls Try.prog 39 #[.agg #[.int .i64 a.x, .int .i64 a.y, .int .i64 a.z], .agg #[.int .i64 b.x, .int .i64 b.y, .int .i64 b.z], .agg #[.int .i64 c.x, .int .i64 c.y, .int .i64 c.z]] w fun e w' => e = .returned (.int .i64 (pdet a b c)) ∧ Below w.heap.size w w' := by
  by_cases h0 : a.In 131072
  · by_cases h : b.In 131072
    · by_cases h' : c.In 131072
      · rw [pdet_yes h h']
        have H0 := Lib.hid h0
        have H := Lib.hid h
        have H' := Lib.hid h'
        clear h h' h0
        go_enter Try.func39, Try.ntmps39
        go_wp2_with fail
        refine (small_yesr _ _ H0.out).mono ?_
        rintro e w1 ⟨rfl, hb1⟩
        have F1 := (B3.new w a b c).next hb1
        have d0 := F1.b.c0
        have d1 := F1.b.c1
        have d2 := F1.b.c2
        go_wp2_with fail
        refine (small_yesr _ _ H.out).mono ?_
        rintro e w2 ⟨rfl, hb2⟩
        have F2 := F1.next hb2
        clear d0 d1 d2
        have d0 := F2.c.c0
        have d1 := F2.c.c1
        have d2 := F2.c.c2
        go_wp2_with fail
        refine (small_yesr _ _ H'.out).mono ?_
        rintro e w3 ⟨rfl, hb3⟩
        have F3 := F2.next hb3
        clear d0 d1 d2
        go_wp2_with fail
        refine wp_quiet_in (B3 w a b c) (by kernel_rfl) (by kernel_rfl) F3.drew ?_
        go_big_quiet_want
        refine quiet_load 3 rfl rfl (fun _ h => B3.a h) ?_
        go_simp
        go_big_quiet_on
        go_big_quiet_want
        refine quiet_load 4 rfl rfl (fun _ h => B3.b h) ?_
        go_simp
        go_big_quiet_on
        go_big_quiet_want
        refine quiet_load 5 rfl rfl (fun _ h => B3.c h) ?_
        go_simp
        go_big_quiet_on
        go_big_quiet_want
        apply Exists.intro
        refine ⟨fun w' h' => ?_, ?_⟩
        · go_simp
          exact B3.on h' (cross_anyr _ _ _)
        go_simp
        go_big_quiet_on
        go_big_quiet_want
        apply Exists.intro
        refine ⟨fun w' h' => ?_, ?_⟩
        · go_simp
          exact B3.on h' (dot_anyr _ _ _)
        go_simp
        go_big_quiet_on
        go_big_quiet_want
        go_big_quiet_op
        go_big_quiet_on
        refine wpQuiet_nil ?_
        intro w' h'
        go_wp2_with fail
        go_ret
        exact ⟨rfl, h'.hB⟩
      · rw [pdet_no2 h']
        have H0 := Lib.hid h0
        have H := Lib.hid h
        have H' := Lib.hid h'
        clear h h' h0
        go_enter Try.func39, Try.ntmps39
        go_wp2_with fail
        refine (small_yesr _ _ H0.out).mono ?_
        rintro e w1 ⟨rfl, hb1⟩
        have F1 := (B3.new w a b c).next hb1
        have d0 := F1.b.c0
        have d1 := F1.b.c1
        have d2 := F1.b.c2
        go_wp2_with fail
        refine (small_yesr _ _ H.out).mono ?_
        rintro e w2 ⟨rfl, hb2⟩
        have F2 := F1.next hb2
        clear d0 d1 d2
        have d0 := F2.c.c0
        have d1 := F2.c.c1
        have d2 := F2.c.c2
        go_wp2_with fail
        refine (small_nor _ _ H'.out).mono ?_
        rintro e w3 ⟨rfl, hb3⟩
        have F3 := F2.next hb3
        clear d0 d1 d2
        go_wp2_with fail
        go_ret
        exact ⟨rfl, F3.hB⟩
    · rw [pdet_no1 h]
      have H0 := Lib.hid h0
      have H := Lib.hid h
      clear h h0
      go_enter Try.func39, Try.ntmps39
      go_wp2_with fail
      refine (small_yesr _ _ H0.out).mono ?_
      rintro e w1 ⟨rfl, hb1⟩
      have F1 := (B3.new w a b c).next hb1
      have d0 := F1.b.c0
      have d1 := F1.b.c1
      have d2 := F1.b.c2
      go_wp2_with fail
      refine (small_nor _ _ H.out).mono ?_
      rintro e w2 ⟨rfl, hb2⟩
      have F2 := F1.next hb2
      go_wp2_with fail
      go_ret
      exact ⟨rfl, F2.hB⟩
  · rw [pdet_no3 h0]
    have H0 := Lib.hid h0
    clear h0
    go_enter Try.func39, Try.ntmps39
    go_wp2_with fail
    refine (small_nor _ _ H0.out).mono ?_
    rintro e w1 ⟨rfl, hb1⟩
    have F1 := (B3.new w a b c).next hb1
    go_wp2_with fail
    go_ret
    exact ⟨rfl, F1.hB⟩

end Go.Proofs.Ytcfglmamocdkeaa