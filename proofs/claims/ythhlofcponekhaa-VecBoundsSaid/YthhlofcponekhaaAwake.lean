/- The law's own examples: 'awake' returns true. -/
import Derived.Test.YthhlofcponekhaaCols
import Derived.Test.YthhlofcponekhaaBnds
namespace Go.Proofs.Ythhlofcponekhaa
open Go.ChangeShapes Go.WideShapes Go.ChangeAt Go.RowKit

theorem cross_is {a b c : V} (h : pcross a b = c) (w : World) :
    Calls Try.prog 9 #[.agg #[.int .i64 a.x, .int .i64 a.y, .int .i64 a.z], .agg #[.int .i64 b.x, .int .i64 b.y, .int .i64 b.z]] w fun e w' => e = .returned (.agg #[.int .i64 c.x, .int .i64 c.y, .int .i64 c.z]) ∧ Below w.heap.size w w' := h ▸ cross_any a b w
theorem sub_is {a b c : V} (h : psub a b = c) (w : World) :
    Calls Try.prog 12 #[.agg #[.int .i64 a.x, .int .i64 a.y, .int .i64 a.z], .agg #[.int .i64 b.x, .int .i64 b.y, .int .i64 b.z]] w fun e w' => e = .returned (.agg #[.int .i64 c.x, .int .i64 c.y, .int .i64 c.z]) ∧ Below w.heap.size w w' := h ▸ sub_any a b w
theorem det_is {a b c : V} {d : Int} (h : pdet a b c = d) (w : World) :
    Calls Try.prog 19 #[.agg #[.int .i64 a.x, .int .i64 a.y, .int .i64 a.z], .agg #[.int .i64 b.x, .int .i64 b.y, .int .i64 b.z], .agg #[.int .i64 c.x, .int .i64 c.y, .int .i64 c.z]] w fun e w' => e = .returned (.int .i64 d) ∧ Below w.heap.size w w' := h ▸ det_any a b c w
theorem less_is {a b : V} {r : Bool} (h : decide (PLess a b) = r) (w : World) :
    Calls Try.prog 21 #[.agg #[.int .i64 a.x, .int .i64 a.y, .int .i64 a.z], .agg #[.int .i64 b.x, .int .i64 b.y, .int .i64 b.z]] w fun e w' => e = .returned (.bool r) ∧ Below w.heap.size w w' := h ▸ less_any a b w

theorem col_is {a b c : V} {r : Bool} (h : pcol a b c = r) (w : World) :
    Calls Try.prog 25 #[.agg #[.int .i64 a.x, .int .i64 a.y, .int .i64 a.z], .agg #[.int .i64 b.x, .int .i64 b.y, .int .i64 b.z], .agg #[.int .i64 c.x, .int .i64 c.y, .int .i64 c.z]] w fun e w' => e = .returned (.bool r) ∧ Below w.heap.size w w' := h ▸ col_any a b c w
theorem ex_col : pcol ⟨0, 0, 0⟩ ⟨1, 2, 3⟩ ⟨2, 4, 6⟩ = true := by
  rw [pcol_yes (by decide) (by decide) (by decide), psub_yes (by decide) (by decide), psub_yes (by decide) (by decide), pcross_yes (by decide) (by decide)]; decide
theorem ex_cross : pcross ⟨1, 0, 0⟩ ⟨0, 1, 0⟩ = ⟨0, 0, 1⟩ := by rw [pcross_yes (by decide) (by decide)]; rfl
theorem ex_det : pdet ⟨1, 0, 0⟩ ⟨0, 2, 0⟩ ⟨0, 0, 3⟩ = 6 := by
  rw [pdet_yes (by decide) (by decide), pcross_yes (by decide) (by decide), pdot_yes (by decide) (by decide)]; rfl
theorem ex_sub1 : psub ⟨65537, 0, 0⟩ ⟨1, 0, 0⟩ = ⟨0, 0, 0⟩ := psub_no1 (by decide)
theorem ex_sub2 : psub ⟨3, 2, 1⟩ ⟨1, 1, 1⟩ = ⟨2, 1, 0⟩ := by rw [psub_yes (by decide) (by decide)]; rfl
theorem ex_less : decide (PLess ⟨0, 1, 5⟩ ⟨0, 2, 0⟩) = true := by decide
def exf (i : Nat) : V := if i = 0 then ⟨1, 5, 0⟩ else ⟨3, 2, 0⟩
theorem exf_sl (w : World) : Sl w.heap.size 0 2 exf (w.alloc (.cells #[.int .i64 1, .int .i64 5, .int .i64 0, .int .i64 3, .int .i64 2, .int .i64 0] 23)) :=
  ⟨by simp, fun i hi => by
    obtain rfl | rfl : i = 0 ∨ i = 1 := by omega
    · exact ⟨cell_of_row _ _ _ _ _ _ (heap_alloc_new w _), cell_of_row _ _ _ _ _ _ (heap_alloc_new w _), cell_of_row _ _ _ _ _ _ (heap_alloc_new w _)⟩
    · exact ⟨cell_of_row _ _ _ _ _ _ (heap_alloc_new w _), cell_of_row _ _ _ _ _ _ (heap_alloc_new w _), cell_of_row _ _ _ _ _ _ (heap_alloc_new w _)⟩⟩
theorem exf_bounds (w : World) (cap : Nat) : Calls Try.prog 23 #[.slice (some ⟨w.heap.size, 0, none⟩) 2 cap] (w.alloc (.cells #[.int .i64 1, .int .i64 5, .int .i64 0, .int .i64 3, .int .i64 2, .int .i64 0] 23))
    fun e w' => e = .returned (.tuple #[.agg #[.int .i64 1, .int .i64 2, .int .i64 0], .agg #[.int .i64 3, .int .i64 5, .int .i64 0], .bool true]) ∧ Below w.heap.size w w' :=
  (bounds_some w.heap.size 0 2 cap exf _ (by decide) (by decide) (exf_sl w)).mono fun _ _ ⟨he, hb⟩ => ⟨he.trans rfl, below_next (below_alloc _ _) hb⟩

/-- What stands in memory behind the first statement. -/
structure Aw (w : World) (p q : Nat) (w' : World) : Prop where
  lo : At p 1 2 0 w'
  hi : At q 3 5 0 w'
  hB : Below w.heap.size w w'
theorem Aw.on {w w' : World} {p q : Nat} {f : FuncId} {args : Array Value} {v : Value} (h' : Aw w p q w') (h : Calls Try.prog f args w' fun e w'' => e = .returned v ∧ Below w'.heap.size w' w'') :
    Calls Try.prog f args w' fun e w'' => e = .returned v ∧ Aw w p q w'' := h.mono fun _ _ ⟨he, hb⟩ => ⟨he, h'.lo.next hb, h'.hi.next hb, below_next h'.hB hb⟩

set_option maxRecDepth 100000 in
set_option maxHeartbeats 800000 in
theorem awake_any (w : World) : Calls Try.prog 18 #[] w fun e w' => e = .returned (.bool true) ∧ Below w.heap.size w w' := by
  go_enter Try.func18, Try.ntmps18
  go_wp2_with fail
  refine (of_any _ _ _ _).mono ?_
  rintro e w1 ⟨rfl, hb1⟩
  go_wp2_with fail
  refine (of_any _ _ _ _).mono ?_
  rintro e w2 ⟨rfl, hb2⟩
  go_wp2_with fail
  refine (exf_bounds _ _).mono ?_
  rintro e w3 ⟨rfl, hb3⟩
  go_wp2_with fail
  obtain ⟨HB, X1, X2⟩ := two_boxes w3 1 2 0 3 5 0
  have HW := below_next (below_next (below_next hb1 hb2) hb3) HB
  generalize (w3.alloc _).alloc _ = w4 at HB X1 X2 HW ⊢
  refine wp_quiet_in (Aw w w3.heap.size (w3.heap.size + 1)) (by kernel_rfl) (by kernel_rfl) ⟨⟨X1.row⟩, ⟨X2.row⟩, HW.drew⟩ ?_
  repeat (first
    | go_big_quiet_skip
    | (go_big_quiet_want
       first
         | (refine quiet_load 1 rfl rfl (fun _ h => Aw.lo h) ?_; go_simp; go_big_quiet_on)
         | (refine quiet_load 2 rfl rfl (fun _ h => Aw.hi h) ?_; go_simp; go_big_quiet_on)
         | (go_big_quiet_op
            first
              | go_big_quiet_on
              | (refine ⟨_, fun _ _ => rfl, ?_⟩; go_big_quiet_on)
              | (apply Exists.intro
                 refine ⟨fun w' h' => ?_, ?_⟩
                 · first
                     | (go_at_call 31; with_reducible exact Aw.on h' (of_any _ _ _ _))
                     | (go_at_call 9; with_reducible exact Aw.on h' (cross_is ex_cross _))
                     | (go_at_call 19; with_reducible exact Aw.on h' (det_is ex_det _))
                     | (go_at_call 25; with_reducible exact Aw.on h' (col_is ex_col _))
                     | (go_at_call 12; with_reducible exact Aw.on h' (sub_is ex_sub1 _))
                     | (go_at_call 12; with_reducible exact Aw.on h' (sub_is ex_sub2 _))
                     | (go_at_call 10; with_reducible exact Aw.on h' (valid_yes ⟨65536, 0, 0⟩ _ (by decide)))
                     | (go_at_call 21; with_reducible exact Aw.on h' (less_is ex_less _))
                 go_big_quiet_on)
         )))
  refine wpQuiet_nil ?_
  intro w' h'
  go_wp2_with fail
  go_ret
  exact ⟨rfl, h'.hB⟩
end Go.Proofs.Ythhlofcponekhaa
