/- The contracts of planar: Valid, Cross, Turn, of the program and of the reference. Printed by plan.py. -/
import Derived.Test.YtffmmfeedfdlaaaRows
import Derived.WalkKit
import Derived.ProofKit
import Derived.OpenShut
import Derived.Lib.Hide
import Derived.WalkLawsBesides
import Derived.WalkSpells
import Derived.BigQuiet
import Derived.Deep.DeepFit
namespace Go.Proofs.Ytffmmfeedfdlaaa
open Go.ChangeShapes Go.WideShapes Go.ChangeAt Go.RowKit

theorem ret_bool {a b : Bool} (h : a = b) : Ending.returned (.bool a) = .returned (.bool b) := by rw [h]
theorem ret_int {a b : Int} (h : a = b) : Ending.returned (.int .i64 a) = .returned (.int .i64 b) := by rw [h]
structure P where
  x : Int
  y : Int
/-- The coordinates are in range. -/
def P.Ok (a : P) : Prop := (-16777216 ≤ a.x ∧ a.x ≤ 16777216) ∧ (-16777216 ≤ a.y ∧ a.y ≤ 16777216)
instance (a : P) : Decidable a.Ok := by unfold P.Ok; exact inferInstance
/-- The cross product of b - a and c - a. -/
def X3 (a b c : P) : Int := (b.x - a.x) * (c.y - a.y) - (b.y - a.y) * (c.x - a.x)
def pcross (a b c : P) : Int := if a.Ok ∧ b.Ok ∧ c.Ok then X3 a b c else 0
def sgn (n : Int) : Int := if 0 < n then 1 else if n < 0 then -1 else 0
def pturn (a b c : P) : Int := sgn (pcross a b c)
theorem pcross_yes {a b c : P} (h : a.Ok) (h' : b.Ok) (h'' : c.Ok) : pcross a b c = X3 a b c := if_pos ⟨h, h', h''⟩
theorem pcross_no {a b c : P} (h : ¬ (a.Ok ∧ b.Ok ∧ c.Ok)) : pcross a b c = 0 := if_neg h
/-- A product of bounded numbers. -/
theorem mul_in {x y m n : Int} (h : -m ≤ x ∧ x ≤ m) (h' : -n ≤ y ∧ y ≤ n) : -(m * n) ≤ x * y ∧ x * y ≤ m * n := by
  obtain ⟨h1, h2⟩ := h
  obtain ⟨h3, h4⟩ := h'
  have p1 := Int.mul_nonneg (a := m - x) (b := n - y) (by omega) (by omega)
  have p2 := Int.mul_nonneg (a := m + x) (b := n + y) (by omega) (by omega)
  have p3 := Int.mul_nonneg (a := m - x) (b := n + y) (by omega) (by omega)
  have p4 := Int.mul_nonneg (a := m + x) (b := n - y) (by omega) (by omega)
  simp only [Int.sub_mul, Int.mul_sub, Int.add_mul, Int.mul_add] at p1 p2 p3 p4
  omega

/-- A point stands in block b. -/
structure At (b : Nat) (x y : Int) (w : World) : Prop where
  row : w.heap[b]? = some (.cells #[.int .i64 x, .int .i64 y] 24)
theorem lt_of_row {w : World} {k : Nat} {o : Obj} (h : w.heap[k]? = some o) : k < w.heap.size := (Array.getElem?_eq_some_iff.1 h).1
theorem At.hZ {b : Nat} {x y : Int} {w : World} (h : At b x y w) : b < w.heap.size := lt_of_row h.row
theorem At.c0 {b : Nat} {x y : Int} {w : World} (h : At b x y w) : w.cell? ⟨b, 0, none⟩ = some (.int .i64 x) := cell_of_row _ _ _ _ _ _ h.row
theorem At.c1 {b : Nat} {x y : Int} {w : World} (h : At b x y w) : w.cell? ⟨b, 1, none⟩ = some (.int .i64 y) := cell_of_row _ _ _ _ _ _ h.row
theorem below_next {a b c : World} (h : Below a.heap.size a b) (k : Below b.heap.size b c) : Below a.heap.size a c := h.trans (k.mono h.size)
theorem below_alloc (w : World) (o : Obj) : Below w.heap.size w (w.alloc o) := (Below.refl _ _).alloc (Nat.le_refl _) _
theorem At.next {b : Nat} {x y : Int} {a c : World} (h : At b x y a) (hb : Below a.heap.size a c) : At b x y c := ⟨(hb.block b h.hZ).trans h.row⟩
theorem At.new (w : World) (x y : Int) : At w.heap.size x y (w.alloc (.cells #[.int .i64 x, .int .i64 y] 24)) := ⟨heap_alloc_new w _⟩
theorem At.newAt {b : Nat} (w : World) (x y : Int) (h : b = w.heap.size) : At b x y (w.alloc (.cells #[.int .i64 x, .int .i64 y] 24)) := by subst h; exact At.new w x y
/-- Three boxes. -/
structure B3 (w : World) (a b c : P) (w1 : World) : Prop where
  a : At w.heap.size a.x a.y w1
  b : At (w.heap.size + 1) b.x b.y w1
  c : At (w.heap.size + 1 + 1) c.x c.y w1
  hB : Below w.heap.size w w1
theorem B3.next {w : World} {u v : World} {a b c : P} (h : B3 w a b c u) (hb : Below u.heap.size u v) : B3 w a b c v := ⟨h.a.next hb, h.b.next hb, h.c.next hb, below_next h.hB hb⟩
theorem B3.new (w : World) (a b c : P) : B3 w a b c (((w.alloc (.cells #[.int .i64 a.x, .int .i64 a.y] 24)).alloc (.cells #[.int .i64 b.x, .int .i64 b.y] 24)).alloc (.cells #[.int .i64 c.x, .int .i64 c.y] 24)) :=
  ⟨((At.new w a.x a.y).next (below_alloc _ _)).next (below_alloc _ _), (At.newAt _ _ _ (by simp)).next (below_alloc _ _), At.newAt _ _ _ (by simp), below_next (below_next (below_alloc _ _) (below_alloc _ _)) (below_alloc _ _)⟩


theorem valid_any (a : P) (w : World) : Calls Try.prog 18 #[.agg #[.int .i64 a.x, .int .i64 a.y]] w fun e w' => e = .returned (.bool (decide a.Ok)) ∧ Below w.heap.size w w' := by
  obtain ⟨x, y⟩ := a
  go_enter Try.func18, Try.ntmps18
  go_wp2
  all_goals go_ret
  all_goals refine ⟨ret_bool ?_, below_alloc _ _⟩
  all_goals unfold P.Ok
  all_goals first
    | (refine (decide_eq_false ?_).symm; dsimp only; omega)
    | (refine (decide_eq_true ?_).symm; dsimp only; omega)
    | (refine decide_eq_decide.2 ?_; dsimp only; omega)
theorem valid_is {a : P} {r : Bool} (h : decide a.Ok = r) (w : World) : Calls Try.prog 18 #[.agg #[.int .i64 a.x, .int .i64 a.y]] w fun e w' => e = .returned (.bool r) ∧ Below w.heap.size w w' := h ▸ valid_any a w

theorem cross_yes (a b c : P) (w : World) (h : a.Ok) (h' : b.Ok) (h'' : c.Ok) :
    Calls Try.prog 26 #[.agg #[.int .i64 a.x, .int .i64 a.y], .agg #[.int .i64 b.x, .int .i64 b.y], .agg #[.int .i64 c.x, .int .i64 c.y]] w fun e w' => e = .returned (.int .i64 (X3 a b c)) ∧ Below w.heap.size w w' := by
  have H := Lib.hid h
  have H' := Lib.hid h'
  have H'' := Lib.hid h''
  clear h h' h''
  go_enter Try.func26, Try.ntmps26
  go_wp2_with fail
  refine (valid_is (decide_eq_true H.out) _).mono ?_
  rintro e w1 ⟨rfl, hb1⟩
  have F1 := (B3.new w a b c).next hb1
  have c0 := F1.b.c0
  have c1 := F1.b.c1
  go_wp2_with fail
  refine (valid_is (decide_eq_true H'.out) _).mono ?_
  rintro e w2 ⟨rfl, hb2⟩
  have F2 := F1.next hb2
  clear c0 c1
  have c0 := F2.c.c0
  have c1 := F2.c.c1
  go_wp2_with fail
  refine (valid_is (decide_eq_true H''.out) _).mono ?_
  rintro e w3 ⟨rfl, hb3⟩
  have F3 := F2.next hb3
  clear c0 c1
  have a0 := F3.a.c0
  have a1 := F3.a.c1
  have b0 := F3.b.c0
  have b1 := F3.b.c1
  have c0 := F3.c.c0
  have c1 := F3.c.c1
  obtain ⟨⟨k0, k1⟩, k2, k3⟩ := H.out
  obtain ⟨⟨l0, l1⟩, l2, l3⟩ := H'.out
  obtain ⟨⟨m0, m1⟩, m2, m3⟩ := H''.out
  have q1 := mul_in (x := b.x - a.x) (y := c.y - a.y) (m := 33554432) (n := 33554432) (by omega) (by omega)
  have q2 := mul_in (x := b.y - a.y) (y := c.x - a.x) (m := 33554432) (n := 33554432) (by omega) (by omega)
  simp only [Int.reduceMul] at q1 q2
  go_wp2_with fail
  go_ret
  exact ⟨ret_int rfl, F3.hB⟩
theorem cross_no (a b c : P) (w : World) (h : ¬ (a.Ok ∧ b.Ok ∧ c.Ok)) :
    Calls Try.prog 26 #[.agg #[.int .i64 a.x, .int .i64 a.y], .agg #[.int .i64 b.x, .int .i64 b.y], .agg #[.int .i64 c.x, .int .i64 c.y]] w fun e w' => e = .returned (.int .i64 0) ∧ Below w.heap.size w w' := by
  by_cases h1 : a.Ok
  · by_cases h2 : b.Ok
    · have h3 : ¬ c.Ok := fun k => h ⟨h1, h2, k⟩
      have H := Lib.hid h1
      have H' := Lib.hid h2
      have H'' := Lib.hid h3
      clear h h1 h2 h3
      go_enter Try.func26, Try.ntmps26
      go_wp2_with fail
      refine (valid_is (decide_eq_true H.out) _).mono ?_
      rintro e w1 ⟨rfl, hb1⟩
      have F1 := (B3.new w a b c).next hb1
      have c0 := F1.b.c0
      have c1 := F1.b.c1
      go_wp2_with fail
      refine (valid_is (decide_eq_true H'.out) _).mono ?_
      rintro e w2 ⟨rfl, hb2⟩
      have F2 := F1.next hb2
      clear c0 c1
      have c0 := F2.c.c0
      have c1 := F2.c.c1
      go_wp2_with fail
      refine (valid_is (decide_eq_false H''.out) _).mono ?_
      rintro e w3 ⟨rfl, hb3⟩
      have F3 := F2.next hb3
      go_wp2_with fail
      go_ret
      exact ⟨rfl, F3.hB⟩
    · have H := Lib.hid h1
      have H' := Lib.hid h2
      clear h h1 h2
      go_enter Try.func26, Try.ntmps26
      go_wp2_with fail
      refine (valid_is (decide_eq_true H.out) _).mono ?_
      rintro e w1 ⟨rfl, hb1⟩
      have F1 := (B3.new w a b c).next hb1
      have c0 := F1.b.c0
      have c1 := F1.b.c1
      go_wp2_with fail
      refine (valid_is (decide_eq_false H'.out) _).mono ?_
      rintro e w2 ⟨rfl, hb2⟩
      have F2 := F1.next hb2
      go_wp2_with fail
      go_ret
      exact ⟨rfl, F2.hB⟩
  · have H := Lib.hid h1
    clear h h1
    go_enter Try.func26, Try.ntmps26
    go_wp2_with fail
    refine (valid_is (decide_eq_false H.out) _).mono ?_
    rintro e w1 ⟨rfl, hb1⟩
    have F1 := (B3.new w a b c).next hb1
    go_wp2_with fail
    go_ret
    exact ⟨rfl, F1.hB⟩
theorem cross_is (a b c : P) (w : World) (r : Int) (hr : pcross a b c = r) :
    Calls Try.prog 26 #[.agg #[.int .i64 a.x, .int .i64 a.y], .agg #[.int .i64 b.x, .int .i64 b.y], .agg #[.int .i64 c.x, .int .i64 c.y]] w fun e w' => e = .returned (.int .i64 r) ∧ Below w.heap.size w w' := by
  subst hr
  by_cases h : a.Ok ∧ b.Ok ∧ c.Ok
  · rw [pcross_yes h.1 h.2.1 h.2.2]; exact cross_yes a b c w h.1 h.2.1 h.2.2
  · rw [pcross_no h]; exact cross_no a b c w h
theorem turn_is (a b c : P) (w : World) (r : Int) (hr : pturn a b c = r) :
    Calls Try.prog 20 #[.agg #[.int .i64 a.x, .int .i64 a.y], .agg #[.int .i64 b.x, .int .i64 b.y], .agg #[.int .i64 c.x, .int .i64 c.y]] w fun e w' => e = .returned (.int .i64 r) ∧ Below w.heap.size w w' := by
  obtain ⟨x, hx⟩ : ∃ x, pcross a b c = x := ⟨_, rfl⟩
  have hs : r = sgn x := by rw [← hr, ← hx]; rfl
  have HS := Lib.hid hs
  have HX := Lib.hid hx
  clear hs hx hr
  go_enter Try.func20, Try.ntmps20
  go_wp2_with fail
  refine (cross_is a b c _ x HX.out).mono ?_
  rintro e w1 ⟨rfl, hb1⟩
  have F1 := (B3.new w a b c).next hb1
  go_wp2
  all_goals go_ret
  all_goals refine ⟨ret_int ?_, F1.hB⟩
  all_goals rw [HS.out]
  all_goals unfold sgn
  all_goals first
    | (rw [if_pos (by omega)])
    | (rw [if_neg (by omega), if_pos (by omega)])
    | (rw [if_neg (by omega), if_neg (by omega)])

theorem valid_anyr (a : P) (w : World) : Calls Try.prog 21 #[.agg #[.int .i64 a.x, .int .i64 a.y]] w fun e w' => e = .returned (.bool (decide a.Ok)) ∧ Below w.heap.size w w' := by
  obtain ⟨x, y⟩ := a
  go_enter Try.func21, Try.ntmps21
  go_wp2
  all_goals go_ret
  all_goals refine ⟨ret_bool ?_, below_alloc _ _⟩
  all_goals unfold P.Ok
  all_goals first
    | (refine (decide_eq_false ?_).symm; dsimp only; omega)
    | (refine (decide_eq_true ?_).symm; dsimp only; omega)
    | (refine decide_eq_decide.2 ?_; dsimp only; omega)
theorem valid_isr {a : P} {r : Bool} (h : decide a.Ok = r) (w : World) : Calls Try.prog 21 #[.agg #[.int .i64 a.x, .int .i64 a.y]] w fun e w' => e = .returned (.bool r) ∧ Below w.heap.size w w' := h ▸ valid_anyr a w

theorem cross_yesr (a b c : P) (w : World) (h : a.Ok) (h' : b.Ok) (h'' : c.Ok) :
    Calls Try.prog 28 #[.agg #[.int .i64 a.x, .int .i64 a.y], .agg #[.int .i64 b.x, .int .i64 b.y], .agg #[.int .i64 c.x, .int .i64 c.y]] w fun e w' => e = .returned (.int .i64 (X3 a b c)) ∧ Below w.heap.size w w' := by
  have H := Lib.hid h
  have H' := Lib.hid h'
  have H'' := Lib.hid h''
  clear h h' h''
  go_enter Try.func28, Try.ntmps28
  go_wp2_with fail
  refine (valid_isr (decide_eq_true H.out) _).mono ?_
  rintro e w1 ⟨rfl, hb1⟩
  have F1 := (B3.new w a b c).next hb1
  have c0 := F1.b.c0
  have c1 := F1.b.c1
  go_wp2_with fail
  refine (valid_isr (decide_eq_true H'.out) _).mono ?_
  rintro e w2 ⟨rfl, hb2⟩
  have F2 := F1.next hb2
  clear c0 c1
  have c0 := F2.c.c0
  have c1 := F2.c.c1
  go_wp2_with fail
  refine (valid_isr (decide_eq_true H''.out) _).mono ?_
  rintro e w3 ⟨rfl, hb3⟩
  have F3 := F2.next hb3
  clear c0 c1
  have a0 := F3.a.c0
  have a1 := F3.a.c1
  have b0 := F3.b.c0
  have b1 := F3.b.c1
  have c0 := F3.c.c0
  have c1 := F3.c.c1
  obtain ⟨⟨k0, k1⟩, k2, k3⟩ := H.out
  obtain ⟨⟨l0, l1⟩, l2, l3⟩ := H'.out
  obtain ⟨⟨m0, m1⟩, m2, m3⟩ := H''.out
  have q1 := mul_in (x := b.x - a.x) (y := c.y - a.y) (m := 33554432) (n := 33554432) (by omega) (by omega)
  have q2 := mul_in (x := b.y - a.y) (y := c.x - a.x) (m := 33554432) (n := 33554432) (by omega) (by omega)
  simp only [Int.reduceMul] at q1 q2
  go_wp2_with fail
  go_ret
  exact ⟨ret_int rfl, F3.hB⟩
theorem cross_nor (a b c : P) (w : World) (h : ¬ (a.Ok ∧ b.Ok ∧ c.Ok)) :
    Calls Try.prog 28 #[.agg #[.int .i64 a.x, .int .i64 a.y], .agg #[.int .i64 b.x, .int .i64 b.y], .agg #[.int .i64 c.x, .int .i64 c.y]] w fun e w' => e = .returned (.int .i64 0) ∧ Below w.heap.size w w' := by
  by_cases h1 : a.Ok
  · by_cases h2 : b.Ok
    · have h3 : ¬ c.Ok := fun k => h ⟨h1, h2, k⟩
      have H := Lib.hid h1
      have H' := Lib.hid h2
      have H'' := Lib.hid h3
      clear h h1 h2 h3
      go_enter Try.func28, Try.ntmps28
      go_wp2_with fail
      refine (valid_isr (decide_eq_true H.out) _).mono ?_
      rintro e w1 ⟨rfl, hb1⟩
      have F1 := (B3.new w a b c).next hb1
      have c0 := F1.b.c0
      have c1 := F1.b.c1
      go_wp2_with fail
      refine (valid_isr (decide_eq_true H'.out) _).mono ?_
      rintro e w2 ⟨rfl, hb2⟩
      have F2 := F1.next hb2
      clear c0 c1
      have c0 := F2.c.c0
      have c1 := F2.c.c1
      go_wp2_with fail
      refine (valid_isr (decide_eq_false H''.out) _).mono ?_
      rintro e w3 ⟨rfl, hb3⟩
      have F3 := F2.next hb3
      go_wp2_with fail
      go_ret
      exact ⟨rfl, F3.hB⟩
    · have H := Lib.hid h1
      have H' := Lib.hid h2
      clear h h1 h2
      go_enter Try.func28, Try.ntmps28
      go_wp2_with fail
      refine (valid_isr (decide_eq_true H.out) _).mono ?_
      rintro e w1 ⟨rfl, hb1⟩
      have F1 := (B3.new w a b c).next hb1
      have c0 := F1.b.c0
      have c1 := F1.b.c1
      go_wp2_with fail
      refine (valid_isr (decide_eq_false H'.out) _).mono ?_
      rintro e w2 ⟨rfl, hb2⟩
      have F2 := F1.next hb2
      go_wp2_with fail
      go_ret
      exact ⟨rfl, F2.hB⟩
  · have H := Lib.hid h1
    clear h h1
    go_enter Try.func28, Try.ntmps28
    go_wp2_with fail
    refine (valid_isr (decide_eq_false H.out) _).mono ?_
    rintro e w1 ⟨rfl, hb1⟩
    have F1 := (B3.new w a b c).next hb1
    go_wp2_with fail
    go_ret
    exact ⟨rfl, F1.hB⟩
theorem cross_isr (a b c : P) (w : World) (r : Int) (hr : pcross a b c = r) :
    Calls Try.prog 28 #[.agg #[.int .i64 a.x, .int .i64 a.y], .agg #[.int .i64 b.x, .int .i64 b.y], .agg #[.int .i64 c.x, .int .i64 c.y]] w fun e w' => e = .returned (.int .i64 r) ∧ Below w.heap.size w w' := by
  subst hr
  by_cases h : a.Ok ∧ b.Ok ∧ c.Ok
  · rw [pcross_yes h.1 h.2.1 h.2.2]; exact cross_yesr a b c w h.1 h.2.1 h.2.2
  · rw [pcross_no h]; exact cross_nor a b c w h
theorem turn_isr (a b c : P) (w : World) (r : Int) (hr : pturn a b c = r) :
    Calls Try.prog 27 #[.agg #[.int .i64 a.x, .int .i64 a.y], .agg #[.int .i64 b.x, .int .i64 b.y], .agg #[.int .i64 c.x, .int .i64 c.y]] w fun e w' => e = .returned (.int .i64 r) ∧ Below w.heap.size w w' := by
  obtain ⟨x, hx⟩ : ∃ x, pcross a b c = x := ⟨_, rfl⟩
  have hs : r = sgn x := by rw [← hr, ← hx]; rfl
  have HS := Lib.hid hs
  have HX := Lib.hid hx
  clear hs hx hr
  go_enter Try.func27, Try.ntmps27
  go_wp2_with fail
  refine (cross_isr a b c _ x HX.out).mono ?_
  rintro e w1 ⟨rfl, hb1⟩
  have F1 := (B3.new w a b c).next hb1
  go_wp2
  all_goals go_ret
  all_goals refine ⟨ret_int ?_, F1.hB⟩
  all_goals rw [HS.out]
  all_goals unfold sgn
  all_goals first
    | (rw [if_pos (by omega)])
    | (rw [if_neg (by omega), if_pos (by omega)])
    | (rw [if_neg (by omega), if_neg (by omega)])
end Go.Proofs.Ytffmmfeedfdlaaa
