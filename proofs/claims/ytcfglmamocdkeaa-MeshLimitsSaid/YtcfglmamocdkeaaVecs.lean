/- The contracts of vec: Valid, Sub, Cross, Dot, Det, Less, of the program and of the reference. Printed by gen.py. -/
import Derived.Test.YtcfglmamocdkeaaRows
import Derived.WalkKit
import Derived.ProofKit
import Derived.OpenShut
import Derived.Lib.Hide
import Derived.WalkLawsBesides
import Derived.WalkSpells
import Derived.BigQuiet
import Derived.Deep.DeepFit
namespace Go.Proofs.Ytcfglmamocdkeaa
open Go.ChangeShapes Go.WideShapes Go.ChangeAt Go.RowKit

theorem ret_bool {a b : Bool} (h : a = b) : Ending.returned (.bool a) = .returned (.bool b) := by rw [h]
structure V where
  x : Int
  y : Int
  z : Int
/-- All coordinates are at most n in size. -/
def V.In (n : Int) (a : V) : Prop := (-n ≤ a.x ∧ a.x ≤ n) ∧ (-n ≤ a.y ∧ a.y ≤ n) ∧ (-n ≤ a.z ∧ a.z ≤ n)
instance (n : Int) (a : V) : Decidable (a.In n) := by unfold V.In; exact inferInstance
def psub (a b : V) : V := if a.In 65536 ∧ b.In 65536 then ⟨a.x - b.x, a.y - b.y, a.z - b.z⟩ else ⟨0, 0, 0⟩
def pcross (a b : V) : V := if a.In 131072 ∧ b.In 131072 then ⟨a.y * b.z - a.z * b.y, a.z * b.x - a.x * b.z, a.x * b.y - a.y * b.x⟩ else ⟨0, 0, 0⟩
def pdot (a b : V) : Int := if a.In 131072 ∧ b.In 1099511627776 then a.x * b.x + a.y * b.y + a.z * b.z else 0
def pdet (a b c : V) : Int := if b.In 131072 ∧ c.In 131072 then pdot a (pcross b c) else 0
theorem psub_yes {a b : V} (h : a.In 65536) (h' : b.In 65536) : psub a b = ⟨a.x - b.x, a.y - b.y, a.z - b.z⟩ := if_pos ⟨h, h'⟩
theorem psub_no1 {a b : V} (h : ¬ a.In 65536) : psub a b = ⟨0, 0, 0⟩ := if_neg fun k => h k.1
theorem psub_no2 {a b : V} (h : ¬ b.In 65536) : psub a b = ⟨0, 0, 0⟩ := if_neg fun k => h k.2
theorem pcross_yes {a b : V} (h : a.In 131072) (h' : b.In 131072) : pcross a b = ⟨a.y * b.z - a.z * b.y, a.z * b.x - a.x * b.z, a.x * b.y - a.y * b.x⟩ := if_pos ⟨h, h'⟩
theorem pcross_no1 {a b : V} (h : ¬ a.In 131072) : pcross a b = ⟨0, 0, 0⟩ := if_neg fun k => h k.1
theorem pcross_no2 {a b : V} (h : ¬ b.In 131072) : pcross a b = ⟨0, 0, 0⟩ := if_neg fun k => h k.2
theorem pdot_yes {a b : V} (h : a.In 131072) (h' : b.In 1099511627776) : pdot a b = a.x * b.x + a.y * b.y + a.z * b.z := if_pos ⟨h, h'⟩
theorem pdot_no1 {a b : V} (h : ¬ a.In 131072) : pdot a b = 0 := if_neg fun k => h k.1
theorem pdot_no2 {a b : V} (h : ¬ b.In 1099511627776) : pdot a b = 0 := if_neg fun k => h k.2
theorem pdet_yes {a b c : V} (h : b.In 131072) (h' : c.In 131072) : pdet a b c = pdot a (pcross b c) := if_pos ⟨h, h'⟩
theorem pdet_no1 {a b c : V} (h : ¬ b.In 131072) : pdet a b c = 0 := if_neg fun k => h k.1
theorem pdet_no2 {a b c : V} (h : ¬ c.In 131072) : pdet a b c = 0 := if_neg fun k => h k.2
theorem pdet_no3 {a b c : V} (h : ¬ a.In 131072) : pdet a b c = 0 := by unfold pdet; split <;> simp [pdot_no1 h]
attribute [irreducible] psub pcross pdot pdet
/-- A product of bounded numbers. -/
theorem mul_in {x y m n : Int} (h : -m ≤ x ∧ x ≤ m) (h' : -n ≤ y ∧ y ≤ n) : -(m * n) ≤ x * y ∧ x * y ≤ m * n := by
  obtain ⟨h1, h2⟩ := h
  obtain ⟨h3, h4⟩ := h'
  have p1 := Int.mul_nonneg (a := m - x) (b := n - y) (by omega) (by omega)
  have p2 := Int.mul_nonneg (a := m + x) (b := n + y) (by omega) (by omega)
  have p3 := Int.mul_nonneg (a := m - x) (b := n + y) (by omega) (by omega)
  have p4 := Int.mul_nonneg (a := m + x) (b := n - y) (by omega) (by omega)
  simp only [Int.sub_mul, Int.mul_sub, Int.add_mul, Int.mul_add] at p1 p2 p3 p4
  omega
theorem pcross_in (a b : V) : (pcross a b).In 34359738368 := by
  by_cases h : a.In 131072
  · by_cases h' : b.In 131072
    · rw [pcross_yes h h']
      unfold V.In at h h' ⊢
      obtain ⟨ax, ay, az⟩ := h
      obtain ⟨bx, byy, bz⟩ := h'
      have p1 := mul_in ay bz
      have p2 := mul_in az byy
      have p3 := mul_in az bx
      have p4 := mul_in ax bz
      have p5 := mul_in ax byy
      have p6 := mul_in ay bx
      dsimp only
      omega
    · rw [pcross_no2 h']; decide
  · rw [pcross_no1 h]; decide
theorem V.In.mono {a : V} {m n : Int} (h : a.In m) (hmn : m ≤ n) : a.In n := by
  unfold V.In at h ⊢; omega

/-- A vector stands in block b. -/
structure At (b : Nat) (x y z : Int) (w : World) : Prop where
  row : w.heap[b]? = some (.cells #[.int .i64 x, .int .i64 y, .int .i64 z] 36)
theorem At.hZ {b : Nat} {x y z : Int} {w : World} (h : At b x y z w) : b < w.heap.size := by
  rcases Nat.lt_or_ge b w.heap.size with h' | h'
  · exact h'
  · have := h.row
    rw [Array.getElem?_eq_none h'] at this
    cases this
theorem At.c0 {b : Nat} {x y z : Int} {w : World} (h : At b x y z w) : w.cell? ⟨b, 0, none⟩ = some (.int .i64 x) := cell_of_row _ _ _ _ _ _ h.row
theorem At.c1 {b : Nat} {x y z : Int} {w : World} (h : At b x y z w) : w.cell? ⟨b, 1, none⟩ = some (.int .i64 y) := cell_of_row _ _ _ _ _ _ h.row
theorem At.c2 {b : Nat} {x y z : Int} {w : World} (h : At b x y z w) : w.cell? ⟨b, 2, none⟩ = some (.int .i64 z) := cell_of_row _ _ _ _ _ _ h.row
theorem At.f {b : Nat} {x y z : Int} {w : World} (h : At b x y z w) (i : Nat) : w.frozen? ⟨b, i, none⟩ = false := by simp [World.frozen?, h.row]
theorem below_next {a b c : World} (h : Below a.heap.size a b) (k : Below b.heap.size b c) : Below a.heap.size a c := h.trans (k.mono h.size)
theorem below_alloc (w : World) (o : Obj) : Below w.heap.size w (w.alloc o) := (Below.refl _ _).alloc (Nat.le_refl _) _
theorem At.next {b : Nat} {x y z : Int} {a c : World} (h : At b x y z a) (hb : Below a.heap.size a c) : At b x y z c := ⟨(hb.block b h.hZ).trans h.row⟩
theorem At.new (w : World) (x y z : Int) : At w.heap.size x y z (w.alloc (.cells #[.int .i64 x, .int .i64 y, .int .i64 z] 36)) := ⟨heap_alloc_new w _⟩
theorem At.newAt {b : Nat} (w : World) (x y z : Int) (h : b = w.heap.size) : At b x y z (w.alloc (.cells #[.int .i64 x, .int .i64 y, .int .i64 z] 36)) := by subst h; exact At.new w x y z

/-- Two boxes of vectors stand behind w. -/
structure B2 (w : World) (a b : V) (w1 : World) : Prop where
  a : At w.heap.size a.x a.y a.z w1
  b : At (w.heap.size + 1) b.x b.y b.z w1
  hB : Below w.heap.size w w1
theorem B2.next {w : World} {u c : World} {a b : V} (h : B2 w a b u) (hb : Below u.heap.size u c) : B2 w a b c := ⟨h.a.next hb, h.b.next hb, below_next h.hB hb⟩
theorem B2.new (w : World) (a b : V) : B2 w a b ((w.alloc (.cells #[.int .i64 a.x, .int .i64 a.y, .int .i64 a.z] 36)).alloc (.cells #[.int .i64 b.x, .int .i64 b.y, .int .i64 b.z] 36)) :=
  ⟨(At.new w a.x a.y a.z).next (below_alloc _ _), At.newAt _ _ _ _ (by simp), below_next (below_alloc _ _) (below_alloc _ _)⟩
/-- Two boxes and a result's box. -/
structure B2R (w : World) (a b : V) (w1 : World) : Prop where
  two : B2 w a b w1
  r : At (w.heap.size + 1 + 1) 0 0 0 w1
theorem B2R.next {w : World} {u c : World} {a b : V} (h : B2R w a b u) (hb : Below u.heap.size u c) : B2R w a b c := ⟨h.two.next hb, h.r.next hb⟩
theorem B2R.new (w : World) (a b : V) : B2R w a b (((w.alloc (.cells #[.int .i64 a.x, .int .i64 a.y, .int .i64 a.z] 36)).alloc (.cells #[.int .i64 b.x, .int .i64 b.y, .int .i64 b.z] 36)).alloc (.cells #[.int .i64 0, .int .i64 0, .int .i64 0] 36)) :=
  ⟨(B2.new w a b).next (below_alloc _ _), At.newAt _ _ _ _ (by simp)⟩
/-- Three boxes. -/
structure B3 (w : World) (a b c : V) (w1 : World) : Prop where
  a : At w.heap.size a.x a.y a.z w1
  b : At (w.heap.size + 1) b.x b.y b.z w1
  c : At (w.heap.size + 1 + 1) c.x c.y c.z w1
  hB : Below w.heap.size w w1
theorem B3.next {w : World} {u v : World} {a b c : V} (h : B3 w a b c u) (hb : Below u.heap.size u v) : B3 w a b c v := ⟨h.a.next hb, h.b.next hb, h.c.next hb, below_next h.hB hb⟩
theorem B3.new (w : World) (a b c : V) : B3 w a b c (((w.alloc (.cells #[.int .i64 a.x, .int .i64 a.y, .int .i64 a.z] 36)).alloc (.cells #[.int .i64 b.x, .int .i64 b.y, .int .i64 b.z] 36)).alloc (.cells #[.int .i64 c.x, .int .i64 c.y, .int .i64 c.z] 36)) :=
  let h := (B2.new w a b).next (below_alloc _ (.cells #[.int .i64 c.x, .int .i64 c.y, .int .i64 c.z] 36))
  ⟨h.a, h.b, At.newAt _ _ _ _ (by simp), h.hB⟩


theorem within_any (a : V) (n : Int) (w : World) (h0 : 0 ≤ n) (h1 : n ≤ 1099511627776) :
    Calls Try.prog 42 #[.agg #[.int .i64 a.x, .int .i64 a.y, .int .i64 a.z], .int .i64 n] w fun e w' => e = .returned (.bool (decide (a.In n))) ∧ Below w.heap.size w w' := by
  obtain ⟨x, y, z⟩ := a
  go_enter Try.func42, Try.ntmps42
  go_wp2
  all_goals go_ret
  all_goals refine ⟨ret_bool ?_, (Below.refl _ _).alloc (Nat.le_refl _) _⟩
  all_goals unfold V.In
  all_goals first
    | (refine (decide_eq_false ?_).symm; dsimp only; omega)
    | (refine (decide_eq_true ?_).symm; dsimp only; omega)
    | (refine decide_eq_decide.2 ?_; dsimp only; omega)
theorem within_yes (a : V) (n : Int) (w : World) (h0 : 0 ≤ n) (h1 : n ≤ 1099511627776) (h : a.In n) :
    Calls Try.prog 42 #[.agg #[.int .i64 a.x, .int .i64 a.y, .int .i64 a.z], .int .i64 n] w fun e w' => e = .returned (.bool true) ∧ Below w.heap.size w w' :=
  (within_any a n w h0 h1).mono fun _ _ ⟨he, hb⟩ => ⟨he.trans (ret_bool (decide_eq_true h)), hb⟩
theorem within_no (a : V) (n : Int) (w : World) (h0 : 0 ≤ n) (h1 : n ≤ 1099511627776) (h : ¬ a.In n) :
    Calls Try.prog 42 #[.agg #[.int .i64 a.x, .int .i64 a.y, .int .i64 a.z], .int .i64 n] w fun e w' => e = .returned (.bool false) ∧ Below w.heap.size w w' :=
  (within_any a n w h0 h1).mono fun _ _ ⟨he, hb⟩ => ⟨he.trans (ret_bool (decide_eq_false h)), hb⟩


theorem small_any (a : V) (w : World) : Calls Try.prog 40 #[.agg #[.int .i64 a.x, .int .i64 a.y, .int .i64 a.z]] w fun e w' => e = .returned (.bool (decide (a.In 131072))) ∧ Below w.heap.size w w' := by
  go_enter Try.func40, Try.ntmps40
  go_wp2_with (go_at_call 42; refine (within_any _ _ _ (by decide) (by decide)).mono ?_; rintro e w1 ⟨rfl, hb⟩)
  go_ret
  exact ⟨rfl, below_next (below_alloc _ _) hb⟩
theorem small_yes (a : V) (w : World) (h : a.In 131072) : Calls Try.prog 40 #[.agg #[.int .i64 a.x, .int .i64 a.y, .int .i64 a.z]] w fun e w' => e = .returned (.bool true) ∧ Below w.heap.size w w' :=
  (small_any a w).mono fun _ _ ⟨he, hb⟩ => ⟨he.trans (ret_bool (decide_eq_true h)), hb⟩
theorem small_no (a : V) (w : World) (h : ¬ a.In 131072) : Calls Try.prog 40 #[.agg #[.int .i64 a.x, .int .i64 a.y, .int .i64 a.z]] w fun e w' => e = .returned (.bool false) ∧ Below w.heap.size w w' :=
  (small_any a w).mono fun _ _ ⟨he, hb⟩ => ⟨he.trans (ret_bool (decide_eq_false h)), hb⟩


theorem valid_any (a : V) (w : World) : Calls Try.prog 31 #[.agg #[.int .i64 a.x, .int .i64 a.y, .int .i64 a.z]] w fun e w' => e = .returned (.bool (decide (a.In 65536))) ∧ Below w.heap.size w w' := by
  go_enter Try.func31, Try.ntmps31
  go_wp2_with (go_at_call 42; refine (within_any _ _ _ (by decide) (by decide)).mono ?_; rintro e w1 ⟨rfl, hb⟩)
  go_ret
  exact ⟨rfl, below_next (below_alloc _ _) hb⟩
theorem valid_yes (a : V) (w : World) (h : a.In 65536) : Calls Try.prog 31 #[.agg #[.int .i64 a.x, .int .i64 a.y, .int .i64 a.z]] w fun e w' => e = .returned (.bool true) ∧ Below w.heap.size w w' :=
  (valid_any a w).mono fun _ _ ⟨he, hb⟩ => ⟨he.trans (ret_bool (decide_eq_true h)), hb⟩
theorem valid_no (a : V) (w : World) (h : ¬ a.In 65536) : Calls Try.prog 31 #[.agg #[.int .i64 a.x, .int .i64 a.y, .int .i64 a.z]] w fun e w' => e = .returned (.bool false) ∧ Below w.heap.size w w' :=
  (valid_any a w).mono fun _ _ ⟨he, hb⟩ => ⟨he.trans (ret_bool (decide_eq_false h)), hb⟩


set_option maxRecDepth 100000 in
set_option maxHeartbeats 1000000 in
theorem sub_any (a b : V) (w : World) :
    Calls Try.prog 34 #[.agg #[.int .i64 a.x, .int .i64 a.y, .int .i64 a.z], .agg #[.int .i64 b.x, .int .i64 b.y, .int .i64 b.z]] w fun e w' => e = .returned (.agg #[.int .i64 (psub a b).x, .int .i64 (psub a b).y, .int .i64 (psub a b).z]) ∧ Below w.heap.size w w' := by
  by_cases h : a.In 65536
  · by_cases h' : b.In 65536
    · have e1 : wrap64 (a.x - b.x) = a.x - b.x := by unfold wrap64; unfold V.In at h h'; omega
      have e2 : wrap64 (a.y - b.y) = a.y - b.y := by unfold wrap64; unfold V.In at h h'; omega
      have e3 : wrap64 (a.z - b.z) = a.z - b.z := by unfold wrap64; unfold V.In at h h'; omega
      rw [psub_yes h h']
      dsimp only
      have H := Lib.hid h
      have H' := Lib.hid h'
      clear h h'
      go_enter Try.func34, Try.ntmps34
      go_wp2_with fail
      refine (valid_yes _ _ H.out).mono ?_
      rintro e w1 ⟨rfl, hb1⟩
      have F1 := (B2R.new w a b).next hb1
      have d0 := F1.two.b.c0
      have d1 := F1.two.b.c1
      have d2 := F1.two.b.c2
      go_wp2_with fail
      refine (valid_yes _ _ H'.out).mono ?_
      rintro e w2 ⟨rfl, hb2⟩
      have F2 := F1.next hb2
      clear d0 d1 d2
      have d0 := F2.two.a.c0
      have d1 := F2.two.a.c1
      have d2 := F2.two.a.c2
      have g0 := F2.two.b.c0
      have g1 := F2.two.b.c1
      have g2 := F2.two.b.c2
      have r0 := F2.r.c0
      have r1 := F2.r.c1
      have r2 := F2.r.c2
      have f0 := F2.r.f 0
      have f1 := F2.r.f 1
      have f2 := F2.r.f 2
      go_wp2_with fail
      simp only [e1, e2, e3]
      exact bodyPost_ret (v := .agg #[_, _, _]) (by simp [results, Try.results34, go_sem, r0, r1, r2]) rfl ⟨rfl, ((F2.two.hB.setCell (by simp; omega) _).setCell (by simp; omega) _).setCell (by simp; omega) _⟩
    · rw [psub_no2 h']
      dsimp only
      have H := Lib.hid h
      have H' := Lib.hid h'
      clear h h'
      go_enter Try.func34, Try.ntmps34
      go_wp2_with fail
      refine (valid_yes _ _ H.out).mono ?_
      rintro e w1 ⟨rfl, hb1⟩
      have F1 := (B2R.new w a b).next hb1
      have d0 := F1.two.b.c0
      have d1 := F1.two.b.c1
      have d2 := F1.two.b.c2
      go_wp2_with fail
      refine (valid_no _ _ H'.out).mono ?_
      rintro e w2 ⟨rfl, hb2⟩
      have F2 := F1.next hb2
      have r0 := F2.r.c0
      have r1 := F2.r.c1
      have r2 := F2.r.c2
      have f0 := F2.r.f 0
      have f1 := F2.r.f 1
      have f2 := F2.r.f 2
      go_wp2_with fail
      exact bodyPost_ret (v := .agg #[_, _, _]) (by simp [results, Try.results34, go_sem, r0, r1, r2]) rfl ⟨rfl, ((F2.two.hB.setCell (by simp; omega) _).setCell (by simp; omega) _).setCell (by simp; omega) _⟩
  · rw [psub_no1 h]
    dsimp only
    have H := Lib.hid h
    clear h
    go_enter Try.func34, Try.ntmps34
    go_wp2_with fail
    refine (valid_no _ _ H.out).mono ?_
    rintro e w1 ⟨rfl, hb1⟩
    have F1 := (B2R.new w a b).next hb1
    have r0 := F1.r.c0
    have r1 := F1.r.c1
    have r2 := F1.r.c2
    have f0 := F1.r.f 0
    have f1 := F1.r.f 1
    have f2 := F1.r.f 2
    go_wp2_with fail
    exact bodyPost_ret (v := .agg #[_, _, _]) (by simp [results, Try.results34, go_sem, r0, r1, r2]) rfl ⟨rfl, ((F1.two.hB.setCell (by simp; omega) _).setCell (by simp; omega) _).setCell (by simp; omega) _⟩


set_option maxRecDepth 100000 in
set_option maxHeartbeats 1000000 in
theorem cross_any (a b : V) (w : World) :
    Calls Try.prog 33 #[.agg #[.int .i64 a.x, .int .i64 a.y, .int .i64 a.z], .agg #[.int .i64 b.x, .int .i64 b.y, .int .i64 b.z]] w fun e w' => e = .returned (.agg #[.int .i64 (pcross a b).x, .int .i64 (pcross a b).y, .int .i64 (pcross a b).z]) ∧ Below w.heap.size w w' := by
  by_cases h : a.In 131072
  · by_cases h' : b.In 131072
    · have e1 : wrap64 (wrap64 (a.y * b.z) - wrap64 (a.z * b.y)) = a.y * b.z - a.z * b.y := by
        have p1 := mul_in (m := 131072) (n := 131072) (x := a.y) (y := b.z) (by unfold V.In at h h'; omega) (by unfold V.In at h h'; omega)
        have p2 := mul_in (m := 131072) (n := 131072) (x := a.z) (y := b.y) (by unfold V.In at h h'; omega) (by unfold V.In at h h'; omega)
        generalize a.y * b.z = s at *
        generalize a.z * b.y = t at *
        unfold wrap64; omega
      have e2 : wrap64 (wrap64 (a.z * b.x) - wrap64 (a.x * b.z)) = a.z * b.x - a.x * b.z := by
        have p1 := mul_in (m := 131072) (n := 131072) (x := a.z) (y := b.x) (by unfold V.In at h h'; omega) (by unfold V.In at h h'; omega)
        have p2 := mul_in (m := 131072) (n := 131072) (x := a.x) (y := b.z) (by unfold V.In at h h'; omega) (by unfold V.In at h h'; omega)
        generalize a.z * b.x = s at *
        generalize a.x * b.z = t at *
        unfold wrap64; omega
      have e3 : wrap64 (wrap64 (a.x * b.y) - wrap64 (a.y * b.x)) = a.x * b.y - a.y * b.x := by
        have p1 := mul_in (m := 131072) (n := 131072) (x := a.x) (y := b.y) (by unfold V.In at h h'; omega) (by unfold V.In at h h'; omega)
        have p2 := mul_in (m := 131072) (n := 131072) (x := a.y) (y := b.x) (by unfold V.In at h h'; omega) (by unfold V.In at h h'; omega)
        generalize a.x * b.y = s at *
        generalize a.y * b.x = t at *
        unfold wrap64; omega
      rw [pcross_yes h h']
      dsimp only
      have H := Lib.hid h
      have H' := Lib.hid h'
      clear h h'
      go_enter Try.func33, Try.ntmps33
      go_wp2_with fail
      refine (small_yes _ _ H.out).mono ?_
      rintro e w1 ⟨rfl, hb1⟩
      have F1 := (B2R.new w a b).next hb1
      have d0 := F1.two.b.c0
      have d1 := F1.two.b.c1
      have d2 := F1.two.b.c2
      go_wp2_with fail
      refine (small_yes _ _ H'.out).mono ?_
      rintro e w2 ⟨rfl, hb2⟩
      have F2 := F1.next hb2
      clear d0 d1 d2
      have d0 := F2.two.a.c0
      have d1 := F2.two.a.c1
      have d2 := F2.two.a.c2
      have g0 := F2.two.b.c0
      have g1 := F2.two.b.c1
      have g2 := F2.two.b.c2
      have r0 := F2.r.c0
      have r1 := F2.r.c1
      have r2 := F2.r.c2
      have f0 := F2.r.f 0
      have f1 := F2.r.f 1
      have f2 := F2.r.f 2
      go_wp2_with fail
      simp only [e1, e2, e3]
      exact bodyPost_ret (v := .agg #[_, _, _]) (by simp [results, Try.results33, go_sem, r0, r1, r2]) rfl ⟨rfl, ((F2.two.hB.setCell (by simp; omega) _).setCell (by simp; omega) _).setCell (by simp; omega) _⟩
    · rw [pcross_no2 h']
      dsimp only
      have H := Lib.hid h
      have H' := Lib.hid h'
      clear h h'
      go_enter Try.func33, Try.ntmps33
      go_wp2_with fail
      refine (small_yes _ _ H.out).mono ?_
      rintro e w1 ⟨rfl, hb1⟩
      have F1 := (B2R.new w a b).next hb1
      have d0 := F1.two.b.c0
      have d1 := F1.two.b.c1
      have d2 := F1.two.b.c2
      go_wp2_with fail
      refine (small_no _ _ H'.out).mono ?_
      rintro e w2 ⟨rfl, hb2⟩
      have F2 := F1.next hb2
      have r0 := F2.r.c0
      have r1 := F2.r.c1
      have r2 := F2.r.c2
      have f0 := F2.r.f 0
      have f1 := F2.r.f 1
      have f2 := F2.r.f 2
      go_wp2_with fail
      exact bodyPost_ret (v := .agg #[_, _, _]) (by simp [results, Try.results33, go_sem, r0, r1, r2]) rfl ⟨rfl, ((F2.two.hB.setCell (by simp; omega) _).setCell (by simp; omega) _).setCell (by simp; omega) _⟩
  · rw [pcross_no1 h]
    dsimp only
    have H := Lib.hid h
    clear h
    go_enter Try.func33, Try.ntmps33
    go_wp2_with fail
    refine (small_no _ _ H.out).mono ?_
    rintro e w1 ⟨rfl, hb1⟩
    have F1 := (B2R.new w a b).next hb1
    have r0 := F1.r.c0
    have r1 := F1.r.c1
    have r2 := F1.r.c2
    have f0 := F1.r.f 0
    have f1 := F1.r.f 1
    have f2 := F1.r.f 2
    go_wp2_with fail
    exact bodyPost_ret (v := .agg #[_, _, _]) (by simp [results, Try.results33, go_sem, r0, r1, r2]) rfl ⟨rfl, ((F1.two.hB.setCell (by simp; omega) _).setCell (by simp; omega) _).setCell (by simp; omega) _⟩


set_option maxRecDepth 100000 in
set_option maxHeartbeats 1000000 in
theorem dot_any (a b : V) (w : World) :
    Calls Try.prog 41 #[.agg #[.int .i64 a.x, .int .i64 a.y, .int .i64 a.z], .agg #[.int .i64 b.x, .int .i64 b.y, .int .i64 b.z]] w fun e w' => e = .returned (.int .i64 (pdot a b)) ∧ Below w.heap.size w w' := by
  by_cases h : a.In 131072
  · by_cases h' : b.In 1099511627776
    · have e1 : wrap64 (wrap64 (wrap64 (a.x * b.x) + wrap64 (a.y * b.y)) + wrap64 (a.z * b.z)) = a.x * b.x + a.y * b.y + a.z * b.z := by
        have p1 := mul_in (m := 131072) (n := 1099511627776) (x := a.x) (y := b.x) (by unfold V.In at h h'; omega) (by unfold V.In at h h'; omega)
        have p2 := mul_in (m := 131072) (n := 1099511627776) (x := a.y) (y := b.y) (by unfold V.In at h h'; omega) (by unfold V.In at h h'; omega)
        have p3 := mul_in (m := 131072) (n := 1099511627776) (x := a.z) (y := b.z) (by unfold V.In at h h'; omega) (by unfold V.In at h h'; omega)
        generalize a.x * b.x = s at *
        generalize a.y * b.y = t at *
        generalize a.z * b.z = u at *
        unfold wrap64; omega
      rw [pdot_yes h h']
      have H := Lib.hid h
      have H' := Lib.hid h'
      clear h h'
      go_enter Try.func41, Try.ntmps41
      go_wp2_with fail
      refine (small_yes _ _ H.out).mono ?_
      rintro e w1 ⟨rfl, hb1⟩
      have F1 := (B2.new w a b).next hb1
      have d0 := F1.b.c0
      have d1 := F1.b.c1
      have d2 := F1.b.c2
      go_wp2_with fail
      refine (within_yes _ _ _ (by decide) (by decide) H'.out).mono ?_
      rintro e w2 ⟨rfl, hb2⟩
      have F2 := F1.next hb2
      clear d0 d1 d2
      have d0 := F2.a.c0
      have d1 := F2.a.c1
      have d2 := F2.a.c2
      have g0 := F2.b.c0
      have g1 := F2.b.c1
      have g2 := F2.b.c2
      go_wp2_with fail
      go_ret
      simp only [e1]
      exact ⟨rfl, F2.hB⟩
    · rw [pdot_no2 h']
      have H := Lib.hid h
      have H' := Lib.hid h'
      clear h h'
      go_enter Try.func41, Try.ntmps41
      go_wp2_with fail
      refine (small_yes _ _ H.out).mono ?_
      rintro e w1 ⟨rfl, hb1⟩
      have F1 := (B2.new w a b).next hb1
      have d0 := F1.b.c0
      have d1 := F1.b.c1
      have d2 := F1.b.c2
      go_wp2_with fail
      refine (within_no _ _ _ (by decide) (by decide) H'.out).mono ?_
      rintro e w2 ⟨rfl, hb2⟩
      have F2 := F1.next hb2
      go_wp2_with fail
      go_ret
      exact ⟨rfl, F2.hB⟩
  · rw [pdot_no1 h]
    have H := Lib.hid h
    clear h
    go_enter Try.func41, Try.ntmps41
    go_wp2_with fail
    refine (small_no _ _ H.out).mono ?_
    rintro e w1 ⟨rfl, hb1⟩
    have F1 := (B2.new w a b).next hb1
    go_wp2_with fail
    go_ret
    exact ⟨rfl, F1.hB⟩


theorem within_anyr (a : V) (n : Int) (w : World) (h0 : 0 ≤ n) (h1 : n ≤ 1099511627776) :
    Calls Try.prog 43 #[.agg #[.int .i64 a.x, .int .i64 a.y, .int .i64 a.z], .int .i64 n] w fun e w' => e = .returned (.bool (decide (a.In n))) ∧ Below w.heap.size w w' := by
  obtain ⟨x, y, z⟩ := a
  go_enter Try.func43, Try.ntmps43
  go_wp2
  all_goals go_ret
  all_goals refine ⟨ret_bool ?_, (Below.refl _ _).alloc (Nat.le_refl _) _⟩
  all_goals unfold V.In
  all_goals first
    | (refine (decide_eq_false ?_).symm; dsimp only; omega)
    | (refine (decide_eq_true ?_).symm; dsimp only; omega)
    | (refine decide_eq_decide.2 ?_; dsimp only; omega)
theorem within_yesr (a : V) (n : Int) (w : World) (h0 : 0 ≤ n) (h1 : n ≤ 1099511627776) (h : a.In n) :
    Calls Try.prog 43 #[.agg #[.int .i64 a.x, .int .i64 a.y, .int .i64 a.z], .int .i64 n] w fun e w' => e = .returned (.bool true) ∧ Below w.heap.size w w' :=
  (within_anyr a n w h0 h1).mono fun _ _ ⟨he, hb⟩ => ⟨he.trans (ret_bool (decide_eq_true h)), hb⟩
theorem within_nor (a : V) (n : Int) (w : World) (h0 : 0 ≤ n) (h1 : n ≤ 1099511627776) (h : ¬ a.In n) :
    Calls Try.prog 43 #[.agg #[.int .i64 a.x, .int .i64 a.y, .int .i64 a.z], .int .i64 n] w fun e w' => e = .returned (.bool false) ∧ Below w.heap.size w w' :=
  (within_anyr a n w h0 h1).mono fun _ _ ⟨he, hb⟩ => ⟨he.trans (ret_bool (decide_eq_false h)), hb⟩


theorem small_anyr (a : V) (w : World) : Calls Try.prog 44 #[.agg #[.int .i64 a.x, .int .i64 a.y, .int .i64 a.z]] w fun e w' => e = .returned (.bool (decide (a.In 131072))) ∧ Below w.heap.size w w' := by
  go_enter Try.func44, Try.ntmps44
  go_wp2_with (go_at_call 43; refine (within_anyr _ _ _ (by decide) (by decide)).mono ?_; rintro e w1 ⟨rfl, hb⟩)
  go_ret
  exact ⟨rfl, below_next (below_alloc _ _) hb⟩
theorem small_yesr (a : V) (w : World) (h : a.In 131072) : Calls Try.prog 44 #[.agg #[.int .i64 a.x, .int .i64 a.y, .int .i64 a.z]] w fun e w' => e = .returned (.bool true) ∧ Below w.heap.size w w' :=
  (small_anyr a w).mono fun _ _ ⟨he, hb⟩ => ⟨he.trans (ret_bool (decide_eq_true h)), hb⟩
theorem small_nor (a : V) (w : World) (h : ¬ a.In 131072) : Calls Try.prog 44 #[.agg #[.int .i64 a.x, .int .i64 a.y, .int .i64 a.z]] w fun e w' => e = .returned (.bool false) ∧ Below w.heap.size w w' :=
  (small_anyr a w).mono fun _ _ ⟨he, hb⟩ => ⟨he.trans (ret_bool (decide_eq_false h)), hb⟩


theorem valid_anyr (a : V) (w : World) : Calls Try.prog 32 #[.agg #[.int .i64 a.x, .int .i64 a.y, .int .i64 a.z]] w fun e w' => e = .returned (.bool (decide (a.In 65536))) ∧ Below w.heap.size w w' := by
  go_enter Try.func32, Try.ntmps32
  go_wp2_with (go_at_call 43; refine (within_anyr _ _ _ (by decide) (by decide)).mono ?_; rintro e w1 ⟨rfl, hb⟩)
  go_ret
  exact ⟨rfl, below_next (below_alloc _ _) hb⟩
theorem valid_yesr (a : V) (w : World) (h : a.In 65536) : Calls Try.prog 32 #[.agg #[.int .i64 a.x, .int .i64 a.y, .int .i64 a.z]] w fun e w' => e = .returned (.bool true) ∧ Below w.heap.size w w' :=
  (valid_anyr a w).mono fun _ _ ⟨he, hb⟩ => ⟨he.trans (ret_bool (decide_eq_true h)), hb⟩
theorem valid_nor (a : V) (w : World) (h : ¬ a.In 65536) : Calls Try.prog 32 #[.agg #[.int .i64 a.x, .int .i64 a.y, .int .i64 a.z]] w fun e w' => e = .returned (.bool false) ∧ Below w.heap.size w w' :=
  (valid_anyr a w).mono fun _ _ ⟨he, hb⟩ => ⟨he.trans (ret_bool (decide_eq_false h)), hb⟩


set_option maxRecDepth 100000 in
set_option maxHeartbeats 1000000 in
theorem sub_anyr (a b : V) (w : World) :
    Calls Try.prog 36 #[.agg #[.int .i64 a.x, .int .i64 a.y, .int .i64 a.z], .agg #[.int .i64 b.x, .int .i64 b.y, .int .i64 b.z]] w fun e w' => e = .returned (.agg #[.int .i64 (psub a b).x, .int .i64 (psub a b).y, .int .i64 (psub a b).z]) ∧ Below w.heap.size w w' := by
  by_cases h : a.In 65536
  · by_cases h' : b.In 65536
    · have e1 : wrap64 (a.x - b.x) = a.x - b.x := by unfold wrap64; unfold V.In at h h'; omega
      have e2 : wrap64 (a.y - b.y) = a.y - b.y := by unfold wrap64; unfold V.In at h h'; omega
      have e3 : wrap64 (a.z - b.z) = a.z - b.z := by unfold wrap64; unfold V.In at h h'; omega
      rw [psub_yes h h']
      dsimp only
      have H := Lib.hid h
      have H' := Lib.hid h'
      clear h h'
      go_enter Try.func36, Try.ntmps36
      go_wp2_with fail
      refine (valid_yesr _ _ H.out).mono ?_
      rintro e w1 ⟨rfl, hb1⟩
      have F1 := (B2R.new w a b).next hb1
      have d0 := F1.two.b.c0
      have d1 := F1.two.b.c1
      have d2 := F1.two.b.c2
      go_wp2_with fail
      refine (valid_yesr _ _ H'.out).mono ?_
      rintro e w2 ⟨rfl, hb2⟩
      have F2 := F1.next hb2
      clear d0 d1 d2
      have d0 := F2.two.a.c0
      have d1 := F2.two.a.c1
      have d2 := F2.two.a.c2
      have g0 := F2.two.b.c0
      have g1 := F2.two.b.c1
      have g2 := F2.two.b.c2
      have r0 := F2.r.c0
      have r1 := F2.r.c1
      have r2 := F2.r.c2
      have f0 := F2.r.f 0
      have f1 := F2.r.f 1
      have f2 := F2.r.f 2
      go_wp2_with fail
      simp only [e1, e2, e3]
      exact bodyPost_ret (v := .agg #[_, _, _]) (by simp [results, Try.results36, go_sem, r0, r1, r2]) rfl ⟨rfl, ((F2.two.hB.setCell (by simp; omega) _).setCell (by simp; omega) _).setCell (by simp; omega) _⟩
    · rw [psub_no2 h']
      dsimp only
      have H := Lib.hid h
      have H' := Lib.hid h'
      clear h h'
      go_enter Try.func36, Try.ntmps36
      go_wp2_with fail
      refine (valid_yesr _ _ H.out).mono ?_
      rintro e w1 ⟨rfl, hb1⟩
      have F1 := (B2R.new w a b).next hb1
      have d0 := F1.two.b.c0
      have d1 := F1.two.b.c1
      have d2 := F1.two.b.c2
      go_wp2_with fail
      refine (valid_nor _ _ H'.out).mono ?_
      rintro e w2 ⟨rfl, hb2⟩
      have F2 := F1.next hb2
      have r0 := F2.r.c0
      have r1 := F2.r.c1
      have r2 := F2.r.c2
      have f0 := F2.r.f 0
      have f1 := F2.r.f 1
      have f2 := F2.r.f 2
      go_wp2_with fail
      exact bodyPost_ret (v := .agg #[_, _, _]) (by simp [results, Try.results36, go_sem, r0, r1, r2]) rfl ⟨rfl, ((F2.two.hB.setCell (by simp; omega) _).setCell (by simp; omega) _).setCell (by simp; omega) _⟩
  · rw [psub_no1 h]
    dsimp only
    have H := Lib.hid h
    clear h
    go_enter Try.func36, Try.ntmps36
    go_wp2_with fail
    refine (valid_nor _ _ H.out).mono ?_
    rintro e w1 ⟨rfl, hb1⟩
    have F1 := (B2R.new w a b).next hb1
    have r0 := F1.r.c0
    have r1 := F1.r.c1
    have r2 := F1.r.c2
    have f0 := F1.r.f 0
    have f1 := F1.r.f 1
    have f2 := F1.r.f 2
    go_wp2_with fail
    exact bodyPost_ret (v := .agg #[_, _, _]) (by simp [results, Try.results36, go_sem, r0, r1, r2]) rfl ⟨rfl, ((F1.two.hB.setCell (by simp; omega) _).setCell (by simp; omega) _).setCell (by simp; omega) _⟩


set_option maxRecDepth 100000 in
set_option maxHeartbeats 1000000 in
theorem cross_anyr (a b : V) (w : World) :
    Calls Try.prog 35 #[.agg #[.int .i64 a.x, .int .i64 a.y, .int .i64 a.z], .agg #[.int .i64 b.x, .int .i64 b.y, .int .i64 b.z]] w fun e w' => e = .returned (.agg #[.int .i64 (pcross a b).x, .int .i64 (pcross a b).y, .int .i64 (pcross a b).z]) ∧ Below w.heap.size w w' := by
  by_cases h : a.In 131072
  · by_cases h' : b.In 131072
    · have e1 : wrap64 (wrap64 (a.y * b.z) - wrap64 (a.z * b.y)) = a.y * b.z - a.z * b.y := by
        have p1 := mul_in (m := 131072) (n := 131072) (x := a.y) (y := b.z) (by unfold V.In at h h'; omega) (by unfold V.In at h h'; omega)
        have p2 := mul_in (m := 131072) (n := 131072) (x := a.z) (y := b.y) (by unfold V.In at h h'; omega) (by unfold V.In at h h'; omega)
        generalize a.y * b.z = s at *
        generalize a.z * b.y = t at *
        unfold wrap64; omega
      have e2 : wrap64 (wrap64 (a.z * b.x) - wrap64 (a.x * b.z)) = a.z * b.x - a.x * b.z := by
        have p1 := mul_in (m := 131072) (n := 131072) (x := a.z) (y := b.x) (by unfold V.In at h h'; omega) (by unfold V.In at h h'; omega)
        have p2 := mul_in (m := 131072) (n := 131072) (x := a.x) (y := b.z) (by unfold V.In at h h'; omega) (by unfold V.In at h h'; omega)
        generalize a.z * b.x = s at *
        generalize a.x * b.z = t at *
        unfold wrap64; omega
      have e3 : wrap64 (wrap64 (a.x * b.y) - wrap64 (a.y * b.x)) = a.x * b.y - a.y * b.x := by
        have p1 := mul_in (m := 131072) (n := 131072) (x := a.x) (y := b.y) (by unfold V.In at h h'; omega) (by unfold V.In at h h'; omega)
        have p2 := mul_in (m := 131072) (n := 131072) (x := a.y) (y := b.x) (by unfold V.In at h h'; omega) (by unfold V.In at h h'; omega)
        generalize a.x * b.y = s at *
        generalize a.y * b.x = t at *
        unfold wrap64; omega
      rw [pcross_yes h h']
      dsimp only
      have H := Lib.hid h
      have H' := Lib.hid h'
      clear h h'
      go_enter Try.func35, Try.ntmps35
      go_wp2_with fail
      refine (small_yesr _ _ H.out).mono ?_
      rintro e w1 ⟨rfl, hb1⟩
      have F1 := (B2R.new w a b).next hb1
      have d0 := F1.two.b.c0
      have d1 := F1.two.b.c1
      have d2 := F1.two.b.c2
      go_wp2_with fail
      refine (small_yesr _ _ H'.out).mono ?_
      rintro e w2 ⟨rfl, hb2⟩
      have F2 := F1.next hb2
      clear d0 d1 d2
      have d0 := F2.two.a.c0
      have d1 := F2.two.a.c1
      have d2 := F2.two.a.c2
      have g0 := F2.two.b.c0
      have g1 := F2.two.b.c1
      have g2 := F2.two.b.c2
      have r0 := F2.r.c0
      have r1 := F2.r.c1
      have r2 := F2.r.c2
      have f0 := F2.r.f 0
      have f1 := F2.r.f 1
      have f2 := F2.r.f 2
      go_wp2_with fail
      simp only [e1, e2, e3]
      exact bodyPost_ret (v := .agg #[_, _, _]) (by simp [results, Try.results35, go_sem, r0, r1, r2]) rfl ⟨rfl, ((F2.two.hB.setCell (by simp; omega) _).setCell (by simp; omega) _).setCell (by simp; omega) _⟩
    · rw [pcross_no2 h']
      dsimp only
      have H := Lib.hid h
      have H' := Lib.hid h'
      clear h h'
      go_enter Try.func35, Try.ntmps35
      go_wp2_with fail
      refine (small_yesr _ _ H.out).mono ?_
      rintro e w1 ⟨rfl, hb1⟩
      have F1 := (B2R.new w a b).next hb1
      have d0 := F1.two.b.c0
      have d1 := F1.two.b.c1
      have d2 := F1.two.b.c2
      go_wp2_with fail
      refine (small_nor _ _ H'.out).mono ?_
      rintro e w2 ⟨rfl, hb2⟩
      have F2 := F1.next hb2
      have r0 := F2.r.c0
      have r1 := F2.r.c1
      have r2 := F2.r.c2
      have f0 := F2.r.f 0
      have f1 := F2.r.f 1
      have f2 := F2.r.f 2
      go_wp2_with fail
      exact bodyPost_ret (v := .agg #[_, _, _]) (by simp [results, Try.results35, go_sem, r0, r1, r2]) rfl ⟨rfl, ((F2.two.hB.setCell (by simp; omega) _).setCell (by simp; omega) _).setCell (by simp; omega) _⟩
  · rw [pcross_no1 h]
    dsimp only
    have H := Lib.hid h
    clear h
    go_enter Try.func35, Try.ntmps35
    go_wp2_with fail
    refine (small_nor _ _ H.out).mono ?_
    rintro e w1 ⟨rfl, hb1⟩
    have F1 := (B2R.new w a b).next hb1
    have r0 := F1.r.c0
    have r1 := F1.r.c1
    have r2 := F1.r.c2
    have f0 := F1.r.f 0
    have f1 := F1.r.f 1
    have f2 := F1.r.f 2
    go_wp2_with fail
    exact bodyPost_ret (v := .agg #[_, _, _]) (by simp [results, Try.results35, go_sem, r0, r1, r2]) rfl ⟨rfl, ((F1.two.hB.setCell (by simp; omega) _).setCell (by simp; omega) _).setCell (by simp; omega) _⟩


set_option maxRecDepth 100000 in
set_option maxHeartbeats 1000000 in
theorem dot_anyr (a b : V) (w : World) :
    Calls Try.prog 46 #[.agg #[.int .i64 a.x, .int .i64 a.y, .int .i64 a.z], .agg #[.int .i64 b.x, .int .i64 b.y, .int .i64 b.z]] w fun e w' => e = .returned (.int .i64 (pdot a b)) ∧ Below w.heap.size w w' := by
  by_cases h : a.In 131072
  · by_cases h' : b.In 1099511627776
    · have e1 : wrap64 (wrap64 (wrap64 (a.x * b.x) + wrap64 (a.y * b.y)) + wrap64 (a.z * b.z)) = a.x * b.x + a.y * b.y + a.z * b.z := by
        have p1 := mul_in (m := 131072) (n := 1099511627776) (x := a.x) (y := b.x) (by unfold V.In at h h'; omega) (by unfold V.In at h h'; omega)
        have p2 := mul_in (m := 131072) (n := 1099511627776) (x := a.y) (y := b.y) (by unfold V.In at h h'; omega) (by unfold V.In at h h'; omega)
        have p3 := mul_in (m := 131072) (n := 1099511627776) (x := a.z) (y := b.z) (by unfold V.In at h h'; omega) (by unfold V.In at h h'; omega)
        generalize a.x * b.x = s at *
        generalize a.y * b.y = t at *
        generalize a.z * b.z = u at *
        unfold wrap64; omega
      rw [pdot_yes h h']
      have H := Lib.hid h
      have H' := Lib.hid h'
      clear h h'
      go_enter Try.func46, Try.ntmps46
      go_wp2_with fail
      refine (small_yesr _ _ H.out).mono ?_
      rintro e w1 ⟨rfl, hb1⟩
      have F1 := (B2.new w a b).next hb1
      have d0 := F1.b.c0
      have d1 := F1.b.c1
      have d2 := F1.b.c2
      go_wp2_with fail
      refine (within_yesr _ _ _ (by decide) (by decide) H'.out).mono ?_
      rintro e w2 ⟨rfl, hb2⟩
      have F2 := F1.next hb2
      clear d0 d1 d2
      have d0 := F2.a.c0
      have d1 := F2.a.c1
      have d2 := F2.a.c2
      have g0 := F2.b.c0
      have g1 := F2.b.c1
      have g2 := F2.b.c2
      go_wp2_with fail
      go_ret
      simp only [e1]
      exact ⟨rfl, F2.hB⟩
    · rw [pdot_no2 h']
      have H := Lib.hid h
      have H' := Lib.hid h'
      clear h h'
      go_enter Try.func46, Try.ntmps46
      go_wp2_with fail
      refine (small_yesr _ _ H.out).mono ?_
      rintro e w1 ⟨rfl, hb1⟩
      have F1 := (B2.new w a b).next hb1
      have d0 := F1.b.c0
      have d1 := F1.b.c1
      have d2 := F1.b.c2
      go_wp2_with fail
      refine (within_nor _ _ _ (by decide) (by decide) H'.out).mono ?_
      rintro e w2 ⟨rfl, hb2⟩
      have F2 := F1.next hb2
      go_wp2_with fail
      go_ret
      exact ⟨rfl, F2.hB⟩
  · rw [pdot_no1 h]
    have H := Lib.hid h
    clear h
    go_enter Try.func46, Try.ntmps46
    go_wp2_with fail
    refine (small_nor _ _ H.out).mono ?_
    rintro e w1 ⟨rfl, hb1⟩
    have F1 := (B2.new w a b).next hb1
    go_wp2_with fail
    go_ret
    exact ⟨rfl, F1.hB⟩

end Go.Proofs.Ytcfglmamocdkeaa
