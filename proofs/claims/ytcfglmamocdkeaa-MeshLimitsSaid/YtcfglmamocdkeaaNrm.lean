/- The contracts of Normal and Box, of the program and of the reference. Printed by nrm.py. -/
import Derived.Test.YtcfglmamocdkeaaCrn
import Derived.Test.YtcfglmamocdkeaaOps
namespace Go.Proofs.Ytcfglmamocdkeaa
open Go.ChangeShapes Go.WideShapes Go.ChangeAt Go.RowKit
set_option linter.unusedVariables false

section
variable {a : Act} {w : World} {K : Act → World → Prop} {Q : Exit → Act → World → Prop} {q : Oper}
theorem op_load36 {b : Nat} {v : V} (i : Nat) (h : q.op = .load 36 (.tmp i)) (ha : a.eval (.tmp i) = .pointer (some ⟨b, 0, none⟩)) (A : At b v.x v.y v.z w) (hk : K (a.put q.dst (.agg #[.int .i64 v.x, .int .i64 v.y, .int .i64 v.z])) w) : q.wp Try.prog a w K Q := by
  have d0 := A.c0
  have d1 := A.c1
  have d2 := A.c2
  obtain ⟨dst, op, type, pos, after, guard⟩ := q
  dsimp only at h hk
  subst h
  unfold Oper.wp execOp
  simp only [ha]
  go_simp
  exact hk
theorem op_store36 {b : Nat} {v u : V} (i j : Nat) (h : q.op = .store 36 (.tmp i) (.tmp j)) (hd : q.dst = none) (ha : a.eval (.tmp i) = .pointer (some ⟨b, 0, none⟩)) (hb : a.eval (.tmp j) = .agg #[.int .i64 v.x, .int .i64 v.y, .int .i64 v.z]) (A : At b u.x u.y u.z w)
    (hk : K a (((w.setCell ⟨b, 0, none⟩ (.int .i64 v.x)).setCell ⟨b, 1, none⟩ (.int .i64 v.y)).setCell ⟨b, 2, none⟩ (.int .i64 v.z))) : q.wp Try.prog a w K Q := by
  have d0 := A.c0
  have d1 := A.c1
  have d2 := A.c2
  have f0 := A.f 0
  have f1 := A.f 1
  have f2 := A.f 2
  obtain ⟨dst, op, type, pos, after, guard⟩ := q
  dsimp only at h hd
  subst h hd
  unfold Oper.wp execOp
  simp only [ha, hb]
  go_simp
  exact hk
theorem op_call33 {u v : Value} {ts : Array TypeId} (i j : Nat) (h : q.op = .call { callee := .value (.func 33), args := #[.tmp i, .tmp j], argTypes := ts }) (ha : a.eval (.tmp i) = u) (hb : a.eval (.tmp j) = v)
    (hc : Calls Try.prog 33 #[u, v] w fun e w' => ∃ r, e = .returned r ∧ K (a.put q.dst r) w') : q.wp Try.prog a w K Q := by
  obtain ⟨dst, op, type, pos, after, guard⟩ := q
  dsimp only at h hc
  subst h
  have ha' : a.tmps[i]?.getD undef = u := by rw [← ha]; simp [Act.eval]
  have hb' : a.tmps[j]?.getD undef = v := by rw [← hb]; simp [Act.eval]
  clear ha hb
  unfold Oper.wp execOp
  go_simp
  refine hc.mono ?_
  rintro e w' ⟨r, rfl, hk⟩
  exact hk
theorem op_call34 {u v : Value} {ts : Array TypeId} (i j : Nat) (h : q.op = .call { callee := .value (.func 34), args := #[.tmp i, .tmp j], argTypes := ts }) (ha : a.eval (.tmp i) = u) (hb : a.eval (.tmp j) = v)
    (hc : Calls Try.prog 34 #[u, v] w fun e w' => ∃ r, e = .returned r ∧ K (a.put q.dst r) w') : q.wp Try.prog a w K Q := by
  obtain ⟨dst, op, type, pos, after, guard⟩ := q
  dsimp only at h hc
  subst h
  have ha' : a.tmps[i]?.getD undef = u := by rw [← ha]; simp [Act.eval]
  have hb' : a.tmps[j]?.getD undef = v := by rw [← hb]; simp [Act.eval]
  clear ha hb
  unfold Oper.wp execOp
  go_simp
  refine hc.mono ?_
  rintro e w' ⟨r, rfl, hk⟩
  exact hk
theorem op_call35 {u v : Value} {ts : Array TypeId} (i j : Nat) (h : q.op = .call { callee := .value (.func 35), args := #[.tmp i, .tmp j], argTypes := ts }) (ha : a.eval (.tmp i) = u) (hb : a.eval (.tmp j) = v)
    (hc : Calls Try.prog 35 #[u, v] w fun e w' => ∃ r, e = .returned r ∧ K (a.put q.dst r) w') : q.wp Try.prog a w K Q := by
  obtain ⟨dst, op, type, pos, after, guard⟩ := q
  dsimp only at h hc
  subst h
  have ha' : a.tmps[i]?.getD undef = u := by rw [← ha]; simp [Act.eval]
  have hb' : a.tmps[j]?.getD undef = v := by rw [← hb]; simp [Act.eval]
  clear ha hb
  unfold Oper.wp execOp
  go_simp
  refine hc.mono ?_
  rintro e w' ⟨r, rfl, hk⟩
  exact hk
theorem op_call36 {u v : Value} {ts : Array TypeId} (i j : Nat) (h : q.op = .call { callee := .value (.func 36), args := #[.tmp i, .tmp j], argTypes := ts }) (ha : a.eval (.tmp i) = u) (hb : a.eval (.tmp j) = v)
    (hc : Calls Try.prog 36 #[u, v] w fun e w' => ∃ r, e = .returned r ∧ K (a.put q.dst r) w') : q.wp Try.prog a w K Q := by
  obtain ⟨dst, op, type, pos, after, guard⟩ := q
  dsimp only at h hc
  subst h
  have ha' : a.tmps[i]?.getD undef = u := by rw [← ha]; simp [Act.eval]
  have hb' : a.tmps[j]?.getD undef = v := by rw [← hb]; simp [Act.eval]
  clear ha hb
  unfold Oper.wp execOp
  go_simp
  refine hc.mono ?_
  rintro e w' ⟨r, rfl, hk⟩
  exact hk
end
/-- The vector product of two sides. -/
def pnorm (n k : Nat) (f g : Nat → V) (i : Int) : V := match pcorn n k f g i with
  | (x, y, z, true) => pcross (psub y x) (psub z x)
  | (_, _, _, false) => ⟨0, 0, 0⟩
def FN (x y z : V) (i : Nat) (v : Value) (_ : World) : Prop := match i with
  | 0 => v = .agg #[.int .i64 y.x, .int .i64 y.y, .int .i64 y.z]
  | 1 => v = .agg #[.int .i64 x.x, .int .i64 x.y, .int .i64 x.z]
  | 2 => v = .agg #[.int .i64 (psub y x).x, .int .i64 (psub y x).y, .int .i64 (psub y x).z]
  | 3 => v = .agg #[.int .i64 z.x, .int .i64 z.y, .int .i64 z.z]
  | 4 => v = .agg #[.int .i64 x.x, .int .i64 x.y, .int .i64 x.z]
  | 5 => v = .agg #[.int .i64 (psub z x).x, .int .i64 (psub z x).y, .int .i64 (psub z x).z]
  | 6 => v = .agg #[.int .i64 (pcross (psub y x) (psub z x)).x, .int .i64 (pcross (psub y x) (psub z x)).y, .int .i64 (pcross (psub y x) (psub z x)).z]
  | _ => True
set_option maxRecDepth 100000 in
set_option maxHeartbeats 1000000 in
theorem norm_ok (a b : Option Addr) (n k cap cap' : Nat) (f g : Nat → V) (w : World) (SA : Sx a n f w) (SB : Sx b k g w) (i : Int) (x y z : V) (hc : pcorn n k f g i = (x, y, z, true)) :
    Calls Try.prog 22 #[.agg #[.slice a n cap, .slice b k cap'], .int .i64 i] w fun e w' => e = .returned (.agg #[.int .i64 (pcross (psub y x) (psub z x)).x, .int .i64 (pcross (psub y x) (psub z x)).y, .int .i64 (pcross (psub y x) (psub z x)).z]) ∧ Below w.heap.size w w' := by
  have HC := Lib.hid hc
  clear hc
  go_enter Try.func22, Try.ntmps22
  go_wp2_with fail
  have e1 := below_alloc w (.cells #[.slice a n cap, .slice b k cap'] 25)
  have e2 := below_alloc (w.alloc (.cells #[.slice a n cap, .slice b k cap'] 25)) (.cells #[.int .i64 0, .int .i64 0, .int .i64 0] 36)
  have R0 := At.newAt (b := w.heap.size + 1) (w.alloc (.cells #[.slice a n cap, .slice b k cap'] 25)) 0 0 0 (by simp)
  have HB0 := below_next e1 e2
  refine (corn_any a b n k cap cap' f g _ (SA.next HB0) (SB.next HB0) i x y z true HC.out).mono ?_
  rintro e w1 ⟨rfl, hb1⟩
  have R1 := R0.next hb1
  have HB1 := below_next HB0 hb1
  clear e1 e2 R0 HB0 hb1
  have x1 := below_alloc w1 (.cells #[.int .i64 x.x, .int .i64 x.y, .int .i64 x.z] 36)
  have x2 := below_alloc (w1.alloc (.cells #[.int .i64 x.x, .int .i64 x.y, .int .i64 x.z] 36)) (.cells #[.int .i64 y.x, .int .i64 y.y, .int .i64 y.z] 36)
  have x3 := below_alloc ((w1.alloc (.cells #[.int .i64 x.x, .int .i64 x.y, .int .i64 x.z] 36)).alloc (.cells #[.int .i64 y.x, .int .i64 y.y, .int .i64 y.z] 36)) (.cells #[.int .i64 z.x, .int .i64 z.y, .int .i64 z.z] 36)
  have X := ((At.new w1 x.x x.y x.z).next x2).next x3
  have Y := (At.newAt (b := w1.heap.size + 1) (w1.alloc (.cells #[.int .i64 x.x, .int .i64 x.y, .int .i64 x.z] 36)) y.x y.y y.z (by simp)).next x3
  have Z := At.newAt (b := w1.heap.size + 1 + 1) ((w1.alloc (.cells #[.int .i64 x.x, .int .i64 x.y, .int .i64 x.z] 36)).alloc (.cells #[.int .i64 y.x, .int .i64 y.y, .int .i64 y.z] 36)) z.x z.y z.z (by simp)
  have XB := below_next (below_next x1 x2) x3
  have R2 := R1.next XB
  have HB2 := below_next HB1 XB
  go_wp2_with fail
  generalize ((w1.alloc (.cells #[.int .i64 x.x, .int .i64 x.y, .int .i64 x.z] 36)).alloc (.cells #[.int .i64 y.x, .int .i64 y.y, .int .i64 y.z] 36)).alloc (.cells #[.int .i64 z.x, .int .i64 z.y, .int .i64 z.z] 36) = w2 at X Y Z R2 HB2 ⊢
  have hsz : w.heap.size + 1 < w1.heap.size := R1.hZ
  generalize w1.heap.size = T at X Y Z hsz ⊢
  clear x1 x2 x3 XB HB1 R1
  refine wp_region_each _ _ (fun w' => Below w2.heap.size w2 w') (fun _ w' w'' => Below w'.heap.size w' w'') (FN x y z) 7 (by kernel_rfl) rfl (by kernel_rfl) (by kernel_rfl) 27 rfl (by kernel_rfl) (fun _ _ _ _ _ _ _ _ _ h _ => h) (Below.refl _ _).drew ?hop ?hend
  case hop =>
    intro i o hi ho a1 w' FR C1 D
    have t5 := FR.tmp 5 (by kernel_rfl)
    have t6 := FR.tmp 6 (by kernel_rfl)
    have t7 := FR.tmp 7 (by kernel_rfl)
    obtain rfl | rfl | rfl | rfl | rfl | rfl | rfl : i = 0 ∨ i = 1 ∨ i = 2 ∨ i = 3 ∨ i = 4 ∨ i = 5 ∨ i = 6 := by omega
    all_goals simp only [List.getElem?_toArray, List.getElem?_cons_zero, List.getElem?_cons_succ, Option.some.injEq] at ho
    all_goals subst ho
    · exact op_load36 6 rfl t6 (Y.next C1) ⟨_, rfl, ⟨rfl, by simp⟩, C1, Below.refl _ _⟩
    · exact op_load36 5 rfl t5 (X.next C1) ⟨_, rfl, ⟨rfl, by simp⟩, C1, Below.refl _ _⟩
    · have d0 := D { on := 0, ground := Ground.data } (by simp) rfl _ rfl
      have d1 := D { on := 1, ground := Ground.data } (by simp) rfl _ rfl
      refine op_call34 20 21 rfl ((slot_tmp rfl).trans d0) ((slot_tmp rfl).trans d1) ((sub_any y x _).mono ?_)
      rintro e w'' ⟨rfl, hb⟩
      exact ⟨_, rfl, _, rfl, ⟨rfl, by simp⟩, below_next C1 hb, hb⟩
    · exact op_load36 7 rfl t7 (Z.next C1) ⟨_, rfl, ⟨rfl, by simp⟩, C1, Below.refl _ _⟩
    · exact op_load36 5 rfl t5 (X.next C1) ⟨_, rfl, ⟨rfl, by simp⟩, C1, Below.refl _ _⟩
    · have d0 := D { on := 3, ground := Ground.data } (by simp) rfl _ rfl
      have d1 := D { on := 4, ground := Ground.data } (by simp) rfl _ rfl
      refine op_call34 23 24 rfl ((slot_tmp rfl).trans d0) ((slot_tmp rfl).trans d1) ((sub_any z x _).mono ?_)
      rintro e w'' ⟨rfl, hb⟩
      exact ⟨_, rfl, _, rfl, ⟨rfl, by simp⟩, below_next C1 hb, hb⟩
    · have d0 := D { on := 2, ground := Ground.data } (by simp) rfl _ rfl
      have d1 := D { on := 5, ground := Ground.data } (by simp) rfl _ rfl
      refine op_call33 22 25 rfl ((slot_tmp rfl).trans d0) ((slot_tmp rfl).trans d1) ((cross_any (psub y x) (psub z x) _).mono ?_)
      rintro e w'' ⟨rfl, hb⟩
      exact ⟨_, rfl, _, rfl, ⟨rfl, by simp⟩, below_next C1 hb, hb⟩
  case hend =>
    intro o ho a1 w' FR C1 D
    simp only [List.getElem?_toArray, List.getElem?_cons_zero, List.getElem?_cons_succ, Option.some.injEq] at ho
    subst ho
    have s6 := D 6 _ (by omega) rfl
    have t4 := FR.tmp 4 (by kernel_rfl)
    have R3 := R2.next C1
    refine op_store36 (v := pcross (psub y x) (psub z x)) (u := ⟨0, 0, 0⟩) 4 26 rfl rfl t4 ((slot_tmp rfl).trans s6) R3 ?_
    have E := FR.eq
    simp only [List.foldl_cons, List.foldl_nil, Act.put, List.setIfInBounds_toArray, List.set_cons_zero, List.set_cons_succ] at E
    rw [E]
    have AA := ((R3.set0 (pcross (psub y x) (psub z x)).x).set1 (pcross (psub y x) (psub z x)).y).set2 (pcross (psub y x) (psub z x)).z
    have WW := (((below_next HB2 C1).setCell (p := ⟨w.heap.size + 1, 0, none⟩) (Nat.le_succ _) (.int .i64 (pcross (psub y x) (psub z x)).x)).setCell (p := ⟨w.heap.size + 1, 1, none⟩) (Nat.le_succ _) (.int .i64 (pcross (psub y x) (psub z x)).y)).setCell (p := ⟨w.heap.size + 1, 2, none⟩) (Nat.le_succ _) (.int .i64 (pcross (psub y x) (psub z x)).z)
    generalize ((w'.setCell _ _).setCell _ _).setCell _ _ = wf at AA WW ⊢
    have c0 := AA.c0
    have c1 := AA.c1
    have c2 := AA.c2
    clear R3 R2 X Y Z
    go_wp2_with fail
    exact bodyPost_ret (v := .agg #[.int .i64 (pcross (psub y x) (psub z x)).x, .int .i64 (pcross (psub y x) (psub z x)).y, .int .i64 (pcross (psub y x) (psub z x)).z]) (by simp [results, Try.results22, go_sem, c0, c1, c2]) rfl ⟨rfl, WW⟩
theorem norm_no (a b : Option Addr) (n k cap cap' : Nat) (f g : Nat → V) (w : World) (SA : Sx a n f w) (SB : Sx b k g w) (i : Int) (x y z : V) (hc : pcorn n k f g i = (x, y, z, false)) :
    Calls Try.prog 22 #[.agg #[.slice a n cap, .slice b k cap'], .int .i64 i] w fun e w' => e = .returned (.agg #[.int .i64 0, .int .i64 0, .int .i64 0]) ∧ Below w.heap.size w w' := by
  have HC := Lib.hid hc
  clear hc
  go_enter Try.func22, Try.ntmps22
  go_wp2_with fail
  have e1 := below_alloc w (.cells #[.slice a n cap, .slice b k cap'] 25)
  have e2 := below_alloc (w.alloc (.cells #[.slice a n cap, .slice b k cap'] 25)) (.cells #[.int .i64 0, .int .i64 0, .int .i64 0] 36)
  have R0 := At.newAt (b := w.heap.size + 1) (w.alloc (.cells #[.slice a n cap, .slice b k cap'] 25)) 0 0 0 (by simp)
  have HB0 := below_next e1 e2
  refine (corn_any a b n k cap cap' f g _ (SA.next HB0) (SB.next HB0) i x y z false HC.out).mono ?_
  rintro e w1 ⟨rfl, hb1⟩
  have R1 := R0.next hb1
  have HB1 := below_next HB0 hb1
  clear e1 e2 R0 HB0 hb1
  have x1 := below_alloc w1 (.cells #[.int .i64 x.x, .int .i64 x.y, .int .i64 x.z] 36)
  have x2 := below_alloc (w1.alloc (.cells #[.int .i64 x.x, .int .i64 x.y, .int .i64 x.z] 36)) (.cells #[.int .i64 y.x, .int .i64 y.y, .int .i64 y.z] 36)
  have x3 := below_alloc ((w1.alloc (.cells #[.int .i64 x.x, .int .i64 x.y, .int .i64 x.z] 36)).alloc (.cells #[.int .i64 y.x, .int .i64 y.y, .int .i64 y.z] 36)) (.cells #[.int .i64 z.x, .int .i64 z.y, .int .i64 z.z] 36)
  have XB := below_next (below_next x1 x2) x3
  have R2 := R1.next XB
  have HB2 := below_next HB1 XB
  clear R1 x1 x2 x3 XB
  have c0 := R2.c0
  have c1 := R2.c1
  have c2 := R2.c2
  have f0 := R2.f 0
  have f1 := R2.f 1
  have f2 := R2.f 2
  have AA := ((R2.set0 0).set1 0).set2 0
  have WW := ((HB2.setCell (p := ⟨w.heap.size + 1, 0, none⟩) (Nat.le_succ _) (.int .i64 0)).setCell (p := ⟨w.heap.size + 1, 1, none⟩) (Nat.le_succ _) (.int .i64 0)).setCell (p := ⟨w.heap.size + 1, 2, none⟩) (Nat.le_succ _) (.int .i64 0)
  go_wp2_with fail
  clear c0 c1 c2
  exact bodyPost_ret (v := .agg #[.int .i64 0, .int .i64 0, .int .i64 0]) (by
    have c0 := AA.c0
    have c1 := AA.c1
    have c2 := AA.c2
    simp [results, Try.results22, go_sem, c0, c1, c2]) rfl ⟨rfl, WW⟩
theorem norm_any (a b : Option Addr) (n k cap cap' : Nat) (f g : Nat → V) (w : World) (SA : Sx a n f w) (SB : Sx b k g w) (i : Int) (v : V) (hv : pnorm n k f g i = v) :
    Calls Try.prog 22 #[.agg #[.slice a n cap, .slice b k cap'], .int .i64 i] w fun e w' => e = .returned (.agg #[.int .i64 v.x, .int .i64 v.y, .int .i64 v.z]) ∧ Below w.heap.size w w' := by
  obtain ⟨x, y, z, r, hq⟩ : ∃ x y z r, pcorn n k f g i = (x, y, z, r) := ⟨_, _, _, _, rfl⟩
  cases r with
  | true => rw [show v = pcross (psub y x) (psub z x) by rw [← hv]; unfold pnorm; rw [hq]]; exact norm_ok a b n k cap cap' f g w SA SB i x y z hq
  | false => rw [show v = ⟨0, 0, 0⟩ by rw [← hv]; unfold pnorm; rw [hq]]; exact norm_no a b n k cap cap' f g w SA SB i x y z hq
set_option maxRecDepth 100000 in
set_option maxHeartbeats 1000000 in
theorem norm_okr (a b : Option Addr) (n k cap cap' : Nat) (f g : Nat → V) (w : World) (SA : Sx a n f w) (SB : Sx b k g w) (i : Int) (x y z : V) (hc : pcorn n k f g i = (x, y, z, true)) :
    Calls Try.prog 23 #[.agg #[.slice a n cap, .slice b k cap'], .int .i64 i] w fun e w' => e = .returned (.agg #[.int .i64 (pcross (psub y x) (psub z x)).x, .int .i64 (pcross (psub y x) (psub z x)).y, .int .i64 (pcross (psub y x) (psub z x)).z]) ∧ Below w.heap.size w w' := by
  have HC := Lib.hid hc
  clear hc
  go_enter Try.func23, Try.ntmps23
  go_wp2_with fail
  have e1 := below_alloc w (.cells #[.slice a n cap, .slice b k cap'] 25)
  have e2 := below_alloc (w.alloc (.cells #[.slice a n cap, .slice b k cap'] 25)) (.cells #[.int .i64 0, .int .i64 0, .int .i64 0] 36)
  have R0 := At.newAt (b := w.heap.size + 1) (w.alloc (.cells #[.slice a n cap, .slice b k cap'] 25)) 0 0 0 (by simp)
  have HB0 := below_next e1 e2
  refine (corn_anyr a b n k cap cap' f g _ (SA.next HB0) (SB.next HB0) i x y z true HC.out).mono ?_
  rintro e w1 ⟨rfl, hb1⟩
  have R1 := R0.next hb1
  have HB1 := below_next HB0 hb1
  clear e1 e2 R0 HB0 hb1
  have x1 := below_alloc w1 (.cells #[.int .i64 x.x, .int .i64 x.y, .int .i64 x.z] 36)
  have x2 := below_alloc (w1.alloc (.cells #[.int .i64 x.x, .int .i64 x.y, .int .i64 x.z] 36)) (.cells #[.int .i64 y.x, .int .i64 y.y, .int .i64 y.z] 36)
  have x3 := below_alloc ((w1.alloc (.cells #[.int .i64 x.x, .int .i64 x.y, .int .i64 x.z] 36)).alloc (.cells #[.int .i64 y.x, .int .i64 y.y, .int .i64 y.z] 36)) (.cells #[.int .i64 z.x, .int .i64 z.y, .int .i64 z.z] 36)
  have X := ((At.new w1 x.x x.y x.z).next x2).next x3
  have Y := (At.newAt (b := w1.heap.size + 1) (w1.alloc (.cells #[.int .i64 x.x, .int .i64 x.y, .int .i64 x.z] 36)) y.x y.y y.z (by simp)).next x3
  have Z := At.newAt (b := w1.heap.size + 1 + 1) ((w1.alloc (.cells #[.int .i64 x.x, .int .i64 x.y, .int .i64 x.z] 36)).alloc (.cells #[.int .i64 y.x, .int .i64 y.y, .int .i64 y.z] 36)) z.x z.y z.z (by simp)
  have XB := below_next (below_next x1 x2) x3
  have R2 := R1.next XB
  have HB2 := below_next HB1 XB
  go_wp2_with fail
  generalize ((w1.alloc (.cells #[.int .i64 x.x, .int .i64 x.y, .int .i64 x.z] 36)).alloc (.cells #[.int .i64 y.x, .int .i64 y.y, .int .i64 y.z] 36)).alloc (.cells #[.int .i64 z.x, .int .i64 z.y, .int .i64 z.z] 36) = w2 at X Y Z R2 HB2 ⊢
  have hsz : w.heap.size + 1 < w1.heap.size := R1.hZ
  generalize w1.heap.size = T at X Y Z hsz ⊢
  clear x1 x2 x3 XB HB1 R1
  refine wp_region_each _ _ (fun w' => Below w2.heap.size w2 w') (fun _ w' w'' => Below w'.heap.size w' w'') (FN x y z) 7 (by kernel_rfl) rfl (by kernel_rfl) (by kernel_rfl) 27 rfl (by kernel_rfl) (fun _ _ _ _ _ _ _ _ _ h _ => h) (Below.refl _ _).drew ?hop ?hend
  case hop =>
    intro i o hi ho a1 w' FR C1 D
    have t5 := FR.tmp 5 (by kernel_rfl)
    have t6 := FR.tmp 6 (by kernel_rfl)
    have t7 := FR.tmp 7 (by kernel_rfl)
    obtain rfl | rfl | rfl | rfl | rfl | rfl | rfl : i = 0 ∨ i = 1 ∨ i = 2 ∨ i = 3 ∨ i = 4 ∨ i = 5 ∨ i = 6 := by omega
    all_goals simp only [List.getElem?_toArray, List.getElem?_cons_zero, List.getElem?_cons_succ, Option.some.injEq] at ho
    all_goals subst ho
    · exact op_load36 6 rfl t6 (Y.next C1) ⟨_, rfl, ⟨rfl, by simp⟩, C1, Below.refl _ _⟩
    · exact op_load36 5 rfl t5 (X.next C1) ⟨_, rfl, ⟨rfl, by simp⟩, C1, Below.refl _ _⟩
    · have d0 := D { on := 0, ground := Ground.data } (by simp) rfl _ rfl
      have d1 := D { on := 1, ground := Ground.data } (by simp) rfl _ rfl
      refine op_call36 20 21 rfl ((slot_tmp rfl).trans d0) ((slot_tmp rfl).trans d1) ((sub_anyr y x _).mono ?_)
      rintro e w'' ⟨rfl, hb⟩
      exact ⟨_, rfl, _, rfl, ⟨rfl, by simp⟩, below_next C1 hb, hb⟩
    · exact op_load36 7 rfl t7 (Z.next C1) ⟨_, rfl, ⟨rfl, by simp⟩, C1, Below.refl _ _⟩
    · exact op_load36 5 rfl t5 (X.next C1) ⟨_, rfl, ⟨rfl, by simp⟩, C1, Below.refl _ _⟩
    · have d0 := D { on := 3, ground := Ground.data } (by simp) rfl _ rfl
      have d1 := D { on := 4, ground := Ground.data } (by simp) rfl _ rfl
      refine op_call36 23 24 rfl ((slot_tmp rfl).trans d0) ((slot_tmp rfl).trans d1) ((sub_anyr z x _).mono ?_)
      rintro e w'' ⟨rfl, hb⟩
      exact ⟨_, rfl, _, rfl, ⟨rfl, by simp⟩, below_next C1 hb, hb⟩
    · have d0 := D { on := 2, ground := Ground.data } (by simp) rfl _ rfl
      have d1 := D { on := 5, ground := Ground.data } (by simp) rfl _ rfl
      refine op_call35 22 25 rfl ((slot_tmp rfl).trans d0) ((slot_tmp rfl).trans d1) ((cross_anyr (psub y x) (psub z x) _).mono ?_)
      rintro e w'' ⟨rfl, hb⟩
      exact ⟨_, rfl, _, rfl, ⟨rfl, by simp⟩, below_next C1 hb, hb⟩
  case hend =>
    intro o ho a1 w' FR C1 D
    simp only [List.getElem?_toArray, List.getElem?_cons_zero, List.getElem?_cons_succ, Option.some.injEq] at ho
    subst ho
    have s6 := D 6 _ (by omega) rfl
    have t4 := FR.tmp 4 (by kernel_rfl)
    have R3 := R2.next C1
    refine op_store36 (v := pcross (psub y x) (psub z x)) (u := ⟨0, 0, 0⟩) 4 26 rfl rfl t4 ((slot_tmp rfl).trans s6) R3 ?_
    have E := FR.eq
    simp only [List.foldl_cons, List.foldl_nil, Act.put, List.setIfInBounds_toArray, List.set_cons_zero, List.set_cons_succ] at E
    rw [E]
    have AA := ((R3.set0 (pcross (psub y x) (psub z x)).x).set1 (pcross (psub y x) (psub z x)).y).set2 (pcross (psub y x) (psub z x)).z
    have WW := (((below_next HB2 C1).setCell (p := ⟨w.heap.size + 1, 0, none⟩) (Nat.le_succ _) (.int .i64 (pcross (psub y x) (psub z x)).x)).setCell (p := ⟨w.heap.size + 1, 1, none⟩) (Nat.le_succ _) (.int .i64 (pcross (psub y x) (psub z x)).y)).setCell (p := ⟨w.heap.size + 1, 2, none⟩) (Nat.le_succ _) (.int .i64 (pcross (psub y x) (psub z x)).z)
    generalize ((w'.setCell _ _).setCell _ _).setCell _ _ = wf at AA WW ⊢
    have c0 := AA.c0
    have c1 := AA.c1
    have c2 := AA.c2
    clear R3 R2 X Y Z
    go_wp2_with fail
    exact bodyPost_ret (v := .agg #[.int .i64 (pcross (psub y x) (psub z x)).x, .int .i64 (pcross (psub y x) (psub z x)).y, .int .i64 (pcross (psub y x) (psub z x)).z]) (by simp [results, Try.results23, go_sem, c0, c1, c2]) rfl ⟨rfl, WW⟩
theorem norm_nor (a b : Option Addr) (n k cap cap' : Nat) (f g : Nat → V) (w : World) (SA : Sx a n f w) (SB : Sx b k g w) (i : Int) (x y z : V) (hc : pcorn n k f g i = (x, y, z, false)) :
    Calls Try.prog 23 #[.agg #[.slice a n cap, .slice b k cap'], .int .i64 i] w fun e w' => e = .returned (.agg #[.int .i64 0, .int .i64 0, .int .i64 0]) ∧ Below w.heap.size w w' := by
  have HC := Lib.hid hc
  clear hc
  go_enter Try.func23, Try.ntmps23
  go_wp2_with fail
  have e1 := below_alloc w (.cells #[.slice a n cap, .slice b k cap'] 25)
  have e2 := below_alloc (w.alloc (.cells #[.slice a n cap, .slice b k cap'] 25)) (.cells #[.int .i64 0, .int .i64 0, .int .i64 0] 36)
  have R0 := At.newAt (b := w.heap.size + 1) (w.alloc (.cells #[.slice a n cap, .slice b k cap'] 25)) 0 0 0 (by simp)
  have HB0 := below_next e1 e2
  refine (corn_anyr a b n k cap cap' f g _ (SA.next HB0) (SB.next HB0) i x y z false HC.out).mono ?_
  rintro e w1 ⟨rfl, hb1⟩
  have R1 := R0.next hb1
  have HB1 := below_next HB0 hb1
  clear e1 e2 R0 HB0 hb1
  have x1 := below_alloc w1 (.cells #[.int .i64 x.x, .int .i64 x.y, .int .i64 x.z] 36)
  have x2 := below_alloc (w1.alloc (.cells #[.int .i64 x.x, .int .i64 x.y, .int .i64 x.z] 36)) (.cells #[.int .i64 y.x, .int .i64 y.y, .int .i64 y.z] 36)
  have x3 := below_alloc ((w1.alloc (.cells #[.int .i64 x.x, .int .i64 x.y, .int .i64 x.z] 36)).alloc (.cells #[.int .i64 y.x, .int .i64 y.y, .int .i64 y.z] 36)) (.cells #[.int .i64 z.x, .int .i64 z.y, .int .i64 z.z] 36)
  have XB := below_next (below_next x1 x2) x3
  have R2 := R1.next XB
  have HB2 := below_next HB1 XB
  clear R1 x1 x2 x3 XB
  have c0 := R2.c0
  have c1 := R2.c1
  have c2 := R2.c2
  have f0 := R2.f 0
  have f1 := R2.f 1
  have f2 := R2.f 2
  have AA := ((R2.set0 0).set1 0).set2 0
  have WW := ((HB2.setCell (p := ⟨w.heap.size + 1, 0, none⟩) (Nat.le_succ _) (.int .i64 0)).setCell (p := ⟨w.heap.size + 1, 1, none⟩) (Nat.le_succ _) (.int .i64 0)).setCell (p := ⟨w.heap.size + 1, 2, none⟩) (Nat.le_succ _) (.int .i64 0)
  go_wp2_with fail
  clear c0 c1 c2
  exact bodyPost_ret (v := .agg #[.int .i64 0, .int .i64 0, .int .i64 0]) (by
    have c0 := AA.c0
    have c1 := AA.c1
    have c2 := AA.c2
    simp [results, Try.results23, go_sem, c0, c1, c2]) rfl ⟨rfl, WW⟩
theorem norm_anyr (a b : Option Addr) (n k cap cap' : Nat) (f g : Nat → V) (w : World) (SA : Sx a n f w) (SB : Sx b k g w) (i : Int) (v : V) (hv : pnorm n k f g i = v) :
    Calls Try.prog 23 #[.agg #[.slice a n cap, .slice b k cap'], .int .i64 i] w fun e w' => e = .returned (.agg #[.int .i64 v.x, .int .i64 v.y, .int .i64 v.z]) ∧ Below w.heap.size w w' := by
  obtain ⟨x, y, z, r, hq⟩ : ∃ x y z r, pcorn n k f g i = (x, y, z, r) := ⟨_, _, _, _, rfl⟩
  cases r with
  | true => rw [show v = pcross (psub y x) (psub z x) by rw [← hv]; unfold pnorm; rw [hq]]; exact norm_okr a b n k cap cap' f g w SA SB i x y z hq
  | false => rw [show v = ⟨0, 0, 0⟩ by rw [← hv]; unfold pnorm; rw [hq]]; exact norm_nor a b n k cap cap' f g w SA SB i x y z hq
/-- The bounds. -/
def pbox (n k : Nat) (f g : Nat → V) : V × V × Bool := if pcheck n k f g = 0 ∧ 0 < n then (lo f n, hi f n, true) else (⟨0, 0, 0⟩, ⟨0, 0, 0⟩, false)
set_option maxRecDepth 100000 in
theorem box_bad (a b : Option Addr) (n k cap cap' : Nat) (f g : Nat → V) (w : World) (SA : Sx a n f w) (SB : Sx b k g w) (hp : pcheck n k f g ≠ 0) :
    Calls Try.prog 24 #[.agg #[.slice a n cap, .slice b k cap']] w fun e w' => e = .returned (.tuple #[.agg #[.int .i64 0, .int .i64 0, .int .i64 0], .agg #[.int .i64 0, .int .i64 0, .int .i64 0], .bool false]) ∧ Below w.heap.size w w' := by
  obtain ⟨r, hr, h0⟩ : ∃ r, r = pcheck n k f g ∧ (r != 0) = true := ⟨_, rfl, by simpa using hp⟩
  have HR := Lib.hid hr
  clear hr hp
  go_enter Try.func24, Try.ntmps24
  go_wp2_with fail
  have e1 := below_alloc w (.cells #[.slice a n cap, .slice b k cap'] 25)
  have e2 := below_alloc (w.alloc (.cells #[.slice a n cap, .slice b k cap'] 25)) (.cells #[.int .i64 0, .int .i64 0, .int .i64 0] 36)
  have e3 := below_alloc ((w.alloc (.cells #[.slice a n cap, .slice b k cap'] 25)).alloc (.cells #[.int .i64 0, .int .i64 0, .int .i64 0] 36)) (.cells #[.int .i64 0, .int .i64 0, .int .i64 0] 36)
  have M0 := ((Mb.new w (.slice a n cap) (.slice b k cap')).next e2).next e3
  have A0 := (At.newAt (b := w.heap.size + 1) (w.alloc (.cells #[.slice a n cap, .slice b k cap'] 25)) 0 0 0 (by simp)).next e3
  have B0 := At.newAt (b := w.heap.size + 1 + 1) ((w.alloc (.cells #[.slice a n cap, .slice b k cap'] 25)).alloc (.cells #[.int .i64 0, .int .i64 0, .int .i64 0] 36)) 0 0 0 (by simp)
  have HB0 := below_next (below_next e1 e2) e3
  refine (check_aux a b n k cap cap' f g _ (SA.next HB0) (SB.next HB0) r HR.out).mono ?_
  rintro e w1 ⟨rfl, hb1⟩
  have M1 := M0.next hb1
  have A1 := A0.next hb1
  have B1 := B0.next hb1
  have HB1 := below_next HB0 hb1
  clear e1 e2 e3 M0 A0 B0 HB0 hb1
  have a0 := A1.c0
  have a1 := A1.c1
  have a2 := A1.c2
  have b0 := B1.c0
  have b1 := B1.c1
  have b2 := B1.c2
  have fa := A1.f
  have fb := B1.f
  go_wp2_with fail
  clear a0 a1 a2 b0 b1 b2
  have AA := (((((A1.set0 0).set1 0).set2 0).other ⟨w.heap.size + 1 + 1, 0, none⟩ (.int .i64 0) (by dsimp only; omega)).other ⟨w.heap.size + 1 + 1, 1, none⟩ (.int .i64 0) (by dsimp only; omega)).other ⟨w.heap.size + 1 + 1, 2, none⟩ (.int .i64 0) (by dsimp only; omega)
  have BB := ((((((B1).other ⟨w.heap.size + 1, 0, none⟩ (.int .i64 0) (by dsimp only; omega)).other ⟨w.heap.size + 1, 1, none⟩ (.int .i64 0) (by dsimp only; omega)).other ⟨w.heap.size + 1, 2, none⟩ (.int .i64 0) (by dsimp only; omega)).set0 0).set1 0).set2 0
  exact bodyPost_ret (v := .tuple #[.agg #[.int .i64 0, .int .i64 0, .int .i64 0], .agg #[.int .i64 0, .int .i64 0, .int .i64 0], .bool false])
    (by
      have a0 := AA.c0
      have a1 := AA.c1
      have a2 := AA.c2
      have b0 := BB.c0
      have b1 := BB.c1
      have b2 := BB.c2
      simp [results, Try.results24, go_sem, a0, a1, a2, b0, b1, b2]) rfl ⟨rfl, ((((((HB1).setCell (p := ⟨w.heap.size + 1, 0, none⟩) (by dsimp only; omega) (.int .i64 0)).setCell (p := ⟨w.heap.size + 1, 1, none⟩) (by dsimp only; omega) (.int .i64 0)).setCell (p := ⟨w.heap.size + 1, 2, none⟩) (by dsimp only; omega) (.int .i64 0)).setCell (p := ⟨w.heap.size + 1 + 1, 0, none⟩) (by dsimp only; omega) (.int .i64 0)).setCell (p := ⟨w.heap.size + 1 + 1, 1, none⟩) (by dsimp only; omega) (.int .i64 0)).setCell (p := ⟨w.heap.size + 1 + 1, 2, none⟩) (by dsimp only; omega) (.int .i64 0)⟩
set_option maxRecDepth 100000 in
theorem box_nil (a b : Option Addr) (n k cap cap' : Nat) (f g : Nat → V) (w : World) (SA : Sx a n f w) (SB : Sx b k g w) (hp : pcheck n k f g = 0) (h0 : n = 0) :
    Calls Try.prog 24 #[.agg #[.slice a n cap, .slice b k cap']] w fun e w' => e = .returned (.tuple #[.agg #[.int .i64 0, .int .i64 0, .int .i64 0], .agg #[.int .i64 0, .int .i64 0, .int .i64 0], .bool false]) ∧ Below w.heap.size w w' := by
  subst h0
  go_enter Try.func24, Try.ntmps24
  go_wp2_with fail
  have e1 := below_alloc w (.cells #[.slice a 0 cap, .slice b k cap'] 25)
  have e2 := below_alloc (w.alloc (.cells #[.slice a 0 cap, .slice b k cap'] 25)) (.cells #[.int .i64 0, .int .i64 0, .int .i64 0] 36)
  have e3 := below_alloc ((w.alloc (.cells #[.slice a 0 cap, .slice b k cap'] 25)).alloc (.cells #[.int .i64 0, .int .i64 0, .int .i64 0] 36)) (.cells #[.int .i64 0, .int .i64 0, .int .i64 0] 36)
  have M0 := ((Mb.new w (.slice a 0 cap) (.slice b k cap')).next e2).next e3
  have A0 := (At.newAt (b := w.heap.size + 1) (w.alloc (.cells #[.slice a 0 cap, .slice b k cap'] 25)) 0 0 0 (by simp)).next e3
  have B0 := At.newAt (b := w.heap.size + 1 + 1) ((w.alloc (.cells #[.slice a 0 cap, .slice b k cap'] 25)).alloc (.cells #[.int .i64 0, .int .i64 0, .int .i64 0] 36)) 0 0 0 (by simp)
  have HB0 := below_next (below_next e1 e2) e3
  refine (check_aux a b 0 k cap cap' f g _ (SA.next HB0) (SB.next HB0) 0 hp.symm).mono ?_
  rintro e w1 ⟨rfl, hb1⟩
  have M1 := M0.next hb1
  have A1 := A0.next hb1
  have B1 := B0.next hb1
  have HB1 := below_next HB0 hb1
  clear e1 e2 e3 M0 A0 B0 HB0 hb1
  have m0 := M1.c0
  go_wp2_with fail
  refine (bounds_nil a cap _).mono ?_
  rintro e w2 ⟨rfl, hb2⟩
  have A2 := A1.next hb2
  have B2 := B1.next hb2
  have HB2 := below_next HB1 hb2
  clear m0 M1 A1 B1 HB1 hb2
  have a0 := A2.c0
  have a1 := A2.c1
  have a2 := A2.c2
  have b0 := B2.c0
  have b1 := B2.c1
  have b2 := B2.c2
  have fa := A2.f
  have fb := B2.f
  go_wp2_with fail
  clear a0 a1 a2 b0 b1 b2
  have AA := (((((A2.set0 0).set1 0).set2 0).other ⟨w.heap.size + 1 + 1, 0, none⟩ (.int .i64 0) (by dsimp only; omega)).other ⟨w.heap.size + 1 + 1, 1, none⟩ (.int .i64 0) (by dsimp only; omega)).other ⟨w.heap.size + 1 + 1, 2, none⟩ (.int .i64 0) (by dsimp only; omega)
  have BB := ((((((B2).other ⟨w.heap.size + 1, 0, none⟩ (.int .i64 0) (by dsimp only; omega)).other ⟨w.heap.size + 1, 1, none⟩ (.int .i64 0) (by dsimp only; omega)).other ⟨w.heap.size + 1, 2, none⟩ (.int .i64 0) (by dsimp only; omega)).set0 0).set1 0).set2 0
  exact bodyPost_ret (v := .tuple #[.agg #[.int .i64 0, .int .i64 0, .int .i64 0], .agg #[.int .i64 0, .int .i64 0, .int .i64 0], .bool false])
    (by
      have a0 := AA.c0
      have a1 := AA.c1
      have a2 := AA.c2
      have b0 := BB.c0
      have b1 := BB.c1
      have b2 := BB.c2
      simp [results, Try.results24, go_sem, a0, a1, a2, b0, b1, b2]) rfl ⟨rfl, ((((((HB2).setCell (p := ⟨w.heap.size + 1, 0, none⟩) (by dsimp only; omega) (.int .i64 0)).setCell (p := ⟨w.heap.size + 1, 1, none⟩) (by dsimp only; omega) (.int .i64 0)).setCell (p := ⟨w.heap.size + 1, 2, none⟩) (by dsimp only; omega) (.int .i64 0)).setCell (p := ⟨w.heap.size + 1 + 1, 0, none⟩) (by dsimp only; omega) (.int .i64 0)).setCell (p := ⟨w.heap.size + 1 + 1, 1, none⟩) (by dsimp only; omega) (.int .i64 0)).setCell (p := ⟨w.heap.size + 1 + 1, 2, none⟩) (by dsimp only; omega) (.int .i64 0)⟩
set_option maxRecDepth 100000 in
theorem box_some (a b : Option Addr) (n k cap cap' : Nat) (f g : Nat → V) (w : World) (SA : Sx a n f w) (SB : Sx b k g w) (hp : pcheck n k f g = 0) (h0 : 0 < n) (hn : n ≤ 4096) :
    Calls Try.prog 24 #[.agg #[.slice a n cap, .slice b k cap']] w fun e w' => e = .returned (.tuple #[.agg #[.int .i64 (lo f n).x, .int .i64 (lo f n).y, .int .i64 (lo f n).z], .agg #[.int .i64 (hi f n).x, .int .i64 (hi f n).y, .int .i64 (hi f n).z], .bool true]) ∧ Below w.heap.size w w' := by
  rcases SA with h | ⟨ba, oa, rfl, S⟩
  · omega
  have SA : Sx (some ⟨ba, oa, none⟩) n f w := .inr ⟨ba, oa, rfl, S⟩
  go_enter Try.func24, Try.ntmps24
  go_wp2_with fail
  have e1 := below_alloc w (.cells #[.slice (some ⟨ba, oa, none⟩) n cap, .slice b k cap'] 25)
  have e2 := below_alloc (w.alloc (.cells #[.slice (some ⟨ba, oa, none⟩) n cap, .slice b k cap'] 25)) (.cells #[.int .i64 0, .int .i64 0, .int .i64 0] 36)
  have e3 := below_alloc ((w.alloc (.cells #[.slice (some ⟨ba, oa, none⟩) n cap, .slice b k cap'] 25)).alloc (.cells #[.int .i64 0, .int .i64 0, .int .i64 0] 36)) (.cells #[.int .i64 0, .int .i64 0, .int .i64 0] 36)
  have M0 := ((Mb.new w (.slice (some ⟨ba, oa, none⟩) n cap) (.slice b k cap')).next e2).next e3
  have A0 := (At.newAt (b := w.heap.size + 1) (w.alloc (.cells #[.slice (some ⟨ba, oa, none⟩) n cap, .slice b k cap'] 25)) 0 0 0 (by simp)).next e3
  have B0 := At.newAt (b := w.heap.size + 1 + 1) ((w.alloc (.cells #[.slice (some ⟨ba, oa, none⟩) n cap, .slice b k cap'] 25)).alloc (.cells #[.int .i64 0, .int .i64 0, .int .i64 0] 36)) 0 0 0 (by simp)
  have HB0 := below_next (below_next e1 e2) e3
  refine (check_aux _ b n k cap cap' f g _ (SA.next HB0) (SB.next HB0) 0 hp.symm).mono ?_
  rintro e w1 ⟨rfl, hb1⟩
  have M1 := M0.next hb1
  have A1 := A0.next hb1
  have B1 := B0.next hb1
  have HB1 := below_next HB0 hb1
  clear e1 e2 e3 M0 A0 B0 HB0 hb1
  have m0 := M1.c0
  go_wp2_with fail
  refine (bounds_some ba oa n cap f _ h0 hn (S.next HB1)).mono ?_
  rintro e w2 ⟨rfl, hb2⟩
  have A2 := A1.next hb2
  have B2 := B1.next hb2
  have HB2 := below_next HB1 hb2
  clear m0 M1 A1 B1 HB1 hb2
  have a0 := A2.c0
  have a1 := A2.c1
  have a2 := A2.c2
  have b0 := B2.c0
  have b1 := B2.c1
  have b2 := B2.c2
  have fa := A2.f
  have fb := B2.f
  go_wp2_with fail
  clear a0 a1 a2 b0 b1 b2
  have AA := (((((A2.set0 (lo f n).x).set1 (lo f n).y).set2 (lo f n).z).other ⟨w.heap.size + 1 + 1, 0, none⟩ (.int .i64 (hi f n).x) (by dsimp only; omega)).other ⟨w.heap.size + 1 + 1, 1, none⟩ (.int .i64 (hi f n).y) (by dsimp only; omega)).other ⟨w.heap.size + 1 + 1, 2, none⟩ (.int .i64 (hi f n).z) (by dsimp only; omega)
  have BB := ((((((B2).other ⟨w.heap.size + 1, 0, none⟩ (.int .i64 (lo f n).x) (by dsimp only; omega)).other ⟨w.heap.size + 1, 1, none⟩ (.int .i64 (lo f n).y) (by dsimp only; omega)).other ⟨w.heap.size + 1, 2, none⟩ (.int .i64 (lo f n).z) (by dsimp only; omega)).set0 (hi f n).x).set1 (hi f n).y).set2 (hi f n).z
  exact bodyPost_ret (v := .tuple #[.agg #[.int .i64 (lo f n).x, .int .i64 (lo f n).y, .int .i64 (lo f n).z], .agg #[.int .i64 (hi f n).x, .int .i64 (hi f n).y, .int .i64 (hi f n).z], .bool true])
    (by
      have a0 := AA.c0
      have a1 := AA.c1
      have a2 := AA.c2
      have b0 := BB.c0
      have b1 := BB.c1
      have b2 := BB.c2
      simp [results, Try.results24, go_sem, a0, a1, a2, b0, b1, b2]) rfl ⟨rfl, ((((((HB2).setCell (p := ⟨w.heap.size + 1, 0, none⟩) (by dsimp only; omega) (.int .i64 (lo f n).x)).setCell (p := ⟨w.heap.size + 1, 1, none⟩) (by dsimp only; omega) (.int .i64 (lo f n).y)).setCell (p := ⟨w.heap.size + 1, 2, none⟩) (by dsimp only; omega) (.int .i64 (lo f n).z)).setCell (p := ⟨w.heap.size + 1 + 1, 0, none⟩) (by dsimp only; omega) (.int .i64 (hi f n).x)).setCell (p := ⟨w.heap.size + 1 + 1, 1, none⟩) (by dsimp only; omega) (.int .i64 (hi f n).y)).setCell (p := ⟨w.heap.size + 1 + 1, 2, none⟩) (by dsimp only; omega) (.int .i64 (hi f n).z)⟩
theorem box_any (a b : Option Addr) (n k cap cap' : Nat) (f g : Nat → V) (w : World) (SA : Sx a n f w) (SB : Sx b k g w) (u v : V) (r : Bool) (hr : pbox n k f g = (u, v, r)) :
    Calls Try.prog 24 #[.agg #[.slice a n cap, .slice b k cap']] w fun e w' => e = .returned (.tuple #[.agg #[.int .i64 u.x, .int .i64 u.y, .int .i64 u.z], .agg #[.int .i64 v.x, .int .i64 v.y, .int .i64 v.z], .bool r]) ∧ Below w.heap.size w w' := by
  by_cases hp : pcheck n k f g = 0
  · by_cases h0 : 0 < n
    · rw [show pbox n k f g = _ from if_pos ⟨hp, h0⟩] at hr
      simp only [Prod.mk.injEq] at hr
      obtain ⟨rfl, rfl, rfl⟩ := hr
      exact box_some a b n k cap cap' f g w SA SB hp h0 (pcheck_all hp).1
    · rw [show pbox n k f g = _ from if_neg fun h => h0 h.2] at hr
      simp only [Prod.mk.injEq] at hr
      obtain ⟨rfl, rfl, rfl⟩ := hr
      exact box_nil a b n k cap cap' f g w SA SB hp (by omega)
  · rw [show pbox n k f g = _ from if_neg fun h => hp h.1] at hr
    simp only [Prod.mk.injEq] at hr
    obtain ⟨rfl, rfl, rfl⟩ := hr
    exact box_bad a b n k cap cap' f g w SA SB hp
set_option maxRecDepth 100000 in
theorem box_badr (a b : Option Addr) (n k cap cap' : Nat) (f g : Nat → V) (w : World) (SA : Sx a n f w) (SB : Sx b k g w) (hp : pcheck n k f g ≠ 0) :
    Calls Try.prog 25 #[.agg #[.slice a n cap, .slice b k cap']] w fun e w' => e = .returned (.tuple #[.agg #[.int .i64 0, .int .i64 0, .int .i64 0], .agg #[.int .i64 0, .int .i64 0, .int .i64 0], .bool false]) ∧ Below w.heap.size w w' := by
  obtain ⟨r, hr, h0⟩ : ∃ r, r = pcheck n k f g ∧ (r != 0) = true := ⟨_, rfl, by simpa using hp⟩
  have HR := Lib.hid hr
  clear hr hp
  go_enter Try.func25, Try.ntmps25
  go_wp2_with fail
  have e1 := below_alloc w (.cells #[.slice a n cap, .slice b k cap'] 25)
  have e2 := below_alloc (w.alloc (.cells #[.slice a n cap, .slice b k cap'] 25)) (.cells #[.int .i64 0, .int .i64 0, .int .i64 0] 36)
  have e3 := below_alloc ((w.alloc (.cells #[.slice a n cap, .slice b k cap'] 25)).alloc (.cells #[.int .i64 0, .int .i64 0, .int .i64 0] 36)) (.cells #[.int .i64 0, .int .i64 0, .int .i64 0] 36)
  have M0 := ((Mb.new w (.slice a n cap) (.slice b k cap')).next e2).next e3
  have A0 := (At.newAt (b := w.heap.size + 1) (w.alloc (.cells #[.slice a n cap, .slice b k cap'] 25)) 0 0 0 (by simp)).next e3
  have B0 := At.newAt (b := w.heap.size + 1 + 1) ((w.alloc (.cells #[.slice a n cap, .slice b k cap'] 25)).alloc (.cells #[.int .i64 0, .int .i64 0, .int .i64 0] 36)) 0 0 0 (by simp)
  have HB0 := below_next (below_next e1 e2) e3
  refine (check_auxr a b n k cap cap' f g _ (SA.next HB0) (SB.next HB0) r HR.out).mono ?_
  rintro e w1 ⟨rfl, hb1⟩
  have M1 := M0.next hb1
  have A1 := A0.next hb1
  have B1 := B0.next hb1
  have HB1 := below_next HB0 hb1
  clear e1 e2 e3 M0 A0 B0 HB0 hb1
  have a0 := A1.c0
  have a1 := A1.c1
  have a2 := A1.c2
  have b0 := B1.c0
  have b1 := B1.c1
  have b2 := B1.c2
  have fa := A1.f
  have fb := B1.f
  go_wp2_with fail
  clear a0 a1 a2 b0 b1 b2
  have AA := (((((A1.set0 0).set1 0).set2 0).other ⟨w.heap.size + 1 + 1, 0, none⟩ (.int .i64 0) (by dsimp only; omega)).other ⟨w.heap.size + 1 + 1, 1, none⟩ (.int .i64 0) (by dsimp only; omega)).other ⟨w.heap.size + 1 + 1, 2, none⟩ (.int .i64 0) (by dsimp only; omega)
  have BB := ((((((B1).other ⟨w.heap.size + 1, 0, none⟩ (.int .i64 0) (by dsimp only; omega)).other ⟨w.heap.size + 1, 1, none⟩ (.int .i64 0) (by dsimp only; omega)).other ⟨w.heap.size + 1, 2, none⟩ (.int .i64 0) (by dsimp only; omega)).set0 0).set1 0).set2 0
  exact bodyPost_ret (v := .tuple #[.agg #[.int .i64 0, .int .i64 0, .int .i64 0], .agg #[.int .i64 0, .int .i64 0, .int .i64 0], .bool false])
    (by
      have a0 := AA.c0
      have a1 := AA.c1
      have a2 := AA.c2
      have b0 := BB.c0
      have b1 := BB.c1
      have b2 := BB.c2
      simp [results, Try.results25, go_sem, a0, a1, a2, b0, b1, b2]) rfl ⟨rfl, ((((((HB1).setCell (p := ⟨w.heap.size + 1, 0, none⟩) (by dsimp only; omega) (.int .i64 0)).setCell (p := ⟨w.heap.size + 1, 1, none⟩) (by dsimp only; omega) (.int .i64 0)).setCell (p := ⟨w.heap.size + 1, 2, none⟩) (by dsimp only; omega) (.int .i64 0)).setCell (p := ⟨w.heap.size + 1 + 1, 0, none⟩) (by dsimp only; omega) (.int .i64 0)).setCell (p := ⟨w.heap.size + 1 + 1, 1, none⟩) (by dsimp only; omega) (.int .i64 0)).setCell (p := ⟨w.heap.size + 1 + 1, 2, none⟩) (by dsimp only; omega) (.int .i64 0)⟩
set_option maxRecDepth 100000 in
theorem box_nilr (a b : Option Addr) (n k cap cap' : Nat) (f g : Nat → V) (w : World) (SA : Sx a n f w) (SB : Sx b k g w) (hp : pcheck n k f g = 0) (h0 : n = 0) :
    Calls Try.prog 25 #[.agg #[.slice a n cap, .slice b k cap']] w fun e w' => e = .returned (.tuple #[.agg #[.int .i64 0, .int .i64 0, .int .i64 0], .agg #[.int .i64 0, .int .i64 0, .int .i64 0], .bool false]) ∧ Below w.heap.size w w' := by
  subst h0
  go_enter Try.func25, Try.ntmps25
  go_wp2_with fail
  have e1 := below_alloc w (.cells #[.slice a 0 cap, .slice b k cap'] 25)
  have e2 := below_alloc (w.alloc (.cells #[.slice a 0 cap, .slice b k cap'] 25)) (.cells #[.int .i64 0, .int .i64 0, .int .i64 0] 36)
  have e3 := below_alloc ((w.alloc (.cells #[.slice a 0 cap, .slice b k cap'] 25)).alloc (.cells #[.int .i64 0, .int .i64 0, .int .i64 0] 36)) (.cells #[.int .i64 0, .int .i64 0, .int .i64 0] 36)
  have M0 := ((Mb.new w (.slice a 0 cap) (.slice b k cap')).next e2).next e3
  have A0 := (At.newAt (b := w.heap.size + 1) (w.alloc (.cells #[.slice a 0 cap, .slice b k cap'] 25)) 0 0 0 (by simp)).next e3
  have B0 := At.newAt (b := w.heap.size + 1 + 1) ((w.alloc (.cells #[.slice a 0 cap, .slice b k cap'] 25)).alloc (.cells #[.int .i64 0, .int .i64 0, .int .i64 0] 36)) 0 0 0 (by simp)
  have HB0 := below_next (below_next e1 e2) e3
  refine (check_auxr a b 0 k cap cap' f g _ (SA.next HB0) (SB.next HB0) 0 hp.symm).mono ?_
  rintro e w1 ⟨rfl, hb1⟩
  have M1 := M0.next hb1
  have A1 := A0.next hb1
  have B1 := B0.next hb1
  have HB1 := below_next HB0 hb1
  clear e1 e2 e3 M0 A0 B0 HB0 hb1
  have m0 := M1.c0
  go_wp2_with fail
  refine (bounds_nilr a cap _).mono ?_
  rintro e w2 ⟨rfl, hb2⟩
  have A2 := A1.next hb2
  have B2 := B1.next hb2
  have HB2 := below_next HB1 hb2
  clear m0 M1 A1 B1 HB1 hb2
  have a0 := A2.c0
  have a1 := A2.c1
  have a2 := A2.c2
  have b0 := B2.c0
  have b1 := B2.c1
  have b2 := B2.c2
  have fa := A2.f
  have fb := B2.f
  go_wp2_with fail
  clear a0 a1 a2 b0 b1 b2
  have AA := (((((A2.set0 0).set1 0).set2 0).other ⟨w.heap.size + 1 + 1, 0, none⟩ (.int .i64 0) (by dsimp only; omega)).other ⟨w.heap.size + 1 + 1, 1, none⟩ (.int .i64 0) (by dsimp only; omega)).other ⟨w.heap.size + 1 + 1, 2, none⟩ (.int .i64 0) (by dsimp only; omega)
  have BB := ((((((B2).other ⟨w.heap.size + 1, 0, none⟩ (.int .i64 0) (by dsimp only; omega)).other ⟨w.heap.size + 1, 1, none⟩ (.int .i64 0) (by dsimp only; omega)).other ⟨w.heap.size + 1, 2, none⟩ (.int .i64 0) (by dsimp only; omega)).set0 0).set1 0).set2 0
  exact bodyPost_ret (v := .tuple #[.agg #[.int .i64 0, .int .i64 0, .int .i64 0], .agg #[.int .i64 0, .int .i64 0, .int .i64 0], .bool false])
    (by
      have a0 := AA.c0
      have a1 := AA.c1
      have a2 := AA.c2
      have b0 := BB.c0
      have b1 := BB.c1
      have b2 := BB.c2
      simp [results, Try.results25, go_sem, a0, a1, a2, b0, b1, b2]) rfl ⟨rfl, ((((((HB2).setCell (p := ⟨w.heap.size + 1, 0, none⟩) (by dsimp only; omega) (.int .i64 0)).setCell (p := ⟨w.heap.size + 1, 1, none⟩) (by dsimp only; omega) (.int .i64 0)).setCell (p := ⟨w.heap.size + 1, 2, none⟩) (by dsimp only; omega) (.int .i64 0)).setCell (p := ⟨w.heap.size + 1 + 1, 0, none⟩) (by dsimp only; omega) (.int .i64 0)).setCell (p := ⟨w.heap.size + 1 + 1, 1, none⟩) (by dsimp only; omega) (.int .i64 0)).setCell (p := ⟨w.heap.size + 1 + 1, 2, none⟩) (by dsimp only; omega) (.int .i64 0)⟩
set_option maxRecDepth 100000 in
theorem box_somer (a b : Option Addr) (n k cap cap' : Nat) (f g : Nat → V) (w : World) (SA : Sx a n f w) (SB : Sx b k g w) (hp : pcheck n k f g = 0) (h0 : 0 < n) (hn : n ≤ 4096) :
    Calls Try.prog 25 #[.agg #[.slice a n cap, .slice b k cap']] w fun e w' => e = .returned (.tuple #[.agg #[.int .i64 (lo f n).x, .int .i64 (lo f n).y, .int .i64 (lo f n).z], .agg #[.int .i64 (hi f n).x, .int .i64 (hi f n).y, .int .i64 (hi f n).z], .bool true]) ∧ Below w.heap.size w w' := by
  rcases SA with h | ⟨ba, oa, rfl, S⟩
  · omega
  have SA : Sx (some ⟨ba, oa, none⟩) n f w := .inr ⟨ba, oa, rfl, S⟩
  go_enter Try.func25, Try.ntmps25
  go_wp2_with fail
  have e1 := below_alloc w (.cells #[.slice (some ⟨ba, oa, none⟩) n cap, .slice b k cap'] 25)
  have e2 := below_alloc (w.alloc (.cells #[.slice (some ⟨ba, oa, none⟩) n cap, .slice b k cap'] 25)) (.cells #[.int .i64 0, .int .i64 0, .int .i64 0] 36)
  have e3 := below_alloc ((w.alloc (.cells #[.slice (some ⟨ba, oa, none⟩) n cap, .slice b k cap'] 25)).alloc (.cells #[.int .i64 0, .int .i64 0, .int .i64 0] 36)) (.cells #[.int .i64 0, .int .i64 0, .int .i64 0] 36)
  have M0 := ((Mb.new w (.slice (some ⟨ba, oa, none⟩) n cap) (.slice b k cap')).next e2).next e3
  have A0 := (At.newAt (b := w.heap.size + 1) (w.alloc (.cells #[.slice (some ⟨ba, oa, none⟩) n cap, .slice b k cap'] 25)) 0 0 0 (by simp)).next e3
  have B0 := At.newAt (b := w.heap.size + 1 + 1) ((w.alloc (.cells #[.slice (some ⟨ba, oa, none⟩) n cap, .slice b k cap'] 25)).alloc (.cells #[.int .i64 0, .int .i64 0, .int .i64 0] 36)) 0 0 0 (by simp)
  have HB0 := below_next (below_next e1 e2) e3
  refine (check_auxr _ b n k cap cap' f g _ (SA.next HB0) (SB.next HB0) 0 hp.symm).mono ?_
  rintro e w1 ⟨rfl, hb1⟩
  have M1 := M0.next hb1
  have A1 := A0.next hb1
  have B1 := B0.next hb1
  have HB1 := below_next HB0 hb1
  clear e1 e2 e3 M0 A0 B0 HB0 hb1
  have m0 := M1.c0
  go_wp2_with fail
  refine (bounds_somer ba oa n cap f _ h0 hn (S.next HB1)).mono ?_
  rintro e w2 ⟨rfl, hb2⟩
  have A2 := A1.next hb2
  have B2 := B1.next hb2
  have HB2 := below_next HB1 hb2
  clear m0 M1 A1 B1 HB1 hb2
  have a0 := A2.c0
  have a1 := A2.c1
  have a2 := A2.c2
  have b0 := B2.c0
  have b1 := B2.c1
  have b2 := B2.c2
  have fa := A2.f
  have fb := B2.f
  go_wp2_with fail
  clear a0 a1 a2 b0 b1 b2
  have AA := (((((A2.set0 (lo f n).x).set1 (lo f n).y).set2 (lo f n).z).other ⟨w.heap.size + 1 + 1, 0, none⟩ (.int .i64 (hi f n).x) (by dsimp only; omega)).other ⟨w.heap.size + 1 + 1, 1, none⟩ (.int .i64 (hi f n).y) (by dsimp only; omega)).other ⟨w.heap.size + 1 + 1, 2, none⟩ (.int .i64 (hi f n).z) (by dsimp only; omega)
  have BB := ((((((B2).other ⟨w.heap.size + 1, 0, none⟩ (.int .i64 (lo f n).x) (by dsimp only; omega)).other ⟨w.heap.size + 1, 1, none⟩ (.int .i64 (lo f n).y) (by dsimp only; omega)).other ⟨w.heap.size + 1, 2, none⟩ (.int .i64 (lo f n).z) (by dsimp only; omega)).set0 (hi f n).x).set1 (hi f n).y).set2 (hi f n).z
  exact bodyPost_ret (v := .tuple #[.agg #[.int .i64 (lo f n).x, .int .i64 (lo f n).y, .int .i64 (lo f n).z], .agg #[.int .i64 (hi f n).x, .int .i64 (hi f n).y, .int .i64 (hi f n).z], .bool true])
    (by
      have a0 := AA.c0
      have a1 := AA.c1
      have a2 := AA.c2
      have b0 := BB.c0
      have b1 := BB.c1
      have b2 := BB.c2
      simp [results, Try.results25, go_sem, a0, a1, a2, b0, b1, b2]) rfl ⟨rfl, ((((((HB2).setCell (p := ⟨w.heap.size + 1, 0, none⟩) (by dsimp only; omega) (.int .i64 (lo f n).x)).setCell (p := ⟨w.heap.size + 1, 1, none⟩) (by dsimp only; omega) (.int .i64 (lo f n).y)).setCell (p := ⟨w.heap.size + 1, 2, none⟩) (by dsimp only; omega) (.int .i64 (lo f n).z)).setCell (p := ⟨w.heap.size + 1 + 1, 0, none⟩) (by dsimp only; omega) (.int .i64 (hi f n).x)).setCell (p := ⟨w.heap.size + 1 + 1, 1, none⟩) (by dsimp only; omega) (.int .i64 (hi f n).y)).setCell (p := ⟨w.heap.size + 1 + 1, 2, none⟩) (by dsimp only; omega) (.int .i64 (hi f n).z)⟩
theorem box_anyr (a b : Option Addr) (n k cap cap' : Nat) (f g : Nat → V) (w : World) (SA : Sx a n f w) (SB : Sx b k g w) (u v : V) (r : Bool) (hr : pbox n k f g = (u, v, r)) :
    Calls Try.prog 25 #[.agg #[.slice a n cap, .slice b k cap']] w fun e w' => e = .returned (.tuple #[.agg #[.int .i64 u.x, .int .i64 u.y, .int .i64 u.z], .agg #[.int .i64 v.x, .int .i64 v.y, .int .i64 v.z], .bool r]) ∧ Below w.heap.size w w' := by
  by_cases hp : pcheck n k f g = 0
  · by_cases h0 : 0 < n
    · rw [show pbox n k f g = _ from if_pos ⟨hp, h0⟩] at hr
      simp only [Prod.mk.injEq] at hr
      obtain ⟨rfl, rfl, rfl⟩ := hr
      exact box_somer a b n k cap cap' f g w SA SB hp h0 (pcheck_all hp).1
    · rw [show pbox n k f g = _ from if_neg fun h => h0 h.2] at hr
      simp only [Prod.mk.injEq] at hr
      obtain ⟨rfl, rfl, rfl⟩ := hr
      exact box_nilr a b n k cap cap' f g w SA SB hp (by omega)
  · rw [show pbox n k f g = _ from if_neg fun h => hp h.1] at hr
    simp only [Prod.mk.injEq] at hr
    obtain ⟨rfl, rfl, rfl⟩ := hr
    exact box_badr a b n k cap cap' f g w SA SB hp
end Go.Proofs.Ytcfglmamocdkeaa
