/- Single operations, in whatever frame and world. -/
import Derived.Test.YtcfglmamocdkeaaEach
namespace Go.Proofs.Ytcfglmamocdkeaa
open Go.ChangeShapes Go.WideShapes Go.ChangeAt Go.RowKit

section
variable {a : Act} {w : World} {K : Act → World → Prop} {Q : Exit → Act → World → Prop} {q : Oper}
theorem op_make36 (h : q.op = .buildSlice 22 0 #[]) (hk : K (a.put q.dst (.slice (some ⟨w.heap.size, 0, none⟩) 0 0)) (w.alloc (.cells #[] 36))) : q.wp Try.prog a w K Q := by
  obtain ⟨dst, op, type, pos, after, guard⟩ := q
  dsimp only at h hk
  subst h
  unfold Oper.wp execOp
  go_simp
  exact hk
theorem op_make47 (h : q.op = .buildSlice 23 0 #[]) (hk : K (a.put q.dst (.slice (some ⟨w.heap.size, 0, none⟩) 0 0)) (w.alloc (.cells #[] 47))) : q.wp Try.prog a w K Q := by
  obtain ⟨dst, op, type, pos, after, guard⟩ := q
  dsimp only at h hk
  subst h
  unfold Oper.wp execOp
  go_simp
  exact hk
theorem op_field0 {B : Nat} (i : Nat) (h : q.op = .fieldAddr 25 (.tmp i) 0) (ha : a.eval (.tmp i) = .pointer (some ⟨B, 0, none⟩)) (hk : K (a.put q.dst (.pointer (some ⟨B, 0, none⟩))) w) : q.wp Try.prog a w K Q := by
  obtain ⟨dst, op, type, pos, after, guard⟩ := q
  dsimp only at h hk
  subst h
  unfold Oper.wp execOp
  simp only [ha]
  go_simp
  exact hk
theorem op_field1 {B : Nat} (i : Nat) (h : q.op = .fieldAddr 25 (.tmp i) 1) (ha : a.eval (.tmp i) = .pointer (some ⟨B, 0, none⟩)) (hk : K (a.put q.dst (.pointer (some ⟨B, 1, none⟩))) w) : q.wp Try.prog a w K Q := by
  obtain ⟨dst, op, type, pos, after, guard⟩ := q
  dsimp only at h hk
  subst h
  unfold Oper.wp execOp
  simp only [ha]
  go_simp
  exact hk
theorem op_load22 {b o : Nat} {x : Value} (i : Nat) (h : q.op = .load 22 (.tmp i)) (ha : a.eval (.tmp i) = .pointer (some ⟨b, o, none⟩)) (d0 : w.cell? ⟨b, o, none⟩ = some x) (hk : K (a.put q.dst x) w) : q.wp Try.prog a w K Q := by
  obtain ⟨dst, op, type, pos, after, guard⟩ := q
  dsimp only at h hk
  subst h
  unfold Oper.wp execOp
  simp only [ha]
  go_simp
  exact hk
theorem op_load23 {b o : Nat} {x : Value} (i : Nat) (h : q.op = .load 23 (.tmp i)) (ha : a.eval (.tmp i) = .pointer (some ⟨b, o, none⟩)) (d0 : w.cell? ⟨b, o, none⟩ = some x) (hk : K (a.put q.dst x) w) : q.wp Try.prog a w K Q := by
  obtain ⟨dst, op, type, pos, after, guard⟩ := q
  dsimp only at h hk
  subst h
  unfold Oper.wp execOp
  simp only [ha]
  go_simp
  exact hk
theorem op_build25 {u v : Option Addr} {n c m d : Nat} (i j : Nat) (h : q.op = .build 25 #[(0, .tmp i), (1, .tmp j)]) (ha : a.eval (.tmp i) = .slice u n c) (hb : a.eval (.tmp j) = .slice v m d) (hk : K (a.put q.dst (.agg #[.slice u n c, .slice v m d])) w) : q.wp Try.prog a w K Q := by
  obtain ⟨dst, op, type, pos, after, guard⟩ := q
  dsimp only at h hk
  subst h
  unfold Oper.wp execOp
  simp only [List.map_toArray, List.map_cons, List.map_nil, ha, hb]
  go_simp
  exact hk
theorem op_alloc25 (h : q.op = .alloc 25) (hk : K (a.put q.dst (.pointer (some ⟨w.heap.size, 0, none⟩))) (w.alloc (.cells #[.slice none 0 0, .slice none 0 0] 25))) : q.wp Try.prog a w K Q := by
  obtain ⟨dst, op, type, pos, after, guard⟩ := q
  dsimp only at h hk
  subst h
  unfold Oper.wp execOp
  go_simp
  exact hk
theorem op_store25 {Z : Nat} {u v : Option Addr} {n c m d : Nat} {x y : Value} (i j : Nat) (h : q.op = .store 25 (.tmp i) (.tmp j)) (hd : q.dst = none) (ha : a.eval (.tmp i) = .pointer (some ⟨Z, 0, none⟩)) (hb : a.eval (.tmp j) = .agg #[.slice u n c, .slice v m d])
    (M : Mb Z x y w) (hk : K a ((w.setCell ⟨Z, 0, none⟩ (.slice u n c)).setCell ⟨Z, 1, none⟩ (.slice v m d))) : q.wp Try.prog a w K Q := by
  obtain ⟨dst, op, type, pos, after, guard⟩ := q
  dsimp only at h hd
  subst h hd
  have c0 := M.c0
  have c1 := M.c1
  have f0 := M.f 0
  have f1 := M.f 1
  unfold Oper.wp execOp
  simp only [ha, hb]
  go_simp
  exact hk
end
/-- The frame, written out. -/
theorem fill_eq {a : Act} : ∀ (L : List Oper) (b : Act), b.tmps.size = a.tmps.size → b.defers = a.defers → (∀ d, (∀ o ∈ L, o.dst ≠ some d) → a.tmps[d]? = b.tmps[d]?) → a = L.foldl (fun acc o => acc.put o.dst (slot a o)) b
  | [], b, hs, hd, h => by
    obtain ⟨t, d⟩ := a
    obtain ⟨t', d'⟩ := b
    dsimp only at hs hd h
    subst hd
    have : t = t' := Array.ext_getElem? fun i => h i fun o ho => by cases ho
    subst this
    rfl
  | o :: L, b, hs, hd, h => by
    refine fill_eq L (b.put o.dst (slot a o)) ?_ ?_ fun d hn => ?_
    · cases hod : o.dst <;> simp [Act.put, hs]
    · cases hod : o.dst <;> exact hd
    · cases hod : o.dst with
      | none =>
        refine h d fun p hp => ?_
        rcases List.mem_cons.1 hp with rfl | hp
        · rw [hod]; exact fun k => by cases k
        · exact hn p hp
      | some d' =>
        by_cases hdd : d' = d
        · subst hdd
          simp only [Act.put, slot, hod]
          rcases Nat.lt_or_ge d' b.tmps.size with hl | hl
          · have hl2 : d' < a.tmps.size := hs ▸ hl
            rw [Array.getElem?_setIfInBounds_self_of_lt hl, Array.getElem?_eq_getElem hl2]
            simp [hl2]
          · rw [Array.getElem?_eq_none (by rw [← hs]; exact hl), Array.getElem?_eq_none (by simp; exact hl)]
        · simp only [Act.put]
          rw [Array.getElem?_setIfInBounds_ne hdd]
          refine h d fun p hp => ?_
          rcases List.mem_cons.1 hp with rfl | hp
          · rw [hod]; exact fun k => hdd (by injection k)
          · exact hn p hp
theorem Frm.eq {ops : Array Oper} {a0 a : Act} (h : Frm ops a0 a) : a = ops.toList.foldl (fun acc o => acc.put o.dst (slot a o)) a0 :=
  fill_eq _ _ h.size.symm h.defers.symm fun d hd => h.same d fun i o ho => hd o (by
    have := Array.getElem?_eq_some_iff.1 ho
    exact Array.mem_toList_iff.2 (Array.mem_of_getElem this.2))
theorem Frm.tmp {ops : Array Oper} {a0 a : Act} (h : Frm ops a0 a) (d : Nat) (hd : (ops.toList.all fun o => o.dst != some d) = true) : a.eval (.tmp d) = a0.eval (.tmp d) := by
  show a.tmps.getD d undef = a0.tmps.getD d undef
  rw [Array.getD_eq_getD_getElem?, Array.getD_eq_getD_getElem?, h.same d fun i o ho => by
    have h1 := Array.getElem?_eq_some_iff.1 ho
    have h2 := List.all_eq_true.1 hd o (Array.mem_toList_iff.2 (Array.mem_of_getElem h1.2))
    simpa using h2]
theorem slot_tmp {a : Act} {o : Oper} {d : Nat} (h : o.dst = some d) : a.eval (.tmp d) = slot a o := by
  unfold slot
  rw [h]
  rfl
end Go.Proofs.Ytcfglmamocdkeaa
