/- A region that draws its order, whose operations each keep what the others have made: walked once, operation by operation. -/
import Derived.Test.YtcfglmamocdkeaaRev
namespace Go.Proofs.Ytcfglmamocdkeaa
open Go.ChangeShapes Go.WideShapes Go.ChangeAt Go.RowKit

/-- No operation is guarded; edges go back; no two write one slot. -/
def edgesOk (ops : Array Oper) : Bool := (List.range ops.size).all fun i => match ops[i]? with
  | none => true
  | some o => o.guard.isNone && o.after.all (fun e => !Region.binds .any e || decide (e.on < i)) && (List.range i).all (fun j => match ops[j]? with
    | none => true
    | some p => p.dst.isNone || o.dst.isNone || p.dst != o.dst)
/-- The operation with the number m waits for all before it. -/
def lastOk (ops : Array Oper) (m : Nat) : Bool := match ops[m]? with
  | none => false
  | some o => o.dst.isNone && (List.range m).all fun j => o.after.any fun e => Region.binds .any e && e.on == j
def slot (a : Act) (o : Oper) : Value := match o.dst with
  | none => undef
  | some d => a.tmps.getD d undef
theorem edges_guard {ops : Array Oper} (h : edgesOk ops = true) {i : Nat} {o : Oper} (ho : ops[i]? = some o) : o.guard = none := by
  have := List.all_eq_true.1 h i (List.mem_range.2 (Array.getElem?_eq_some_iff.1 ho).1)
  simp only [ho, Bool.and_eq_true, Option.isNone_iff_eq_none] at this
  exact this.1.1
theorem edges_back {ops : Array Oper} (h : edgesOk ops = true) {i : Nat} {o : Oper} (ho : ops[i]? = some o) {e : Edge} (he : e ∈ o.after) (hb : Region.binds .any e = true) : e.on < i := by
  have := List.all_eq_true.1 h i (List.mem_range.2 (Array.getElem?_eq_some_iff.1 ho).1)
  simp only [ho, Bool.and_eq_true, Option.isNone_iff_eq_none] at this
  have h2 := this.1.2
  rw [Array.all_eq_true'] at h2
  have h3 := h2 e he
  rw [hb] at h3
  simpa using h3
theorem edges_lt {ops : Array Oper} (h : edgesOk ops = true) {i j : Nat} {o p : Oper} (ho : ops[i]? = some o) (hp : ops[j]? = some p) (hij : j < i) {d : Nat} (hd : o.dst = some d) : p.dst ≠ some d := by
  have := List.all_eq_true.1 h i (List.mem_range.2 (Array.getElem?_eq_some_iff.1 ho).1)
  simp only [ho, Bool.and_eq_true, Option.isNone_iff_eq_none] at this
  have h2 := List.all_eq_true.1 this.2 j (List.mem_range.2 hij)
  simp only [hp, hd] at h2
  intro k
  rw [k] at h2
  simp at h2
theorem edges_ne {ops : Array Oper} (h : edgesOk ops = true) {i j : Nat} {o p : Oper} (ho : ops[i]? = some o) (hp : ops[j]? = some p) (hij : j ≠ i) {d : Nat} (hd : o.dst = some d) : p.dst ≠ some d := by
  rcases Nat.lt_or_gt_of_ne hij with h' | h'
  · exact edges_lt h ho hp h' hd
  · intro k
    exact edges_lt h hp ho h' k hd
theorem slot_put {a : Act} {o p : Oper} {v : Value} (h : ∀ d, o.dst = some d → p.dst ≠ some d) : slot (a.put o.dst v) p = slot a p := by
  unfold slot
  cases hp : p.dst with
  | none => rfl
  | some d =>
    cases ho : o.dst with
    | none => rfl
    | some d' =>
      have hne : d' ≠ d := fun e => h d' ho (by rw [hp, e])
      simp [Act.put, Array.getElem?_setIfInBounds_ne hne]
theorem slot_self {a : Act} {o : Oper} {v : Value} {d : Nat} (hd : o.dst = some d) (hlt : d < a.tmps.size) : slot (a.put o.dst v) o = v := by
  unfold slot
  rw [hd]
  simp [Act.put, hlt]
def left (n : Nat) (l : Array Bool) : Nat := (List.range n).countP fun i => !l.getD i true
theorem countP_le' {α : Type} {p q : α → Bool} : ∀ {l : List α}, (∀ x ∈ l, q x = true → p x = true) → l.countP q ≤ l.countP p
  | [], _ => Nat.le_refl _
  | x :: l, h => by
    have ih := countP_le' (p := p) (q := q) (l := l) fun y hy => h y (List.mem_cons_of_mem _ hy)
    simp only [List.countP_cons]
    by_cases hq : q x = true
    · have hp := h x List.mem_cons_self hq
      simp [hq, hp]; exact ih
    · simp [hq]; omega
theorem countP_lt' {α : Type} {p q : α → Bool} {y : α} (hp : p y = true) (hq : q y = false) : ∀ {l : List α}, y ∈ l → (∀ x ∈ l, q x = true → p x = true) → l.countP q < l.countP p
  | [], hy, _ => by cases hy
  | x :: l, hy, h => by
    simp only [List.countP_cons]
    rcases List.mem_cons.1 hy with rfl | hy
    · have ih := countP_le' (p := p) (q := q) (l := l) fun z hz => h z (List.mem_cons_of_mem _ hz)
      simp [hp, hq]; omega
    · have ih := countP_lt' hp hq hy fun z hz => h z (List.mem_cons_of_mem _ hz)
      by_cases hqx : q x = true
      · have := h x List.mem_cons_self hqx
        simp [hqx, this]; exact ih
      · simp [hqx]; omega
theorem left_set {n i : Nat} {l : Array Bool} (hi : i < n) (hl : l.getD i true = false) : left n (l.setIfInBounds i true) < left n l := by
  have hsz : i < l.size := by
    rcases Nat.lt_or_ge i l.size with h | h
    · exact h
    · simp [Array.getElem?_eq_none h] at hl
  refine countP_lt' (y := i) (by simpa using hl) (by simp [hsz]) (List.mem_range.2 hi) fun x _ hx => ?_
  by_cases hxi : i = x
  · subst hxi; simp [hsz] at hx
  · simpa [Array.getElem?_setIfInBounds_ne hxi] using hx
theorem set_true {l : Array Bool} {i j : Nat} (h : (l.setIfInBounds i true).getD j false = true) : j = i ∨ l.getD j false = true := by
  by_cases hij : i = j
  · exact .inl hij.symm
  · right; simpa [Array.getElem?_setIfInBounds_ne hij] using h
theorem true_of {l : Array Bool} {j : Nat} (hj : j < l.size) (h : l.getD j true ≠ false) : l.getD j false = true := by
  simp [hj] at h ⊢; exact h

section
variable {P : Program} {ops : Array Oper} {Q : Exit → Act → World → Prop}
/-- The frame outside the region's slots is as it was. -/
structure Frm (ops : Array Oper) (a0 a : Act) : Prop where
  size : a.tmps.size = a0.tmps.size
  defers : a.defers = a0.defers
  same : ∀ d, (∀ (i : Nat) (o : Oper), ops[i]? = some o → o.dst ≠ some d) → a.tmps[d]? = a0.tmps[d]?
theorem Frm.put {a0 a : Act} (h : Frm ops a0 a) {i : Nat} {o : Oper} (ho : ops[i]? = some o) (v : Value) : Frm ops a0 (a.put o.dst v) := by
  cases hd : o.dst with
  | none => exact h
  | some d =>
    refine ⟨by simp [Act.put, h.size], h.defers, fun d' hd' => ?_⟩
    have hne : d ≠ d' := fun e => hd' i o ho (by rw [hd, e])
    simp only [Act.put]
    rw [Array.getElem?_setIfInBounds_ne hne]
    exact h.same d' hd'

theorem wpAny_each (a0 : Act) (C : World → Prop) (R : Nat → World → World → Prop) (F : Nat → Value → World → Prop) (m : Nat) (hm : ops.size = m + 1)
    (hE : edgesOk ops = true) (hL : lastOk ops m = true) (hd : ∀ (i : Nat) (o : Oper) (d : Nat), ops[i]? = some o → o.dst = some d → d < a0.tmps.size) (hF : ∀ i j o v w w', ops[i]? = some o → i ≠ j → (∀ e ∈ o.after, Region.binds .any e = true → e.on ≠ j) → F i v w → R j w w' → F i v w')
    (hop : ∀ (i : Nat) (o : Oper), i < m → ops[i]? = some o → ∀ a w, Frm ops a0 a → C w → (∀ e ∈ o.after, Region.binds .any e = true → ∀ p, ops[e.on]? = some p → F e.on (slot a p) w) →
      o.wp P a w (fun a' w' => ∃ v, a' = a.put o.dst v ∧ (F i v w' ∧ o.dst ≠ none) ∧ C w' ∧ R i w w') Q)
    (hend : ∀ (o : Oper), ops[m]? = some o → ∀ a w, Frm ops a0 a → C w → (∀ (i : Nat) (p : Oper), i < m → ops[i]? = some p → F i (slot a p) w) → o.wp P a w (fun a' w' => Q .normal a' w') Q) :
    ∀ (fuel : Nat) (l : Array Bool) (a : Act) (w : World), l.size = ops.size → left ops.size l ≤ fuel →
      ((l.getD m false = true ∧ (∀ j, j < ops.size → l.getD j true = true) ∧ Q .normal a w) ∨ (l.getD m true = false ∧ Frm ops a0 a ∧ C w ∧ (∀ (i : Nat) (p : Oper), ops[i]? = some p → l.getD i false = true → ∀ e ∈ p.after, Region.binds .any e = true → l.getD e.on false = true) ∧ ∀ (i : Nat) (p : Oper), ops[i]? = some p → l.getD i false = true → F i (slot a p) w)) →
      wpAny P .any ops Q fuel l a w := by
  -- whoever is not listed while nothing is ready: there is none
  have done : ∀ (l : Array Bool), l.size = ops.size → Region.ready .any ops l = [] → ∀ n, n < ops.size → l.getD n false = true := by
    intro l hl hr n
    induction n using Nat.strongRecOn with
    | _ n ih =>
      intro hn
      apply Classical.byContradiction
      intro hc
      have h0 : l.getD n true = false := by
        simp [hl, hn] at hc ⊢; exact hc
      have : n ∈ Region.ready .any ops l := mem_ready.2 ⟨h0, ops[n], by simp [hn], fun e he hb => by
        have := edges_back hE (i := n) (o := ops[n]) (by simp [hn]) he hb
        exact ih e.on this (by omega)⟩
      rw [hr] at this
      cases this
  have hml : m < ops.size := by omega
  have noQ : ∀ (l : Array Bool) (a : Act) (w : World), l.size = ops.size → Region.ready .any ops l = [] →
      ((l.getD m false = true ∧ (∀ j, j < ops.size → l.getD j true = true) ∧ Q .normal a w) ∨ (l.getD m true = false ∧ Frm ops a0 a ∧ C w ∧ (∀ (i : Nat) (p : Oper), ops[i]? = some p → l.getD i false = true → ∀ e ∈ p.after, Region.binds .any e = true → l.getD e.on false = true) ∧ ∀ (i : Nat) (p : Oper), ops[i]? = some p → l.getD i false = true → F i (slot a p) w)) → Q .normal a w := by
    intro l a w hl hr hj
    rcases hj with h | h
    · exact h.2.2
    · have h1 := done l hl hr m hml
      have h2 := h.1
      have hsz : m < l.size := by omega
      simp [hsz] at h1 h2
      rw [h1] at h2; cases h2
  intro fuel
  induction fuel with
  | zero =>
    intro l a w hl hf hj
    have hr : Region.ready .any ops l = [] := by
      rcases hrr : Region.ready .any ops l with _ | ⟨i, t⟩
      · rfl
      · exfalso
        have hi : i ∈ Region.ready .any ops l := by rw [hrr]; exact List.mem_cons_self
        obtain ⟨h0, o, ho, -⟩ := mem_ready.1 hi
        have := left_set (n := ops.size) (Array.getElem?_eq_some_iff.1 ho).1 h0
        omega
    exact ⟨hr, noQ l a w hl hr hj⟩
  | succ fuel ih =>
    intro l a w hl hf hj
    refine ⟨fun hr => noQ l a w hl hr hj, fun i hi => ?_⟩
    obtain ⟨h0, o, ho, hall⟩ := mem_ready.1 hi
    have hi' := (Array.getElem?_eq_some_iff.1 ho).1
    have hlt := left_set (n := ops.size) hi' h0
    have hg := edges_guard hE ho
    have hw : Region.wanted o (yielded ops a.tmps) = true := by simp [Region.wanted, hg]
    rcases hj with ⟨-, hj, -⟩ | ⟨hmu, hfr, hC, hcl, hFs⟩
    · have := hj i hi'
      rw [h0] at this; cases this
    have key : o.wp P a w (wpAny P .any ops Q fuel (l.setIfInBounds i true)) Q := by
      by_cases him : i = m
      · subst him
        have hLo := hL
        simp only [lastOk, ho, Bool.and_eq_true] at hLo
        have hj0 : ∀ j, j < i → l.getD j false = true := fun j hjm => by
          have h2 := List.all_eq_true.1 hLo.2 j (List.mem_range.2 hjm)
          rw [Array.any_eq_true'] at h2
          obtain ⟨e, he, h3⟩ := h2
          simp only [Bool.and_eq_true, beq_iff_eq] at h3
          exact h3.2 ▸ hall e he h3.1
        refine Oper.wp_mono (fun a' w' hQ => ih _ a' w' (by simp [hl]) (by omega) (.inl ⟨?_, fun j hj => ?_, hQ⟩)) (hend o ho a w hfr hC fun j p hjm hp => hFs j p hp (hj0 j hjm))
        · have hsz : i < l.size := by omega
          simp [hsz]
        · by_cases hji : j = i
          · subst hji
            have hsz : j < l.size := by omega
            simp [hsz]
          · have h1 := hj0 j (by omega)
            have h2 := getD_set_true (i := i) h1
            have hsz : j < (l.setIfInBounds i true).size := by simp [hl]; omega
            simp only [Array.getD_eq_getD_getElem?, Array.getElem?_eq_getElem hsz, Option.getD_some] at h2 ⊢
            exact h2
      · refine Oper.wp_mono (fun a' w' h => ?_) (hop i o (by omega) ho a w hfr hC fun e he hb p hp => hFs e.on p hp (hall e he hb))
        obtain ⟨v, rfl, ⟨hv, hdn⟩, hC', hR⟩ := h
        refine ih _ _ w' (by simp [hl]) (by omega) (.inr ⟨?_, hfr.put ho v, hC', fun j p hp hjl e he hb => ?_, fun j p hp hjl => ?_⟩)
        · rw [getD_set_ne true him]; exact hmu
        · rcases set_true hjl with h | h
          · subst h
            obtain rfl : o = p := by rw [ho] at hp; injection hp
            exact getD_set_true (hall e he hb)
          · exact getD_set_true (hcl j p hp h e he hb)
        · by_cases hji : j = i
          · subst hji
            obtain rfl : o = p := by rw [ho] at hp; injection hp
            obtain ⟨d, hdd⟩ := Option.ne_none_iff_exists'.1 hdn
            rw [slot_self hdd (by rw [hfr.size]; exact hd j o d ho hdd)]
            exact hv
          · rw [slot_put fun d hdd => edges_ne hE ho hp hji hdd]
            have hjl' : l.getD j false = true := by
              rcases set_true hjl with h | h
              · exact absurd h hji
              · exact h
            refine hF j i p _ _ _ hp hji (fun e he hb hei => ?_) (hFs j p hp hjl') hR
            have h1 := hcl j p hp hjl' e he hb
            rw [hei] at h1
            have hsz : i < l.size := by omega
            simp [hsz] at h0 h1
            rw [h0] at h1; cases h1
    unfold wpOp
    rw [ho]
    show if Region.wanted o (yielded ops a.tmps) = true then _ else _
    rw [if_pos hw]
    exact .inl key

theorem wp_region_each {id : Nat} (a0 : Act) (w0 : World) (C : World → Prop) (R : Nat → World → World → Prop) (F : Nat → Value → World → Prop) (m : Nat) (hx : P.follows .mixedOrders = true) (hm : ops.size = m + 1)
    (hE : edgesOk ops = true) (hL : lastOk ops m = true) (N : Nat) (hN : a0.tmps.size = N) (hdB : (ops.toList.all fun o => o.dst.all fun d => decide (d < N)) = true) (hF : ∀ i j o v w w', ops[i]? = some o → i ≠ j → (∀ e ∈ o.after, Region.binds .any e = true → e.on ≠ j) → F i v w → R j w w' → F i v w') (hC0 : C w0.drew)
    (hop : ∀ (i : Nat) (o : Oper), i < m → ops[i]? = some o → ∀ a w, Frm ops a0 a → C w → (∀ e ∈ o.after, Region.binds .any e = true → ∀ p, ops[e.on]? = some p → F e.on (slot a p) w) →
      o.wp P a w (fun a' w' => ∃ v, a' = a.put o.dst v ∧ (F i v w' ∧ o.dst ≠ none) ∧ C w' ∧ R i w w') Q)
    (hend : ∀ (o : Oper), ops[m]? = some o → ∀ a w, Frm ops a0 a → C w → (∀ (i : Nat) (p : Oper), i < m → ops[i]? = some p → F i (slot a p) w) → o.wp P a w (fun a' w' => Q .normal a' w') Q) :
    (Code.region id ops true).wp P Q a0 w0 := by
  have hd : ∀ (i : Nat) (o : Oper) (d : Nat), ops[i]? = some o → o.dst = some d → d < a0.tmps.size := fun i o d ho hd => by
    have h1 := Array.getElem?_eq_some_iff.1 ho
    have h2 := List.all_eq_true.1 hdB o (Array.mem_toList_iff.2 (Array.mem_of_getElem h1.2))
    rw [hd] at h2
    rw [hN]
    simpa using h2
  refine wp_region_any hx (wpAny_each a0 C R F m hm hE hL hd hF hop hend _ _ a0 _ (by simp) (Nat.le_trans (List.countP_le_length) (by simp)) (.inr ⟨?_, ⟨rfl, rfl, fun _ _ => rfl⟩, hC0, fun i p hp h => ?_, fun i p hp h => ?_⟩))
  · simp [hm]
  all_goals
    exfalso
    rw [Array.getD_eq_getD_getElem?, Array.getElem?_replicate] at h
    split at h <;> cases h
end
end Go.Proofs.Ytcfglmamocdkeaa
