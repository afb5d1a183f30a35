/- The contracts of Volume6. -/
import Derived.Test.YtcfglmamocdkeaaCorn
import Derived.Test.YtcfglmamocdkeaaAlg
namespace Go.Proofs.Ytcfglmamocdkeaa
open Go.ChangeShapes Go.WideShapes Go.ChangeAt Go.RowKit

/-- The corner with the number c. -/
def cor (f : Nat → V) (c : Int) : V := f c.toNat
/-- Six times the volume of the first l triangles. -/
def vol (f g : Nat → V) : Nat → Int
  | 0 => 0
  | l + 1 => vol f g l + pdet (cor f (g l).x) (cor f (g l).y) (cor f (g l).z)
def pvol (n k : Nat) (f g : Nat → V) : Int := if pcheck n k f g = 0 then vol f g k else 0
theorem vol_in (f g : Nat → V) : ∀ l : Nat, -(18014398509481984 * (l : Int)) ≤ vol f g l ∧ vol f g l ≤ 18014398509481984 * (l : Int)
  | 0 => by simp [vol]
  | l + 1 => by
    have h := vol_in f g l
    have p := pdet_in (cor f (g l).x) (cor f (g l).y) (cor f (g l).z)
    simp only [vol]
    omega

/-- A triangle in block b. -/
structure Tb (b : Nat) (x y z : Int) (w : World) : Prop where
  row : w.heap[b]? = some (.cells #[.int .i64 x, .int .i64 y, .int .i64 z] 47)
theorem Tb.hZ {b : Nat} {x y z : Int} {w : World} (h : Tb b x y z w) : b < w.heap.size := by
  rcases Nat.lt_or_ge b w.heap.size with h' | h'
  · exact h'
  · have := h.row
    rw [Array.getElem?_eq_none h'] at this
    cases this
theorem Tb.c0 {b : Nat} {x y z : Int} {w : World} (h : Tb b x y z w) : w.cell? ⟨b, 0, none⟩ = some (.int .i64 x) := cell_of_row _ _ _ _ _ _ h.row
theorem Tb.c1 {b : Nat} {x y z : Int} {w : World} (h : Tb b x y z w) : w.cell? ⟨b, 1, none⟩ = some (.int .i64 y) := cell_of_row _ _ _ _ _ _ h.row
theorem Tb.c2 {b : Nat} {x y z : Int} {w : World} (h : Tb b x y z w) : w.cell? ⟨b, 2, none⟩ = some (.int .i64 z) := cell_of_row _ _ _ _ _ _ h.row
theorem Tb.next {b : Nat} {x y z : Int} {a c : World} (h : Tb b x y z a) (hb : Below a.heap.size a c) : Tb b x y z c := ⟨(hb.block b h.hZ).trans h.row⟩
theorem Tb.new (w : World) (x y z : Int) : Tb w.heap.size x y z (w.alloc (.cells #[.int .i64 x, .int .i64 y, .int .i64 z] 47)) := ⟨heap_alloc_new w _⟩
theorem quiet_load_int {b o : Nat} {x : Int} {q : Oper} {a : Act} {C : World → Prop} {K : Act → Prop} (i : Nat) (h : q.op = .load 3 (.tmp i)) (ha : a.eval (.tmp i) = .pointer (some ⟨b, o, none⟩))
    (hC : ∀ w, C w → w.cell? ⟨b, o, none⟩ = some (.int .i64 x)) (hk : K (a.put q.dst (.int .i64 x))) : q.quiet Try.prog a C K := by
  refine ⟨_, fun w' h' => ?_, hk⟩
  have d0 := hC w' h'
  obtain ⟨dst, op, type, pos, after, guard⟩ := q
  dsimp only at h
  subst h
  unfold Oper.quietAt execOp
  simp only [ha]
  go_simp
theorem quiet_load_verts {b o : Nat} {x : Value} {q : Oper} {a : Act} {C : World → Prop} {K : Act → Prop} (i : Nat) (h : q.op = .load 22 (.tmp i)) (ha : a.eval (.tmp i) = .pointer (some ⟨b, o, none⟩))
    (hC : ∀ w, C w → w.cell? ⟨b, o, none⟩ = some x) (hk : K (a.put q.dst x)) : q.quiet Try.prog a C K := by
  refine ⟨_, fun w' h' => ?_, hk⟩
  have d0 := hC w' h'
  obtain ⟨dst, op, type, pos, after, guard⟩ := q
  dsimp only at h
  subst h
  unfold Oper.quietAt execOp
  simp only [ha]
  go_simp
theorem quiet_load_at {b o : Nat} {x y z : Int} {q : Oper} {a : Act} {C : World → Prop} {K : Act → Prop} (i : Nat) (h : q.op = .load 36 (.tmp i)) (ha : a.eval (.tmp i) = .pointer (some ⟨b, o, none⟩))
    (hC : ∀ w, C w → w.cell? ⟨b, o, none⟩ = some (.int .i64 x) ∧ w.cell? ⟨b, o + 1, none⟩ = some (.int .i64 y) ∧ w.cell? ⟨b, o + 2, none⟩ = some (.int .i64 z))
    (hk : K (a.put q.dst (.agg #[.int .i64 x, .int .i64 y, .int .i64 z]))) : q.quiet Try.prog a C K := by
  refine ⟨_, fun w' h' => ?_, hk⟩
  obtain ⟨d0, d1, d2⟩ := hC w' h'
  obtain ⟨dst, op, type, pos, after, guard⟩ := q
  dsimp only at h
  subst h
  unfold Oper.quietAt execOp
  simp only [ha]
  go_simp

/-- What a round of the sum reads: the mesh's box, the triangle's box, the vertices. -/
structure Vc (wz : World) (B : Nat) (u v : Value) (P : Nat) (t : V) (b0 o0 n : Nat) (f : Nat → V) (w1 : World) : Prop where
  m : Mb B u v w1
  t : Tb P t.x t.y t.z w1
  s : Sl b0 o0 n f w1
  hB : Below wz.heap.size wz w1
theorem Vc.on {wz : World} {B : Nat} {u v : Value} {P : Nat} {t : V} {b0 o0 n : Nat} {f : Nat → V} {w' : World} {fn : FuncId} {args : Array Value} {r : Value} (h' : Vc wz B u v P t b0 o0 n f w')
    (h : Calls Try.prog fn args w' fun e w'' => e = .returned r ∧ Below w'.heap.size w' w'') : Calls Try.prog fn args w' fun e w'' => e = .returned r ∧ Vc wz B u v P t b0 o0 n f w'' :=
  h.mono fun _ _ ⟨he, hb⟩ => ⟨he, h'.m.next hb, h'.t.next hb, h'.s.next hb, below_next h'.hB hb⟩

set_option maxRecDepth 100000 in
set_option maxHeartbeats 2000000 in
theorem vol_ok (a b : Option Addr) (n k cap cap' : Nat) (f g : Nat → V) (w : World) (SA : Sx a n f w) (SB : Sx b k g w) (hk : k ≤ 400) (hp : pcheck n k f g = 0) (ht : AllT n k g) :
    Calls Try.prog 12 #[.agg #[.slice a n cap, .slice b k cap']] w fun e w' => e = .returned (.int .i64 (vol f g k)) ∧ Below w.heap.size w w' := by
  have HT := Lib.hid ht
  clear ht
  go_enter Try.func12, Try.ntmps12
  go_wp2_with fail
  refine (check_aux a b n k cap cap' f g _ (SA.next (below_alloc _ _)) (SB.next (below_alloc _ _)) 0 hp.symm).mono ?_
  rintro e w1 ⟨rfl, hb1⟩
  have M := (Mb.new w (.slice a n cap) (.slice b k cap')).next hb1
  have HB := below_next (below_alloc w (.cells #[.slice a n cap, .slice b k cap'] 25)) hb1
  have SA1 := SA.next HB
  have SB1 := SB.next HB
  have m1 := M.c1
  clear hb1
  go_wp2_with fail
  clear m1
  go_loopw [3, 12] (fun sm i wk => ∃ j : Nat, j ≤ k ∧ i = .int .i64 j ∧ sm = .int .i64 (vol f g j) ∧ Below w1.heap.size w1 wk) (fun _ i _ => k - (intOf i).toNat)
  case atStart => exact ⟨0, by omega, rfl, rfl, Below.refl _ _⟩
  case round =>
    obtain ⟨j, hj, rfl, rfl, hW⟩ := hrel
    by_cases hlt : j < k
    · rcases SB1.next hW with h0 | ⟨b1, o1, rfl, S⟩
      · omega
      · obtain ⟨s0, s1, s2⟩ := S.hc j hlt
        have tri := HT.out j hlt
        unfold TriOk at tri
        rcases SA1.next hW with h0 | ⟨b0, o0, rfl, S'⟩
        · omega
        · obtain ⟨p, hp⟩ : ∃ p : Nat, (g j).x = p := ⟨(g j).x.toNat, by omega⟩
          obtain ⟨q, hq⟩ : ∃ q : Nat, (g j).y = q := ⟨(g j).y.toNat, by omega⟩
          obtain ⟨t, ht⟩ : ∃ t : Nat, (g j).z = t := ⟨(g j).z.toNat, by omega⟩
          have hp' : p < n := by omega
          have hq' : q < n := by omega
          have ht' : t < n := by omega
          have hw : wrap64 (vol f g j + pdet (f p) (f q) (f t)) = vol f g (j + 1) := by
            have v := vol_in f g (j + 1)
            have e : vol f g (j + 1) = vol f g j + pdet (f p) (f q) (f t) := by simp [vol, cor, hp, hq, ht]
            rw [← e]
            unfold wrap64
            omega
          rw [hp] at s0
          rw [hq] at s1
          rw [ht] at s2
          have HB' := below_alloc wr (.cells #[.int .i64 p, .int .i64 q, .int .i64 t] 47)
          have FC : Vc w1 w.heap.size (.slice (some ⟨b0, o0, none⟩) n cap) (.slice (some ⟨b1, o1, none⟩) k cap') wr.heap.size ⟨p, q, t⟩ b0 o0 n f (wr.alloc (.cells #[.int .i64 p, .int .i64 q, .int .i64 t] 47)) :=
            ⟨(M.next hW).next HB', Tb.new wr p q t, S'.next HB', below_next hW HB'⟩
          clear hp hq ht tri
          go_wp2_with fail
          refine wp_quiet_in (Vc w1 w.heap.size (.slice (some ⟨b0, o0, none⟩) n cap) (.slice (some ⟨b1, o1, none⟩) k cap') wr.heap.size ⟨p, q, t⟩ b0 o0 n f) (by kernel_rfl) (by kernel_rfl) ⟨⟨FC.m.row⟩, ⟨FC.t.row⟩, ⟨FC.s.hb, FC.s.hc⟩, FC.hB.drew⟩ ?_
          repeat (first
            | go_big_quiet_skip
            | (go_big_quiet_want
               first
                 | (refine quiet_load_verts 17 rfl rfl (fun _ h => (Vc.m h).c0) ?_; go_simp; go_big_quiet_on)
                 | (refine quiet_load_verts 23 rfl rfl (fun _ h => (Vc.m h).c0) ?_; go_simp; go_big_quiet_on)
                 | (refine quiet_load_verts 29 rfl rfl (fun _ h => (Vc.m h).c0) ?_; go_simp; go_big_quiet_on)
                 | (refine quiet_load_int 19 rfl rfl (fun _ h => (Vc.t h).c0) ?_; go_simp; go_big_quiet_on)
                 | (refine quiet_load_int 25 rfl rfl (fun _ h => (Vc.t h).c1) ?_; go_simp; go_big_quiet_on)
                 | (refine quiet_load_int 31 rfl rfl (fun _ h => (Vc.t h).c2) ?_; go_simp; go_big_quiet_on)
                 | (refine quiet_load_at 21 rfl rfl (fun _ h => (Vc.s h).hc p hp') ?_; go_simp; go_big_quiet_on)
                 | (refine quiet_load_at 27 rfl rfl (fun _ h => (Vc.s h).hc q hq') ?_; go_simp; go_big_quiet_on)
                 | (refine quiet_load_at 33 rfl rfl (fun _ h => (Vc.s h).hc t ht') ?_; go_simp; go_big_quiet_on)
                 | (go_big_quiet_op
                    first
                      | go_big_quiet_on
                      | (refine ⟨_, fun _ _ => rfl, ?_⟩; go_big_quiet_on)
                      | (apply Exists.intro
                         refine ⟨fun w' h' => ?_, ?_⟩
                         · first
                             | (go_at_call 30; with_reducible exact Vc.on h' (det_any (f p) (f q) (f t) _))
                         go_big_quiet_on)
                 )))
          refine wpQuiet_nil ?_
          intro w' h'
          go_wp2
          go_roundw
          case rel => exact ⟨j + 1, by omega, by go_num, by rw [hw], h'.hB⟩
          case measure => simp [intOf]; omega
    · obtain rfl : j = k := by omega
      go_wp2_with fail
      go_ret
      exact ⟨rfl, below_next HB hW⟩
theorem vol_bad (a b : Option Addr) (n k cap cap' : Nat) (f g : Nat → V) (w : World) (SA : Sx a n f w) (SB : Sx b k g w) (hp : pcheck n k f g ≠ 0) :
    Calls Try.prog 12 #[.agg #[.slice a n cap, .slice b k cap']] w fun e w' => e = .returned (.int .i64 0) ∧ Below w.heap.size w w' := by
  obtain ⟨r, hr, h0⟩ : ∃ r, r = pcheck n k f g ∧ (r != 0) = true := ⟨_, rfl, by simpa using hp⟩
  have HR := Lib.hid hr
  clear hp hr
  go_enter Try.func12, Try.ntmps12
  go_wp2_with fail
  have HB0 := below_alloc w (.cells #[.slice a n cap, .slice b k cap'] 25)
  refine (check_aux a b n k cap cap' f g _ (SA.next HB0) (SB.next HB0) r HR.out).mono ?_
  rintro e w1 ⟨rfl, hb1⟩
  go_wp2_with fail
  go_ret
  exact ⟨rfl, below_next HB0 hb1⟩
theorem pcheck_all {n k : Nat} {f g : Nat → V} (h : pcheck n k f g = 0) : n ≤ 4096 ∧ k ≤ 4096 ∧ AllV n f ∧ AllT n k g := by
  unfold pcheck at h
  split at h
  · cases h
  · split at h
    · split at h
      · exact ⟨by omega, by omega, by assumption, by assumption⟩
      · cases h
    · cases h
theorem vol_any (a b : Option Addr) (n k cap cap' : Nat) (f g : Nat → V) (w : World) (SA : Sx a n f w) (SB : Sx b k g w) (hk : k ≤ 400) (v : Int) (hv : pvol n k f g = v) :
    Calls Try.prog 12 #[.agg #[.slice a n cap, .slice b k cap']] w fun e w' => e = .returned (.int .i64 v) ∧ Below w.heap.size w w' := by
  subst hv
  by_cases h : pcheck n k f g = 0
  · rw [show pvol n k f g = vol f g k from if_pos h]
    exact vol_ok a b n k cap cap' f g w SA SB hk h (pcheck_all h).2.2.2
  · rw [show pvol n k f g = 0 from if_neg h]
    exact vol_bad a b n k cap cap' f g w SA SB h
end Go.Proofs.Ytcfglmamocdkeaa
