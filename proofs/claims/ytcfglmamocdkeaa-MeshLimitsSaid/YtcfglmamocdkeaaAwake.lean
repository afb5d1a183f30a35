/- The law's own examples: 'awake' returns true. -/
import Derived.Test.YtcfglmamocdkeaaNrm
import Derived.Test.YtcfglmamocdkeaaJoinR
import Derived.Test.YtcfglmamocdkeaaSame
namespace Go.Proofs.Ytcfglmamocdkeaa
open Go.ChangeShapes Go.WideShapes Go.ChangeAt Go.RowKit
set_option linter.unusedVariables false

theorem ex_check : pcheck 4 4 tf tg = 0 := by decide
theorem ex_bad : pcheck 4 4 tf bg = 1 := by decide
theorem ex_corn : pcorn 4 4 tf tg 3 = (⟨1, 0, 0⟩, ⟨0, 1, 0⟩, ⟨0, 0, 1⟩, true) := if_pos (by decide)
theorem ex_box : pbox 4 4 tf tg = (⟨0, 0, 0⟩, ⟨1, 1, 1⟩, true) := if_pos (by decide)
theorem ex_vol : pvol 4 4 tf tg = 1 := by
  rw [show pvol 4 4 tf tg = vol tf tg 4 from if_pos ex_check]
  simp only [vol]
  rw [pdet_all (by decide) (by decide) (by decide), pdet_all (by decide) (by decide) (by decide), pdet_all (by decide) (by decide) (by decide), pdet_all (by decide) (by decide) (by decide)]
  decide
theorem ex_norm : pnorm 4 4 tf tg 0 = ⟨0, 0, -1⟩ := by
  have h : pcorn 4 4 tf tg 0 = (⟨0, 0, 0⟩, ⟨0, 1, 0⟩, ⟨1, 0, 0⟩, true) := if_pos (by decide)
  unfold pnorm
  rw [h]
  show pcross (psub _ _) (psub _ _) = _
  rw [psub_yes (by decide) (by decide), psub_yes (by decide) (by decide), pcross_yes (by decide) (by decide)]
  rfl
theorem ex_same : psame 4 4 4 4 tf tg tf tg = true := by decide
theorem ex_differ : psame 4 4 4 4 tf tg tf bg = false := by decide
theorem R4.set11 {X : Nat} {w : World} (h : R4 X 47 tg w) : R4 X 47 bg (w.setCell ⟨X, 11, none⟩ (.int .i64 4)) := ⟨by
  have := h.row
  simp only [World.setCell, Array.getElem?_modify, this, if_true, Option.map_some]
  rfl⟩
theorem R4.other {X : Nat} {e : TypeId} {f : Nat → V} {w : World} (h : R4 X e f w) (p : Addr) (x : Value) (hne : X ≠ p.block) : R4 X e f (w.setCell p x) := ⟨(Below.heap_setCell w p x X hne).trans h.row⟩

/-- What stands in memory behind the first statements. -/
structure Aw (w : World) (X Y p1 p2 pu pv pw pr ps pj : Nat) (ja jb : Option Addr) (jc jd : Nat) (w' : World) : Prop where
  m : Mb p1 (.slice (some ⟨X, 0, none⟩) 4 4) (.slice (some ⟨X + 1, 0, none⟩) 4 4) w'
  n : Mb p2 (.slice (some ⟨Y, 0, none⟩) 4 4) (.slice (some ⟨Y + 1, 0, none⟩) 4 4) w'
  a : R4 X 36 tf w'
  b : R4 (X + 1) 47 tg w'
  c : R4 Y 36 tf w'
  d : R4 (Y + 1) 47 bg w'
  u : At pu 1 0 0 w'
  v : At pv 0 1 0 w'
  z : At pw 0 0 1 w'
  r : At pr 0 0 0 w'
  s : At ps 1 1 1 w'
  j : Mb pj (.slice ja 8 jc) (.slice jb 8 jd) w'
  t : Sx jb 8 (cat 4 tg fun i => shf 4 (tg i)) w'
  hB : Below w.heap.size w w'
theorem Aw.next {w : World} {X Y p1 p2 pu pv pw pr ps pj : Nat} {ja jb : Option Addr} {jc jd : Nat} {w' w'' : World} (h : Aw w X Y p1 p2 pu pv pw pr ps pj ja jb jc jd w') (hb : Below w'.heap.size w' w'') : Aw w X Y p1 p2 pu pv pw pr ps pj ja jb jc jd w'' :=
  ⟨h.m.next hb, h.n.next hb, h.a.next hb, h.b.next hb, h.c.next hb, h.d.next hb, h.u.next hb, h.v.next hb, h.z.next hb, h.r.next hb, h.s.next hb, h.j.next hb, h.t.next hb, below_next h.hB hb⟩
theorem check_is {a b : Option Addr} {n k cap cap' : Nat} {f g : Nat → V} {w : World} (SA : Sx a n f w) (SB : Sx b k g w) {r : Int} (hr : pcheck n k f g = r) :
    Calls Try.prog 17 #[.agg #[.slice a n cap, .slice b k cap']] w fun e w' => e = .returned (.int .i64 r) ∧ Below w.heap.size w w' := check_aux a b n k cap cap' f g w SA SB r hr.symm
theorem same_is {a b a' b' : Option Addr} {n k n' k' c1 c2 c3 c4 : Nat} {f g f' g' : Nat → V} {w : World} (SA : Sx a n f w) (SB : Sx b k g w) (SA' : Sx a' n' f' w) (SB' : Sx b' k' g' w) (hN : n ≤ 100000) (hK : k ≤ 100000) {r : Bool} (hr : psame n k n' k' f g f' g' = r) :
    Calls Try.prog 18 #[.agg #[.slice a n c1, .slice b k c2], .agg #[.slice a' n' c3, .slice b' k' c4]] w fun e w' => e = .returned (.bool r) ∧ Below w.heap.size w w' := same_aux a b a' b' n k n' k' c1 c2 c3 c4 f g f' g' w SA SB SA' SB' hN hK r hr.symm

set_option maxRecDepth 100000 in
set_option maxHeartbeats 4000000 in
theorem awake_any (w : World) : Calls Try.prog 11 #[] w fun e w' => e = .returned (.bool true) ∧ Below w.heap.size w w' := by
  go_enter Try.func11, Try.ntmps11
  go_wp2_with fail
  refine (tetra_any _).mono ?_
  rintro e w1 ⟨X, hX, rfl, A1, B1, hb1⟩
  have m1 := below_alloc w1 (.cells #[.slice (some ⟨X, 0, none⟩) 4 4, .slice (some ⟨X + 1, 0, none⟩) 4 4] 25)
  have M1 := Mb.new w1 (.slice (some ⟨X, 0, none⟩) 4 4) (.slice (some ⟨X + 1, 0, none⟩) 4 4)
  have A2 := A1.next m1
  have B2 := B1.next m1
  have H2 := below_next hb1 m1
  go_wp2_with fail
  generalize w1.alloc (.cells #[.slice (some ⟨X, 0, none⟩) 4 4, .slice (some ⟨X + 1, 0, none⟩) 4 4] 25) = w2 at M1 A2 B2 H2 ⊢
  generalize w1.heap.size = p1 at M1 ⊢
  clear A1 B1 hb1 m1
  refine (tetra_any _).mono ?_
  rintro e w3 ⟨Y, hY, rfl, C3, D3, hb3⟩
  have M3 := M1.next hb3
  have A3 := A2.next hb3
  have B3 := B2.next hb3
  have H3 := below_next H2 hb3
  have hMY : p1 < Y + 1 := Nat.lt_succ_of_lt (Nat.lt_of_lt_of_le M1.hZ hY)
  have hAY : X < Y + 1 := Nat.lt_succ_of_lt (Nat.lt_of_lt_of_le (lt_of_row A2.row) hY)
  have hBY : X + 1 < Y + 1 := Nat.lt_succ_of_lt (Nat.lt_of_lt_of_le (lt_of_row B2.row) hY)
  have hwY : w.heap.size ≤ Y + 1 := by omega
  have hY3 : Y + 1 < w3.heap.size := lt_of_row D3.row
  clear hb3 M1 A2 B2 H2
  have D3' := D3.next (below_alloc w3 (.cells #[.slice (some ⟨Y, 0, none⟩) 4 4, .slice (some ⟨Y + 1, 0, none⟩) 4 4] 25))
  have n1 := (Mb.new w3 (.slice (some ⟨Y, 0, none⟩) 4 4) (.slice (some ⟨Y + 1, 0, none⟩) 4 4)).c1
  have f4 : (w3.alloc (.cells #[.slice (some ⟨Y, 0, none⟩) 4 4, .slice (some ⟨Y + 1, 0, none⟩) 4 4] 25)).frozen? ⟨Y + 1, 11, none⟩ = false := by simp [World.frozen?, D3'.row]
  have d5 : (w3.alloc (.cells #[.slice (some ⟨Y, 0, none⟩) 4 4, .slice (some ⟨Y + 1, 0, none⟩) 4 4] 25)).cell? ⟨Y + 1, 11, none⟩ = some (.int .i64 3) := (D3'.sl.hc 3 (by decide)).2.2
  have f4' : w3.frozen? ⟨Y + 1, 11, none⟩ = false := by simp [World.frozen?, D3.row]
  have d5' : w3.cell? ⟨Y + 1, 11, none⟩ = some (.int .i64 3) := (D3.sl.hc 3 (by decide)).2.2
  have M4 := M3.other ⟨Y + 1, 11, none⟩ (.int .i64 4) (Nat.ne_of_lt hMY)
  have A4 := A3.other ⟨Y + 1, 11, none⟩ (.int .i64 4) (Nat.ne_of_lt hAY)
  have B4 := B3.other ⟨Y + 1, 11, none⟩ (.int .i64 4) (Nat.ne_of_lt hBY)
  have C4 := C3.other ⟨Y + 1, 11, none⟩ (.int .i64 4) (Nat.ne_of_lt (Nat.lt_succ_self Y))
  have D4 := D3.set11
  have H4 := H3.setCell (p := ⟨Y + 1, 11, none⟩) hwY (.int .i64 4)
  have m3 := below_alloc (w3.setCell ⟨Y + 1, 11, none⟩ (.int .i64 4)) (.cells #[.slice (some ⟨Y, 0, none⟩) 4 4, .slice (some ⟨Y + 1, 0, none⟩) 4 4] 25)
  have N5 := Mb.new (w3.setCell ⟨Y + 1, 11, none⟩ (.int .i64 4)) (.slice (some ⟨Y, 0, none⟩) 4 4) (.slice (some ⟨Y + 1, 0, none⟩) 4 4)
  have M5 := M4.next m3
  have A5 := A4.next m3
  have B5 := B4.next m3
  have C5 := C4.next m3
  have D5 := D4.next m3
  have H5 := below_next H4 m3
  rw [World.size_setCell] at N5
  have m0 := M5.c0
  have m1 := M5.c1
  go_wp2_with fail
  clear m0 m1 n1 d5 f4 d5' f4' M4 A4 B4 C4 D4 H4 hMY hAY hBY m3 D3' D3 C3 A3 B3 M3 H3
  generalize (w3.setCell ⟨Y + 1, 11, none⟩ (.int .i64 4)).alloc (.cells #[.slice (some ⟨Y, 0, none⟩) 4 4, .slice (some ⟨Y + 1, 0, none⟩) 4 4] 25) = w5 at M5 N5 A5 B5 C5 D5 H5 ⊢
  generalize w3.heap.size = p2 at N5 ⊢
  refine (corn_any _ _ 4 4 _ _ tf tg _ A5.sx B5.sx 3 _ _ _ _ ex_corn).mono ?_
  rintro e w6 ⟨rfl, hb6⟩
  have x1 := below_alloc w6 (.cells #[.int .i64 1, .int .i64 0, .int .i64 0] 36)
  have x2 := below_alloc (w6.alloc (.cells #[.int .i64 1, .int .i64 0, .int .i64 0] 36)) (.cells #[.int .i64 0, .int .i64 1, .int .i64 0] 36)
  have x3 := below_alloc ((w6.alloc (.cells #[.int .i64 1, .int .i64 0, .int .i64 0] 36)).alloc (.cells #[.int .i64 0, .int .i64 1, .int .i64 0] 36)) (.cells #[.int .i64 0, .int .i64 0, .int .i64 1] 36)
  have U := ((At.new w6 1 0 0).next x2).next x3
  have V := (At.newAt (b := w6.heap.size + 1) (w6.alloc (.cells #[.int .i64 1, .int .i64 0, .int .i64 0] 36)) 0 1 0 (by simp)).next x3
  have W := At.newAt (b := w6.heap.size + 1 + 1) ((w6.alloc (.cells #[.int .i64 1, .int .i64 0, .int .i64 0] 36)).alloc (.cells #[.int .i64 0, .int .i64 1, .int .i64 0] 36)) 0 0 1 (by simp)
  have K6 := below_next (below_next (below_next hb6 x1) x2) x3
  have M7 := M5.next K6
  have N7 := N5.next K6
  have A7 := A5.next K6
  have B7 := B5.next K6
  have C7 := C5.next K6
  have D7 := D5.next K6
  have H7 := below_next H5 K6
  have m0 := M7.c0
  have m1 := M7.c1
  go_wp2_with fail
  clear m0 m1 M5 N5 A5 B5 C5 D5 H5 K6 x1 x2 x3 hb6
  generalize ((w6.alloc (.cells #[.int .i64 1, .int .i64 0, .int .i64 0] 36)).alloc (.cells #[.int .i64 0, .int .i64 1, .int .i64 0] 36)).alloc (.cells #[.int .i64 0, .int .i64 0, .int .i64 1] 36) = w7 at U V W M7 N7 A7 B7 C7 D7 H7 ⊢
  generalize w6.heap.size + 1 + 1 = pw at W ⊢
  generalize w6.heap.size + 1 = pv at V ⊢
  generalize w6.heap.size = pu at U ⊢
  refine (box_any _ _ 4 4 _ _ tf tg _ A7.sx B7.sx _ _ _ ex_box).mono ?_
  rintro e w8 ⟨rfl, hb8⟩
  obtain ⟨x1, R, S⟩ := two_boxes w8 0 0 0 1 1 1
  have K8 := below_next hb8 x1
  have M9 := M7.next K8
  have N9 := N7.next K8
  have A9 := A7.next K8
  have B9 := B7.next K8
  have C9 := C7.next K8
  have D9 := D7.next K8
  have U9 := U.next K8
  have V9 := V.next K8
  have W9 := W.next K8
  have H9 := below_next H7 K8
  have m0 := M9.c0
  have m1 := M9.c1
  go_wp2_with fail
  clear m0 m1 M7 N7 A7 B7 C7 D7 H7 K8 x1 hb8 U V W
  generalize (w8.alloc _).alloc _ = w9 at R S M9 N9 A9 B9 C9 D9 H9 U9 V9 W9 ⊢
  generalize w8.heap.size + 1 = ps at S ⊢
  generalize w8.heap.size = pr at R ⊢
  refine (join_ok _ _ _ _ 4 4 4 4 _ _ _ _ tf tg tf tg _ A9.sx B9.sx A9.sx B9.sx ex_check ex_check (by decide) (by decide) (by decide)).mono ?_
  rintro e wa ⟨ja, jb, jc, jd, rfl, JA, JB, hba⟩
  have x1 := below_alloc wa (.cells #[.slice ja 8 jc, .slice jb 8 jd] 25)
  have J := Mb.new wa (.slice ja 8 jc) (.slice jb 8 jd)
  have JB2 := JB.next x1
  have Ka := below_next hba x1
  have Mb1 := M9.next Ka
  have Nb := N9.next Ka
  have Ab := A9.next Ka
  have Bb := B9.next Ka
  have Cb := C9.next Ka
  have Db := D9.next Ka
  have Ub := U9.next Ka
  have Vb := V9.next Ka
  have Wb := W9.next Ka
  have Rb := R.next Ka
  have Sb := S.next Ka
  have Hb := below_next H9 Ka
  have m0 := Mb1.c0
  have m1 := Mb1.c1
  go_wp2_with fail
  have F0 : Aw w X Y p1 p2 pu pv pw pr ps wa.heap.size ja jb jc jd (wa.alloc (.cells #[.slice ja 8 jc, .slice jb 8 jd] 25)) := ⟨Mb1, Nb, Ab, Bb, Cb, Db, Ub, Vb, Wb, Rb, Sb, J, JB2, Hb⟩
  clear m0 m1 Mb1 Nb Ab Bb Cb Db Ub Vb Wb Rb Sb J JB2 Hb M9 N9 A9 B9 C9 D9 H9 U9 V9 W9 R S JA JB hba x1 Ka
  generalize wa.alloc (.cells #[.slice ja 8 jc, .slice jb 8 jd] 25) = wb at F0 ⊢
  generalize wa.heap.size = pj at F0 ⊢
  refine (check_is F0.a.sx F0.b.sx ex_check).mono ?_
  rintro e wc ⟨rfl, hb⟩
  have F1 := F0.next hb
  clear F0 hb
  have m0 := F1.n.c0
  have m1 := F1.n.c1
  go_wp2_with fail
  clear m0 m1
  refine (check_is F1.c.sx F1.d.sx ex_bad).mono ?_
  rintro e wd ⟨rfl, hb⟩
  have F2 := F1.next hb
  clear F1 hb
  have m0 := F2.m.c0
  have m1 := F2.m.c1
  go_wp2_with fail
  clear m0 m1
  refine (vol_any _ _ 4 4 _ _ tf tg _ F2.a.sx F2.b.sx (by decide) _ ex_vol).mono ?_
  rintro e we ⟨rfl, hb⟩
  have F3 := F2.next hb
  clear F2 hb
  have m0 := F3.m.c0
  have m1 := F3.m.c1
  go_wp2_with fail
  clear m0 m1
  refine (norm_any _ _ 4 4 _ _ tf tg _ F3.a.sx F3.b.sx 0 _ ex_norm).mono ?_
  rintro e wz ⟨rfl, hb⟩
  have F := F3.next hb
  clear F3 hb
  go_wp2_with fail
  rcases F.t with h0 | ⟨jt, jo, rfl, S⟩
  · cases h0
  have MK : Hid (∀ w', Below wz.heap.size wz w' → Below wz.heap.size wz w' ∧ w'.cell? ⟨p1, 0, none⟩ = some (.slice (some ⟨X, 0, none⟩) 4 4) ∧ w'.cell? ⟨p1, 1, none⟩ = some (.slice (some ⟨X + 1, 0, none⟩) 4 4)
      ∧ w'.cell? ⟨p2, 0, none⟩ = some (.slice (some ⟨Y, 0, none⟩) 4 4) ∧ w'.cell? ⟨p2, 1, none⟩ = some (.slice (some ⟨Y + 1, 0, none⟩) 4 4)
      ∧ w'.cell? ⟨pu, 0, none⟩ = some (.int .i64 1) ∧ w'.cell? ⟨pu, 1, none⟩ = some (.int .i64 0) ∧ w'.cell? ⟨pu, 2, none⟩ = some (.int .i64 0)
      ∧ w'.cell? ⟨pv, 0, none⟩ = some (.int .i64 0) ∧ w'.cell? ⟨pv, 1, none⟩ = some (.int .i64 1) ∧ w'.cell? ⟨pv, 2, none⟩ = some (.int .i64 0)
      ∧ w'.cell? ⟨pw, 0, none⟩ = some (.int .i64 0) ∧ w'.cell? ⟨pw, 1, none⟩ = some (.int .i64 0) ∧ w'.cell? ⟨pw, 2, none⟩ = some (.int .i64 1)
      ∧ w'.cell? ⟨pr, 0, none⟩ = some (.int .i64 0) ∧ w'.cell? ⟨pr, 1, none⟩ = some (.int .i64 0) ∧ w'.cell? ⟨pr, 2, none⟩ = some (.int .i64 0)
      ∧ w'.cell? ⟨ps, 0, none⟩ = some (.int .i64 1) ∧ w'.cell? ⟨ps, 1, none⟩ = some (.int .i64 1) ∧ w'.cell? ⟨ps, 2, none⟩ = some (.int .i64 1)
      ∧ w'.cell? ⟨pj, 0, none⟩ = some (.slice ja 8 jc) ∧ w'.cell? ⟨pj, 1, none⟩ = some (.slice (some ⟨jt, jo, none⟩) 8 jd)
      ∧ w'.cell? ⟨jt, jo + 12, none⟩ = some (.int .i64 4) ∧ w'.cell? ⟨jt, jo + 12 + 1, none⟩ = some (.int .i64 6) ∧ w'.cell? ⟨jt, jo + 12 + 2, none⟩ = some (.int .i64 5)) := fun w' h => by
    have G := F.next h
    have t4 := (S.next h).hc 4 (by decide)
    exact ⟨h, G.m.c0, G.m.c1, G.n.c0, G.n.c1, G.u.c0, G.u.c1, G.u.c2, G.v.c0, G.v.c1, G.v.c2, G.z.c0, G.z.c1, G.z.c2, G.r.c0, G.r.c1, G.r.c2, G.s.c0, G.s.c1, G.s.c2, G.j.c0, G.j.c1, t4.1, t4.2.1, t4.2.2⟩
  go_region_held3 (fun w' => Below wz.heap.size wz w' ∧ w'.cell? ⟨p1, 0, none⟩ = some (.slice (some ⟨X, 0, none⟩) 4 4) ∧ w'.cell? ⟨p1, 1, none⟩ = some (.slice (some ⟨X + 1, 0, none⟩) 4 4)
      ∧ w'.cell? ⟨p2, 0, none⟩ = some (.slice (some ⟨Y, 0, none⟩) 4 4) ∧ w'.cell? ⟨p2, 1, none⟩ = some (.slice (some ⟨Y + 1, 0, none⟩) 4 4)
      ∧ w'.cell? ⟨pu, 0, none⟩ = some (.int .i64 1) ∧ w'.cell? ⟨pu, 1, none⟩ = some (.int .i64 0) ∧ w'.cell? ⟨pu, 2, none⟩ = some (.int .i64 0)
      ∧ w'.cell? ⟨pv, 0, none⟩ = some (.int .i64 0) ∧ w'.cell? ⟨pv, 1, none⟩ = some (.int .i64 1) ∧ w'.cell? ⟨pv, 2, none⟩ = some (.int .i64 0)
      ∧ w'.cell? ⟨pw, 0, none⟩ = some (.int .i64 0) ∧ w'.cell? ⟨pw, 1, none⟩ = some (.int .i64 0) ∧ w'.cell? ⟨pw, 2, none⟩ = some (.int .i64 1)
      ∧ w'.cell? ⟨pr, 0, none⟩ = some (.int .i64 0) ∧ w'.cell? ⟨pr, 1, none⟩ = some (.int .i64 0) ∧ w'.cell? ⟨pr, 2, none⟩ = some (.int .i64 0)
      ∧ w'.cell? ⟨ps, 0, none⟩ = some (.int .i64 1) ∧ w'.cell? ⟨ps, 1, none⟩ = some (.int .i64 1) ∧ w'.cell? ⟨ps, 2, none⟩ = some (.int .i64 1)
      ∧ w'.cell? ⟨pj, 0, none⟩ = some (.slice ja 8 jc) ∧ w'.cell? ⟨pj, 1, none⟩ = some (.slice (some ⟨jt, jo, none⟩) 8 jd)
      ∧ w'.cell? ⟨jt, jo + 12, none⟩ = some (.int .i64 4) ∧ w'.cell? ⟨jt, jo + 12 + 1, none⟩ = some (.int .i64 6) ∧ w'.cell? ⟨jt, jo + 12 + 2, none⟩ = some (.int .i64 5))
    (first | exact MK.out _ (Below.refl _ _).drew | exact MK.out _ (below_next (by go_split_ands; assumption) hb))
    (first
      | (go_at_call 29; refine (tetra_any _).mono ?_; rintro e wt ⟨Q, hQ, rfl, T1, T2, hb⟩)
      | (go_at_call 18; with_reducible refine (same_is (F.next (by go_split_ands; assumption)).a.sx (F.next (by go_split_ands; assumption)).b.sx T1.sx T2.sx (by decide) (by decide) ex_same).mono ?_; rintro e wt ⟨rfl, hb⟩)
      | (go_at_call 18; with_reducible refine (same_is (F.next (by go_split_ands; assumption)).a.sx (F.next (by go_split_ands; assumption)).b.sx (F.next (by go_split_ands; assumption)).c.sx (F.next (by go_split_ands; assumption)).d.sx (by decide) (by decide) ex_differ).mono ?_; rintro e wt ⟨rfl, hb⟩))
  have HZ : Below w.heap.size w _ := below_next F.hB (by go_split_ands; assumption)
  clear MK F S
  go_wp2_with fail
  go_ret
  exact ⟨rfl, HZ⟩
end Go.Proofs.Ytcfglmamocdkeaa
