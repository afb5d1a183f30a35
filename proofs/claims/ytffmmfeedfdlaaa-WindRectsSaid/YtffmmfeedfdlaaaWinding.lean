/- Winding, a caller of the iterator. -/
import Derived.Test.YtffmmfeedfdlaaaEdges
namespace Go.Proofs.Ytffmmfeedfdlaaa
open Go.ChangeShapes Go.WideShapes Go.ChangeAt Go.RowKit Go.Shelf
set_option linter.unusedVariables false
attribute [local go_sem] Oper.semAt_some

theorem Ll.kcb {a : Option Addr} {N : Nat} {L : Nat → Pg} {w w' : World} (h : Ll a N L w) (k : Below w.heap.size w w') : Kc w w' := .below k
theorem edges_stops (n : Nat) (hn : 1 ≤ n) (a : Option Addr) (N c : Nat) (L : Nat → Pg) (w0 w : World) (S : Ll a N L w0) (hN : N ≤ 1000) (hT : tot L N ≤ 4000) (Bs Bn : Nat) (hBn : w0.heap.size ≤ Bn) (hBW : Bn < w.heap.size)
    (hK : Kc w0 w) (hBs : w.cell? ⟨Bs, 0, none⟩ = some (.slice a N c)) :
    SeqStopsK Fence.wide n Try.prog 25 #[.pointer (some ⟨Bs, 0, none⟩)] enc (Kb Bn) (fun ys => ys = le L N) (fun _ => True) (tot L N) w := fun l J Jx W hW hJ _ hY h0 =>
  edges1_in n hn l Bs Bn a N c L w0 S hN hT hBn J Jx W (Nat.lt_of_lt_of_le hBW hW.size) (hK.trans (.below hW)) ((hW.cell (p := ⟨Bs, 0, none⟩) (lt_of_cell hBs)).trans hBs) hJ hY h0

/-- A segment in a box. -/
structure Sg (b : Nat) (e : P × P) (w : World) : Prop where
  row : w.heap[b]? = some (.cells #[.int .i64 e.1.x, .int .i64 e.1.y, .int .i64 e.2.x, .int .i64 e.2.y] 46)
theorem Sg.next {b : Nat} {e : P × P} {w w' : World} (h : Sg b e w) (hb : Below w.heap.size w w') : Sg b e w' := ⟨(hb.block b (lt_of_row h.row)).trans h.row⟩
theorem Sg.new (w : World) (e : P × P) : Sg w.heap.size e (w.alloc (.cells #[.int .i64 e.1.x, .int .i64 e.1.y, .int .i64 e.2.x, .int .i64 e.2.y] 46)) := ⟨heap_alloc_new w _⟩
theorem sg_own {β : Type} (b : Nat) (e : P × P) : Own (fun (_ : β) W => Sg b e W) := fun s X Y row hs hg hrow =>
  ⟨(hg.block b (lt_of_row hs.row) (fun e' => by obtain ⟨o, ho, hc⟩ := hrow b e'.symm; rw [hs.row] at ho; cases ho; cases hc)).trans hs.row⟩
theorem at_own {β : Type} (b : Nat) (x y : Int) : Own (fun (_ : β) W => At b x y W) := fun s X Y row hs hg hrow =>
  ⟨(hg.block b (lt_of_row hs.row) (fun e' => by obtain ⟨o, ho, hc⟩ := hrow b e'.symm; rw [hs.row] at ho; cases ho; cases hc)).trans hs.row⟩
theorem Sg.set {b : Nat} {e : P × P} {w : World} (h : Sg b e w) {B : Nat} (hne : b ≠ B) (v : Value) : Sg b e (w.setCell ⟨B, 0, none⟩ v) :=
  ⟨((grownBy_setCell' w B v).block b (lt_of_row h.row) (fun e => hne (by cases e; rfl))).trans h.row⟩
theorem At.set {b : Nat} {x y : Int} {w : World} (h : At b x y w) {B : Nat} (hne : b ≠ B) (v : Value) : At b x y (w.setCell ⟨B, 0, none⟩ v) :=
  ⟨((grownBy_setCell' w B v).block b (lt_of_row h.row) (fun e => hne (by cases e; rfl))).trans h.row⟩
theorem Sg.c0 {b : Nat} {e : P × P} {w : World} (h : Sg b e w) : w.cell? ⟨b, 0, none⟩ = some (.int .i64 e.1.x) := cell_of_row _ _ _ _ _ _ h.row
theorem Sg.c1 {b : Nat} {e : P × P} {w : World} (h : Sg b e w) : w.cell? ⟨b, 1, none⟩ = some (.int .i64 e.1.y) := cell_of_row _ _ _ _ _ _ h.row
theorem Sg.c2 {b : Nat} {e : P × P} {w : World} (h : Sg b e w) : w.cell? ⟨b, 2, none⟩ = some (.int .i64 e.2.x) := cell_of_row _ _ _ _ _ _ h.row
theorem Sg.c3 {b : Nat} {e : P × P} {w : World} (h : Sg b e w) : w.cell? ⟨b, 3, none⟩ = some (.int .i64 e.2.y) := cell_of_row _ _ _ _ _ _ h.row
theorem boxed_next {B : Nat} {t : TypeId} {v : Value} {w w' : World} (h : Boxed w B t v) (hb : Below w.heap.size w w') : Boxed w' B t v := (hb.block B h.lt).trans h
theorem Kb.set {Bn : Nat} (W : World) (v : Value) : Kb Bn W (W.setCell ⟨Bn, 0, none⟩ v) :=
  ⟨(grownBy_setCell' W Bn v).size, fun p u hp hu => (World.cell?_of_block ((grownBy_setCell' W Bn v).block p.block (lt_of_cell hu) (fun e => hp (by cases e; rfl)))).trans hu⟩
theorem keeps_below {B : Nat} {W W' : World} (h : Below W.heap.size W W') : KeepsFrom B W W' := ⟨h.size, fun k o _ hk _ => (h.block k (lt_of_row hk)).trans hk⟩

theorem cr_is (a b p : P) : cr a b p = if (a.y ≤ p.y ∧ p.y < b.y) ∧ 0 < pturn a b p then 1 else if (b.y ≤ p.y ∧ p.y < a.y) ∧ pturn a b p < 0 then -1 else 0 := by
  by_cases h : a.Ok ∧ b.Ok
  · simp only [cr, if_pos h]
  · have : pturn a b p = 0 := by simp only [pturn, pcross_no (fun k => h ⟨k.1, k.2.1⟩)]; rfl
    simp only [cr, if_neg h, this]
    simp

theorem fin0 {w W W' : World} {B b T5 : Nat} {p : P} {pre : List (P × P)} {x : P × P} (h : Boxed W T5 3 (.int .i64 (ws p pre))) (hA : At b p.x p.y W) (hB : Below w.heap.size w W) (HB : Below W.heap.size W W') (hc : cr x.1 x.2 p = 0) :
    KeepsFrom B W W' ∧ Kb T5 W W' ∧ (Boxed W' T5 3 (.int .i64 (ws p (pre ++ [x]))) ∧ At b p.x p.y W') ∧ Below w.heap.size w W' :=
  ⟨keeps_below HB, Kb.below HB, ⟨by rw [ws_snoc, hc, Int.add_zero]; exact boxed_next h HB, hA.next HB⟩, below_next hB HB⟩
theorem fin1 {w W W' : World} {B b T5 : Nat} {p : P} {pre : List (P × P)} {x : P × P} (h : Boxed W T5 3 (.int .i64 (ws p pre))) (hA : At b p.x p.y W) (hB : Below w.heap.size w W) (HB : Below W.heap.size W W') (u : Int) (hc : ws p pre + cr x.1 x.2 p = u) (hne : b ≠ T5) (hT : w.heap.size ≤ T5) :
    KeepsFrom B W (W'.setCell ⟨T5, 0, none⟩ (.int .i64 u)) ∧ Kb T5 W (W'.setCell ⟨T5, 0, none⟩ (.int .i64 u)) ∧ (Boxed (W'.setCell ⟨T5, 0, none⟩ (.int .i64 u)) T5 3 (.int .i64 (ws p (pre ++ [x]))) ∧ At b p.x p.y (W'.setCell ⟨T5, 0, none⟩ (.int .i64 u))) ∧ Below w.heap.size w (W'.setCell ⟨T5, 0, none⟩ (.int .i64 u)) :=
  ⟨(keeps_below HB).trans ((KeepsOthers.setCell _ _ _).from _), (Kb.below HB).trans (Kb.set _ _), ⟨by rw [ws_snoc, hc]; exact Boxed.set _ (boxed_next h HB), (hA.next HB).set hne _⟩, (below_next hB HB).setCell (p := ⟨T5, 0, none⟩) hT _⟩

set_option maxRecDepth 100000 in
set_option maxHeartbeats 4000000 in
theorem winding_ok (a : Option Addr) (N c : Nat) (L : Nat → Pg) (p : P) (w : World) (S : Ll a N L w) (hN : N ≤ 1000) (hT : tot L N ≤ 4000) (hp : p.Ok) :
    Calls Try.prog 10 #[.slice a N c, .agg #[.int .i64 p.x, .int .i64 p.y]] w fun e w' => e = .returned (.int .i64 (wl L p N)) ∧ Below w.heap.size w w' := by
  refine (callsIn_wide (n := 6)).1 ?_
  refine callsIn_of_wp_marks Try.func10 rfl trivial ?_ rfl
  simp only [Try.ntmps10, List.size_toArray, List.length_cons, List.length_nil, Nat.reduceAdd, Nat.reduceSub, Array.replicate_succ, Array.replicate_zero, List.push_toArray, List.append_toArray, List.nil_append, List.cons_append]
  gi_wp2_with fail
  (refine ⟨trivial, ?_⟩; gi_at_call 18; refine (callsIn_wide.2 (valid_is (decide_eq_true hp) _)).mono ?_; rintro e w2 ⟨rfl, h2⟩)
  have A0 := (At.new w p.x p.y).next h2
  have B0 := below_next (below_alloc _ _) h2
  clear h2
  gi_wp2_with fail
  (refine ⟨trivial, ?_⟩; gi_at_call 19; refine (edges_in _ _ _ _ _).mono ?_; rintro e w3 ⟨rfl, rfl⟩)
  gi_wp2_with fail
  have C1 := Boxed.new w2 3 (.int .i64 0)
  have HA := below_alloc w2 (.cells #[.int .i64 0] 3)
  have HB := below_alloc (w2.alloc (.cells #[.int .i64 0] 3)) (.cells #[.slice a N c] 22)
  have b4 := (Bx.new (w2.alloc (.cells #[.int .i64 0] 3)) (.slice a N c) 22).c0
  simp only [World.size_alloc] at b4
  have C2 := boxed_next C1 HB
  have A2 := (A0.next HA).next HB
  have B2 := below_next (below_next B0 HA) HB
  have z2 := B0.size
  have zz := A0.hZ
  have z5 : w2.heap.size < ((w2.alloc (.cells #[.int .i64 0] 3)).alloc (.cells #[.slice a N c] 22)).heap.size := C2.lt
  clear C1 HA HB A0 B0
  generalize (w2.alloc (.cells #[.int .i64 0] 3)).alloc (.cells #[.slice a N c] 22) = w4 at b4 C2 A2 B2 z5 ⊢
  generalize w2.heap.size = T5 at b4 C2 z2 zz z5 ⊢
  have z3 := A2.hZ
  refine wpIn_rangeFunc_ownH (α := P × P) rfl (by omega) (gf := 25) (lb := #[.pointer (some ⟨T5 + 1, 0, none⟩)]) rfl trivial (enters_of Try.func25 (by kernel_rfl) rfl)
    (edges_stops _ (by omega) a N c L w w4 S hN hT (T5 + 1) T5 z2 z5 (.below B2) b4) Kb.trans (fun W l o o' hl ho hc _ => Kb.put W l o o' ho hc) (Below.refl _ _) (fun _ => rfl)
    (fun pre W => (Boxed W T5 3 (.int .i64 (ws p pre)) ∧ At w.heap.size p.x p.y W) ∧ Below w.heap.size w W)
    (fun _ _ _ => False)
    (OwnFrom.and (OwnFrom.and (Own.from (boxed_own _ _ _) _) (Own.from (at_own _ _ _) _)) (ownFrom_below (Nat.le_refl _) (by omega)))
    (fun _ _ _ _ _ hs _ _ => hs)
    ⟨⟨C2, A2⟩, B2⟩
    (fun x a' W => ∃ Bx, T5 < Bx ∧ Sg Bx x W ∧ a' = { tmps := #[.slice a N c, .agg #[.int .i64 p.x, .int .i64 p.y], undef, .pointer (some ⟨w.heap.size, 0, none⟩), .int .i64 0, .pointer (some ⟨T5, 0, none⟩), .pointer (some ⟨Bx, 0, none⟩), .agg #[.int .i64 p.x, .int .i64 p.y], .bool true, .bool false, .slice a N c, .func (.func 25) #[] #[.pointer (some ⟨T5 + 1, 0, none⟩)], .agg #[.int .i64 x.1.x, .int .i64 x.1.y, .int .i64 x.2.x, .int .i64 x.2.y], undef, undef, undef, undef, undef, undef, undef, undef, undef, undef, undef, undef, undef, undef, undef, undef, undef, undef, undef, undef, undef, undef, undef, undef, undef, undef, undef, undef, undef, undef, undef, undef, undef, undef, undef, undef, undef, undef, undef, undef, undef, undef, undef, undef, undef, undef, undef, undef, undef, undef, undef, undef, undef], defers := [] })
    (fun x a' _ X Y row hs hg hr => by obtain ⟨Bx, h1, h2, h3⟩ := hs; exact ⟨Bx, h1, sg_own Bx x () X Y row h2 hg (fun r e => (hr r e).2), h3⟩)
    ?assign ?body ?done ?stop
  case assign =>
    rintro l pre x W K ⟨⟨bS1, bA1⟩, hB1⟩ hK
    dsimp only [enc]
    gi_wp2
    exact hK _ _ ((KeepsOthers.alloc _ _).from _) (Kb.below (below_alloc _ _)) ⟨⟨bS1.alloc _, bA1.next (below_alloc _ _)⟩, below_next hB1 (below_alloc _ _)⟩ ⟨W.heap.size, bS1.lt, Sg.new W x, rfl⟩
  case body =>
    rintro l pre x a' W hl ⟨r, hr⟩ ⟨⟨bS1, bA1⟩, hB1⟩ ⟨Bx, hBx, bX, rfl⟩ hlt
    have cS := bS1.cell
    have fS := bS1.frozen
    have k1 := ws_in p pre
    have w1 : IntKind.i64.wrap (ws p pre + 1) = ws p pre + 1 := IntWalk.i64_in _ (by omega)
    have w1' : IntKind.i64.wrap (ws p pre - 1) = ws p pre - 1 := IntWalk.i64_in _ (by omega)
    have p0 := bA1.c0
    have p1 := bA1.c1
    have x0 := bX.c0
    have x1 := bX.c1
    have x2 := bX.c2
    have x3 := bX.c3
    obtain ⟨r, hr⟩ : ∃ r, pturn x.1 x.2 p = r := ⟨_, rfl⟩
    have HC := cr_is x.1 x.2 p
    rw [hr] at HC
    replace HC := Lib.hid HC
    have nT : w.heap.size ≠ T5 := by omega
    by_cases a1 : x.1.y ≤ p.y
    · by_cases a2 : p.y < x.2.y
      · have A1 := Lib.hid a1
        have A2' := Lib.hid a2
        have a3 : ¬ x.2.y ≤ p.y := by omega
        gi_wp2_with fail
        (refine ⟨trivial, ?_⟩; gi_at_call 20; refine (CallsIn.inRound l (callsIn_wide.2 (turn_is x.1 x.2 p _ r hr))).mono ?_; rintro e W1 ⟨rfl, HB⟩)
        have cS1 := (boxed_next bS1 HB).cell
        have fS1 := (boxed_next bS1 HB).frozen
        have q0 := (bA1.next HB).c0
        have q1 := (bA1.next HB).c1
        have y0 := (bX.next HB).c0
        have y1 := (bX.next HB).c1
        have y2 := (bX.next HB).c2
        have y3 := (bX.next HB).c3
        by_cases a5 : 0 < r
        · have hv : ws p pre + cr x.1 x.2 p = ws p pre + 1 := by rw [HC.out, if_pos ⟨⟨A1.out, A2'.out⟩, a5⟩]
          have HV := Lib.hid hv
          clear hv
          gi_wp2_with fail
          repeat (refine ⟨by first | exact trivial | (intro _ h; cases h), ?_⟩; gi_wp2)
          exact fin1 bS1 bA1 hB1 HB _ HV.out nT z2
        · have hv : cr x.1 x.2 p = 0 := by rw [HC.out, if_neg (fun h => a5 h.2), if_neg (by omega)]
          have HV := Lib.hid hv
          clear hv
          gi_wp2_with fail
          repeat (refine ⟨by first | exact trivial | (intro _ h; cases h), ?_⟩; gi_wp2)
          exact fin0 bS1 bA1 hB1 HB HV.out
      · have a3 : x.2.y ≤ p.y := by omega
        have a4 : ¬ p.y < x.1.y := by omega
        have hv : cr x.1 x.2 p = 0 := by rw [HC.out, if_neg (by omega), if_neg (by omega)]
        have HV := Lib.hid hv
        clear hv
        gi_wp2_with fail
        repeat (refine ⟨by first | exact trivial | (intro _ h; cases h), ?_⟩; gi_wp2)
        exact fin0 bS1 bA1 hB1 (Below.refl _ _) HV.out
    · by_cases a2 : x.2.y ≤ p.y
      · have A1 := Lib.hid a1
        have A2' := Lib.hid a2
        have a3 : p.y < x.1.y := by omega
        gi_wp2_with fail
        refine ⟨trivial, ?_⟩
        gi_wp2_with fail
        (refine ⟨trivial, ?_⟩; gi_at_call 20; refine (CallsIn.inRound l (callsIn_wide.2 (turn_is x.1 x.2 p _ r hr))).mono ?_; rintro e W1 ⟨rfl, HB⟩)
        have cS1 := (boxed_next bS1 HB).cell
        have fS1 := (boxed_next bS1 HB).frozen
        have q0 := (bA1.next HB).c0
        have q1 := (bA1.next HB).c1
        have y0 := (bX.next HB).c0
        have y1 := (bX.next HB).c1
        have y2 := (bX.next HB).c2
        have y3 := (bX.next HB).c3
        by_cases a5 : r < 0
        · have hv : ws p pre + cr x.1 x.2 p = ws p pre - 1 := by rw [HC.out, if_neg (fun h => by have := A1.out; have := h.1.1; omega), if_pos ⟨⟨A2'.out, by have := A1.out; omega⟩, a5⟩]; omega
          have HV := Lib.hid hv
          clear hv
          gi_wp2_with fail
          repeat (refine ⟨by first | exact trivial | (intro _ h; cases h), ?_⟩; gi_wp2)
          exact fin1 bS1 bA1 hB1 HB _ HV.out nT z2
        · have hv : cr x.1 x.2 p = 0 := by rw [HC.out, if_neg (fun h => by have := A1.out; have := h.1.1; omega), if_neg (fun h => a5 h.2)]
          have HV := Lib.hid hv
          clear hv
          gi_wp2_with fail
          repeat (refine ⟨by first | exact trivial | (intro _ h; cases h), ?_⟩; gi_wp2)
          exact fin0 bS1 bA1 hB1 HB HV.out
      · have hv : cr x.1 x.2 p = 0 := by rw [HC.out, if_neg (fun h => a1 h.1.1), if_neg (fun h => a2 h.1.1)]
        have HV := Lib.hid hv
        clear hv
        gi_wp2_with fail
        repeat (refine ⟨by first | exact trivial | (intro _ h; cases h), ?_⟩; gi_wp2)
        exact fin0 bS1 bA1 hB1 (Below.refl _ _) HV.out
  case done =>
    rintro D zs W hD rfl ⟨⟨bS1, bA1⟩, hB1⟩ hK
    have cS := bS1.cell
    rw [ws_le] at cS
    gi_wp2
    refine ⟨by simp, .inl ⟨_, _, rfl, run_takeDeferred hK, ?_⟩⟩
    exact ⟨_, results_tmp rfl _ _ _, rfl, hB1.trans (belowK_b (w := w) (Nat.le_refl _) W D _ _ (by omega) hK rfl rfl)⟩
  case stop =>
    rintro D c pre W _ _ h _
    exact h.elim
set_option maxRecDepth 100000 in
theorem winding_no (a : Option Addr) (N c : Nat) (p : P) (w : World) (hp : ¬ p.Ok) :
    Calls Try.prog 10 #[.slice a N c, .agg #[.int .i64 p.x, .int .i64 p.y]] w fun e w' => e = .returned (.int .i64 0) ∧ Below w.heap.size w w' := by
  have HP := Lib.hid hp
  clear hp
  go_enter Try.func10, Try.ntmps10
  go_wp2_with fail
  refine (valid_is (decide_eq_false HP.out) _).mono ?_
  rintro e wz ⟨rfl, hb⟩
  go_wp2_with fail
  go_ret
  exact ⟨rfl, below_next (below_alloc _ _) hb⟩
theorem wind_is (a : Option Addr) (N c : Nat) (L : Nat → Pg) (p : P) (w : World) (S : Ll a N L w) (hN : N ≤ 1000) (hT : tot L N ≤ 4000) (v : Int) (hv : wind N L p = v) :
    Calls Try.prog 10 #[.slice a N c, .agg #[.int .i64 p.x, .int .i64 p.y]] w fun e w' => e = .returned (.int .i64 v) ∧ Below w.heap.size w w' := by
  by_cases hp : p.Ok
  · rw [show v = wl L p N by rw [← hv]; exact if_pos hp]
    exact winding_ok a N c L p w S hN hT hp
  · rw [show v = 0 by rw [← hv]; exact if_neg hp]
    exact winding_no a N c p w hp
theorem inside_is (a : Option Addr) (N c : Nat) (L : Nat → Pg) (p : P) (w : World) (S : Ll a N L w) (hN : N ≤ 1000) (hT : tot L N ≤ 4000) (v : Int) (hv : wind N L p = v) :
    Calls Try.prog 12 #[.slice a N c, .agg #[.int .i64 p.x, .int .i64 p.y]] w fun e w' => e = .returned (.bool (decide (0 < v))) ∧ Below w.heap.size w w' := by
  go_enter Try.func12, Try.ntmps12
  have HA := below_alloc w (.cells #[.int .i64 p.x, .int .i64 p.y] 24)
  go_wp2_with fail
  refine (wind_is a N c L p _ (S.next HA) hN hT v hv).mono ?_
  rintro e wz ⟨rfl, hb⟩
  go_wp2_with fail
  go_ret
  exact ⟨rfl, below_next HA hb⟩
end Go.Proofs.Ytffmmfeedfdlaaa
