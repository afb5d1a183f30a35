/- The tetrahedron of the chapter; the contracts of Corners. -/
import Derived.Test.YtcfglmamocdkeaaVol
import Derived.Test.YtcfglmamocdkeaaRev
import Derived.Deep.RegionHeld3
import Derived.Deep.DrawnRows
namespace Go.Proofs.Ytcfglmamocdkeaa
open Go.ChangeShapes Go.WideShapes Go.ChangeAt Go.RowKit
set_option linter.unusedVariables false

def tf : Nat → V | 0 => ⟨0, 0, 0⟩ | 1 => ⟨1, 0, 0⟩ | 2 => ⟨0, 1, 0⟩ | _ => ⟨0, 0, 1⟩
def tg : Nat → V | 0 => ⟨0, 2, 1⟩ | 1 => ⟨0, 1, 3⟩ | 2 => ⟨0, 3, 2⟩ | _ => ⟨1, 2, 3⟩
/-- The same with a wrong corner. -/
def bg : Nat → V | 0 => ⟨0, 2, 1⟩ | 1 => ⟨0, 1, 3⟩ | 2 => ⟨0, 3, 2⟩ | _ => ⟨1, 2, 4⟩
/-- Four vectors or triangles fill block X. -/
structure R4 (X : Nat) (e : TypeId) (f : Nat → V) (w : World) : Prop where
  row : w.heap[X]? = some (Obj.cells #[.int .i64 (f 0).x, .int .i64 (f 0).y, .int .i64 (f 0).z, .int .i64 (f 1).x, .int .i64 (f 1).y, .int .i64 (f 1).z, .int .i64 (f 2).x, .int .i64 (f 2).y, .int .i64 (f 2).z, .int .i64 (f 3).x, .int .i64 (f 3).y, .int .i64 (f 3).z] e (0, 0))
theorem R4.next {X : Nat} {e : TypeId} {f : Nat → V} {w w' : World} (h : R4 X e f w) (hb : Below w.heap.size w w') : R4 X e f w' := ⟨(hb.block X (lt_of_row h.row)).trans h.row⟩
theorem R4.sl {X : Nat} {e : TypeId} {f : Nat → V} {w : World} (h : R4 X e f w) : Sl X 0 4 f w :=
  ⟨lt_of_row h.row, fun i hi => by
    obtain rfl | rfl | rfl | rfl : i = 0 ∨ i = 1 ∨ i = 2 ∨ i = 3 := by omega
    all_goals exact ⟨cell_of_row _ _ _ _ _ _ h.row, cell_of_row _ _ _ _ _ _ h.row, cell_of_row _ _ _ _ _ _ h.row⟩⟩
theorem R4.sx {X : Nat} {e : TypeId} {f : Nat → V} {w : World} (h : R4 X e f w) : Sx (some ⟨X, 0, none⟩) 4 f w := .inr ⟨X, 0, rfl, h.sl⟩
/-- The tetrahedron is returned. -/
def RetT (w : World) (e : Ending) (w' : World) : Prop :=
  ∃ X, w.heap.size ≤ X ∧ e = .returned (.agg #[.slice (some ⟨X, 0, none⟩) 4 4, .slice (some ⟨X + 1, 0, none⟩) 4 4]) ∧ R4 X 36 tf w' ∧ R4 (X + 1) 47 tg w' ∧ Below w.heap.size w w'
theorem tetra_any (w : World) : Calls Try.prog 29 #[] w (RetT w) := by
  go_enter Try.func29, Try.ntmps29
  go_wp2_with fail
  have b1 := below_alloc w (.cells #[.slice (some ⟨w.heap.size + 1, 0, none⟩) 4 4, .slice (some ⟨w.heap.size + 1 + 1, 0, none⟩) 4 4] 25)
  have M := Mb.new w (.slice (some ⟨w.heap.size + 1, 0, none⟩) 4 4) (.slice (some ⟨w.heap.size + 1 + 1, 0, none⟩) 4 4)
  generalize hw1 : w.alloc (.cells #[.slice (some ⟨w.heap.size + 1, 0, none⟩) 4 4, .slice (some ⟨w.heap.size + 1 + 1, 0, none⟩) 4 4] 25) = w1 at b1 M ⊢
  have hs : w1.heap.size = w.heap.size + 1 := by rw [← hw1]; simp
  have A : R4 w1.heap.size 36 tf (w1.alloc (.cells #[.int .i64 0, .int .i64 0, .int .i64 0, .int .i64 1, .int .i64 0, .int .i64 0, .int .i64 0, .int .i64 1, .int .i64 0, .int .i64 0, .int .i64 0, .int .i64 1] 36)) := ⟨heap_alloc_new w1 _⟩
  have b2 := below_alloc w1 (.cells #[.int .i64 0, .int .i64 0, .int .i64 0, .int .i64 1, .int .i64 0, .int .i64 0, .int .i64 0, .int .i64 1, .int .i64 0, .int .i64 0, .int .i64 0, .int .i64 1] 36)
  generalize hw2 : w1.alloc (.cells #[.int .i64 0, .int .i64 0, .int .i64 0, .int .i64 1, .int .i64 0, .int .i64 0, .int .i64 0, .int .i64 1, .int .i64 0, .int .i64 0, .int .i64 0, .int .i64 1] 36) = w2 at A b2 ⊢
  have hs2 : w2.heap.size = w.heap.size + 1 + 1 := by rw [← hw2]; simp [hs]
  have B : R4 w2.heap.size 47 tg (w2.alloc (.cells #[.int .i64 0, .int .i64 2, .int .i64 1, .int .i64 0, .int .i64 1, .int .i64 3, .int .i64 0, .int .i64 3, .int .i64 2, .int .i64 1, .int .i64 2, .int .i64 3] 47)) := ⟨heap_alloc_new w2 _⟩
  have b3 := below_alloc w2 (.cells #[.int .i64 0, .int .i64 2, .int .i64 1, .int .i64 0, .int .i64 1, .int .i64 3, .int .i64 0, .int .i64 3, .int .i64 2, .int .i64 1, .int .i64 2, .int .i64 3] 47)
  generalize w2.alloc (.cells #[.int .i64 0, .int .i64 2, .int .i64 1, .int .i64 0, .int .i64 1, .int .i64 3, .int .i64 0, .int .i64 3, .int .i64 2, .int .i64 1, .int .i64 2, .int .i64 3] 47) = w3 at B b3 ⊢
  have M3 := (M.next b2).next b3
  have A3 := A.next b3
  rw [hs] at A3
  rw [hs2] at B
  exact bodyPost_ret (v := .agg #[.slice (some ⟨w.heap.size + 1, 0, none⟩) 4 4, .slice (some ⟨w.heap.size + 1 + 1, 0, none⟩) 4 4]) (by simp [results, Try.results29, go_sem, M3.c0, M3.c1]) rfl ⟨w.heap.size + 1, Nat.le_succ _, rfl, A3, B, below_next (below_next b1 b2) b3⟩

set_option maxRecDepth 100000 in
set_option maxHeartbeats 2000000 in
theorem corn_okn (a b : Option Addr) (n k cap cap' : Nat) (f g : Nat → V) (w : World) (SA : Sx a n f w) (SB : Sx b k g w) (j : Nat) (hj : j < k) (hp : pcheck n k f g = 0) (hk : k ≤ 4096) (hn : n ≤ 4096)
    (p q t : Nat) (hp' : p < n) (hq' : q < n) (ht' : t < n) (hx : (g j).x = p) (hy : (g j).y = q) (hz : (g j).z = t) :
    Calls Try.prog 19 #[.agg #[.slice a n cap, .slice b k cap'], .int .i64 j] w fun e w' => e = .returned (.tuple #[.agg #[.int .i64 (f p).x, .int .i64 (f p).y, .int .i64 (f p).z], .agg #[.int .i64 (f q).x, .int .i64 (f q).y, .int .i64 (f q).z], .agg #[.int .i64 (f t).x, .int .i64 (f t).y, .int .i64 (f t).z], .bool true]) ∧ Below w.heap.size w w' := by
  have HX := Lib.hid hx
  have HY := Lib.hid hy
  have HZ := Lib.hid hz
  clear hx hy hz
  have d1 : decide ((j : Int) < 0) = false := by simp
  have d2 : decide (k ≤ j) = false := by simp; omega
  go_enter Try.func19, Try.ntmps19
  go_wp2_with fail
  have e1 := below_alloc w (.cells #[.slice a n cap, .slice b k cap'] 25)
  have e2 := below_alloc (w.alloc (.cells #[.slice a n cap, .slice b k cap'] 25)) (.cells #[.int .i64 0, .int .i64 0, .int .i64 0] 36)
  have e3 := below_alloc ((w.alloc (.cells #[.slice a n cap, .slice b k cap'] 25)).alloc (.cells #[.int .i64 0, .int .i64 0, .int .i64 0] 36)) (.cells #[.int .i64 0, .int .i64 0, .int .i64 0] 36)
  have e4 := below_alloc (((w.alloc (.cells #[.slice a n cap, .slice b k cap'] 25)).alloc (.cells #[.int .i64 0, .int .i64 0, .int .i64 0] 36)).alloc (.cells #[.int .i64 0, .int .i64 0, .int .i64 0] 36)) (.cells #[.int .i64 0, .int .i64 0, .int .i64 0] 36)
  have M0 := (((Mb.new w (.slice a n cap) (.slice b k cap')).next e2).next e3).next e4
  have A0 := ((At.newAt (b := w.heap.size + 1) (w.alloc (.cells #[.slice a n cap, .slice b k cap'] 25)) 0 0 0 (by simp)).next e3).next e4
  have B0 := (At.newAt (b := w.heap.size + 1 + 1) ((w.alloc (.cells #[.slice a n cap, .slice b k cap'] 25)).alloc (.cells #[.int .i64 0, .int .i64 0, .int .i64 0] 36)) 0 0 0 (by simp)).next e4
  have C0 := At.newAt (b := w.heap.size + 1 + 1 + 1) (((w.alloc (.cells #[.slice a n cap, .slice b k cap'] 25)).alloc (.cells #[.int .i64 0, .int .i64 0, .int .i64 0] 36)).alloc (.cells #[.int .i64 0, .int .i64 0, .int .i64 0] 36)) 0 0 0 (by simp)
  have HB0 := below_next (below_next (below_next e1 e2) e3) e4
  refine (check_aux a b n k cap cap' f g _ (SA.next HB0) (SB.next HB0) 0 hp.symm).mono ?_
  rintro e w1 ⟨rfl, hb1⟩
  have M1 := M0.next hb1
  have A1 := A0.next hb1
  have B1 := B0.next hb1
  have C1 := C0.next hb1
  have HB1 := below_next HB0 hb1
  clear e1 e2 e3 e4 M0 A0 B0 C0 HB0 hb1 d1 d2
  rcases SB.next HB1 with h0 | ⟨b1, o1, rfl, S1⟩
  · omega
  · obtain ⟨s0, s1, s2⟩ := S1.hc j hj
    rcases SA with h0 | ⟨b0, o0, rfl, SS⟩
    · omega
    · rw [HX.out] at s0
      rw [HY.out] at s1
      rw [HZ.out] at s2
      have bt := below_alloc w1 (.cells #[.int .i64 p, .int .i64 q, .int .i64 t] 47)
      have m1 := M1.c1
      go_wp2_with fail
      clear m1 s0 s1 s2 S1
      have M2 := M1.next bt
      have A2 := A1.next bt
      have B2 := B1.next bt
      have C2 := C1.next bt
      have T2 := Tb.new w1 p q t
      have HB2 := below_next HB1 bt
      have S2 := SS.next HB2
      have hb0 : b0 < w.heap.size := SS.hb
      have hT : w.heap.size + 1 + 1 + 1 < w1.heap.size := C1.hZ
      generalize w1.alloc (.cells #[.int .i64 p, .int .i64 q, .int .i64 t] 47) = w2 at M2 A2 B2 C2 T2 HB2 S2 ⊢
      generalize w1.heap.size = T at T2 hT ⊢
      clear M1 A1 B1 C1 HB1 SS SB bt
      have m0 := M2.c0
      have t0 := T2.c0
      have t1 := T2.c1
      have t2 := T2.c2
      obtain ⟨x0, x1, x2⟩ := S2.hc p hp'
      obtain ⟨y0, y1, y2⟩ := S2.hc q hq'
      obtain ⟨z0, z1, z2⟩ := S2.hc t ht'
      have a0 := A2.c0
      have a1 := A2.c1
      have a2 := A2.c2
      have b00 := B2.c0
      have b01 := B2.c1
      have b02 := B2.c2
      have c0 := C2.c0
      have c1 := C2.c1
      have c2 := C2.c2
      have fa := A2.f
      have fb := B2.f
      have fc := C2.f
      have h1 : b0 ≠ w.heap.size + 1 := by omega
      have h2 : b0 ≠ w.heap.size + 1 + 1 := by omega
      have h3 : b0 ≠ w.heap.size + 1 + 1 + 1 := by omega
      have h4 : T ≠ w.heap.size + 1 := by omega
      have h5 : T ≠ w.heap.size + 1 + 1 := by omega
      have h6 : T ≠ w.heap.size + 1 + 1 + 1 := by omega
      have h7 : w.heap.size ≠ w.heap.size + 1 + 1 := by omega
      have h8 : w.heap.size ≠ w.heap.size + 1 + 1 + 1 := by omega
      have h9 : w.heap.size + 1 ≠ w.heap.size + 1 + 1 + 1 := by omega
      have h7' := h7.symm
      have h8' := h8.symm
      have h9' := h9.symm
      have h1' := h1.symm
      have h2' := h2.symm
      have h3' := h3.symm
      have h4' := h4.symm
      have h5' := h5.symm
      have h6' := h6.symm
      have i1 : (0 : Int) ≤ p := by omega
      have i2 : (0 : Int) ≤ q := by omega
      have i3 : (0 : Int) ≤ t := by omega
      have i4 : (p : Int) < n := by omega
      have i5 : (q : Int) < n := by omega
      have i6 : (t : Int) < n := by omega
      go_region_held3 (fun w' => w'.cell? ⟨w.heap.size, 0, none⟩ = some (.slice (some ⟨b0, o0, none⟩) n cap) ∧ w'.cell? ⟨T, 0, none⟩ = some (.int .i64 p) ∧ w'.cell? ⟨T, 1, none⟩ = some (.int .i64 q) ∧ w'.cell? ⟨T, 2, none⟩ = some (.int .i64 t)
        ∧ w'.cell? ⟨b0, o0 + p * 3, none⟩ = some (.int .i64 (f p).x) ∧ w'.cell? ⟨b0, o0 + p * 3 + 1, none⟩ = some (.int .i64 (f p).y) ∧ w'.cell? ⟨b0, o0 + p * 3 + 2, none⟩ = some (.int .i64 (f p).z)
        ∧ w'.cell? ⟨b0, o0 + q * 3, none⟩ = some (.int .i64 (f q).x) ∧ w'.cell? ⟨b0, o0 + q * 3 + 1, none⟩ = some (.int .i64 (f q).y) ∧ w'.cell? ⟨b0, o0 + q * 3 + 2, none⟩ = some (.int .i64 (f q).z)
        ∧ w'.cell? ⟨b0, o0 + t * 3, none⟩ = some (.int .i64 (f t).x) ∧ w'.cell? ⟨b0, o0 + t * 3 + 1, none⟩ = some (.int .i64 (f t).y) ∧ w'.cell? ⟨b0, o0 + t * 3 + 2, none⟩ = some (.int .i64 (f t).z)) (go_keep) (fail)
      all_goals go_wp2
      have AA := (((((((((A2.set0 (f p).x).set1 (f p).y).set2 (f p).z).other ⟨w.heap.size + 1 + 1, 0, none⟩ (.int .i64 (f q).x) (by dsimp only; omega)).other ⟨w.heap.size + 1 + 1, 1, none⟩ (.int .i64 (f q).y) (by dsimp only; omega)).other ⟨w.heap.size + 1 + 1, 2, none⟩ (.int .i64 (f q).z) (by dsimp only; omega)).other ⟨w.heap.size + 1 + 1 + 1, 0, none⟩ (.int .i64 (f t).x) (by dsimp only; omega)).other ⟨w.heap.size + 1 + 1 + 1, 1, none⟩ (.int .i64 (f t).y) (by dsimp only; omega)).other ⟨w.heap.size + 1 + 1 + 1, 2, none⟩ (.int .i64 (f t).z) (by dsimp only; omega)).drew
      have BB := (((((((((B2.other ⟨w.heap.size + 1, 0, none⟩ (.int .i64 (f p).x) (by dsimp only; omega)).other ⟨w.heap.size + 1, 1, none⟩ (.int .i64 (f p).y) (by dsimp only; omega)).other ⟨w.heap.size + 1, 2, none⟩ (.int .i64 (f p).z) (by dsimp only; omega)).set0 (f q).x).set1 (f q).y).set2 (f q).z).other ⟨w.heap.size + 1 + 1 + 1, 0, none⟩ (.int .i64 (f t).x) (by dsimp only; omega)).other ⟨w.heap.size + 1 + 1 + 1, 1, none⟩ (.int .i64 (f t).y) (by dsimp only; omega)).other ⟨w.heap.size + 1 + 1 + 1, 2, none⟩ (.int .i64 (f t).z) (by dsimp only; omega)).drew
      have CC := (((((((((C2.other ⟨w.heap.size + 1, 0, none⟩ (.int .i64 (f p).x) (by dsimp only; omega)).other ⟨w.heap.size + 1, 1, none⟩ (.int .i64 (f p).y) (by dsimp only; omega)).other ⟨w.heap.size + 1, 2, none⟩ (.int .i64 (f p).z) (by dsimp only; omega)).other ⟨w.heap.size + 1 + 1, 0, none⟩ (.int .i64 (f q).x) (by dsimp only; omega)).other ⟨w.heap.size + 1 + 1, 1, none⟩ (.int .i64 (f q).y) (by dsimp only; omega)).other ⟨w.heap.size + 1 + 1, 2, none⟩ (.int .i64 (f q).z) (by dsimp only; omega)).set0 (f t).x).set1 (f t).y).set2 (f t).z).drew
      exact bodyPost_ret (v := .tuple #[.agg #[.int .i64 (f p).x, .int .i64 (f p).y, .int .i64 (f p).z], .agg #[.int .i64 (f q).x, .int .i64 (f q).y, .int .i64 (f q).z], .agg #[.int .i64 (f t).x, .int .i64 (f t).y, .int .i64 (f t).z], .bool true])
        (by
          have a0 := AA.c0
          have a1 := AA.c1
          have a2 := AA.c2
          have b0 := BB.c0
          have b1 := BB.c1
          have b2 := BB.c2
          have c0 := CC.c0
          have c1 := CC.c1
          have c2 := CC.c2
          simp [results, Try.results19, go_sem, a0, a1, a2, b0, b1, b2, c0, c1, c2]) rfl ⟨rfl, (((((((((HB2.setCell (p := ⟨w.heap.size + 1, 0, none⟩) (by dsimp only; omega) (.int .i64 (f p).x)).setCell (p := ⟨w.heap.size + 1, 1, none⟩) (by dsimp only; omega) (.int .i64 (f p).y)).setCell (p := ⟨w.heap.size + 1, 2, none⟩) (by dsimp only; omega) (.int .i64 (f p).z)).setCell (p := ⟨w.heap.size + 1 + 1, 0, none⟩) (by dsimp only; omega) (.int .i64 (f q).x)).setCell (p := ⟨w.heap.size + 1 + 1, 1, none⟩) (by dsimp only; omega) (.int .i64 (f q).y)).setCell (p := ⟨w.heap.size + 1 + 1, 2, none⟩) (by dsimp only; omega) (.int .i64 (f q).z)).setCell (p := ⟨w.heap.size + 1 + 1 + 1, 0, none⟩) (by dsimp only; omega) (.int .i64 (f t).x)).setCell (p := ⟨w.heap.size + 1 + 1 + 1, 1, none⟩) (by dsimp only; omega) (.int .i64 (f t).y)).setCell (p := ⟨w.heap.size + 1 + 1 + 1, 2, none⟩) (by dsimp only; omega) (.int .i64 (f t).z)).drew⟩
end Go.Proofs.Ytcfglmamocdkeaa
