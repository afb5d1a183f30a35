/- The rest of Corners' contracts, of the program and of the reference. Printed by crn.py. -/
import Derived.Test.YtcfglmamocdkeaaTet
namespace Go.Proofs.Ytcfglmamocdkeaa
open Go.ChangeShapes Go.WideShapes Go.ChangeAt Go.RowKit
set_option linter.unusedVariables false

set_option maxRecDepth 100000 in
set_option maxHeartbeats 2000000 in
theorem corn_oknr (a b : Option Addr) (n k cap cap' : Nat) (f g : Nat → V) (w : World) (SA : Sx a n f w) (SB : Sx b k g w) (j : Nat) (hj : j < k) (hp : pcheck n k f g = 0) (hk : k ≤ 4096) (hn : n ≤ 4096)
    (p q t : Nat) (hp' : p < n) (hq' : q < n) (ht' : t < n) (hx : (g j).x = p) (hy : (g j).y = q) (hz : (g j).z = t) :
    Calls Try.prog 20 #[.agg #[.slice a n cap, .slice b k cap'], .int .i64 j] w fun e w' => e = .returned (.tuple #[.agg #[.int .i64 (f p).x, .int .i64 (f p).y, .int .i64 (f p).z], .agg #[.int .i64 (f q).x, .int .i64 (f q).y, .int .i64 (f q).z], .agg #[.int .i64 (f t).x, .int .i64 (f t).y, .int .i64 (f t).z], .bool true]) ∧ Below w.heap.size w w' := by
  have HX := Lib.hid hx
  have HY := Lib.hid hy
  have HZ := Lib.hid hz
  clear hx hy hz
  have d1 : decide ((j : Int) < 0) = false := by simp
  have d2 : decide (k ≤ j) = false := by simp; omega
  go_enter Try.func20, Try.ntmps20
  go_wp2_with fail
  have e1 := below_alloc w (.cells #[.slice a n cap, .slice b k cap'] 25)
  have e2 := below_alloc (w.alloc (.cells #[.slice a n cap, .slice b k cap'] 25)) (.cells #[.int .i64 0, .int .i64 0, .int .i64 0] 36)
  have e3 := below_alloc ((w.alloc (.cells #[.slice a n cap, .slice b k cap'] 25)).alloc (.cells #[.int .i64 0, .int .i64 0, .int .i64 0] 36)) (.cells #[.int .i64 0, .int .i64 0, .int .i64 0] 36)
  have e4 := below_alloc (((w.alloc (.cells #[.slice a n cap, .slice b k cap'] 25)).alloc (.cells #[.int .i64 0, .int .i64 0, .int .i64 0] 36)).alloc (.cells #[.int .i64 0, .int .i64 0, .int .i64 0] 36)) (.cells #[.int .i64 0, .int .i64 0, .int .i64 0] 36)
  have M0 := (((Mb.new w (.slice a n cap) (.slice b k cap')).next e2).next e3).next e4
  have A0 := ((At.newAt (b := w.heap.size + 1) (w.alloc (.cells #[.slice a n cap, .slice b k cap'] 25)) 0 0 0 (by simp)).next e3).next e4
  have B0 := (At.newAt (b := w.heap.size + 1 + 1) ((w.alloc (.cells #[.slice a n cap, .slice b k cap'] 25)).alloc (.cells #[.int .i64 0, .int .i64 0, .int .i64 0] 36)) 0 0 0 (by simp)).next e4
  have C0 := At.newAt (b := w.heap.size + 1 + 1 + 1) (((w.alloc (.cells #[.slice a n cap, .slice b k cap'] 25)).alloc (.cells #[.int .i64 0, .int .i64 0, .int .i64 0] 36)).alloc (.cells #[.int .i64 0, .int .i64 0, .int .i64 0] 36)) 0 0 0 (by simp)
  have HB0 := below_next (below_next (below_next e1 e2) e3) e4
  refine (check_auxr a b n k cap cap' f g _ (SA.next HB0) (SB.next HB0) 0 hp.symm).mono ?_
  rintro e w1 ⟨rfl, hb1⟩
  have M1 := M0.next hb1
  have A1 := A0.next hb1
  have B1 := B0.next hb1
  have C1 := C0.next hb1
  have HB1 := below_next HB0 hb1
  clear e1 e2 e3 e4 M0 A0 B0 C0 HB0 hb1
  rcases SB.next HB1 with h0 | ⟨b1, o1, rfl, S1⟩
  · omega
  · obtain ⟨s0, s1, s2⟩ := S1.hc j hj
    rcases SA with h0 | ⟨b0, o0, rfl, SS⟩
    · omega
    · rw [HX.out] at s0
      rw [HY.out] at s1
      rw [HZ.out] at s2
      have bt := below_alloc w1 (.cells #[.int .i64 p, .int .i64 q, .int .i64 t] 47)
      have m1 := M1.c1
      go_wp2_with fail
      clear m1 s0 s1 s2 S1 d1 d2
      have M2 := M1.next bt
      have A2 := A1.next bt
      have B2 := B1.next bt
      have C2 := C1.next bt
      have T2 := Tb.new w1 p q t
      have HB2 := below_next HB1 bt
      have S2 := SS.next HB2
      have hb0 : b0 < w.heap.size := SS.hb
      have hT : w.heap.size + 1 + 1 + 1 < w1.heap.size := C1.hZ
      generalize w1.alloc (.cells #[.int .i64 p, .int .i64 q, .int .i64 t] 47) = w2 at M2 A2 B2 C2 T2 HB2 S2 ⊢
      generalize w1.heap.size = T at T2 hT ⊢
      clear M1 A1 B1 C1 HB1 SS SB bt
      have m0 := M2.c0
      have t0 := T2.c0
      have t1 := T2.c1
      have t2 := T2.c2
      obtain ⟨x0, x1, x2⟩ := S2.hc p hp'
      obtain ⟨y0, y1, y2⟩ := S2.hc q hq'
      obtain ⟨z0, z1, z2⟩ := S2.hc t ht'
      have a0 := A2.c0
      have a1 := A2.c1
      have a2 := A2.c2
      have b00 := B2.c0
      have b01 := B2.c1
      have b02 := B2.c2
      have c0 := C2.c0
      have c1 := C2.c1
      have c2 := C2.c2
      have fa := A2.f
      have fb := B2.f
      have fc := C2.f
      have h1 : b0 ≠ w.heap.size + 1 := by omega
      have h2 : b0 ≠ w.heap.size + 1 + 1 := by omega
      have h3 : b0 ≠ w.heap.size + 1 + 1 + 1 := by omega
      have h4 : T ≠ w.heap.size + 1 := by omega
      have h5 : T ≠ w.heap.size + 1 + 1 := by omega
      have h6 : T ≠ w.heap.size + 1 + 1 + 1 := by omega
      have h7 : w.heap.size ≠ w.heap.size + 1 + 1 := by omega
      have h8 : w.heap.size ≠ w.heap.size + 1 + 1 + 1 := by omega
      have h9 : w.heap.size + 1 ≠ w.heap.size + 1 + 1 + 1 := by omega
      have h7' := h7.symm
      have h8' := h8.symm
      have h9' := h9.symm
      have h1' := h1.symm
      have h2' := h2.symm
      have h3' := h3.symm
      have h4' := h4.symm
      have h5' := h5.symm
      have h6' := h6.symm
      have i1 : (0 : Int) ≤ p := by omega
      have i2 : (0 : Int) ≤ q := by omega
      have i3 : (0 : Int) ≤ t := by omega
      have i4 : (p : Int) < n := by omega
      have i5 : (q : Int) < n := by omega
      have i6 : (t : Int) < n := by omega
      go_region_held3 (fun w' => w'.cell? ⟨w.heap.size, 0, none⟩ = some (.slice (some ⟨b0, o0, none⟩) n cap) ∧ w'.cell? ⟨T, 0, none⟩ = some (.int .i64 p) ∧ w'.cell? ⟨T, 1, none⟩ = some (.int .i64 q) ∧ w'.cell? ⟨T, 2, none⟩ = some (.int .i64 t)
        ∧ w'.cell? ⟨b0, o0 + p * 3, none⟩ = some (.int .i64 (f p).x) ∧ w'.cell? ⟨b0, o0 + p * 3 + 1, none⟩ = some (.int .i64 (f p).y) ∧ w'.cell? ⟨b0, o0 + p * 3 + 2, none⟩ = some (.int .i64 (f p).z)
        ∧ w'.cell? ⟨b0, o0 + q * 3, none⟩ = some (.int .i64 (f q).x) ∧ w'.cell? ⟨b0, o0 + q * 3 + 1, none⟩ = some (.int .i64 (f q).y) ∧ w'.cell? ⟨b0, o0 + q * 3 + 2, none⟩ = some (.int .i64 (f q).z)
        ∧ w'.cell? ⟨b0, o0 + t * 3, none⟩ = some (.int .i64 (f t).x) ∧ w'.cell? ⟨b0, o0 + t * 3 + 1, none⟩ = some (.int .i64 (f t).y) ∧ w'.cell? ⟨b0, o0 + t * 3 + 2, none⟩ = some (.int .i64 (f t).z)) (go_keep) (fail)
      all_goals go_wp2
      have AA := (((((((((A2.set0 (f p).x).set1 (f p).y).set2 (f p).z).other ⟨w.heap.size + 1 + 1, 0, none⟩ (.int .i64 (f q).x) (by dsimp only; omega)).other ⟨w.heap.size + 1 + 1, 1, none⟩ (.int .i64 (f q).y) (by dsimp only; omega)).other ⟨w.heap.size + 1 + 1, 2, none⟩ (.int .i64 (f q).z) (by dsimp only; omega)).other ⟨w.heap.size + 1 + 1 + 1, 0, none⟩ (.int .i64 (f t).x) (by dsimp only; omega)).other ⟨w.heap.size + 1 + 1 + 1, 1, none⟩ (.int .i64 (f t).y) (by dsimp only; omega)).other ⟨w.heap.size + 1 + 1 + 1, 2, none⟩ (.int .i64 (f t).z) (by dsimp only; omega)).drew
      have BB := (((((((((B2.other ⟨w.heap.size + 1, 0, none⟩ (.int .i64 (f p).x) (by dsimp only; omega)).other ⟨w.heap.size + 1, 1, none⟩ (.int .i64 (f p).y) (by dsimp only; omega)).other ⟨w.heap.size + 1, 2, none⟩ (.int .i64 (f p).z) (by dsimp only; omega)).set0 (f q).x).set1 (f q).y).set2 (f q).z).other ⟨w.heap.size + 1 + 1 + 1, 0, none⟩ (.int .i64 (f t).x) (by dsimp only; omega)).other ⟨w.heap.size + 1 + 1 + 1, 1, none⟩ (.int .i64 (f t).y) (by dsimp only; omega)).other ⟨w.heap.size + 1 + 1 + 1, 2, none⟩ (.int .i64 (f t).z) (by dsimp only; omega)).drew
      have CC := (((((((((C2.other ⟨w.heap.size + 1, 0, none⟩ (.int .i64 (f p).x) (by dsimp only; omega)).other ⟨w.heap.size + 1, 1, none⟩ (.int .i64 (f p).y) (by dsimp only; omega)).other ⟨w.heap.size + 1, 2, none⟩ (.int .i64 (f p).z) (by dsimp only; omega)).other ⟨w.heap.size + 1 + 1, 0, none⟩ (.int .i64 (f q).x) (by dsimp only; omega)).other ⟨w.heap.size + 1 + 1, 1, none⟩ (.int .i64 (f q).y) (by dsimp only; omega)).other ⟨w.heap.size + 1 + 1, 2, none⟩ (.int .i64 (f q).z) (by dsimp only; omega)).set0 (f t).x).set1 (f t).y).set2 (f t).z).drew
      exact bodyPost_ret (v := .tuple #[.agg #[.int .i64 (f p).x, .int .i64 (f p).y, .int .i64 (f p).z], .agg #[.int .i64 (f q).x, .int .i64 (f q).y, .int .i64 (f q).z], .agg #[.int .i64 (f t).x, .int .i64 (f t).y, .int .i64 (f t).z], .bool true])
        (by
          have a0 := AA.c0
          have a1 := AA.c1
          have a2 := AA.c2
          have b0 := BB.c0
          have b1 := BB.c1
          have b2 := BB.c2
          have c0 := CC.c0
          have c1 := CC.c1
          have c2 := CC.c2
          simp [results, Try.results20, go_sem, a0, a1, a2, b0, b1, b2, c0, c1, c2]) rfl ⟨rfl, (((((((((HB2.setCell (p := ⟨w.heap.size + 1, 0, none⟩) (by dsimp only; omega) (.int .i64 (f p).x)).setCell (p := ⟨w.heap.size + 1, 1, none⟩) (by dsimp only; omega) (.int .i64 (f p).y)).setCell (p := ⟨w.heap.size + 1, 2, none⟩) (by dsimp only; omega) (.int .i64 (f p).z)).setCell (p := ⟨w.heap.size + 1 + 1, 0, none⟩) (by dsimp only; omega) (.int .i64 (f q).x)).setCell (p := ⟨w.heap.size + 1 + 1, 1, none⟩) (by dsimp only; omega) (.int .i64 (f q).y)).setCell (p := ⟨w.heap.size + 1 + 1, 2, none⟩) (by dsimp only; omega) (.int .i64 (f q).z)).setCell (p := ⟨w.heap.size + 1 + 1 + 1, 0, none⟩) (by dsimp only; omega) (.int .i64 (f t).x)).setCell (p := ⟨w.heap.size + 1 + 1 + 1, 1, none⟩) (by dsimp only; omega) (.int .i64 (f t).y)).setCell (p := ⟨w.heap.size + 1 + 1 + 1, 2, none⟩) (by dsimp only; omega) (.int .i64 (f t).z)).drew⟩
set_option maxRecDepth 100000 in
theorem corn_bad1 (a b : Option Addr) (n k cap cap' : Nat) (f g : Nat → V) (w : World) (SA : Sx a n f w) (SB : Sx b k g w) (i : Int) (hi : i < 0) :
    Calls Try.prog 19 #[.agg #[.slice a n cap, .slice b k cap'], .int .i64 i] w fun e w' => e = .returned (.tuple #[.agg #[.int .i64 0, .int .i64 0, .int .i64 0], .agg #[.int .i64 0, .int .i64 0, .int .i64 0], .agg #[.int .i64 0, .int .i64 0, .int .i64 0], .bool false]) ∧ Below w.heap.size w w' := by
  have d1 : decide (i < 0) = true := by simpa using hi
  have e1 := below_alloc w (.cells #[.slice a n cap, .slice b k cap'] 25)
  have e2 := below_alloc (w.alloc (.cells #[.slice a n cap, .slice b k cap'] 25)) (.cells #[.int .i64 0, .int .i64 0, .int .i64 0] 36)
  have e3 := below_alloc ((w.alloc (.cells #[.slice a n cap, .slice b k cap'] 25)).alloc (.cells #[.int .i64 0, .int .i64 0, .int .i64 0] 36)) (.cells #[.int .i64 0, .int .i64 0, .int .i64 0] 36)
  have e4 := below_alloc (((w.alloc (.cells #[.slice a n cap, .slice b k cap'] 25)).alloc (.cells #[.int .i64 0, .int .i64 0, .int .i64 0] 36)).alloc (.cells #[.int .i64 0, .int .i64 0, .int .i64 0] 36)) (.cells #[.int .i64 0, .int .i64 0, .int .i64 0] 36)
  have M0 := (((Mb.new w (.slice a n cap) (.slice b k cap')).next e2).next e3).next e4
  have A0 := ((At.newAt (b := w.heap.size + 1) (w.alloc (.cells #[.slice a n cap, .slice b k cap'] 25)) 0 0 0 (by simp)).next e3).next e4
  have B0 := (At.newAt (b := w.heap.size + 1 + 1) ((w.alloc (.cells #[.slice a n cap, .slice b k cap'] 25)).alloc (.cells #[.int .i64 0, .int .i64 0, .int .i64 0] 36)) 0 0 0 (by simp)).next e4
  have C0 := At.newAt (b := w.heap.size + 1 + 1 + 1) (((w.alloc (.cells #[.slice a n cap, .slice b k cap'] 25)).alloc (.cells #[.int .i64 0, .int .i64 0, .int .i64 0] 36)).alloc (.cells #[.int .i64 0, .int .i64 0, .int .i64 0] 36)) 0 0 0 (by simp)
  have HB0 := below_next (below_next (below_next e1 e2) e3) e4
  go_enter Try.func19, Try.ntmps19
  go_wp2_with fail
  exact bodyPost_ret (v := .tuple #[.agg #[.int .i64 0, .int .i64 0, .int .i64 0], .agg #[.int .i64 0, .int .i64 0, .int .i64 0], .agg #[.int .i64 0, .int .i64 0, .int .i64 0], .bool false]) (by simp [results, Try.results19, go_sem, A0.c0, A0.c1, A0.c2, B0.c0, B0.c1, B0.c2, C0.c0, C0.c1, C0.c2]) rfl ⟨rfl, HB0⟩
set_option maxRecDepth 100000 in
theorem corn_bad2 (a b : Option Addr) (n k cap cap' : Nat) (f g : Nat → V) (w : World) (SA : Sx a n f w) (SB : Sx b k g w) (i : Int) (hi : 0 ≤ i) (hk : (k : Int) ≤ i) :
    Calls Try.prog 19 #[.agg #[.slice a n cap, .slice b k cap'], .int .i64 i] w fun e w' => e = .returned (.tuple #[.agg #[.int .i64 0, .int .i64 0, .int .i64 0], .agg #[.int .i64 0, .int .i64 0, .int .i64 0], .agg #[.int .i64 0, .int .i64 0, .int .i64 0], .bool false]) ∧ Below w.heap.size w w' := by
  have d1 : decide (i < 0) = false := by simpa using hi
  have d2 : decide ((k : Int) ≤ i) = true := by simpa using hk
  have e1 := below_alloc w (.cells #[.slice a n cap, .slice b k cap'] 25)
  have e2 := below_alloc (w.alloc (.cells #[.slice a n cap, .slice b k cap'] 25)) (.cells #[.int .i64 0, .int .i64 0, .int .i64 0] 36)
  have e3 := below_alloc ((w.alloc (.cells #[.slice a n cap, .slice b k cap'] 25)).alloc (.cells #[.int .i64 0, .int .i64 0, .int .i64 0] 36)) (.cells #[.int .i64 0, .int .i64 0, .int .i64 0] 36)
  have e4 := below_alloc (((w.alloc (.cells #[.slice a n cap, .slice b k cap'] 25)).alloc (.cells #[.int .i64 0, .int .i64 0, .int .i64 0] 36)).alloc (.cells #[.int .i64 0, .int .i64 0, .int .i64 0] 36)) (.cells #[.int .i64 0, .int .i64 0, .int .i64 0] 36)
  have M0 := (((Mb.new w (.slice a n cap) (.slice b k cap')).next e2).next e3).next e4
  have A0 := ((At.newAt (b := w.heap.size + 1) (w.alloc (.cells #[.slice a n cap, .slice b k cap'] 25)) 0 0 0 (by simp)).next e3).next e4
  have B0 := (At.newAt (b := w.heap.size + 1 + 1) ((w.alloc (.cells #[.slice a n cap, .slice b k cap'] 25)).alloc (.cells #[.int .i64 0, .int .i64 0, .int .i64 0] 36)) 0 0 0 (by simp)).next e4
  have C0 := At.newAt (b := w.heap.size + 1 + 1 + 1) (((w.alloc (.cells #[.slice a n cap, .slice b k cap'] 25)).alloc (.cells #[.int .i64 0, .int .i64 0, .int .i64 0] 36)).alloc (.cells #[.int .i64 0, .int .i64 0, .int .i64 0] 36)) 0 0 0 (by simp)
  have HB0 := below_next (below_next (below_next e1 e2) e3) e4
  go_enter Try.func19, Try.ntmps19
  go_wp2_with fail
  exact bodyPost_ret (v := .tuple #[.agg #[.int .i64 0, .int .i64 0, .int .i64 0], .agg #[.int .i64 0, .int .i64 0, .int .i64 0], .agg #[.int .i64 0, .int .i64 0, .int .i64 0], .bool false]) (by simp [results, Try.results19, go_sem, A0.c0, A0.c1, A0.c2, B0.c0, B0.c1, B0.c2, C0.c0, C0.c1, C0.c2]) rfl ⟨rfl, HB0⟩
set_option maxRecDepth 100000 in
theorem corn_bad3 (a b : Option Addr) (n k cap cap' : Nat) (f g : Nat → V) (w : World) (SA : Sx a n f w) (SB : Sx b k g w) (i : Int) (hi : 0 ≤ i) (hk : i < k) (hp : pcheck n k f g ≠ 0) :
    Calls Try.prog 19 #[.agg #[.slice a n cap, .slice b k cap'], .int .i64 i] w fun e w' => e = .returned (.tuple #[.agg #[.int .i64 0, .int .i64 0, .int .i64 0], .agg #[.int .i64 0, .int .i64 0, .int .i64 0], .agg #[.int .i64 0, .int .i64 0, .int .i64 0], .bool false]) ∧ Below w.heap.size w w' := by
  obtain ⟨r, hr, h0⟩ : ∃ r, r = pcheck n k f g ∧ (r != 0) = true := ⟨_, rfl, by simpa using hp⟩
  have HR := Lib.hid hr
  clear hr hp
  have d1 : decide (i < 0) = false := by simpa using hi
  have d2 : decide ((k : Int) ≤ i) = false := by simpa using hk
  go_enter Try.func19, Try.ntmps19
  go_wp2_with fail
  have e1 := below_alloc w (.cells #[.slice a n cap, .slice b k cap'] 25)
  have e2 := below_alloc (w.alloc (.cells #[.slice a n cap, .slice b k cap'] 25)) (.cells #[.int .i64 0, .int .i64 0, .int .i64 0] 36)
  have e3 := below_alloc ((w.alloc (.cells #[.slice a n cap, .slice b k cap'] 25)).alloc (.cells #[.int .i64 0, .int .i64 0, .int .i64 0] 36)) (.cells #[.int .i64 0, .int .i64 0, .int .i64 0] 36)
  have e4 := below_alloc (((w.alloc (.cells #[.slice a n cap, .slice b k cap'] 25)).alloc (.cells #[.int .i64 0, .int .i64 0, .int .i64 0] 36)).alloc (.cells #[.int .i64 0, .int .i64 0, .int .i64 0] 36)) (.cells #[.int .i64 0, .int .i64 0, .int .i64 0] 36)
  have M0 := (((Mb.new w (.slice a n cap) (.slice b k cap')).next e2).next e3).next e4
  have A0 := ((At.newAt (b := w.heap.size + 1) (w.alloc (.cells #[.slice a n cap, .slice b k cap'] 25)) 0 0 0 (by simp)).next e3).next e4
  have B0 := (At.newAt (b := w.heap.size + 1 + 1) ((w.alloc (.cells #[.slice a n cap, .slice b k cap'] 25)).alloc (.cells #[.int .i64 0, .int .i64 0, .int .i64 0] 36)) 0 0 0 (by simp)).next e4
  have C0 := At.newAt (b := w.heap.size + 1 + 1 + 1) (((w.alloc (.cells #[.slice a n cap, .slice b k cap'] 25)).alloc (.cells #[.int .i64 0, .int .i64 0, .int .i64 0] 36)).alloc (.cells #[.int .i64 0, .int .i64 0, .int .i64 0] 36)) 0 0 0 (by simp)
  have HB0 := below_next (below_next (below_next e1 e2) e3) e4
  refine (check_aux a b n k cap cap' f g _ (SA.next HB0) (SB.next HB0) r HR.out).mono ?_
  rintro e w1 ⟨rfl, hb1⟩
  have M1 := M0.next hb1
  have A1 := A0.next hb1
  have B1 := B0.next hb1
  have C1 := C0.next hb1
  have HB1 := below_next HB0 hb1
  clear e1 e2 e3 e4 M0 A0 B0 C0 HB0 hb1
  have m1 := M1.c1
  have a0 := A1.c0
  have a1 := A1.c1
  have a2 := A1.c2
  have b00 := B1.c0
  have b01 := B1.c1
  have b02 := B1.c2
  have c0 := C1.c0
  have c1 := C1.c1
  have c2 := C1.c2
  have fa := A1.f
  have fb := B1.f
  have fc := C1.f
  have h7 : w.heap.size ≠ w.heap.size + 1 + 1 := by omega
  have h8 : w.heap.size ≠ w.heap.size + 1 + 1 + 1 := by omega
  have h9 : w.heap.size + 1 ≠ w.heap.size + 1 + 1 + 1 := by omega
  have h7' := h7.symm
  have h8' := h8.symm
  have h9' := h9.symm
  go_wp2_with fail
  clear a0 a1 a2 b00 b01 b02 c0 c1 c2
  have AA := (((((((((A1.set0 0).set1 0).set2 0).other ⟨w.heap.size + 1 + 1, 0, none⟩ (.int .i64 0) (by dsimp only; omega)).other ⟨w.heap.size + 1 + 1, 1, none⟩ (.int .i64 0) (by dsimp only; omega)).other ⟨w.heap.size + 1 + 1, 2, none⟩ (.int .i64 0) (by dsimp only; omega)).other ⟨w.heap.size + 1 + 1 + 1, 0, none⟩ (.int .i64 0) (by dsimp only; omega)).other ⟨w.heap.size + 1 + 1 + 1, 1, none⟩ (.int .i64 0) (by dsimp only; omega)).other ⟨w.heap.size + 1 + 1 + 1, 2, none⟩ (.int .i64 0) (by dsimp only; omega))
  have BB := (((((((((B1.other ⟨w.heap.size + 1, 0, none⟩ (.int .i64 0) (by dsimp only; omega)).other ⟨w.heap.size + 1, 1, none⟩ (.int .i64 0) (by dsimp only; omega)).other ⟨w.heap.size + 1, 2, none⟩ (.int .i64 0) (by dsimp only; omega)).set0 0).set1 0).set2 0).other ⟨w.heap.size + 1 + 1 + 1, 0, none⟩ (.int .i64 0) (by dsimp only; omega)).other ⟨w.heap.size + 1 + 1 + 1, 1, none⟩ (.int .i64 0) (by dsimp only; omega)).other ⟨w.heap.size + 1 + 1 + 1, 2, none⟩ (.int .i64 0) (by dsimp only; omega))
  have CC := (((((((((C1.other ⟨w.heap.size + 1, 0, none⟩ (.int .i64 0) (by dsimp only; omega)).other ⟨w.heap.size + 1, 1, none⟩ (.int .i64 0) (by dsimp only; omega)).other ⟨w.heap.size + 1, 2, none⟩ (.int .i64 0) (by dsimp only; omega)).other ⟨w.heap.size + 1 + 1, 0, none⟩ (.int .i64 0) (by dsimp only; omega)).other ⟨w.heap.size + 1 + 1, 1, none⟩ (.int .i64 0) (by dsimp only; omega)).other ⟨w.heap.size + 1 + 1, 2, none⟩ (.int .i64 0) (by dsimp only; omega)).set0 0).set1 0).set2 0)
  exact bodyPost_ret (v := .tuple #[.agg #[.int .i64 0, .int .i64 0, .int .i64 0], .agg #[.int .i64 0, .int .i64 0, .int .i64 0], .agg #[.int .i64 0, .int .i64 0, .int .i64 0], .bool false])
    (by
      have a0 := AA.c0
      have a1 := AA.c1
      have a2 := AA.c2
      have b0 := BB.c0
      have b1 := BB.c1
      have b2 := BB.c2
      have c0 := CC.c0
      have c1 := CC.c1
      have c2 := CC.c2
      simp [results, Try.results19, go_sem, a0, a1, a2, b0, b1, b2, c0, c1, c2]) rfl ⟨rfl, (((((((((HB1.setCell (p := ⟨w.heap.size + 1, 0, none⟩) (by dsimp only; omega) (.int .i64 0)).setCell (p := ⟨w.heap.size + 1, 1, none⟩) (by dsimp only; omega) (.int .i64 0)).setCell (p := ⟨w.heap.size + 1, 2, none⟩) (by dsimp only; omega) (.int .i64 0)).setCell (p := ⟨w.heap.size + 1 + 1, 0, none⟩) (by dsimp only; omega) (.int .i64 0)).setCell (p := ⟨w.heap.size + 1 + 1, 1, none⟩) (by dsimp only; omega) (.int .i64 0)).setCell (p := ⟨w.heap.size + 1 + 1, 2, none⟩) (by dsimp only; omega) (.int .i64 0)).setCell (p := ⟨w.heap.size + 1 + 1 + 1, 0, none⟩) (by dsimp only; omega) (.int .i64 0)).setCell (p := ⟨w.heap.size + 1 + 1 + 1, 1, none⟩) (by dsimp only; omega) (.int .i64 0)).setCell (p := ⟨w.heap.size + 1 + 1 + 1, 2, none⟩) (by dsimp only; omega) (.int .i64 0))⟩
set_option maxRecDepth 100000 in
theorem corn_bad3r (a b : Option Addr) (n k cap cap' : Nat) (f g : Nat → V) (w : World) (SA : Sx a n f w) (SB : Sx b k g w) (i : Int) (hp : pcheck n k f g ≠ 0) :
    Calls Try.prog 20 #[.agg #[.slice a n cap, .slice b k cap'], .int .i64 i] w fun e w' => e = .returned (.tuple #[.agg #[.int .i64 0, .int .i64 0, .int .i64 0], .agg #[.int .i64 0, .int .i64 0, .int .i64 0], .agg #[.int .i64 0, .int .i64 0, .int .i64 0], .bool false]) ∧ Below w.heap.size w w' := by
  obtain ⟨r, hr, h0⟩ : ∃ r, r = pcheck n k f g ∧ (r != 0) = true := ⟨_, rfl, by simpa using hp⟩
  have HR := Lib.hid hr
  clear hr hp
  go_enter Try.func20, Try.ntmps20
  go_wp2_with fail
  have e1 := below_alloc w (.cells #[.slice a n cap, .slice b k cap'] 25)
  have e2 := below_alloc (w.alloc (.cells #[.slice a n cap, .slice b k cap'] 25)) (.cells #[.int .i64 0, .int .i64 0, .int .i64 0] 36)
  have e3 := below_alloc ((w.alloc (.cells #[.slice a n cap, .slice b k cap'] 25)).alloc (.cells #[.int .i64 0, .int .i64 0, .int .i64 0] 36)) (.cells #[.int .i64 0, .int .i64 0, .int .i64 0] 36)
  have e4 := below_alloc (((w.alloc (.cells #[.slice a n cap, .slice b k cap'] 25)).alloc (.cells #[.int .i64 0, .int .i64 0, .int .i64 0] 36)).alloc (.cells #[.int .i64 0, .int .i64 0, .int .i64 0] 36)) (.cells #[.int .i64 0, .int .i64 0, .int .i64 0] 36)
  have M0 := (((Mb.new w (.slice a n cap) (.slice b k cap')).next e2).next e3).next e4
  have A0 := ((At.newAt (b := w.heap.size + 1) (w.alloc (.cells #[.slice a n cap, .slice b k cap'] 25)) 0 0 0 (by simp)).next e3).next e4
  have B0 := (At.newAt (b := w.heap.size + 1 + 1) ((w.alloc (.cells #[.slice a n cap, .slice b k cap'] 25)).alloc (.cells #[.int .i64 0, .int .i64 0, .int .i64 0] 36)) 0 0 0 (by simp)).next e4
  have C0 := At.newAt (b := w.heap.size + 1 + 1 + 1) (((w.alloc (.cells #[.slice a n cap, .slice b k cap'] 25)).alloc (.cells #[.int .i64 0, .int .i64 0, .int .i64 0] 36)).alloc (.cells #[.int .i64 0, .int .i64 0, .int .i64 0] 36)) 0 0 0 (by simp)
  have HB0 := below_next (below_next (below_next e1 e2) e3) e4
  refine (check_auxr a b n k cap cap' f g _ (SA.next HB0) (SB.next HB0) r HR.out).mono ?_
  rintro e w1 ⟨rfl, hb1⟩
  have M1 := M0.next hb1
  have A1 := A0.next hb1
  have B1 := B0.next hb1
  have C1 := C0.next hb1
  have HB1 := below_next HB0 hb1
  clear e1 e2 e3 e4 M0 A0 B0 C0 HB0 hb1
  have m1 := M1.c1
  have a0 := A1.c0
  have a1 := A1.c1
  have a2 := A1.c2
  have b00 := B1.c0
  have b01 := B1.c1
  have b02 := B1.c2
  have c0 := C1.c0
  have c1 := C1.c1
  have c2 := C1.c2
  have fa := A1.f
  have fb := B1.f
  have fc := C1.f
  have h7 : w.heap.size ≠ w.heap.size + 1 + 1 := by omega
  have h8 : w.heap.size ≠ w.heap.size + 1 + 1 + 1 := by omega
  have h9 : w.heap.size + 1 ≠ w.heap.size + 1 + 1 + 1 := by omega
  have h7' := h7.symm
  have h8' := h8.symm
  have h9' := h9.symm
  go_wp2_with fail
  clear a0 a1 a2 b00 b01 b02 c0 c1 c2
  have AA := (((((((((A1.set0 0).set1 0).set2 0).other ⟨w.heap.size + 1 + 1, 0, none⟩ (.int .i64 0) (by dsimp only; omega)).other ⟨w.heap.size + 1 + 1, 1, none⟩ (.int .i64 0) (by dsimp only; omega)).other ⟨w.heap.size + 1 + 1, 2, none⟩ (.int .i64 0) (by dsimp only; omega)).other ⟨w.heap.size + 1 + 1 + 1, 0, none⟩ (.int .i64 0) (by dsimp only; omega)).other ⟨w.heap.size + 1 + 1 + 1, 1, none⟩ (.int .i64 0) (by dsimp only; omega)).other ⟨w.heap.size + 1 + 1 + 1, 2, none⟩ (.int .i64 0) (by dsimp only; omega))
  have BB := (((((((((B1.other ⟨w.heap.size + 1, 0, none⟩ (.int .i64 0) (by dsimp only; omega)).other ⟨w.heap.size + 1, 1, none⟩ (.int .i64 0) (by dsimp only; omega)).other ⟨w.heap.size + 1, 2, none⟩ (.int .i64 0) (by dsimp only; omega)).set0 0).set1 0).set2 0).other ⟨w.heap.size + 1 + 1 + 1, 0, none⟩ (.int .i64 0) (by dsimp only; omega)).other ⟨w.heap.size + 1 + 1 + 1, 1, none⟩ (.int .i64 0) (by dsimp only; omega)).other ⟨w.heap.size + 1 + 1 + 1, 2, none⟩ (.int .i64 0) (by dsimp only; omega))
  have CC := (((((((((C1.other ⟨w.heap.size + 1, 0, none⟩ (.int .i64 0) (by dsimp only; omega)).other ⟨w.heap.size + 1, 1, none⟩ (.int .i64 0) (by dsimp only; omega)).other ⟨w.heap.size + 1, 2, none⟩ (.int .i64 0) (by dsimp only; omega)).other ⟨w.heap.size + 1 + 1, 0, none⟩ (.int .i64 0) (by dsimp only; omega)).other ⟨w.heap.size + 1 + 1, 1, none⟩ (.int .i64 0) (by dsimp only; omega)).other ⟨w.heap.size + 1 + 1, 2, none⟩ (.int .i64 0) (by dsimp only; omega)).set0 0).set1 0).set2 0)
  exact bodyPost_ret (v := .tuple #[.agg #[.int .i64 0, .int .i64 0, .int .i64 0], .agg #[.int .i64 0, .int .i64 0, .int .i64 0], .agg #[.int .i64 0, .int .i64 0, .int .i64 0], .bool false])
    (by
      have a0 := AA.c0
      have a1 := AA.c1
      have a2 := AA.c2
      have b0 := BB.c0
      have b1 := BB.c1
      have b2 := BB.c2
      have c0 := CC.c0
      have c1 := CC.c1
      have c2 := CC.c2
      simp [results, Try.results20, go_sem, a0, a1, a2, b0, b1, b2, c0, c1, c2]) rfl ⟨rfl, (((((((((HB1.setCell (p := ⟨w.heap.size + 1, 0, none⟩) (by dsimp only; omega) (.int .i64 0)).setCell (p := ⟨w.heap.size + 1, 1, none⟩) (by dsimp only; omega) (.int .i64 0)).setCell (p := ⟨w.heap.size + 1, 2, none⟩) (by dsimp only; omega) (.int .i64 0)).setCell (p := ⟨w.heap.size + 1 + 1, 0, none⟩) (by dsimp only; omega) (.int .i64 0)).setCell (p := ⟨w.heap.size + 1 + 1, 1, none⟩) (by dsimp only; omega) (.int .i64 0)).setCell (p := ⟨w.heap.size + 1 + 1, 2, none⟩) (by dsimp only; omega) (.int .i64 0)).setCell (p := ⟨w.heap.size + 1 + 1 + 1, 0, none⟩) (by dsimp only; omega) (.int .i64 0)).setCell (p := ⟨w.heap.size + 1 + 1 + 1, 1, none⟩) (by dsimp only; omega) (.int .i64 0)).setCell (p := ⟨w.heap.size + 1 + 1 + 1, 2, none⟩) (by dsimp only; omega) (.int .i64 0))⟩
set_option maxRecDepth 100000 in
theorem corn_bad1r (a b : Option Addr) (n k cap cap' : Nat) (f g : Nat → V) (w : World) (SA : Sx a n f w) (SB : Sx b k g w) (i : Int) (hi : i < 0) (hp : pcheck n k f g = 0) :
    Calls Try.prog 20 #[.agg #[.slice a n cap, .slice b k cap'], .int .i64 i] w fun e w' => e = .returned (.tuple #[.agg #[.int .i64 0, .int .i64 0, .int .i64 0], .agg #[.int .i64 0, .int .i64 0, .int .i64 0], .agg #[.int .i64 0, .int .i64 0, .int .i64 0], .bool false]) ∧ Below w.heap.size w w' := by
  obtain ⟨r, hr, rfl⟩ : ∃ r, r = pcheck n k f g ∧ r = 0 := ⟨_, rfl, hp⟩
  have HR := Lib.hid hr
  clear hr hp
  have d1 : decide (i < 0) = true := by simpa using hi
  go_enter Try.func20, Try.ntmps20
  go_wp2_with fail
  have e1 := below_alloc w (.cells #[.slice a n cap, .slice b k cap'] 25)
  have e2 := below_alloc (w.alloc (.cells #[.slice a n cap, .slice b k cap'] 25)) (.cells #[.int .i64 0, .int .i64 0, .int .i64 0] 36)
  have e3 := below_alloc ((w.alloc (.cells #[.slice a n cap, .slice b k cap'] 25)).alloc (.cells #[.int .i64 0, .int .i64 0, .int .i64 0] 36)) (.cells #[.int .i64 0, .int .i64 0, .int .i64 0] 36)
  have e4 := below_alloc (((w.alloc (.cells #[.slice a n cap, .slice b k cap'] 25)).alloc (.cells #[.int .i64 0, .int .i64 0, .int .i64 0] 36)).alloc (.cells #[.int .i64 0, .int .i64 0, .int .i64 0] 36)) (.cells #[.int .i64 0, .int .i64 0, .int .i64 0] 36)
  have M0 := (((Mb.new w (.slice a n cap) (.slice b k cap')).next e2).next e3).next e4
  have A0 := ((At.newAt (b := w.heap.size + 1) (w.alloc (.cells #[.slice a n cap, .slice b k cap'] 25)) 0 0 0 (by simp)).next e3).next e4
  have B0 := (At.newAt (b := w.heap.size + 1 + 1) ((w.alloc (.cells #[.slice a n cap, .slice b k cap'] 25)).alloc (.cells #[.int .i64 0, .int .i64 0, .int .i64 0] 36)) 0 0 0 (by simp)).next e4
  have C0 := At.newAt (b := w.heap.size + 1 + 1 + 1) (((w.alloc (.cells #[.slice a n cap, .slice b k cap'] 25)).alloc (.cells #[.int .i64 0, .int .i64 0, .int .i64 0] 36)).alloc (.cells #[.int .i64 0, .int .i64 0, .int .i64 0] 36)) 0 0 0 (by simp)
  have HB0 := below_next (below_next (below_next e1 e2) e3) e4
  refine (check_auxr a b n k cap cap' f g _ (SA.next HB0) (SB.next HB0) 0 HR.out).mono ?_
  rintro e w1 ⟨rfl, hb1⟩
  have M1 := M0.next hb1
  have A1 := A0.next hb1
  have B1 := B0.next hb1
  have C1 := C0.next hb1
  have HB1 := below_next HB0 hb1
  clear e1 e2 e3 e4 M0 A0 B0 C0 HB0 hb1
  have m1 := M1.c1
  have a0 := A1.c0
  have a1 := A1.c1
  have a2 := A1.c2
  have b00 := B1.c0
  have b01 := B1.c1
  have b02 := B1.c2
  have c0 := C1.c0
  have c1 := C1.c1
  have c2 := C1.c2
  have fa := A1.f
  have fb := B1.f
  have fc := C1.f
  have h7 : w.heap.size ≠ w.heap.size + 1 + 1 := by omega
  have h8 : w.heap.size ≠ w.heap.size + 1 + 1 + 1 := by omega
  have h9 : w.heap.size + 1 ≠ w.heap.size + 1 + 1 + 1 := by omega
  have h7' := h7.symm
  have h8' := h8.symm
  have h9' := h9.symm
  go_wp2_with fail
  clear a0 a1 a2 b00 b01 b02 c0 c1 c2
  have AA := (((((((((A1.set0 0).set1 0).set2 0).other ⟨w.heap.size + 1 + 1, 0, none⟩ (.int .i64 0) (by dsimp only; omega)).other ⟨w.heap.size + 1 + 1, 1, none⟩ (.int .i64 0) (by dsimp only; omega)).other ⟨w.heap.size + 1 + 1, 2, none⟩ (.int .i64 0) (by dsimp only; omega)).other ⟨w.heap.size + 1 + 1 + 1, 0, none⟩ (.int .i64 0) (by dsimp only; omega)).other ⟨w.heap.size + 1 + 1 + 1, 1, none⟩ (.int .i64 0) (by dsimp only; omega)).other ⟨w.heap.size + 1 + 1 + 1, 2, none⟩ (.int .i64 0) (by dsimp only; omega))
  have BB := (((((((((B1.other ⟨w.heap.size + 1, 0, none⟩ (.int .i64 0) (by dsimp only; omega)).other ⟨w.heap.size + 1, 1, none⟩ (.int .i64 0) (by dsimp only; omega)).other ⟨w.heap.size + 1, 2, none⟩ (.int .i64 0) (by dsimp only; omega)).set0 0).set1 0).set2 0).other ⟨w.heap.size + 1 + 1 + 1, 0, none⟩ (.int .i64 0) (by dsimp only; omega)).other ⟨w.heap.size + 1 + 1 + 1, 1, none⟩ (.int .i64 0) (by dsimp only; omega)).other ⟨w.heap.size + 1 + 1 + 1, 2, none⟩ (.int .i64 0) (by dsimp only; omega))
  have CC := (((((((((C1.other ⟨w.heap.size + 1, 0, none⟩ (.int .i64 0) (by dsimp only; omega)).other ⟨w.heap.size + 1, 1, none⟩ (.int .i64 0) (by dsimp only; omega)).other ⟨w.heap.size + 1, 2, none⟩ (.int .i64 0) (by dsimp only; omega)).other ⟨w.heap.size + 1 + 1, 0, none⟩ (.int .i64 0) (by dsimp only; omega)).other ⟨w.heap.size + 1 + 1, 1, none⟩ (.int .i64 0) (by dsimp only; omega)).other ⟨w.heap.size + 1 + 1, 2, none⟩ (.int .i64 0) (by dsimp only; omega)).set0 0).set1 0).set2 0)
  exact bodyPost_ret (v := .tuple #[.agg #[.int .i64 0, .int .i64 0, .int .i64 0], .agg #[.int .i64 0, .int .i64 0, .int .i64 0], .agg #[.int .i64 0, .int .i64 0, .int .i64 0], .bool false])
    (by
      have a0 := AA.c0
      have a1 := AA.c1
      have a2 := AA.c2
      have b0 := BB.c0
      have b1 := BB.c1
      have b2 := BB.c2
      have c0 := CC.c0
      have c1 := CC.c1
      have c2 := CC.c2
      simp [results, Try.results20, go_sem, a0, a1, a2, b0, b1, b2, c0, c1, c2]) rfl ⟨rfl, (((((((((HB1.setCell (p := ⟨w.heap.size + 1, 0, none⟩) (by dsimp only; omega) (.int .i64 0)).setCell (p := ⟨w.heap.size + 1, 1, none⟩) (by dsimp only; omega) (.int .i64 0)).setCell (p := ⟨w.heap.size + 1, 2, none⟩) (by dsimp only; omega) (.int .i64 0)).setCell (p := ⟨w.heap.size + 1 + 1, 0, none⟩) (by dsimp only; omega) (.int .i64 0)).setCell (p := ⟨w.heap.size + 1 + 1, 1, none⟩) (by dsimp only; omega) (.int .i64 0)).setCell (p := ⟨w.heap.size + 1 + 1, 2, none⟩) (by dsimp only; omega) (.int .i64 0)).setCell (p := ⟨w.heap.size + 1 + 1 + 1, 0, none⟩) (by dsimp only; omega) (.int .i64 0)).setCell (p := ⟨w.heap.size + 1 + 1 + 1, 1, none⟩) (by dsimp only; omega) (.int .i64 0)).setCell (p := ⟨w.heap.size + 1 + 1 + 1, 2, none⟩) (by dsimp only; omega) (.int .i64 0))⟩
set_option maxRecDepth 100000 in
theorem corn_bad2r (a b : Option Addr) (n k cap cap' : Nat) (f g : Nat → V) (w : World) (SA : Sx a n f w) (SB : Sx b k g w) (i : Int) (hi : 0 ≤ i) (hk : (k : Int) ≤ i) (hp : pcheck n k f g = 0) :
    Calls Try.prog 20 #[.agg #[.slice a n cap, .slice b k cap'], .int .i64 i] w fun e w' => e = .returned (.tuple #[.agg #[.int .i64 0, .int .i64 0, .int .i64 0], .agg #[.int .i64 0, .int .i64 0, .int .i64 0], .agg #[.int .i64 0, .int .i64 0, .int .i64 0], .bool false]) ∧ Below w.heap.size w w' := by
  obtain ⟨r, hr, rfl⟩ : ∃ r, r = pcheck n k f g ∧ r = 0 := ⟨_, rfl, hp⟩
  have HR := Lib.hid hr
  clear hr hp
  have d1 : decide (i < 0) = false := by simpa using hi
  have d2 : decide ((k : Int) ≤ i) = true := by simpa using hk
  go_enter Try.func20, Try.ntmps20
  go_wp2_with fail
  have e1 := below_alloc w (.cells #[.slice a n cap, .slice b k cap'] 25)
  have e2 := below_alloc (w.alloc (.cells #[.slice a n cap, .slice b k cap'] 25)) (.cells #[.int .i64 0, .int .i64 0, .int .i64 0] 36)
  have e3 := below_alloc ((w.alloc (.cells #[.slice a n cap, .slice b k cap'] 25)).alloc (.cells #[.int .i64 0, .int .i64 0, .int .i64 0] 36)) (.cells #[.int .i64 0, .int .i64 0, .int .i64 0] 36)
  have e4 := below_alloc (((w.alloc (.cells #[.slice a n cap, .slice b k cap'] 25)).alloc (.cells #[.int .i64 0, .int .i64 0, .int .i64 0] 36)).alloc (.cells #[.int .i64 0, .int .i64 0, .int .i64 0] 36)) (.cells #[.int .i64 0, .int .i64 0, .int .i64 0] 36)
  have M0 := (((Mb.new w (.slice a n cap) (.slice b k cap')).next e2).next e3).next e4
  have A0 := ((At.newAt (b := w.heap.size + 1) (w.alloc (.cells #[.slice a n cap, .slice b k cap'] 25)) 0 0 0 (by simp)).next e3).next e4
  have B0 := (At.newAt (b := w.heap.size + 1 + 1) ((w.alloc (.cells #[.slice a n cap, .slice b k cap'] 25)).alloc (.cells #[.int .i64 0, .int .i64 0, .int .i64 0] 36)) 0 0 0 (by simp)).next e4
  have C0 := At.newAt (b := w.heap.size + 1 + 1 + 1) (((w.alloc (.cells #[.slice a n cap, .slice b k cap'] 25)).alloc (.cells #[.int .i64 0, .int .i64 0, .int .i64 0] 36)).alloc (.cells #[.int .i64 0, .int .i64 0, .int .i64 0] 36)) 0 0 0 (by simp)
  have HB0 := below_next (below_next (below_next e1 e2) e3) e4
  refine (check_auxr a b n k cap cap' f g _ (SA.next HB0) (SB.next HB0) 0 HR.out).mono ?_
  rintro e w1 ⟨rfl, hb1⟩
  have M1 := M0.next hb1
  have A1 := A0.next hb1
  have B1 := B0.next hb1
  have C1 := C0.next hb1
  have HB1 := below_next HB0 hb1
  clear e1 e2 e3 e4 M0 A0 B0 C0 HB0 hb1
  have m1 := M1.c1
  have a0 := A1.c0
  have a1 := A1.c1
  have a2 := A1.c2
  have b00 := B1.c0
  have b01 := B1.c1
  have b02 := B1.c2
  have c0 := C1.c0
  have c1 := C1.c1
  have c2 := C1.c2
  have fa := A1.f
  have fb := B1.f
  have fc := C1.f
  have h7 : w.heap.size ≠ w.heap.size + 1 + 1 := by omega
  have h8 : w.heap.size ≠ w.heap.size + 1 + 1 + 1 := by omega
  have h9 : w.heap.size + 1 ≠ w.heap.size + 1 + 1 + 1 := by omega
  have h7' := h7.symm
  have h8' := h8.symm
  have h9' := h9.symm
  go_wp2_with fail
  clear a0 a1 a2 b00 b01 b02 c0 c1 c2
  have AA := (((((((((A1.set0 0).set1 0).set2 0).other ⟨w.heap.size + 1 + 1, 0, none⟩ (.int .i64 0) (by dsimp only; omega)).other ⟨w.heap.size + 1 + 1, 1, none⟩ (.int .i64 0) (by dsimp only; omega)).other ⟨w.heap.size + 1 + 1, 2, none⟩ (.int .i64 0) (by dsimp only; omega)).other ⟨w.heap.size + 1 + 1 + 1, 0, none⟩ (.int .i64 0) (by dsimp only; omega)).other ⟨w.heap.size + 1 + 1 + 1, 1, none⟩ (.int .i64 0) (by dsimp only; omega)).other ⟨w.heap.size + 1 + 1 + 1, 2, none⟩ (.int .i64 0) (by dsimp only; omega))
  have BB := (((((((((B1.other ⟨w.heap.size + 1, 0, none⟩ (.int .i64 0) (by dsimp only; omega)).other ⟨w.heap.size + 1, 1, none⟩ (.int .i64 0) (by dsimp only; omega)).other ⟨w.heap.size + 1, 2, none⟩ (.int .i64 0) (by dsimp only; omega)).set0 0).set1 0).set2 0).other ⟨w.heap.size + 1 + 1 + 1, 0, none⟩ (.int .i64 0) (by dsimp only; omega)).other ⟨w.heap.size + 1 + 1 + 1, 1, none⟩ (.int .i64 0) (by dsimp only; omega)).other ⟨w.heap.size + 1 + 1 + 1, 2, none⟩ (.int .i64 0) (by dsimp only; omega))
  have CC := (((((((((C1.other ⟨w.heap.size + 1, 0, none⟩ (.int .i64 0) (by dsimp only; omega)).other ⟨w.heap.size + 1, 1, none⟩ (.int .i64 0) (by dsimp only; omega)).other ⟨w.heap.size + 1, 2, none⟩ (.int .i64 0) (by dsimp only; omega)).other ⟨w.heap.size + 1 + 1, 0, none⟩ (.int .i64 0) (by dsimp only; omega)).other ⟨w.heap.size + 1 + 1, 1, none⟩ (.int .i64 0) (by dsimp only; omega)).other ⟨w.heap.size + 1 + 1, 2, none⟩ (.int .i64 0) (by dsimp only; omega)).set0 0).set1 0).set2 0)
  exact bodyPost_ret (v := .tuple #[.agg #[.int .i64 0, .int .i64 0, .int .i64 0], .agg #[.int .i64 0, .int .i64 0, .int .i64 0], .agg #[.int .i64 0, .int .i64 0, .int .i64 0], .bool false])
    (by
      have a0 := AA.c0
      have a1 := AA.c1
      have a2 := AA.c2
      have b0 := BB.c0
      have b1 := BB.c1
      have b2 := BB.c2
      have c0 := CC.c0
      have c1 := CC.c1
      have c2 := CC.c2
      simp [results, Try.results20, go_sem, a0, a1, a2, b0, b1, b2, c0, c1, c2]) rfl ⟨rfl, (((((((((HB1.setCell (p := ⟨w.heap.size + 1, 0, none⟩) (by dsimp only; omega) (.int .i64 0)).setCell (p := ⟨w.heap.size + 1, 1, none⟩) (by dsimp only; omega) (.int .i64 0)).setCell (p := ⟨w.heap.size + 1, 2, none⟩) (by dsimp only; omega) (.int .i64 0)).setCell (p := ⟨w.heap.size + 1 + 1, 0, none⟩) (by dsimp only; omega) (.int .i64 0)).setCell (p := ⟨w.heap.size + 1 + 1, 1, none⟩) (by dsimp only; omega) (.int .i64 0)).setCell (p := ⟨w.heap.size + 1 + 1, 2, none⟩) (by dsimp only; omega) (.int .i64 0)).setCell (p := ⟨w.heap.size + 1 + 1 + 1, 0, none⟩) (by dsimp only; omega) (.int .i64 0)).setCell (p := ⟨w.heap.size + 1 + 1 + 1, 1, none⟩) (by dsimp only; omega) (.int .i64 0)).setCell (p := ⟨w.heap.size + 1 + 1 + 1, 2, none⟩) (by dsimp only; omega) (.int .i64 0))⟩

theorem pcheck_all' {n k : Nat} {f g : Nat → V} (h : pcheck n k f g = 0) : n ≤ 4096 ∧ k ≤ 4096 ∧ AllV n f ∧ AllT n k g := pcheck_all h
/-- The corners of a triangle. -/
def pcorn (n k : Nat) (f g : Nat → V) (i : Int) : V × V × V × Bool :=
  if pcheck n k f g = 0 ∧ 0 ≤ i ∧ i < k then (cor f (g i.toNat).x, cor f (g i.toNat).y, cor f (g i.toNat).z, true) else (⟨0, 0, 0⟩, ⟨0, 0, 0⟩, ⟨0, 0, 0⟩, false)
theorem corn_any (a b : Option Addr) (n k cap cap' : Nat) (f g : Nat → V) (w : World) (SA : Sx a n f w) (SB : Sx b k g w) (i : Int) (x y z : V) (r : Bool) (hr : pcorn n k f g i = (x, y, z, r)) :
    Calls Try.prog 19 #[.agg #[.slice a n cap, .slice b k cap'], .int .i64 i] w fun e w' => e = .returned (.tuple #[.agg #[.int .i64 x.x, .int .i64 x.y, .int .i64 x.z], .agg #[.int .i64 y.x, .int .i64 y.y, .int .i64 y.z], .agg #[.int .i64 z.x, .int .i64 z.y, .int .i64 z.z], .bool r]) ∧ Below w.heap.size w w' := by
  by_cases hc : pcheck n k f g = 0 ∧ 0 ≤ i ∧ i < k
  · rw [show pcorn n k f g i = _ from if_pos hc] at hr
    obtain ⟨hp, h0, h1⟩ := hc
    obtain ⟨j, rfl⟩ : ∃ j : Nat, i = j := ⟨i.toNat, by omega⟩
    have hj : j < k := by omega
    have tri := (pcheck_all hp).2.2.2 j hj
    unfold TriOk at tri
    simp only [Int.toNat_natCast, Prod.mk.injEq] at hr
    obtain ⟨rfl, rfl, rfl, rfl⟩ := hr
    exact corn_okn a b n k cap cap' f g w SA SB j hj hp (pcheck_all hp).2.1 (pcheck_all hp).1 (g j).x.toNat (g j).y.toNat (g j).z.toNat (by omega) (by omega) (by omega) (by omega) (by omega) (by omega)
  · rw [show pcorn n k f g i = _ from if_neg hc] at hr
    simp only [Prod.mk.injEq] at hr
    obtain ⟨rfl, rfl, rfl, rfl⟩ := hr
    by_cases h0 : 0 ≤ i
    · by_cases h1 : i < k
      · have hp : pcheck n k f g ≠ 0 := fun h => hc ⟨h, h0, h1⟩
        exact corn_bad3 a b n k cap cap' f g w SA SB i h0 h1 hp
      · exact corn_bad2 a b n k cap cap' f g w SA SB i h0 (by omega)
    · exact corn_bad1 a b n k cap cap' f g w SA SB i (by omega)
theorem corn_anyr (a b : Option Addr) (n k cap cap' : Nat) (f g : Nat → V) (w : World) (SA : Sx a n f w) (SB : Sx b k g w) (i : Int) (x y z : V) (r : Bool) (hr : pcorn n k f g i = (x, y, z, r)) :
    Calls Try.prog 20 #[.agg #[.slice a n cap, .slice b k cap'], .int .i64 i] w fun e w' => e = .returned (.tuple #[.agg #[.int .i64 x.x, .int .i64 x.y, .int .i64 x.z], .agg #[.int .i64 y.x, .int .i64 y.y, .int .i64 y.z], .agg #[.int .i64 z.x, .int .i64 z.y, .int .i64 z.z], .bool r]) ∧ Below w.heap.size w w' := by
  by_cases hc : pcheck n k f g = 0 ∧ 0 ≤ i ∧ i < k
  · rw [show pcorn n k f g i = _ from if_pos hc] at hr
    obtain ⟨hp, h0, h1⟩ := hc
    obtain ⟨j, rfl⟩ : ∃ j : Nat, i = j := ⟨i.toNat, by omega⟩
    have hj : j < k := by omega
    have tri := (pcheck_all hp).2.2.2 j hj
    unfold TriOk at tri
    simp only [Int.toNat_natCast, Prod.mk.injEq] at hr
    obtain ⟨rfl, rfl, rfl, rfl⟩ := hr
    exact corn_oknr a b n k cap cap' f g w SA SB j hj hp (pcheck_all hp).2.1 (pcheck_all hp).1 (g j).x.toNat (g j).y.toNat (g j).z.toNat (by omega) (by omega) (by omega) (by omega) (by omega) (by omega)
  · rw [show pcorn n k f g i = _ from if_neg hc] at hr
    simp only [Prod.mk.injEq] at hr
    obtain ⟨rfl, rfl, rfl, rfl⟩ := hr
    by_cases hp : pcheck n k f g = 0
    · by_cases h0 : 0 ≤ i
      · exact corn_bad2r a b n k cap cap' f g w SA SB i h0 (by omega) hp
      · exact corn_bad1r a b n k cap cap' f g w SA SB i (by omega) hp
    · exact corn_bad3r a b n k cap cap' f g w SA SB i hp
end Go.Proofs.Ytcfglmamocdkeaa
