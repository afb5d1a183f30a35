/- awake. -/
import Derived.Test.YtffmmfeedfdlaaaRevd
namespace Go.Proofs.Ytffmmfeedfdlaaa
open Go.ChangeShapes Go.WideShapes Go.ChangeAt Go.RowKit
set_option linter.unusedVariables false

theorem ll1 {w : World} {b : Nat} {g : Pg} {fr : Nat × Nat} (h : w.heap[b]? = some (.cells #[.slice g.a g.n g.c] 33 fr)) (hp : Pl g.a g.n g.f w) : Ll (some ⟨b, 0, none⟩) 1 (fun _ => g) w :=
  .inr ⟨b, 0, rfl, lt_of_row h, fun i hi => by
    obtain rfl : i = 0 := by omega
    exact ⟨cell_of_row _ _ _ _ _ _ h, hp⟩⟩
def two (g g' : Pg) (i : Nat) : Pg := if i = 0 then g else g'
theorem ll2 {w : World} {b : Nat} {g g' : Pg} (h : w.heap[b]? = some (.cells #[.slice g.a g.n g.c, .slice g'.a g'.n g'.c] 33 (0, 0))) (hp : Pl g.a g.n g.f w) (hp' : Pl g'.a g'.n g'.f w) : Ll (some ⟨b, 0, none⟩) 2 (two g g') w :=
  .inr ⟨b, 0, rfl, lt_of_row h, fun i hi => by
    obtain rfl | rfl : i = 0 ∨ i = 1 := by omega
    · exact ⟨cell_of_row _ _ _ _ _ _ h, hp⟩
    · exact ⟨cell_of_row _ _ _ _ _ _ h, hp'⟩⟩
theorem areas_is (a : Option Addr) (N c : Nat) (L : Nat → Pg) (w : World) (S : Ll a N L w) (hN : N ≤ 1000) (hT : tot L N ≤ 4000) (v : Int) (hv : pal L N = v) :
    Calls Try.prog 13 #[.slice a N c] w fun e w' => e = .returned (.int .i64 v) ∧ Below w.heap.size w w' := hv ▸ areas_any a N c L w S hN hT
theorem areas_isr (a : Option Addr) (N c : Nat) (L : Nat → Pg) (w : World) (S : Ll a N L w) (hN : N ≤ 1000) (hT : tot L N ≤ 4000) (v : Int) (hv : pal L N = v) :
    Calls Try.prog 14 #[.slice a N c] w fun e w' => e = .returned (.int .i64 v) ∧ Below w.heap.size w w' := hv ▸ areas_anyr a N c L w S hN hT
theorem pl_at {a : Option Addr} {n : Nat} {f : Nat → P} {w w' : World} (h : Pl a n f w) (hb : Below w.heap.size w w') : Pl a n f w' := h.next hb

def sg (a : Option Addr) (c : Nat) : Pg := ⟨a, 4, c, sf⟩
def sr (a : Option Addr) (c : Nat) : Pg := ⟨a, 4, c, fun i => sf (4 - 1 - i)⟩
theorem val1 (a : Option Addr) (c : Nat) : wind 1 (fun _ => sg a c) ⟨1, 1⟩ = 1 := by kernel_rfl
theorem val2 (a : Option Addr) (c : Nat) : wind 1 (fun _ => sg a c) ⟨5, 1⟩ = 0 := by kernel_rfl
theorem val3 (a : Option Addr) (c : Nat) : wind 1 (fun _ => sg a c) ⟨0, 0⟩ = 1 := by kernel_rfl
theorem val4 (a : Option Addr) (c : Nat) : wind 1 (fun _ => sg a c) ⟨4, 4⟩ = 0 := by kernel_rfl
theorem val5 (a : Option Addr) (c : Nat) : pal (fun _ => sg a c) 1 = 32 := by kernel_rfl
theorem val6 (a a' : Option Addr) (c c' : Nat) : wind 2 (two (sg a c) (sg a' c')) ⟨1, 1⟩ = 2 := by kernel_rfl
theorem val7 (a a' : Option Addr) (c c' : Nat) : wind 2 (two (sg a c) (sr a' c')) ⟨1, 1⟩ = 0 := by kernel_rfl

set_option maxRecDepth 100000 in
set_option maxHeartbeats 2000000 in
theorem awake_any (w : World) : Calls Try.prog 9 #[] w fun e w' => e = .returned (.bool true) ∧ Below w.heap.size w w' := by
  go_enter Try.func9, Try.ntmps9
  go_wp2_with fail
  refine (square_any _).mono ?_
  rintro e w1 ⟨a1, c1, rfl, P1, h1⟩
  go_wp2_with fail
  refine (square_any _).mono ?_
  rintro e w3 ⟨a2, c2, rfl, P2, h3⟩
  have s1 := below_alloc w1 (.cells #[.slice a1 4 c1] 33)
  have L1 : Ll (some ⟨w1.heap.size, 0, none⟩) 1 (fun _ => sg a1 c1) w3 := (ll1 (g := sg a1 c1) (heap_alloc_new w1 _) (P1.next s1)).next h3
  have HB := below_next (below_next h1 s1) h3
  clear P1 h1 s1 h3
  generalize w1.heap.size = B1 at L1 ⊢
  go_wp2_with fail
  refine (square_any _).mono ?_
  rintro e w4 ⟨a3, c3, rfl, P3, h4⟩
  replace L1 := L1.next h4
  replace HB := below_next HB h4
  replace P2 := P2.next h4
  clear h4
  go_wp2_with fail
  refine (square_any _).mono ?_
  rintro e w6 ⟨a4, c4, rfl, P4, h6⟩
  have s4 := below_alloc w4 (.cells #[.slice a2 4 c2, .slice a3 4 c3] 33)
  have L2 : Ll (some ⟨w4.heap.size, 0, none⟩) 2 (two (sg a2 c2) (sg a3 c3)) w6 := (ll2 (g := sg a2 c2) (g' := sg a3 c3) (heap_alloc_new w4 _) (P2.next s4) (P3.next s4)).next h6
  replace L1 := (L1.next s4).next h6
  replace HB := below_next (below_next HB s4) h6
  clear P2 P3 s4 h6
  generalize w4.heap.size = B2 at L2 ⊢
  go_wp2_with fail
  refine (square_any _).mono ?_
  rintro e w7 ⟨a5, c5, rfl, P5, h7⟩
  replace L1 := L1.next h7
  replace L2 := L2.next h7
  replace HB := below_next HB h7
  replace P4 := P4.next h7
  clear h7
  go_wp2_with fail
  refine (reversed_any a5 4 c5 sf _ P5 (by omega)).mono ?_
  rintro e w8 ⟨a6, c6, rfl, P6, h8⟩
  replace L1 := L1.next h8
  replace L2 := L2.next h8
  replace HB := below_next HB h8
  replace P4 := P4.next h8
  clear P5 h8
  have s8 := below_alloc w8 (.cells #[.slice a4 4 c4, .slice a6 4 c6] 33)
  have L3 : Ll (some ⟨w8.heap.size, 0, none⟩) 2 (two (sg a4 c4) (sr a6 c6)) _ := ll2 (g := sg a4 c4) (g' := sr a6 c6) (heap_alloc_new w8 _) (P4.next s8) (P6.next s8)
  replace L1 := L1.next s8
  replace L2 := L2.next s8
  replace HB := below_next HB s8
  clear P4 P6 s8
  have s9 := below_alloc (w8.alloc (.cells #[.slice a4 4 c4, .slice a6 4 c6] 33)) (.cells #[.int .i64 1, .int .i64 1] 24)
  have A := At.new (w8.alloc (.cells #[.slice a4 4 c4, .slice a6 4 c6] 33)) 1 1
  replace L1 := L1.next s9
  replace L2 := L2.next s9
  replace L3 := L3.next s9
  replace HB := below_next HB s9
  clear s9
  simp only [World.size_alloc] at A
  go_wp2_with fail
  generalize (w8.alloc (.cells #[.slice a4 4 c4, .slice a6 4 c6] 33)).alloc (.cells #[.int .i64 1, .int .i64 1] 24) = w9 at L1 L2 L3 HB A ⊢
  have p0 := A.c0
  have p1 := A.c1
  refine (wind_is _ 1 _ _ ⟨1, 1⟩ _ L1 (by omega) (by simp [tot, sg]) _ (val1 _ _)).mono ?_
  rintro e wc ⟨rfl, hb⟩
  replace L1 := L1.next hb
  replace L2 := L2.next hb
  replace L3 := L3.next hb
  replace HB := below_next HB hb
  replace A := A.next hb
  clear hb p0 p1
  have p0 := A.c0
  have p1 := A.c1
  go_wp2_with fail
  refine (wind_is _ 1 _ _ ⟨5, 1⟩ _ L1 (by omega) (by simp [tot, sg]) _ (val2 _ _)).mono ?_
  rintro e wc ⟨rfl, hb⟩
  replace L1 := L1.next hb
  replace L2 := L2.next hb
  replace L3 := L3.next hb
  replace HB := below_next HB hb
  replace A := A.next hb
  clear hb p0 p1
  have p0 := A.c0
  have p1 := A.c1
  go_wp2_with fail
  refine (wind_is _ 1 _ _ ⟨0, 0⟩ _ L1 (by omega) (by simp [tot, sg]) _ (val3 _ _)).mono ?_
  rintro e wc ⟨rfl, hb⟩
  replace L1 := L1.next hb
  replace L2 := L2.next hb
  replace L3 := L3.next hb
  replace HB := below_next HB hb
  replace A := A.next hb
  clear hb p0 p1
  have p0 := A.c0
  have p1 := A.c1
  go_wp2_with fail
  refine (wind_is _ 1 _ _ ⟨4, 4⟩ _ L1 (by omega) (by simp [tot, sg]) _ (val4 _ _)).mono ?_
  rintro e wc ⟨rfl, hb⟩
  replace L1 := L1.next hb
  replace L2 := L2.next hb
  replace L3 := L3.next hb
  replace HB := below_next HB hb
  replace A := A.next hb
  clear hb p0 p1
  have p0 := A.c0
  have p1 := A.c1
  go_wp2_with fail
  refine (areas_is _ 1 _ _ _ L1 (by omega) (by simp [tot, sg]) _ (val5 _ _)).mono ?_
  rintro e wc ⟨rfl, hb⟩
  replace L1 := L1.next hb
  replace L2 := L2.next hb
  replace L3 := L3.next hb
  replace HB := below_next HB hb
  replace A := A.next hb
  clear hb p0 p1
  have p0 := A.c0
  have p1 := A.c1
  go_wp2_with fail
  refine (wind_is _ 2 _ _ ⟨1, 1⟩ _ L2 (by omega) (by simp [tot, two, sg]) _ (val6 _ _ _ _)).mono ?_
  rintro e wc ⟨rfl, hb⟩
  replace L1 := L1.next hb
  replace L2 := L2.next hb
  replace L3 := L3.next hb
  replace HB := below_next HB hb
  replace A := A.next hb
  clear hb p0 p1
  have p0 := A.c0
  have p1 := A.c1
  go_wp2_with fail
  refine (wind_is _ 2 _ _ ⟨1, 1⟩ _ L3 (by omega) (by simp [tot, two, sg, sr]) _ (val7 _ _ _ _)).mono ?_
  rintro e wc ⟨rfl, hb⟩
  replace L1 := L1.next hb
  replace L2 := L2.next hb
  replace L3 := L3.next hb
  replace HB := below_next HB hb
  replace A := A.next hb
  clear hb p0 p1
  have p0 := A.c0
  have p1 := A.c1
  go_wp2_with fail
  refine (inside_is _ 1 _ _ ⟨1, 1⟩ _ L1 (by omega) (by simp [tot, sg]) _ (val1 _ _)).mono ?_
  rintro e wc ⟨rfl, hb⟩
  replace L1 := L1.next hb
  replace L2 := L2.next hb
  replace L3 := L3.next hb
  replace HB := below_next HB hb
  replace A := A.next hb
  clear hb p0 p1
  have p0 := A.c0
  have p1 := A.c1
  go_wp2_with fail
  refine (inside_is _ 2 _ _ ⟨1, 1⟩ _ L3 (by omega) (by simp [tot, two, sg, sr]) _ (val7 _ _ _ _)).mono ?_
  rintro e wc ⟨rfl, hb⟩
  replace L1 := L1.next hb
  replace L2 := L2.next hb
  replace L3 := L3.next hb
  replace HB := below_next HB hb
  replace A := A.next hb
  clear hb p0 p1
  have p0 := A.c0
  have p1 := A.c1
  go_wp2_with fail
  go_ret
  exact ⟨rfl, HB⟩
end Go.Proofs.Ytffmmfeedfdlaaa
