/- square and reversed. -/
import Derived.Test.YtffmmfeedfdlaaaOwn
import Derived.Deep.RegionHeld3
import Derived.Deep.DrawnRows
import Derived.Deep.RegionLaw
namespace Go.Proofs.Ytffmmfeedfdlaaa
open Go.ChangeShapes Go.WideShapes Go.ChangeAt Go.RowKit
set_option linter.unusedVariables false

theorem Bx.keep {B : Nat} {v : Value} {w w' : World} (h : Bx B v 33 w) (hk : KeepT 33 w w') : Bx B v 33 w' := ⟨hk _ _ _ h.row⟩
theorem Bx.set {B : Nat} {v : Value} {t : TypeId} {w : World} (h : Bx B v t w) (x : Value) : Bx B x t (w.setCell ⟨B, 0, none⟩ x) := ⟨by simp [World.setCell, Array.getElem?_modify, h.row]⟩
theorem Bx.other {B : Nat} {v : Value} {t : TypeId} {w : World} (h : Bx B v t w) (p : Addr) (x : Value) (hne : B ≠ p.block) : Bx B v t (w.setCell p x) := ⟨(Below.heap_setCell w p x B hne).trans h.row⟩
theorem Bx.f {B : Nat} {v : Value} {t : TypeId} {w : World} (h : Bx B v t w) (i : Nat) : w.frozen? ⟨B, i, none⟩ = false := by simp [World.frozen?, h.row]
theorem Bx.lt {B : Nat} {v : Value} {t : TypeId} {w : World} (h : Bx B v t w) : B < w.heap.size := lt_of_row h.row
theorem pl_one {w : World} {b : Nat} {x y : Int} {e : TypeId} (h : w.heap[b]? = some (Obj.cells #[.int .i64 x, .int .i64 y] e (0, 0))) : Pl (some ⟨b, 0, none⟩) 1 (fun _ => ⟨x, y⟩) w :=
  .inr ⟨b, 0, rfl, lt_of_row h, fun i hi => by
    obtain rfl : i = 0 := by omega
    exact ⟨cell_of_row _ _ _ _ _ _ h, cell_of_row _ _ _ _ _ _ h⟩⟩

/-- A polygon is returned. -/
def RetP (w : World) (n : Nat) (f : Nat → P) (e : Ending) (w' : World) : Prop :=
  ∃ a c, e = .returned (.agg #[.slice a n c]) ∧ Pl a n f w' ∧ Below w.heap.size w w'
def sf : Nat → P | 0 => ⟨0, 0⟩ | 1 => ⟨4, 0⟩ | 2 => ⟨4, 4⟩ | _ => ⟨0, 4⟩
theorem square_any (w : World) : Calls Try.prog 17 #[] w (RetP w 4 sf) := by
  go_enter Try.func17, Try.ntmps17
  go_wp2_with fail
  have b1 := below_alloc w (.cells #[.slice (some ⟨w.heap.size + 1, 0, none⟩) 4 4] 33)
  have M := Bx.new w (.slice (some ⟨w.heap.size + 1, 0, none⟩) 4 4) 33
  generalize hw1 : w.alloc (.cells #[.slice (some ⟨w.heap.size + 1, 0, none⟩) 4 4] 33) = w1 at b1 M ⊢
  have hs : w1.heap.size = w.heap.size + 1 := by rw [← hw1]; simp
  have b2 := below_alloc w1 (.cells #[.int .i64 0, .int .i64 0, .int .i64 4, .int .i64 0, .int .i64 4, .int .i64 4, .int .i64 0, .int .i64 4] 24)
  have A : Pl (some ⟨w1.heap.size, 0, none⟩) 4 sf (w1.alloc (.cells #[.int .i64 0, .int .i64 0, .int .i64 4, .int .i64 0, .int .i64 4, .int .i64 4, .int .i64 0, .int .i64 4] 24)) :=
    .inr ⟨_, 0, rfl, by simp, fun i hi => by
      have h := heap_alloc_new w1 (.cells #[.int .i64 0, .int .i64 0, .int .i64 4, .int .i64 0, .int .i64 4, .int .i64 4, .int .i64 0, .int .i64 4] 24)
      obtain rfl | rfl | rfl | rfl : i = 0 ∨ i = 1 ∨ i = 2 ∨ i = 3 := by omega
      all_goals exact ⟨cell_of_row _ _ _ _ _ _ h, cell_of_row _ _ _ _ _ _ h⟩⟩
  have M2 := M.next b2
  rw [hs] at A
  exact bodyPost_ret (v := .agg #[.slice (some ⟨w.heap.size + 1, 0, none⟩) 4 4]) (by simp [results, Try.results17, go_sem, M2.c0]) rfl ⟨_, _, rfl, A, below_next b1 b2⟩

set_option maxRecDepth 100000 in
set_option maxHeartbeats 2000000 in
theorem reversed_any (a : Option Addr) (n c : Nat) (f : Nat → P) (w : World) (S : Pl a n f w) (hn : n ≤ 8192) :
    Calls Try.prog 15 #[.agg #[.slice a n c]] w (RetP w n fun i => f (n - 1 - i)) := by
  have wm : IntKind.i64.wrap ((n : Int) - 1) = n - 1 := IntWalk.i64_in _ (by omega)
  go_enter Try.func15, Try.ntmps15
  go_wp2_with fail
  have b1 := below_alloc w (.cells #[.slice a n c] 33)
  have b2 := below_alloc (w.alloc (.cells #[.slice a n c] 33)) (.cells #[.slice none 0 0] 33)
  have b3 := below_alloc ((w.alloc (.cells #[.slice a n c] 33)).alloc (.cells #[.slice none 0 0] 33)) (.cells #[.slice none 0 0] 33)
  have X1 := ((Bx.new w (.slice a n c) 33).next b2).next b3
  have X2 := (Bx.new (w.alloc (.cells #[.slice a n c] 33)) (.slice none 0 0) 33).next b3
  have X3 := Bx.new ((w.alloc (.cells #[.slice a n c] 33)).alloc (.cells #[.slice none 0 0] 33)) (.slice none 0 0) 33
  have HB := below_next (below_next b1 b2) b3
  simp only [World.size_alloc] at X2 X3
  clear b1 b2 b3
  generalize ((w.alloc (.cells #[.slice a n c] 33)).alloc (.cells #[.slice none 0 0] 33)).alloc (.cells #[.slice none 0 0] 33) = wz at X1 X2 X3 HB ⊢
  go_loopw [4] (fun i wk => ∃ (j : Nat) (z : Int) (a' : Option Addr) (c' : Nat), j ≤ n ∧ z = (n : Int) - 1 - j ∧ i = .int .i64 z ∧ Bx (w.heap.size + 1 + 1) (.slice a' j c') 33 wk ∧ PO.Ow w.heap.size 24 a' c' j (fun i => f (n - 1 - i)) wk ∧ Bx w.heap.size (.slice a n c) 33 wk ∧ Bx (w.heap.size + 1) (.slice none 0 0) 33 wk ∧ Below w.heap.size w wk) (fun i _ => (intOf i + 1).toNat)
  case atStart => exact ⟨0, _, none, 0, Nat.zero_le _, by omega, rfl, X3, PO.Ow.nil _ _ _ _, X1, X2, HB⟩
  case round =>
    obtain ⟨j, z, a', c', hj, hz, rfl, Z3, OA, Z1, Z2, HB4⟩ := hrel
    by_cases hlt : j < n
    · obtain ⟨q, hq⟩ : ∃ q : Nat, z = q := ⟨n - 1 - j, by omega⟩
      subst hq
      have hqn : q < n := by omega
      have hqj : n - 1 - j = q := by omega
      have hze : (q : Int) - 1 = (n : Int) - 1 - (j + 1 : Nat) := by omega
      have HZ := Lib.hid hze
      clear hz hze
      rcases S with h0 | ⟨b0, o0, rfl, Y0⟩
      · omega
      · have Y := Y0.next HB4
        obtain ⟨s0, s1⟩ := Y.hc q hqn
        have bt := below_alloc wr.drew (.cells #[.int .i64 (f q).x, .int .i64 (f q).y] 24)
        have bt' : Below wr.heap.size wr (wr.drew.alloc (.cells #[.int .i64 (f q).x, .int .i64 (f q).y] 24)) := below_next (Below.refl _ _).drew bt
        have one : Pl (some ⟨wr.heap.size, 0, none⟩) 1 (fun _ => f (n - 1 - j)) (wr.drew.alloc (.cells #[.int .i64 (f q).x, .int .i64 (f q).y] 24)) := by rw [hqj]; exact pl_one (heap_alloc_new wr.drew _)
        have OA2 := OA.keep (.below bt')
        have Z32 := Z3.next bt'
        have hsz : w.heap.size ≤ (wr.drew.alloc (.cells #[.int .i64 (f q).x, .int .i64 (f q).y] 24)).heap.size := Nat.le_trans HB4.size bt'.size
        have g0 : decide ((0 : Int) ≤ q) = true := by simp
        have q0 : (0 : Int) ≤ q := by omega
        have q1 : (q : Int) < n := by omega
        have k1 := Z1.c0
        have k3 := Z3.c0
        have wq : IntKind.i64.wrap ((q : Int) - 1) = q - 1 := IntWalk.i64_in _ (by omega)
        go_wp2_with fail
        have l1 : w.heap.size < wr.heap.size := Z1.lt
        have l3 : w.heap.size + 1 + 1 < wr.heap.size := Z3.lt
        have l0 : b0 < wr.heap.size := Y.hb
        go_region_law (first | (refine PO.step_append_vecs rfl (.tmp 14) (.tmp 20) elt24 rfl rfl OA2 rfl one (by omega) hsz (j + 1) rfl (fun i => f (n - 1 - i)) (PO.cat_snoc j _) ?_; intro a'' c'' w5 O5 G5; have Z35 := Z32.keep (G5.keep 33 (by decide)); have f5 := Z35.f 0; have z5 := Z35.c0; have HB5 := G5.below _ _ (below_next HB4 bt') (Nat.le_refl _); have k5 := ((Z1.next bt').keep (G5.keep 33 (by decide))).c0; have y5 := ((Y0.next HB5).hc q hqn).1; have y6 := ((Y0.next HB5).hc q hqn).2))
        all_goals
          go_wp2_with fail
          go_roundw
          · exact ⟨j + 1, _, a'', c'', by omega, HZ.out, rfl, Z35.set _, O5.keep ((KeepT.refl _ _).set (p := ⟨w.heap.size + 1 + 1, 0, none⟩) Z35.row (by decide) _), ((Z1.next bt').keep (G5.keep 33 (by decide))).other ⟨w.heap.size + 1 + 1, 0, none⟩ _ (by dsimp only; omega), ((Z2.next bt').keep (G5.keep 33 (by decide))).other ⟨w.heap.size + 1 + 1, 0, none⟩ _ (by dsimp only; omega), (G5.below _ _ (below_next HB4 bt') (Nat.le_refl _)).setCell (p := ⟨w.heap.size + 1 + 1, 0, none⟩) (by dsimp only; omega) _⟩
          · have := HZ.out
            simp [intOf]
    · obtain rfl : j = n := by omega
      obtain rfl : z = -1 := by omega
      have k3 := Z3.c0
      have k2 := Z2.c0
      have f2 := Z2.f 0
      go_wp2_with fail
      have E0 := Z2.set (.slice a' j c')
      exact bodyPost_ret (v := .agg #[.slice a' j c']) (by simp [results, Try.results15, go_sem, E0.c0]) rfl ⟨a', c', rfl, (OA.keep ((KeepT.refl _ _).set (p := ⟨w.heap.size + 1, 0, none⟩) Z2.row (by decide) _)).sx, HB4.setCell (p := ⟨w.heap.size + 1, 0, none⟩) (Nat.le_succ _) _⟩
end Go.Proofs.Ytffmmfeedfdlaaa
