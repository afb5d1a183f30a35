/- The contracts of Bounds. Printed by bnds.py. -/
import Derived.Test.YtcfglmamocdkeaaVecs
import Derived.Deep.RegionHeld3
import Derived.Deep.DrawnRows
import Derived.Deep.DeepCutAuto
namespace Go.Proofs.Ytcfglmamocdkeaa
open Go.ChangeShapes Go.WideShapes Go.ChangeAt Go.RowKit

/-- n vectors lie from cell o of block b on. -/
structure Sl (b o n : Nat) (f : Nat → V) (w : World) : Prop where
  hb : b < w.heap.size
  hc : ∀ i, i < n → w.cell? ⟨b, o + i * 3, none⟩ = some (.int .i64 (f i).x) ∧ w.cell? ⟨b, o + i * 3 + 1, none⟩ = some (.int .i64 (f i).y) ∧ w.cell? ⟨b, o + i * 3 + 2, none⟩ = some (.int .i64 (f i).z)
theorem Sl.next {b o n : Nat} {f : Nat → V} {w w' : World} (h : Sl b o n f w) (hb : Below w.heap.size w w') : Sl b o n f w' :=
  ⟨Nat.lt_of_lt_of_le h.hb hb.size, fun i hi => ⟨(hb.cell (p := ⟨b, o + i * 3, none⟩) h.hb).trans (h.hc i hi).1, (hb.cell (p := ⟨b, o + i * 3 + 1, none⟩) h.hb).trans (h.hc i hi).2.1, (hb.cell (p := ⟨b, o + i * 3 + 2, none⟩) h.hb).trans (h.hc i hi).2.2⟩⟩
theorem At.other {b : Nat} {x y z : Int} {w : World} (h : At b x y z w) (a : Addr) (u : Value) (hne : b ≠ a.block) : At b x y z (w.setCell a u) := ⟨(Below.heap_setCell w a u b hne).trans h.row⟩
theorem At.set0 {b : Nat} {x y z : Int} {w : World} (h : At b x y z w) (u : Int) : At b u y z (w.setCell ⟨b, 0, none⟩ (.int .i64 u)) := ⟨by simp [World.setCell, Array.getElem?_modify, h.row]⟩
theorem At.set1 {b : Nat} {x y z : Int} {w : World} (h : At b x y z w) (u : Int) : At b x u z (w.setCell ⟨b, 1, none⟩ (.int .i64 u)) := ⟨by simp [World.setCell, Array.getElem?_modify, h.row]⟩
theorem At.set2 {b : Nat} {x y z : Int} {w : World} (h : At b x y z w) (u : Int) : At b x y u (w.setCell ⟨b, 2, none⟩ (.int .i64 u)) := ⟨by simp [World.setCell, Array.getElem?_modify, h.row]⟩
theorem At.drew {b : Nat} {x y z : Int} {w : World} (h : At b x y z w) : At b x y z w.drew := ⟨h.row⟩
theorem two_boxes (wr : World) (x y z x' y' z' : Int) : Below wr.heap.size wr ((wr.alloc (.cells #[.int .i64 x, .int .i64 y, .int .i64 z] 36)).alloc (.cells #[.int .i64 x', .int .i64 y', .int .i64 z'] 36)) ∧
    At wr.heap.size x y z ((wr.alloc (.cells #[.int .i64 x, .int .i64 y, .int .i64 z] 36)).alloc (.cells #[.int .i64 x', .int .i64 y', .int .i64 z'] 36)) ∧
    At (wr.heap.size + 1) x' y' z' ((wr.alloc (.cells #[.int .i64 x, .int .i64 y, .int .i64 z] 36)).alloc (.cells #[.int .i64 x', .int .i64 y', .int .i64 z'] 36)) :=
  ⟨below_next (below_alloc _ _) (below_alloc _ _), (At.new wr x y z).next (below_alloc _ _), At.newAt _ _ _ _ (by simp)⟩
theorem two_boxes_drew (wr : World) (x y z x' y' z' : Int) : Below wr.heap.size wr ((wr.alloc (.cells #[.int .i64 x, .int .i64 y, .int .i64 z] 36)).alloc (.cells #[.int .i64 x', .int .i64 y', .int .i64 z'] 36)).drew ∧
    At wr.heap.size x y z ((wr.alloc (.cells #[.int .i64 x, .int .i64 y, .int .i64 z] 36)).alloc (.cells #[.int .i64 x', .int .i64 y', .int .i64 z'] 36)).drew ∧
    At (wr.heap.size + 1) x' y' z' ((wr.alloc (.cells #[.int .i64 x, .int .i64 y, .int .i64 z] 36)).alloc (.cells #[.int .i64 x', .int .i64 y', .int .i64 z'] 36)).drew :=
  let h := two_boxes wr x y z x' y' z'
  ⟨h.1.drew, h.2.1.drew, h.2.2.drew⟩
def mn (a n : Int) : Int := if n < a then n else a
def mx (b n : Int) : Int := if b < n then n else b
/-- The least coordinates of the first vector and of the first k. -/
def lo (f : Nat → V) : Nat → V
  | 0 => f 0
  | k + 1 => ⟨mn (lo f k).x (f k).x, mn (lo f k).y (f k).y, mn (lo f k).z (f k).z⟩
def hi (f : Nat → V) : Nat → V
  | 0 => f 0
  | k + 1 => ⟨mx (hi f k).x (f k).x, mx (hi f k).y (f k).y, mx (hi f k).z (f k).z⟩


theorem grow_any (a b n : Int) (w : World) : Calls Try.prog 45 #[.int .i64 a, .int .i64 b, .int .i64 n] w fun e w' => e = .returned (.tuple #[.int .i64 (mn a n), .int .i64 (mx b n)]) ∧ w' = w := by
  go_enter Try.func45, Try.ntmps45
  go_wp2
  all_goals go_ret2
  all_goals first
    | (refine ⟨?_, rfl⟩; rw [show mn a n = a by unfold mn; split <;> omega, show mx b n = b by unfold mx; split <;> omega]; rfl)
    | (refine ⟨?_, rfl⟩; rw [show mn a n = a by unfold mn; split <;> omega, show mx b n = n by unfold mx; split <;> omega]; rfl)
    | (refine ⟨?_, rfl⟩; rw [show mn a n = n by unfold mn; split <;> omega, show mx b n = b by unfold mx; split <;> omega]; rfl)
    | (refine ⟨?_, rfl⟩; rw [show mn a n = n by unfold mn; split <;> omega, show mx b n = n by unfold mx; split <;> omega]; rfl)


theorem bounds_nil (a : Option Addr) (cap : Nat) (w : World) :
    Calls Try.prog 37 #[.slice a 0 cap] w fun e w' => e = .returned (.tuple #[.agg #[.int .i64 0, .int .i64 0, .int .i64 0], .agg #[.int .i64 0, .int .i64 0, .int .i64 0], .bool false]) ∧ Below w.heap.size w w' := by
  go_enter Try.func37, Try.ntmps37
  go_wp2_with fail
  obtain ⟨HB, X1, X2⟩ := two_boxes w 0 0 0 0 0 0
  exact bodyPost_ret (v := .tuple #[.agg #[_, _, _], .agg #[_, _, _], _]) (by simp [results, Try.results37, go_sem, X1.c0, X1.c1, X1.c2, X2.c0, X2.c1, X2.c2]) rfl ⟨rfl, by
    first
      | exact HB
      | exact (((((HB.setCell (by simp) _).setCell (by simp) _).setCell (by simp) _).setCell (by simp) _).setCell (by simp) _).setCell (by simp) _⟩


set_option maxRecDepth 100000 in
set_option maxHeartbeats 4000000 in
theorem bounds_some (b o n cap : Nat) (f : Nat → V) (w : World) (h0 : 0 < n) (h1 : n ≤ 4096) (S : Sl b o n f w) :
    Calls Try.prog 37 #[.slice (some ⟨b, o, none⟩) n cap] w fun e w' => e = .returned (.tuple #[.agg #[.int .i64 (lo f n).x, .int .i64 (lo f n).y, .int .i64 (lo f n).z], .agg #[.int .i64 (hi f n).x, .int .i64 (hi f n).y, .int .i64 (hi f n).z], .bool true]) ∧ Below w.heap.size w w' := by
  have hne : ((n : Int) == 0) = false := by simp; omega
  go_enter Try.func37, Try.ntmps37
  go_wp2_with fail
  obtain ⟨hB, R1, R2⟩ := two_boxes w 0 0 0 0 0 0
  have S2 := S.next hB
  generalize (w.alloc (.cells #[.int .i64 0, .int .i64 0, .int .i64 0] 36)).alloc (.cells #[.int .i64 0, .int .i64 0, .int .i64 0] 36) = wz at *
  have c0 : wz.cell? ⟨b, o, none⟩ = some (.int .i64 (f 0).x) := by simpa using (S2.hc 0 h0).1
  have c1 : wz.cell? ⟨b, o + 1, none⟩ = some (.int .i64 (f 0).y) := by simpa using (S2.hc 0 h0).2.1
  have c2 : wz.cell? ⟨b, o + 2, none⟩ = some (.int .i64 (f 0).z) := by simpa using (S2.hc 0 h0).2.2
  have hbk := S2.hb
  go_region
  · obtain ⟨HB, X1, X2⟩ := two_boxes_drew wz (f 0).x (f 0).y (f 0).z (f 0).x (f 0).y (f 0).z
    generalize World.drew _ = wl at HB X1 X2 ⊢
    have hpq : wz.heap.size ≠ wz.heap.size + 1 := by omega
    have hp1 : wz.heap.size ≤ wz.heap.size := Nat.le_refl _
    have hq1 : wz.heap.size ≤ wz.heap.size + 1 := Nat.le_succ _
    generalize wz.heap.size + 1 = q at X2 hq1 hpq ⊢
    generalize hp : wz.heap.size = p at X1 hpq ⊢
    have hl2 : wz.heap.size ≤ p := Nat.le_of_eq hp
    have hp2 : wz.heap.size ≤ p := by omega
    have hq2 : wz.heap.size ≤ q := by omega
    have hpq' : p ≠ q := by omega
    have hqp : q ≠ p := by omega
    clear hp c0 c1 c2 hp1 hl2 hq1 hpq
    go_wp2
    go_loopw [23] (fun i wk => ∃ k : Nat, k ≤ n ∧ i = .int .i64 k ∧ At p (lo f k).x (lo f k).y (lo f k).z wk ∧ At q (hi f k).x (hi f k).y (hi f k).z wk ∧ Below wz.heap.size wz wk) (fun i _ => n - (intOf i).toNat)
    case atStart => exact ⟨0, by omega, rfl, X1, X2, HB⟩
    case round =>
      obtain ⟨k, hk, rfl, A, B, hW⟩ := hrel
      by_cases hlt : k < n
      · have hm := hW.size
        have hne : p ≠ wr.heap.size ∧ q ≠ wr.heap.size := ⟨Nat.ne_of_lt A.hZ, Nat.ne_of_lt B.hZ⟩
        have S3 := ((S2.next hW).hc k hlt)
        have s0 := S3.1
        have s1 := S3.2.1
        have s2 := S3.2.2
        have A1 := A.next (below_alloc wr (.cells #[.int .i64 (f k).x, .int .i64 (f k).y, .int .i64 (f k).z] 36))
        have B1 := B.next (below_alloc wr (.cells #[.int .i64 (f k).x, .int .i64 (f k).y, .int .i64 (f k).z] 36))
        have f0 := A1.f 0
        have f1 := A1.f 1
        have f2 := A1.f 2
        have g0 := B1.f 0
        have g1 := B1.f 1
        have g2 := B1.f 2
        have a0 := A1.c0
        have a1 := A1.c1
        have a2 := A1.c2
        have b0 := B1.c0
        have b1 := B1.c1
        have b2 := B1.c2
        go_wp2_with (go_at_call 45; refine (grow_any _ _ _ _).mono ?_; rintro e wg ⟨rfl, rfl⟩)
        go_roundw
        case rel =>
          have AA := ((((((A1).set0 (mn (lo f k).x (f k).x)).other ⟨q, 0, none⟩ (.int .i64 (mx (hi f k).x (f k).x)) hpq').set1 (mn (lo f k).y (f k).y)).other ⟨q, 1, none⟩ (.int .i64 (mx (hi f k).y (f k).y)) hpq').set2 (mn (lo f k).z (f k).z)).other ⟨q, 2, none⟩ (.int .i64 (mx (hi f k).z (f k).z)) hpq'
          have BB := ((((((B1).other ⟨p, 0, none⟩ (.int .i64 (mn (lo f k).x (f k).x)) hqp).set0 (mx (hi f k).x (f k).x)).other ⟨p, 1, none⟩ (.int .i64 (mn (lo f k).y (f k).y)) hqp).set1 (mx (hi f k).y (f k).y)).other ⟨p, 2, none⟩ (.int .i64 (mn (lo f k).z (f k).z)) hqp).set2 (mx (hi f k).z (f k).z)
          have WW := ((((((hW.alloc hm (.cells #[.int .i64 (f k).x, .int .i64 (f k).y, .int .i64 (f k).z] 36)).setCell (p := ⟨p, 0, none⟩) hp2 (.int .i64 (mn (lo f k).x (f k).x))).setCell (p := ⟨q, 0, none⟩) hq2 (.int .i64 (mx (hi f k).x (f k).x))).setCell (p := ⟨p, 1, none⟩) hp2 (.int .i64 (mn (lo f k).y (f k).y))).setCell (p := ⟨q, 1, none⟩) hq2 (.int .i64 (mx (hi f k).y (f k).y))).setCell (p := ⟨p, 2, none⟩) hp2 (.int .i64 (mn (lo f k).z (f k).z))).setCell (p := ⟨q, 2, none⟩) hq2 (.int .i64 (mx (hi f k).z (f k).z))
          first
            | exact ⟨k + 1, by omega, by go_num, AA, BB, WW⟩
            | (repeat apply Exists.intro
               exact ⟨⟨k + 1, by omega, by go_num, AA, BB, WW⟩, rfl⟩)
        case measure => simp [intOf]; omega
      · obtain rfl : k = n := by omega
        have r1 := R1.next hW
        have r2 := R2.next hW
        have z1 := R1.hZ
        have z2 := R2.hZ
        have d1 : p ≠ w.heap.size := by omega
        have d2 : p ≠ w.heap.size + 1 := by omega
        have d3 : q ≠ w.heap.size := by omega
        have d4 : q ≠ w.heap.size + 1 := by omega
        have d1' := d1.symm
        have d2' := d2.symm
        have d3' := d3.symm
        have d4' := d4.symm
        have a0 := A.c0
        have a1 := A.c1
        have a2 := A.c2
        have b0 := B.c0
        have b1 := B.c1
        have b2 := B.c2
        have p0 := r1.c0
        have p1 := r1.c1
        have p2 := r1.c2
        have q0 := r2.c0
        have q1 := r2.c1
        have q2 := r2.c2
        have f0 := r1.f 0
        have f1 := r1.f 1
        have f2 := r1.f 2
        have g0 := r2.f 0
        have g1 := r2.f 1
        have g2 := r2.f 2
        have hall := below_next hB hW
        go_wp2_with fail
        go_region
        all_goals go_wp2
        all_goals exact bodyPost_ret (v := .tuple #[.agg #[_, _, _], .agg #[_, _, _], _]) (by simp [results, Try.results37, go_sem, p0, p1, p2, q0, q1, q2]) rfl ⟨rfl,
          ((((((hall.setCell (p := ⟨w.heap.size, 0, none⟩) (Nat.le_refl _) _).setCell (p := ⟨w.heap.size, 1, none⟩) (Nat.le_refl _) _).setCell (p := ⟨w.heap.size, 2, none⟩) (Nat.le_refl _) _).setCell (p := ⟨w.heap.size + 1, 0, none⟩) (Nat.le_succ _) _).setCell (p := ⟨w.heap.size + 1, 1, none⟩) (Nat.le_succ _) _).setCell (p := ⟨w.heap.size + 1, 2, none⟩) (Nat.le_succ _) _).drew⟩
  · obtain ⟨HB, X1, X2⟩ := two_boxes_drew wz (f 0).x (f 0).y (f 0).z (f 0).x (f 0).y (f 0).z
    generalize World.drew _ = wl at HB X1 X2 ⊢
    have hpq : wz.heap.size ≠ wz.heap.size + 1 := by omega
    have hp1 : wz.heap.size ≤ wz.heap.size := Nat.le_refl _
    have hq1 : wz.heap.size ≤ wz.heap.size + 1 := Nat.le_succ _
    generalize wz.heap.size + 1 = p at X2 hq1 hpq ⊢
    generalize hp : wz.heap.size = q at X1 hpq ⊢
    have hl2 : wz.heap.size ≤ q := Nat.le_of_eq hp
    have hp2 : wz.heap.size ≤ p := by omega
    have hq2 : wz.heap.size ≤ q := by omega
    have hpq' : p ≠ q := by omega
    have hqp : q ≠ p := by omega
    clear hp c0 c1 c2 hp1 hl2 hq1 hpq
    go_wp2
    go_loopw [23] (fun i wk => ∃ k : Nat, k ≤ n ∧ i = .int .i64 k ∧ At p (lo f k).x (lo f k).y (lo f k).z wk ∧ At q (hi f k).x (hi f k).y (hi f k).z wk ∧ Below wz.heap.size wz wk) (fun i _ => n - (intOf i).toNat)
    case atStart => exact ⟨0, by omega, rfl, X2, X1, HB⟩
    case round =>
      obtain ⟨k, hk, rfl, A, B, hW⟩ := hrel
      by_cases hlt : k < n
      · have hm := hW.size
        have hne : p ≠ wr.heap.size ∧ q ≠ wr.heap.size := ⟨Nat.ne_of_lt A.hZ, Nat.ne_of_lt B.hZ⟩
        have S3 := ((S2.next hW).hc k hlt)
        have s0 := S3.1
        have s1 := S3.2.1
        have s2 := S3.2.2
        have A1 := A.next (below_alloc wr (.cells #[.int .i64 (f k).x, .int .i64 (f k).y, .int .i64 (f k).z] 36))
        have B1 := B.next (below_alloc wr (.cells #[.int .i64 (f k).x, .int .i64 (f k).y, .int .i64 (f k).z] 36))
        have f0 := A1.f 0
        have f1 := A1.f 1
        have f2 := A1.f 2
        have g0 := B1.f 0
        have g1 := B1.f 1
        have g2 := B1.f 2
        have a0 := A1.c0
        have a1 := A1.c1
        have a2 := A1.c2
        have b0 := B1.c0
        have b1 := B1.c1
        have b2 := B1.c2
        go_wp2_with (go_at_call 45; refine (grow_any _ _ _ _).mono ?_; rintro e wg ⟨rfl, rfl⟩)
        go_roundw
        case rel =>
          have AA := ((((((A1).set0 (mn (lo f k).x (f k).x)).other ⟨q, 0, none⟩ (.int .i64 (mx (hi f k).x (f k).x)) hpq').set1 (mn (lo f k).y (f k).y)).other ⟨q, 1, none⟩ (.int .i64 (mx (hi f k).y (f k).y)) hpq').set2 (mn (lo f k).z (f k).z)).other ⟨q, 2, none⟩ (.int .i64 (mx (hi f k).z (f k).z)) hpq'
          have BB := ((((((B1).other ⟨p, 0, none⟩ (.int .i64 (mn (lo f k).x (f k).x)) hqp).set0 (mx (hi f k).x (f k).x)).other ⟨p, 1, none⟩ (.int .i64 (mn (lo f k).y (f k).y)) hqp).set1 (mx (hi f k).y (f k).y)).other ⟨p, 2, none⟩ (.int .i64 (mn (lo f k).z (f k).z)) hqp).set2 (mx (hi f k).z (f k).z)
          have WW := ((((((hW.alloc hm (.cells #[.int .i64 (f k).x, .int .i64 (f k).y, .int .i64 (f k).z] 36)).setCell (p := ⟨p, 0, none⟩) hp2 (.int .i64 (mn (lo f k).x (f k).x))).setCell (p := ⟨q, 0, none⟩) hq2 (.int .i64 (mx (hi f k).x (f k).x))).setCell (p := ⟨p, 1, none⟩) hp2 (.int .i64 (mn (lo f k).y (f k).y))).setCell (p := ⟨q, 1, none⟩) hq2 (.int .i64 (mx (hi f k).y (f k).y))).setCell (p := ⟨p, 2, none⟩) hp2 (.int .i64 (mn (lo f k).z (f k).z))).setCell (p := ⟨q, 2, none⟩) hq2 (.int .i64 (mx (hi f k).z (f k).z))
          first
            | exact ⟨k + 1, by omega, by go_num, AA, BB, WW⟩
            | (repeat apply Exists.intro
               exact ⟨⟨k + 1, by omega, by go_num, AA, BB, WW⟩, rfl⟩)
        case measure => simp [intOf]; omega
      · obtain rfl : k = n := by omega
        have r1 := R1.next hW
        have r2 := R2.next hW
        have z1 := R1.hZ
        have z2 := R2.hZ
        have d1 : p ≠ w.heap.size := by omega
        have d2 : p ≠ w.heap.size + 1 := by omega
        have d3 : q ≠ w.heap.size := by omega
        have d4 : q ≠ w.heap.size + 1 := by omega
        have d1' := d1.symm
        have d2' := d2.symm
        have d3' := d3.symm
        have d4' := d4.symm
        have a0 := A.c0
        have a1 := A.c1
        have a2 := A.c2
        have b0 := B.c0
        have b1 := B.c1
        have b2 := B.c2
        have p0 := r1.c0
        have p1 := r1.c1
        have p2 := r1.c2
        have q0 := r2.c0
        have q1 := r2.c1
        have q2 := r2.c2
        have f0 := r1.f 0
        have f1 := r1.f 1
        have f2 := r1.f 2
        have g0 := r2.f 0
        have g1 := r2.f 1
        have g2 := r2.f 2
        have hall := below_next hB hW
        go_wp2_with fail
        go_region
        all_goals go_wp2
        all_goals exact bodyPost_ret (v := .tuple #[.agg #[_, _, _], .agg #[_, _, _], _]) (by simp [results, Try.results37, go_sem, p0, p1, p2, q0, q1, q2]) rfl ⟨rfl,
          ((((((hall.setCell (p := ⟨w.heap.size, 0, none⟩) (Nat.le_refl _) _).setCell (p := ⟨w.heap.size, 1, none⟩) (Nat.le_refl _) _).setCell (p := ⟨w.heap.size, 2, none⟩) (Nat.le_refl _) _).setCell (p := ⟨w.heap.size + 1, 0, none⟩) (Nat.le_succ _) _).setCell (p := ⟨w.heap.size + 1, 1, none⟩) (Nat.le_succ _) _).setCell (p := ⟨w.heap.size + 1, 2, none⟩) (Nat.le_succ _) _).drew⟩


theorem bounds_nilr (a : Option Addr) (cap : Nat) (w : World) :
    Calls Try.prog 38 #[.slice a 0 cap] w fun e w' => e = .returned (.tuple #[.agg #[.int .i64 0, .int .i64 0, .int .i64 0], .agg #[.int .i64 0, .int .i64 0, .int .i64 0], .bool false]) ∧ Below w.heap.size w w' := by
  go_enter Try.func38, Try.ntmps38
  go_wp2_with fail
  obtain ⟨HB, X1, X2⟩ := two_boxes w 0 0 0 0 0 0
  exact bodyPost_ret (v := .tuple #[.agg #[_, _, _], .agg #[_, _, _], _]) (by simp [results, Try.results38, go_sem, X1.c0, X1.c1, X1.c2, X2.c0, X2.c1, X2.c2]) rfl ⟨rfl, by
    first
      | exact HB
      | exact (((((HB.setCell (by simp) _).setCell (by simp) _).setCell (by simp) _).setCell (by simp) _).setCell (by simp) _).setCell (by simp) _⟩


set_option maxRecDepth 100000 in
set_option maxHeartbeats 4000000 in
theorem bounds_somer (b o n cap : Nat) (f : Nat → V) (w : World) (h0 : 0 < n) (h1 : n ≤ 4096) (S : Sl b o n f w) :
    Calls Try.prog 38 #[.slice (some ⟨b, o, none⟩) n cap] w fun e w' => e = .returned (.tuple #[.agg #[.int .i64 (lo f n).x, .int .i64 (lo f n).y, .int .i64 (lo f n).z], .agg #[.int .i64 (hi f n).x, .int .i64 (hi f n).y, .int .i64 (hi f n).z], .bool true]) ∧ Below w.heap.size w w' := by
  have hne : ((n : Int) == 0) = false := by simp; omega
  go_enter Try.func38, Try.ntmps38
  go_wp2_with fail
  obtain ⟨hB, R1, R2⟩ := two_boxes w 0 0 0 0 0 0
  have S2 := S.next hB
  generalize (w.alloc (.cells #[.int .i64 0, .int .i64 0, .int .i64 0] 36)).alloc (.cells #[.int .i64 0, .int .i64 0, .int .i64 0] 36) = wz at *
  have c0 : wz.cell? ⟨b, o, none⟩ = some (.int .i64 (f 0).x) := by simpa using (S2.hc 0 h0).1
  have c1 : wz.cell? ⟨b, o + 1, none⟩ = some (.int .i64 (f 0).y) := by simpa using (S2.hc 0 h0).2.1
  have c2 : wz.cell? ⟨b, o + 2, none⟩ = some (.int .i64 (f 0).z) := by simpa using (S2.hc 0 h0).2.2
  have hbk := S2.hb
  go_region
  · obtain ⟨HB, X1, X2⟩ := two_boxes_drew wz (f 0).x (f 0).y (f 0).z (f 0).x (f 0).y (f 0).z
    generalize World.drew _ = wl at HB X1 X2 ⊢
    have hpq : wz.heap.size ≠ wz.heap.size + 1 := by omega
    have hp1 : wz.heap.size ≤ wz.heap.size := Nat.le_refl _
    have hq1 : wz.heap.size ≤ wz.heap.size + 1 := Nat.le_succ _
    generalize wz.heap.size + 1 = q at X2 hq1 hpq ⊢
    generalize hp : wz.heap.size = p at X1 hpq ⊢
    have hl2 : wz.heap.size ≤ p := Nat.le_of_eq hp
    have hp2 : wz.heap.size ≤ p := by omega
    have hq2 : wz.heap.size ≤ q := by omega
    have hpq' : p ≠ q := by omega
    have hqp : q ≠ p := by omega
    clear hp c0 c1 c2 hp1 hl2 hq1 hpq
    go_wp2
    go_loopw [22] (fun i wk => ∃ k : Nat, k ≤ n ∧ i = .int .i64 k ∧ At p (lo f k).x (lo f k).y (lo f k).z wk ∧ At q (hi f k).x (hi f k).y (hi f k).z wk ∧ Below wz.heap.size wz wk) (fun i _ => n - (intOf i).toNat)
    case atStart => exact ⟨0, by omega, rfl, X1, X2, HB⟩
    case round =>
      obtain ⟨k, hk, rfl, A, B, hW⟩ := hrel
      by_cases hlt : k < n
      · have hm := hW.size
        have hne : p ≠ wr.heap.size ∧ q ≠ wr.heap.size := ⟨Nat.ne_of_lt A.hZ, Nat.ne_of_lt B.hZ⟩
        have S3 := ((S2.next hW).hc k hlt)
        have s0 := S3.1
        have s1 := S3.2.1
        have s2 := S3.2.2
        have A1 := A.next (below_alloc wr (.cells #[.int .i64 (f k).x, .int .i64 (f k).y, .int .i64 (f k).z] 36))
        have B1 := B.next (below_alloc wr (.cells #[.int .i64 (f k).x, .int .i64 (f k).y, .int .i64 (f k).z] 36))
        have f0 := A1.f 0
        have f1 := A1.f 1
        have f2 := A1.f 2
        have g0 := B1.f 0
        have g1 := B1.f 1
        have g2 := B1.f 2
        have a0 := A1.c0
        have a1 := A1.c1
        have a2 := A1.c2
        have b0 := B1.c0
        have b1 := B1.c1
        have b2 := B1.c2
        go_wp2
        go_roundw
        case rel =>
          have AA := ((((((A1).set0 (mn (lo f k).x (f k).x)).set1 (mn (lo f k).y (f k).y)).set2 (mn (lo f k).z (f k).z)).other ⟨q, 0, none⟩ (.int .i64 (mx (hi f k).x (f k).x)) hpq').other ⟨q, 1, none⟩ (.int .i64 (mx (hi f k).y (f k).y)) hpq').other ⟨q, 2, none⟩ (.int .i64 (mx (hi f k).z (f k).z)) hpq'
          have BB := ((((((B1).other ⟨p, 0, none⟩ (.int .i64 (mn (lo f k).x (f k).x)) hqp).other ⟨p, 1, none⟩ (.int .i64 (mn (lo f k).y (f k).y)) hqp).other ⟨p, 2, none⟩ (.int .i64 (mn (lo f k).z (f k).z)) hqp).set0 (mx (hi f k).x (f k).x)).set1 (mx (hi f k).y (f k).y)).set2 (mx (hi f k).z (f k).z)
          have WW := ((((((hW.alloc hm (.cells #[.int .i64 (f k).x, .int .i64 (f k).y, .int .i64 (f k).z] 36)).setCell (p := ⟨p, 0, none⟩) hp2 (.int .i64 (mn (lo f k).x (f k).x))).setCell (p := ⟨p, 1, none⟩) hp2 (.int .i64 (mn (lo f k).y (f k).y))).setCell (p := ⟨p, 2, none⟩) hp2 (.int .i64 (mn (lo f k).z (f k).z))).setCell (p := ⟨q, 0, none⟩) hq2 (.int .i64 (mx (hi f k).x (f k).x))).setCell (p := ⟨q, 1, none⟩) hq2 (.int .i64 (mx (hi f k).y (f k).y))).setCell (p := ⟨q, 2, none⟩) hq2 (.int .i64 (mx (hi f k).z (f k).z))
          exact ⟨k + 1, by omega, by go_num, AA, BB, WW⟩
        case measure => simp [intOf]; omega
      · obtain rfl : k = n := by omega
        have r1 := R1.next hW
        have r2 := R2.next hW
        have z1 := R1.hZ
        have z2 := R2.hZ
        have d1 : p ≠ w.heap.size := by omega
        have d2 : p ≠ w.heap.size + 1 := by omega
        have d3 : q ≠ w.heap.size := by omega
        have d4 : q ≠ w.heap.size + 1 := by omega
        have d1' := d1.symm
        have d2' := d2.symm
        have d3' := d3.symm
        have d4' := d4.symm
        have a0 := A.c0
        have a1 := A.c1
        have a2 := A.c2
        have b0 := B.c0
        have b1 := B.c1
        have b2 := B.c2
        have p0 := r1.c0
        have p1 := r1.c1
        have p2 := r1.c2
        have q0 := r2.c0
        have q1 := r2.c1
        have q2 := r2.c2
        have f0 := r1.f 0
        have f1 := r1.f 1
        have f2 := r1.f 2
        have g0 := r2.f 0
        have g1 := r2.f 1
        have g2 := r2.f 2
        have hall := below_next hB hW
        go_wp2_with fail
        go_region
        all_goals go_wp2
        all_goals exact bodyPost_ret (v := .tuple #[.agg #[_, _, _], .agg #[_, _, _], _]) (by simp [results, Try.results38, go_sem, p0, p1, p2, q0, q1, q2]) rfl ⟨rfl,
          ((((((hall.setCell (p := ⟨w.heap.size, 0, none⟩) (Nat.le_refl _) _).setCell (p := ⟨w.heap.size, 1, none⟩) (Nat.le_refl _) _).setCell (p := ⟨w.heap.size, 2, none⟩) (Nat.le_refl _) _).setCell (p := ⟨w.heap.size + 1, 0, none⟩) (Nat.le_succ _) _).setCell (p := ⟨w.heap.size + 1, 1, none⟩) (Nat.le_succ _) _).setCell (p := ⟨w.heap.size + 1, 2, none⟩) (Nat.le_succ _) _).drew⟩
  · obtain ⟨HB, X1, X2⟩ := two_boxes_drew wz (f 0).x (f 0).y (f 0).z (f 0).x (f 0).y (f 0).z
    generalize World.drew _ = wl at HB X1 X2 ⊢
    have hpq : wz.heap.size ≠ wz.heap.size + 1 := by omega
    have hp1 : wz.heap.size ≤ wz.heap.size := Nat.le_refl _
    have hq1 : wz.heap.size ≤ wz.heap.size + 1 := Nat.le_succ _
    generalize wz.heap.size + 1 = p at X2 hq1 hpq ⊢
    generalize hp : wz.heap.size = q at X1 hpq ⊢
    have hl2 : wz.heap.size ≤ q := Nat.le_of_eq hp
    have hp2 : wz.heap.size ≤ p := by omega
    have hq2 : wz.heap.size ≤ q := by omega
    have hpq' : p ≠ q := by omega
    have hqp : q ≠ p := by omega
    clear hp c0 c1 c2 hp1 hl2 hq1 hpq
    go_wp2
    go_loopw [22] (fun i wk => ∃ k : Nat, k ≤ n ∧ i = .int .i64 k ∧ At p (lo f k).x (lo f k).y (lo f k).z wk ∧ At q (hi f k).x (hi f k).y (hi f k).z wk ∧ Below wz.heap.size wz wk) (fun i _ => n - (intOf i).toNat)
    case atStart => exact ⟨0, by omega, rfl, X2, X1, HB⟩
    case round =>
      obtain ⟨k, hk, rfl, A, B, hW⟩ := hrel
      by_cases hlt : k < n
      · have hm := hW.size
        have hne : p ≠ wr.heap.size ∧ q ≠ wr.heap.size := ⟨Nat.ne_of_lt A.hZ, Nat.ne_of_lt B.hZ⟩
        have S3 := ((S2.next hW).hc k hlt)
        have s0 := S3.1
        have s1 := S3.2.1
        have s2 := S3.2.2
        have A1 := A.next (below_alloc wr (.cells #[.int .i64 (f k).x, .int .i64 (f k).y, .int .i64 (f k).z] 36))
        have B1 := B.next (below_alloc wr (.cells #[.int .i64 (f k).x, .int .i64 (f k).y, .int .i64 (f k).z] 36))
        have f0 := A1.f 0
        have f1 := A1.f 1
        have f2 := A1.f 2
        have g0 := B1.f 0
        have g1 := B1.f 1
        have g2 := B1.f 2
        have a0 := A1.c0
        have a1 := A1.c1
        have a2 := A1.c2
        have b0 := B1.c0
        have b1 := B1.c1
        have b2 := B1.c2
        go_wp2
        go_roundw
        case rel =>
          have AA := ((((((A1).set0 (mn (lo f k).x (f k).x)).set1 (mn (lo f k).y (f k).y)).set2 (mn (lo f k).z (f k).z)).other ⟨q, 0, none⟩ (.int .i64 (mx (hi f k).x (f k).x)) hpq').other ⟨q, 1, none⟩ (.int .i64 (mx (hi f k).y (f k).y)) hpq').other ⟨q, 2, none⟩ (.int .i64 (mx (hi f k).z (f k).z)) hpq'
          have BB := ((((((B1).other ⟨p, 0, none⟩ (.int .i64 (mn (lo f k).x (f k).x)) hqp).other ⟨p, 1, none⟩ (.int .i64 (mn (lo f k).y (f k).y)) hqp).other ⟨p, 2, none⟩ (.int .i64 (mn (lo f k).z (f k).z)) hqp).set0 (mx (hi f k).x (f k).x)).set1 (mx (hi f k).y (f k).y)).set2 (mx (hi f k).z (f k).z)
          have WW := ((((((hW.alloc hm (.cells #[.int .i64 (f k).x, .int .i64 (f k).y, .int .i64 (f k).z] 36)).setCell (p := ⟨p, 0, none⟩) hp2 (.int .i64 (mn (lo f k).x (f k).x))).setCell (p := ⟨p, 1, none⟩) hp2 (.int .i64 (mn (lo f k).y (f k).y))).setCell (p := ⟨p, 2, none⟩) hp2 (.int .i64 (mn (lo f k).z (f k).z))).setCell (p := ⟨q, 0, none⟩) hq2 (.int .i64 (mx (hi f k).x (f k).x))).setCell (p := ⟨q, 1, none⟩) hq2 (.int .i64 (mx (hi f k).y (f k).y))).setCell (p := ⟨q, 2, none⟩) hq2 (.int .i64 (mx (hi f k).z (f k).z))
          exact ⟨k + 1, by omega, by go_num, AA, BB, WW⟩
        case measure => simp [intOf]; omega
      · obtain rfl : k = n := by omega
        have r1 := R1.next hW
        have r2 := R2.next hW
        have z1 := R1.hZ
        have z2 := R2.hZ
        have d1 : p ≠ w.heap.size := by omega
        have d2 : p ≠ w.heap.size + 1 := by omega
        have d3 : q ≠ w.heap.size := by omega
        have d4 : q ≠ w.heap.size + 1 := by omega
        have d1' := d1.symm
        have d2' := d2.symm
        have d3' := d3.symm
        have d4' := d4.symm
        have a0 := A.c0
        have a1 := A.c1
        have a2 := A.c2
        have b0 := B.c0
        have b1 := B.c1
        have b2 := B.c2
        have p0 := r1.c0
        have p1 := r1.c1
        have p2 := r1.c2
        have q0 := r2.c0
        have q1 := r2.c1
        have q2 := r2.c2
        have f0 := r1.f 0
        have f1 := r1.f 1
        have f2 := r1.f 2
        have g0 := r2.f 0
        have g1 := r2.f 1
        have g2 := r2.f 2
        have hall := below_next hB hW
        go_wp2_with fail
        go_region
        all_goals go_wp2
        all_goals exact bodyPost_ret (v := .tuple #[.agg #[_, _, _], .agg #[_, _, _], _]) (by simp [results, Try.results38, go_sem, p0, p1, p2, q0, q1, q2]) rfl ⟨rfl,
          ((((((hall.setCell (p := ⟨w.heap.size, 0, none⟩) (Nat.le_refl _) _).setCell (p := ⟨w.heap.size, 1, none⟩) (Nat.le_refl _) _).setCell (p := ⟨w.heap.size, 2, none⟩) (Nat.le_refl _) _).setCell (p := ⟨w.heap.size + 1, 0, none⟩) (Nat.le_succ _) _).setCell (p := ⟨w.heap.size + 1, 1, none⟩) (Nat.le_succ _) _).setCell (p := ⟨w.heap.size + 1, 2, none⟩) (Nat.le_succ _) _).drew⟩

end Go.Proofs.Ytcfglmamocdkeaa
