/- The contracts of planar's Area2. -/
import Derived.Test.YtffmmfeedfdlaaaMem
import Derived.Deep.RegionHeld3
import Derived.Deep.DrawnRows
import Derived.IntWalk
namespace Go.Proofs.Ytffmmfeedfdlaaa
open Go.ChangeShapes Go.WideShapes Go.ChangeAt Go.RowKit

def at1 (g : Pg) (j : Nat) : Int := (g.f j).x * (nx g j).y - (g.f j).y * (nx g j).x
def pa1 (g : Pg) : Nat → Int
  | 0 => 0
  | j + 1 => pa1 g j + at1 g j
def AllP (n : Nat) (f : Nat → P) : Prop := ∀ i, i < n → (f i).Ok
instance (n : Nat) (f : Nat → P) : Decidable (AllP n f) := by unfold AllP; exact inferInstance
def parea (g : Pg) : Int := if AllP g.n g.f then pa1 g g.n else 0
theorem at1_in (g : Pg) (j : Nat) (h : (g.f j).Ok) (h' : (nx g j).Ok) : -562949953421312 ≤ at1 g j ∧ at1 g j ≤ 562949953421312 := by
  unfold P.Ok at h h'
  have q1 := mul_in h.1 h'.2
  have q2 := mul_in h.2 h'.1
  unfold at1
  omega
theorem nx_ok (g : Pg) (j : Nat) (hj : j < g.n) (h : AllP g.n g.f) : (nx g j).Ok := h _ (Nat.mod_lt _ (by omega))
theorem pa1_in (g : Pg) (h : AllP g.n g.f) : ∀ j : Nat, j ≤ g.n → -(562949953421312 * (j : Int)) ≤ pa1 g j ∧ pa1 g j ≤ 562949953421312 * (j : Int)
  | 0, _ => by simp [pa1]
  | j + 1, hj => by
    have k := pa1_in g h j (by omega)
    have t := at1_in g j (h j (by omega)) (nx_ok g j (by omega) h)
    simp only [pa1]
    omega
theorem parea_in (g : Pg) : -(562949953421312 * (g.n : Int)) ≤ parea g ∧ parea g ≤ 562949953421312 * (g.n : Int) := by
  unfold parea
  split
  · exact pa1_in g (by assumption) g.n (Nat.le_refl _)
  · omega

theorem At.drew {b : Nat} {x y : Int} {w : World} (h : At b x y w) : At b x y w.drew := ⟨h.row⟩
theorem two_boxes (w : World) (a b : P) : Below w.heap.size w ((w.alloc (.cells #[.int .i64 a.x, .int .i64 a.y] 24)).alloc (.cells #[.int .i64 b.x, .int .i64 b.y] 24)) ∧
    At w.heap.size a.x a.y ((w.alloc (.cells #[.int .i64 a.x, .int .i64 a.y] 24)).alloc (.cells #[.int .i64 b.x, .int .i64 b.y] 24)) ∧ At (w.heap.size + 1) b.x b.y ((w.alloc (.cells #[.int .i64 a.x, .int .i64 a.y] 24)).alloc (.cells #[.int .i64 b.x, .int .i64 b.y] 24)) :=
  ⟨below_next (below_alloc _ _) (below_alloc _ _), (At.new w a.x a.y).next (below_alloc _ _), At.newAt _ _ _ (by simp)⟩
set_option maxRecDepth 100000 in
set_option maxHeartbeats 2000000 in
theorem area_all (n c b o : Nat) (f : Nat → P) (w : World) (S : Px b o n f w) (hn : n ≤ 8192) (ha : AllP n f) (G : Pg) (hG : G = ⟨some ⟨b, o, none⟩, n, c, f⟩) :
    Calls Try.prog 23 #[.slice (some ⟨b, o, none⟩) n c] w fun e w' => e = .returned (.int .i64 (pa1 G n)) ∧ Below w.heap.size w w' := by
  have HA := Lib.hid ha
  have HG := Lib.hid hG
  have HB := Lib.hid (pa1_in G (by rw [hG]; exact ha))
  clear ha hG
  have d1 : decide ((8192 : Int) < (n : Int)) = false := by simp; omega
  go_enter Try.func23, Try.ntmps23
  go_wp2_with fail
  go_loopw [3, 12] (fun s i wk => ∃ (j : Nat), j ≤ n ∧ i = .int .i64 j ∧ s = .int .i64 (pa1 G j) ∧ Below w.heap.size w wk) (fun _ i _ => n - (intOf i).toNat)
  case atStart => exact ⟨0, by omega, rfl, rfl, Below.refl _ _⟩
  case round =>
    obtain ⟨j, hj, rfl, rfl, hW⟩ := hrel
    by_cases hlt : j < n
    · obtain ⟨x0, x1⟩ := (S.next hW).hc j hlt
      obtain ⟨m, hm⟩ : ∃ m, (j + 1) % n = m := ⟨_, rfl⟩
      have hmn : m < n := by rw [← hm]; exact Nat.mod_lt _ (by omega)
      have hmi : ((j : Int) + 1) % n = m := by rw [← hm]; simp
      have e1 : (f m).Ok := HA.out m hmn
      have e2 : (f j).Ok := HA.out j hlt
      obtain ⟨k1, k2⟩ := HB.out j (by rw [HG.out]; exact hj)
      have ev : pa1 G (j + 1) = pa1 G j + ((f j).x * (f m).y - (f j).y * (f m).x) := by
        have : at1 G j = (f j).x * (f m).y - (f j).y * (f m).x := by unfold at1 nx; rw [HG.out]; dsimp only; rw [hm]
        rw [← this]; rfl
      have EV := Lib.hid ev
      obtain ⟨⟨a1, a2⟩, a3, a4⟩ := e2
      obtain ⟨⟨b1, b2⟩, b3, b4⟩ := e1
      have q1 := mul_in (x := (f j).x) (y := (f m).y) (m := 16777216) (n := 16777216) ⟨by omega, by omega⟩ ⟨by omega, by omega⟩
      have q2 := mul_in (x := (f j).y) (y := (f m).x) (m := 16777216) (n := 16777216) ⟨by omega, by omega⟩ ⟨by omega, by omega⟩
      simp only [Int.reduceMul] at q1 q2
      have eok : Hid ((f j).Ok) := Lib.hid ⟨⟨a1, a2⟩, a3, a4⟩
      clear ev hm
      obtain ⟨y0, y1⟩ := ((S.next hW).next (below_alloc wr (.cells #[.int .i64 (f j).x, .int .i64 (f j).y] 24))).hc m hmn
      obtain ⟨TB, T1, T2⟩ := two_boxes wr (f j) (f m)
      go_wp2_with fail
      clear x0 x1 y0 y1
      generalize (wr.alloc _).alloc _ = wz at TB T1 T2 ⊢
      generalize wr.heap.size + 1 = p2 at T2 ⊢
      generalize hp1 : wr.heap.size = p1 at T1 ⊢
      have HW := hW.trans (TB.mono hW.size)
      clear hp1 TB
      refine (valid_is (decide_eq_true eok.out) _).mono ?_
      rintro e wv ⟨rfl, hb⟩
      have F1 := T1.next hb
      have F2 := T2.next hb
      have c0 := F1.c0
      have c1 := F1.c1
      have c2 := F2.c0
      have c3 := F2.c1
      go_wp2_with fail
      go_roundw
      case rel => exact ⟨j + 1, by omega, by go_num, by rw [EV.out], below_next HW hb⟩
      case measure => simp [intOf]; omega
    · obtain rfl : j = n := by omega
      go_wp2_with fail
      go_ret
      exact ⟨rfl, hW⟩
set_option maxRecDepth 100000 in
set_option maxHeartbeats 2000000 in
theorem area_some (n c b o : Nat) (f : Nat → P) (w : World) (S : Px b o n f w) (hn : n ≤ 8192) (q : Nat) (hq : q < n) (hq1 : ¬ (f q).Ok) :
    Calls Try.prog 23 #[.slice (some ⟨b, o, none⟩) n c] w fun e w' => e = .returned (.int .i64 0) ∧ Below w.heap.size w w' := by
  have HQ := Lib.hid hq1
  clear hq1
  have d1 : decide ((8192 : Int) < (n : Int)) = false := by simp; omega
  go_enter Try.func23, Try.ntmps23
  go_wp2_with fail
  go_loopw [3, 12] (fun s i wk => ∃ (j : Nat) (z : Int), j ≤ n ∧ i = .int .i64 j ∧ s = .int .i64 z ∧ j ≤ q ∧ Below w.heap.size w wk) (fun _ i _ => n - (intOf i).toNat)
  case atStart => exact ⟨0, 0, by omega, rfl, rfl, by omega, Below.refl _ _⟩
  case round =>
    obtain ⟨j, z, hj, rfl, rfl, hjq, hW⟩ := hrel
    by_cases hlt : j < n
    · obtain ⟨x0, x1⟩ := (S.next hW).hc j hlt
      obtain ⟨m, hm⟩ : ∃ m, (j + 1) % n = m := ⟨_, rfl⟩
      have hmn : m < n := by rw [← hm]; exact Nat.mod_lt _ (by omega)
      have hmi : ((j : Int) + 1) % n = m := by rw [← hm]; simp
      clear hm
      obtain ⟨y0, y1⟩ := ((S.next hW).next (below_alloc wr (.cells #[.int .i64 (f j).x, .int .i64 (f j).y] 24))).hc m hmn
      obtain ⟨TB, T1, T2⟩ := two_boxes wr (f j) (f m)
      by_cases hjj : j = q
      · subst hjj
        go_wp2_with fail
        clear x0 x1 y0 y1
        generalize (wr.alloc _).alloc _ = wz at TB T1 T2 ⊢
        generalize wr.heap.size + 1 = p2 at T2 ⊢
        generalize hp1 : wr.heap.size = p1 at T1 ⊢
        have HW := hW.trans (TB.mono hW.size)
        clear hp1 TB
        refine (valid_is (decide_eq_false HQ.out) _).mono ?_
        rintro e wv ⟨rfl, hb⟩
        go_wp2_with fail
        go_ret
        exact ⟨rfl, below_next HW hb⟩
      · by_cases hv : (f j).Ok
        · have eok := Lib.hid hv
          clear hv
          go_wp2_with fail
          clear x0 x1 y0 y1
          generalize (wr.alloc _).alloc _ = wz at TB T1 T2 ⊢
          generalize wr.heap.size + 1 = p2 at T2 ⊢
          generalize hp1 : wr.heap.size = p1 at T1 ⊢
          have HW := hW.trans (TB.mono hW.size)
          clear hp1 TB
          refine (valid_is (decide_eq_true eok.out) _).mono ?_
          rintro e wv ⟨rfl, hb⟩
          have F1 := T1.next hb
          have F2 := T2.next hb
          have c0 := F1.c0
          have c1 := F1.c1
          have c2 := F2.c0
          have c3 := F2.c1
          go_wp2_with fail
          go_roundw
          case rel => exact ⟨j + 1, _, by omega, by go_num, rfl, by omega, below_next HW hb⟩
          case measure => simp [intOf]; omega
        · have eok := Lib.hid hv
          clear hv
          go_wp2_with fail
          clear x0 x1 y0 y1
          generalize (wr.alloc _).alloc _ = wz at TB T1 T2 ⊢
          generalize wr.heap.size + 1 = p2 at T2 ⊢
          generalize hp1 : wr.heap.size = p1 at T1 ⊢
          have HW := hW.trans (TB.mono hW.size)
          clear hp1 TB
          refine (valid_is (decide_eq_false eok.out) _).mono ?_
          rintro e wv ⟨rfl, hb⟩
          go_wp2_with fail
          go_ret
          exact ⟨rfl, below_next HW hb⟩
    · omega
set_option maxRecDepth 100000 in
set_option maxHeartbeats 2000000 in
theorem area_allr (n c b o : Nat) (f : Nat → P) (w : World) (S : Px b o n f w) (hn : n ≤ 8192) (ha : AllP n f) (G : Pg) (hG : G = ⟨some ⟨b, o, none⟩, n, c, f⟩) :
    Calls Try.prog 24 #[.slice (some ⟨b, o, none⟩) n c] w fun e w' => e = .returned (.int .i64 (pa1 G n)) ∧ Below w.heap.size w w' := by
  have HA := Lib.hid ha
  have HG := Lib.hid hG
  have HB := Lib.hid (pa1_in G (by rw [hG]; exact ha))
  clear ha hG
  have d1 : decide ((8192 : Int) < (n : Int)) = false := by simp; omega
  go_enter Try.func24, Try.ntmps24
  go_wp2_with fail
  go_loopw [3, 4] (fun s i wk => ∃ (j : Nat), j ≤ n ∧ i = .int .i64 j ∧ s = .int .i64 (pa1 G j) ∧ Below w.heap.size w wk) (fun _ i _ => n - (intOf i).toNat)
  case atStart => exact ⟨0, by omega, rfl, rfl, Below.refl _ _⟩
  case round =>
    obtain ⟨j, hj, rfl, rfl, hW⟩ := hrel
    by_cases hlt : j < n
    · obtain ⟨x0, x1⟩ := (S.next hW).hc j hlt
      obtain ⟨m, hm⟩ : ∃ m, (j + 1) % n = m := ⟨_, rfl⟩
      have hmn : m < n := by rw [← hm]; exact Nat.mod_lt _ (by omega)
      have hmi : ((j : Int) + 1) % n = m := by rw [← hm]; simp
      have e1 : (f m).Ok := HA.out m hmn
      have e2 : (f j).Ok := HA.out j hlt
      obtain ⟨k1, k2⟩ := HB.out j (by rw [HG.out]; exact hj)
      have ev : pa1 G (j + 1) = pa1 G j + ((f j).x * (f m).y - (f j).y * (f m).x) := by
        have : at1 G j = (f j).x * (f m).y - (f j).y * (f m).x := by unfold at1 nx; rw [HG.out]; dsimp only; rw [hm]
        rw [← this]; rfl
      have EV := Lib.hid ev
      obtain ⟨⟨a1, a2⟩, a3, a4⟩ := e2
      obtain ⟨⟨b1, b2⟩, b3, b4⟩ := e1
      have q1 := mul_in (x := (f j).x) (y := (f m).y) (m := 16777216) (n := 16777216) ⟨by omega, by omega⟩ ⟨by omega, by omega⟩
      have q2 := mul_in (x := (f j).y) (y := (f m).x) (m := 16777216) (n := 16777216) ⟨by omega, by omega⟩ ⟨by omega, by omega⟩
      simp only [Int.reduceMul] at q1 q2
      have eok : Hid ((f j).Ok) := Lib.hid ⟨⟨a1, a2⟩, a3, a4⟩
      clear ev hm
      obtain ⟨y0, y1⟩ := (S.next hW).hc m hmn
      have j0 : (0 : Int) ≤ j := by omega
      have j1 : (j : Int) < n := by omega
      have m0 : (0 : Int) ≤ m := by omega
      have m1 : (m : Int) < n := by omega
      have wj : IntKind.i64.wrap ((j : Int) + 1) = j + 1 := IntWalk.i64_in _ (by omega)
      have hmt : ((j : Int) + 1).tmod n = m := by rw [Int.tmod_eq_emod_of_nonneg (by omega)]; exact hmi
      have hbs : b < wr.heap.size := Nat.lt_of_lt_of_le S.hb hW.size
      have hb1 : b ≠ wr.heap.size := Nat.ne_of_lt hbs
      have hb2 : b ≠ wr.heap.size + 1 := by omega
      have hb1' := hb1.symm
      have hb2' := hb2.symm
      have n0 : ¬ n = 0 := by omega
      go_wp2_with fail
      go_region_held3 (fun w' => w'.cell? ⟨b, o + j * 2, none⟩ = some (.int .i64 (f j).x) ∧ w'.cell? ⟨b, o + j * 2 + 1, none⟩ = some (.int .i64 (f j).y) ∧ w'.cell? ⟨b, o + m * 2, none⟩ = some (.int .i64 (f m).x) ∧ w'.cell? ⟨b, o + m * 2 + 1, none⟩ = some (.int .i64 (f m).y)) (go_keep) (fail)
      all_goals clear x0 x1 y0 y1
      all_goals go_wp2_with fail
      all_goals first
        | (obtain ⟨TB, T1, T2⟩ := two_boxes wr (f j) (f m)
           have HW := hW.trans (TB.drew.mono hW.size)
           have T1' := T1.drew
           have T2' := T2.drew
           clear TB T1 T2
           refine (valid_isr (decide_eq_true eok.out) _).mono ?_
           rintro e wv ⟨rfl, hb⟩
           have F1 := T1'.next hb
           have F2 := T2'.next hb
           have c0 := F1.c0
           have c1 := F1.c1
           have c2 := F2.c0
           have c3 := F2.c1
           have HX := below_next HW hb
           clear F1 F2 T1' T2' hb HW
           go_wp2_with fail
           go_roundw
           case rel => exact ⟨j + 1, by omega, by go_num, by rw [EV.out, Int.add_sub_assoc], HX⟩
           case measure => simp [intOf]; omega)
        | (obtain ⟨TB, T2, T1⟩ := two_boxes wr (f m) (f j)
           have HW := hW.trans (TB.drew.mono hW.size)
           have T1' := T1.drew
           have T2' := T2.drew
           clear TB T1 T2
           refine (valid_isr (decide_eq_true eok.out) _).mono ?_
           rintro e wv ⟨rfl, hb⟩
           have F1 := T1'.next hb
           have F2 := T2'.next hb
           have c0 := F1.c0
           have c1 := F1.c1
           have c2 := F2.c0
           have c3 := F2.c1
           have HX := below_next HW hb
           clear F1 F2 T1' T2' hb HW
           go_wp2_with fail
           go_roundw
           case rel => exact ⟨j + 1, by omega, by go_num, by rw [EV.out, Int.add_sub_assoc], HX⟩
           case measure => simp [intOf]; omega)
    · obtain rfl : j = n := by omega
      go_wp2_with fail
      go_ret
      exact ⟨rfl, hW⟩
set_option maxRecDepth 100000 in
set_option maxHeartbeats 2000000 in
theorem area_somer (n c b o : Nat) (f : Nat → P) (w : World) (S : Px b o n f w) (hn : n ≤ 8192) (q : Nat) (hq : q < n) (hq1 : ¬ (f q).Ok) :
    Calls Try.prog 24 #[.slice (some ⟨b, o, none⟩) n c] w fun e w' => e = .returned (.int .i64 0) ∧ Below w.heap.size w w' := by
  have HQ := Lib.hid hq1
  clear hq1
  have d1 : decide ((8192 : Int) < (n : Int)) = false := by simp; omega
  go_enter Try.func24, Try.ntmps24
  go_wp2_with fail
  go_loopw [3, 4] (fun s i wk => ∃ (j : Nat) (z : Int), j ≤ n ∧ i = .int .i64 j ∧ s = .int .i64 z ∧ j ≤ q ∧ Below w.heap.size w wk) (fun _ i _ => n - (intOf i).toNat)
  case atStart => exact ⟨0, 0, by omega, rfl, rfl, by omega, Below.refl _ _⟩
  case round =>
    obtain ⟨j, z, hj, rfl, rfl, hjq, hW⟩ := hrel
    by_cases hlt : j < n
    · obtain ⟨x0, x1⟩ := (S.next hW).hc j hlt
      obtain ⟨m, hm⟩ : ∃ m, (j + 1) % n = m := ⟨_, rfl⟩
      have hmn : m < n := by rw [← hm]; exact Nat.mod_lt _ (by omega)
      have hmi : ((j : Int) + 1) % n = m := by rw [← hm]; simp
      clear hm
      obtain ⟨y0, y1⟩ := (S.next hW).hc m hmn
      have j0 : (0 : Int) ≤ j := by omega
      have j1 : (j : Int) < n := by omega
      have m0 : (0 : Int) ≤ m := by omega
      have m1 : (m : Int) < n := by omega
      have wj : IntKind.i64.wrap ((j : Int) + 1) = j + 1 := IntWalk.i64_in _ (by omega)
      have hmt : ((j : Int) + 1).tmod n = m := by rw [Int.tmod_eq_emod_of_nonneg (by omega)]; exact hmi
      have hbs : b < wr.heap.size := Nat.lt_of_lt_of_le S.hb hW.size
      have hb1 : b ≠ wr.heap.size := Nat.ne_of_lt hbs
      have hb2 : b ≠ wr.heap.size + 1 := by omega
      have hb1' := hb1.symm
      have hb2' := hb2.symm
      have n0 : ¬ n = 0 := by omega
      by_cases hjj : j = q
      · subst hjj
        go_wp2_with fail
        go_region_held3 (fun w' => w'.cell? ⟨b, o + j * 2, none⟩ = some (.int .i64 (f j).x) ∧ w'.cell? ⟨b, o + j * 2 + 1, none⟩ = some (.int .i64 (f j).y) ∧ w'.cell? ⟨b, o + m * 2, none⟩ = some (.int .i64 (f m).x) ∧ w'.cell? ⟨b, o + m * 2 + 1, none⟩ = some (.int .i64 (f m).y)) (go_keep) (fail)
        all_goals clear x0 x1 y0 y1
        all_goals go_wp2_with fail
        all_goals first
          | (obtain ⟨TB, T1, T2⟩ := two_boxes wr (f j) (f m)
             have HW := hW.trans (TB.drew.mono hW.size)
             have T1' := T1.drew
             have T2' := T2.drew
             clear TB T1 T2
             refine (valid_isr (decide_eq_false HQ.out) _).mono ?_
             rintro e wv ⟨rfl, hb⟩
             have F1 := T1'.next hb
             have F2 := T2'.next hb
             have c0 := F1.c0
             have c1 := F1.c1
             have c2 := F2.c0
             have c3 := F2.c1
             have HX := below_next HW hb
             clear F1 F2 T1' T2' hb HW
             go_wp2_with fail; go_ret; exact ⟨rfl, HX⟩)
          | (obtain ⟨TB, T2, T1⟩ := two_boxes wr (f m) (f j)
             have HW := hW.trans (TB.drew.mono hW.size)
             have T1' := T1.drew
             have T2' := T2.drew
             clear TB T1 T2
             refine (valid_isr (decide_eq_false HQ.out) _).mono ?_
             rintro e wv ⟨rfl, hb⟩
             have F1 := T1'.next hb
             have F2 := T2'.next hb
             have c0 := F1.c0
             have c1 := F1.c1
             have c2 := F2.c0
             have c3 := F2.c1
             have HX := below_next HW hb
             clear F1 F2 T1' T2' hb HW
             go_wp2_with fail; go_ret; exact ⟨rfl, HX⟩)
      · by_cases hv : (f j).Ok
        · have eok := Lib.hid hv
          clear hv
          go_wp2_with fail
          go_region_held3 (fun w' => w'.cell? ⟨b, o + j * 2, none⟩ = some (.int .i64 (f j).x) ∧ w'.cell? ⟨b, o + j * 2 + 1, none⟩ = some (.int .i64 (f j).y) ∧ w'.cell? ⟨b, o + m * 2, none⟩ = some (.int .i64 (f m).x) ∧ w'.cell? ⟨b, o + m * 2 + 1, none⟩ = some (.int .i64 (f m).y)) (go_keep) (fail)
          all_goals clear x0 x1 y0 y1
          all_goals go_wp2_with fail
          all_goals first
            | (obtain ⟨TB, T1, T2⟩ := two_boxes wr (f j) (f m)
               have HW := hW.trans (TB.drew.mono hW.size)
               have T1' := T1.drew
               have T2' := T2.drew
               clear TB T1 T2
               refine (valid_isr (decide_eq_true eok.out) _).mono ?_
               rintro e wv ⟨rfl, hb⟩
               have F1 := T1'.next hb
               have F2 := T2'.next hb
               have c0 := F1.c0
               have c1 := F1.c1
               have c2 := F2.c0
               have c3 := F2.c1
               have HX := below_next HW hb
               clear F1 F2 T1' T2' hb HW
               go_wp2_with fail; go_roundw; (exact ⟨j + 1, _, by omega, by go_num, rfl, by omega, HX⟩); (simp [intOf]; omega))
            | (obtain ⟨TB, T2, T1⟩ := two_boxes wr (f m) (f j)
               have HW := hW.trans (TB.drew.mono hW.size)
               have T1' := T1.drew
               have T2' := T2.drew
               clear TB T1 T2
               refine (valid_isr (decide_eq_true eok.out) _).mono ?_
               rintro e wv ⟨rfl, hb⟩
               have F1 := T1'.next hb
               have F2 := T2'.next hb
               have c0 := F1.c0
               have c1 := F1.c1
               have c2 := F2.c0
               have c3 := F2.c1
               have HX := below_next HW hb
               clear F1 F2 T1' T2' hb HW
               go_wp2_with fail; go_roundw; (exact ⟨j + 1, _, by omega, by go_num, rfl, by omega, HX⟩); (simp [intOf]; omega))
        · have eok := Lib.hid hv
          clear hv
          go_wp2_with fail
          go_region_held3 (fun w' => w'.cell? ⟨b, o + j * 2, none⟩ = some (.int .i64 (f j).x) ∧ w'.cell? ⟨b, o + j * 2 + 1, none⟩ = some (.int .i64 (f j).y) ∧ w'.cell? ⟨b, o + m * 2, none⟩ = some (.int .i64 (f m).x) ∧ w'.cell? ⟨b, o + m * 2 + 1, none⟩ = some (.int .i64 (f m).y)) (go_keep) (fail)
          all_goals clear x0 x1 y0 y1
          all_goals go_wp2_with fail
          all_goals first
            | (obtain ⟨TB, T1, T2⟩ := two_boxes wr (f j) (f m)
               have HW := hW.trans (TB.drew.mono hW.size)
               have T1' := T1.drew
               have T2' := T2.drew
               clear TB T1 T2
               refine (valid_isr (decide_eq_false eok.out) _).mono ?_
               rintro e wv ⟨rfl, hb⟩
               have F1 := T1'.next hb
               have F2 := T2'.next hb
               have c0 := F1.c0
               have c1 := F1.c1
               have c2 := F2.c0
               have c3 := F2.c1
               have HX := below_next HW hb
               clear F1 F2 T1' T2' hb HW
               go_wp2_with fail; go_ret; exact ⟨rfl, HX⟩)
            | (obtain ⟨TB, T2, T1⟩ := two_boxes wr (f m) (f j)
               have HW := hW.trans (TB.drew.mono hW.size)
               have T1' := T1.drew
               have T2' := T2.drew
               clear TB T1 T2
               refine (valid_isr (decide_eq_false eok.out) _).mono ?_
               rintro e wv ⟨rfl, hb⟩
               have F1 := T1'.next hb
               have F2 := T2'.next hb
               have c0 := F1.c0
               have c1 := F1.c1
               have c2 := F2.c0
               have c3 := F2.c1
               have HX := below_next HW hb
               clear F1 F2 T1' T2' hb HW
               go_wp2_with fail; go_ret; exact ⟨rfl, HX⟩)
    · omega
theorem area_nil (a : Option Addr) (c : Nat) (w : World) : Calls Try.prog 23 #[.slice a 0 c] w fun e w' => e = .returned (.int .i64 0) ∧ Below w.heap.size w w' := by
  go_enter Try.func23, Try.ntmps23
  go_wp2_with fail
  go_loopw [3, 12] (fun s i wk => s = .int .i64 0 ∧ i = .int .i64 0 ∧ wk = w) (fun _ _ _ => 0)
  case atStart => exact ⟨rfl, rfl, rfl⟩
  case round =>
    obtain ⟨rfl, rfl, rfl⟩ := hrel
    go_wp2_with fail
    go_ret
    exact ⟨rfl, Below.refl _ _⟩
theorem area_nilr (a : Option Addr) (c : Nat) (w : World) : Calls Try.prog 24 #[.slice a 0 c] w fun e w' => e = .returned (.int .i64 0) ∧ Below w.heap.size w w' := by
  go_enter Try.func24, Try.ntmps24
  go_wp2_with fail
  go_loopw [3, 4] (fun s i wk => s = .int .i64 0 ∧ i = .int .i64 0 ∧ wk = w) (fun _ _ _ => 0)
  case atStart => exact ⟨rfl, rfl, rfl⟩
  case round =>
    obtain ⟨rfl, rfl, rfl⟩ := hrel
    go_wp2_with fail
    go_ret
    exact ⟨rfl, Below.refl _ _⟩
theorem area_is (g : Pg) (w : World) (S : Pl g.a g.n g.f w) (hn : g.n ≤ 8192) (v : Int) (hv : parea g = v) :
    Calls Try.prog 23 #[.slice g.a g.n g.c] w fun e w' => e = .returned (.int .i64 v) ∧ Below w.heap.size w w' := by
  obtain ⟨a, n, c, f⟩ := g
  dsimp only at S hn
  by_cases h0 : n = 0
  · subst h0
    obtain rfl : v = 0 := by rw [← hv]; unfold parea; split <;> rfl
    exact area_nil a c w
  · rcases S with h | ⟨b, o, rfl, X⟩
    · exact absurd h h0
    · by_cases ha : AllP n f
      · obtain rfl : v = pa1 ⟨some ⟨b, o, none⟩, n, c, f⟩ n := by rw [← hv]; exact if_pos ha
        exact area_all n c b o f w X hn ha _ rfl
      · obtain rfl : v = 0 := by rw [← hv]; exact if_neg ha
        obtain ⟨q, hq, hq1⟩ : ∃ q, q < n ∧ ¬ (f q).Ok := by
          apply Classical.byContradiction
          intro h
          exact ha fun i hi => Classical.byContradiction fun k => h ⟨i, hi, k⟩
        exact area_some n c b o f w X hn q hq hq1
theorem area_isr (g : Pg) (w : World) (S : Pl g.a g.n g.f w) (hn : g.n ≤ 8192) (v : Int) (hv : parea g = v) :
    Calls Try.prog 24 #[.slice g.a g.n g.c] w fun e w' => e = .returned (.int .i64 v) ∧ Below w.heap.size w w' := by
  obtain ⟨a, n, c, f⟩ := g
  dsimp only at S hn
  by_cases h0 : n = 0
  · subst h0
    obtain rfl : v = 0 := by rw [← hv]; unfold parea; split <;> rfl
    exact area_nilr a c w
  · rcases S with h | ⟨b, o, rfl, X⟩
    · exact absurd h h0
    · by_cases ha : AllP n f
      · obtain rfl : v = pa1 ⟨some ⟨b, o, none⟩, n, c, f⟩ n := by rw [← hv]; exact if_pos ha
        exact area_allr n c b o f w X hn ha _ rfl
      · obtain rfl : v = 0 := by rw [← hv]; exact if_neg ha
        obtain ⟨q, hq, hq1⟩ : ∃ q, q < n ∧ ¬ (f q).Ok := by
          apply Classical.byContradiction
          intro h
          exact ha fun i hi => Classical.byContradiction fun k => h ⟨i, hi, k⟩
        exact area_somer n c b o f w X hn q hq hq1
end Go.Proofs.Ytffmmfeedfdlaaa
