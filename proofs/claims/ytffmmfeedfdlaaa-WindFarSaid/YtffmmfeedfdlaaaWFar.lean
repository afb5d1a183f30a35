/- The walk of WindFar. -/
import Derived.Test.YtffmmfeedfdlaaaWPoints
import Derived.Test.YtffmmfeedfdlaaaSums2
namespace Go.Proofs.Ytffmmfeedfdlaaa
open Go.ChangeShapes Go.WideShapes Go.ChangeAt Go.RowKit
set_option linter.unusedVariables false

theorem windFar_heavy (a : Option Addr) (N c : Nat) (L : Nat → Pg) (p : P) (w : World) (S : Ll a N L w) (hT : N ≤ 100 → tot L N ≤ 4611686018427387904) (h1 : 100 < N ∨ 400 < tot L N) :
    Calls Try.prog 7 #[.slice a N c, .agg #[.int .i64 p.x, .int .i64 p.y]] w fun e w' => e = .returned (.bool true) ∧ Below w.heap.size w w' := by
  have H1 := Lib.hid h1
  have HT := Lib.hid hT
  clear h1 hT
  go_enter Try.func7, Try.ntmps7
  have HA := below_alloc w (.cells #[.int .i64 p.x, .int .i64 p.y] 24)
  go_wp2_with fail
  refine (heavy_is a N c L _ (S.next HA) HT.out true (decide_eq_true H1.out)).mono ?_
  rintro e w1 ⟨rfl, hb⟩
  go_wp2_with fail
  refine (awake_any _).mono ?_
  rintro e w2 ⟨rfl, hb2⟩
  go_wp2_with fail
  go_ret
  exact ⟨rfl, below_next (below_next HA hb) hb2⟩
/-- What the flags say of the points seen. -/
def Sn (L : Nat → Pg) (j m : Nat) (C : P → Prop) : Prop := Al L j C ∧ ∀ k, k < m → C ((L j).f k)
theorem Sn.zero {L : Nat → Pg} {C : P → Prop} : Sn L 0 0 C := ⟨fun i hi => absurd hi (by omega), fun k hk => absurd hk (by omega)⟩
theorem Sn.step {L : Nat → Pg} {j m : Nat} {C : P → Prop} (h : Sn L j m C) (hc : C ((L j).f m)) : Sn L j (m + 1) C := ⟨h.1, fun k hk => by
  rcases Nat.lt_or_ge k m with h' | h'
  · exact h.2 k h'
  · obtain rfl : k = m := by omega
    exact hc⟩
theorem Sn.row {L : Nat → Pg} {j : Nat} {C : P → Prop} (h : Sn L j (L j).n C) : Sn L (j + 1) 0 C := ⟨fun i hi k hk => by
  rcases Nat.lt_or_ge i j with h' | h'
  · exact h.1 i h' k hk
  · obtain rfl : i = j := by omega
    exact h.2 k hk, fun k hk => absurd hk (by omega)⟩
structure Fl (L : Nat → Pg) (p : P) (j m : Nat) (l r b u : Bool) : Prop where
  bd : Sn L j m Bd
  l : l = true → Sn L j m (fun q => p.x < q.x)
  r : r = true → Sn L j m (fun q => q.x < p.x)
  b : b = true → Sn L j m (fun q => p.y < q.y)
  u : u = true → Sn L j m (fun q => q.y < p.y)
theorem Fl.zero {L : Nat → Pg} {p : P} {l r b u : Bool} : Fl L p 0 0 l r b u := ⟨.zero, fun _ => .zero, fun _ => .zero, fun _ => .zero, fun _ => .zero⟩
theorem Fl.row {L : Nat → Pg} {p : P} {j : Nat} {l r b u : Bool} (h : Fl L p j (L j).n l r b u) : Fl L p (j + 1) 0 l r b u := ⟨h.bd.row, fun k => (h.l k).row, fun k => (h.r k).row, fun k => (h.b k).row, fun k => (h.u k).row⟩
theorem Fl.step {L : Nat → Pg} {p : P} {j m : Nat} {l r b u l' r' b' u' : Bool} (h : Fl L p j m l r b u) (hb : Bd ((L j).f m))
    (hl : l' = true → l = true ∧ p.x < ((L j).f m).x) (hr : r' = true → r = true ∧ ((L j).f m).x < p.x) (hb' : b' = true → b = true ∧ p.y < ((L j).f m).y) (hu : u' = true → u = true ∧ ((L j).f m).y < p.y) : Fl L p j (m + 1) l' r' b' u' :=
  ⟨h.bd.step hb, fun k => (h.l (hl k).1).step (hl k).2, fun k => (h.r (hr k).1).step (hr k).2, fun k => (h.b (hb' k).1).step (hb' k).2, fun k => (h.u (hu k).1).step (hu k).2⟩
set_option maxRecDepth 100000 in
set_option maxHeartbeats 4000000 in
theorem windFar_main (a : Option Addr) (N c : Nat) (L : Nat → Pg) (p : P) (w : World) (S : Ll a N L w) (h1 : ¬ (100 < N ∨ 400 < tot L N)) :
    Calls Try.prog 7 #[.slice a N c, .agg #[.int .i64 p.x, .int .i64 p.y]] w fun e w' => e = .returned (.bool true) ∧ Below w.heap.size w w' := by
  have HN := Lib.hid (show N ≤ 1000 by omega)
  have HT := Lib.hid (show tot L N ≤ 4000 by omega)
  have HT' := Lib.hid (show N ≤ 100 → tot L N ≤ 4611686018427387904 by omega)
  have H1 := Lib.hid h1
  have hN : N ≤ 100 := by omega
  have hT : tot L N ≤ 400 := by omega
  clear h1
  go_enter Try.func7, Try.ntmps7
  have HA := below_alloc w (.cells #[.int .i64 p.x, .int .i64 p.y] 24)
  go_wp2_with fail
  refine (heavy_is a N c L _ (S.next HA) HT'.out false (decide_eq_false H1.out)).mono ?_
  rintro e wz ⟨rfl, hb⟩
  have AT := (At.new w p.x p.y).next hb
  have HB := below_next HA hb
  clear HA hb
  go_wp2_with fail
  go_loopw [18, 5, 6, 7, 8] (fun i t5 t6 t7 t8 wk => ∃ (j : Nat) (l r b u : Bool), j ≤ N ∧ i = .int .i64 j ∧ t5 = .bool l ∧ t6 = .bool r ∧ t7 = .bool b ∧ t8 = .bool u ∧ Fl L p j 0 l r b u ∧ Below wz.heap.size wz wk) (fun i _ _ _ _ _ => N - (intOf i).toNat)
  case atStart => exact ⟨0, true, true, true, true, Nat.zero_le _, rfl, rfl, rfl, rfl, rfl, .zero, Below.refl _ _⟩
  case round =>
    obtain ⟨j, l, r, b, u, hj, rfl, rfl, rfl, rfl, rfl, FL, HW⟩ := hrel
    have HBr := below_next HB HW
    have ATr := AT.next HW
    by_cases hlt : j < N
    · rcases S.next HBr with h0 | ⟨ba, oa, rfl, X⟩
      · omega
      · obtain ⟨x0, X1⟩ := X.hc j hlt
        have ht := tot_one L hlt
        have B0 := (Bx.new wr (.slice (L j).a (L j).n (L j).c) 33).c0
        have HO := below_alloc wr (.cells #[.slice (L j).a (L j).n (L j).c] 33)
        go_wp2_with fail
        have HWo := below_next HW HO
        have HBo := below_next HBr HO
        have ATo := ATr.next HO
        have XO := X1.next HO
        clear x0 X X1 HW HBr ATr HO
        generalize wr.alloc (.cells #[.slice (L j).a (L j).n (L j).c] 33) = wo at B0 HWo HBo ATo XO ⊢
        generalize wr.heap.size = T10 at B0 ⊢
        rcases XO with hz | ⟨b2, o2, ea, Y⟩
        · go_loopw [25, 5, 6, 7, 8] (fun i t5 t6 t7 t8 wk => i = .int .i64 0 ∧ t5 = .bool l ∧ t6 = .bool r ∧ t7 = .bool b ∧ t8 = .bool u ∧ wk = wo) (fun _ _ _ _ _ _ => 0)
          case atStart => exact ⟨rfl, rfl, rfl, rfl, rfl, rfl⟩
          case round =>
            obtain ⟨rfl, rfl, rfl, rfl, rfl, rfl⟩ := hrel
            go_wp2_with fail
            go_roundw
            case rel => exact ⟨j + 1, l, r, b, u, by omega, by go_num, rfl, rfl, rfl, rfl, Fl.row (by rw [hz]; exact FL), HWo⟩
            case measure => simp [intOf]; omega
        simp only [ea] at B0 ⊢
        go_loopw [25, 5, 6, 7, 8] (fun i t5 t6 t7 t8 wk => ∃ (m : Nat) (l r b u : Bool), m ≤ (L j).n ∧ i = .int .i64 m ∧ t5 = .bool l ∧ t6 = .bool r ∧ t7 = .bool b ∧ t8 = .bool u ∧ Fl L p j m l r b u ∧ Below wo.heap.size wo wk) (fun i _ _ _ _ _ => (L j).n - (intOf i).toNat)
        case atStart => exact ⟨0, l, r, b, u, Nat.zero_le _, rfl, rfl, rfl, rfl, rfl, FL, Below.refl _ _⟩
        case round =>
          clear FL
          obtain ⟨m, l, r, b, u, hm, rfl, rfl, rfl, rfl, rfl, FL, HV⟩ := hrel
          by_cases hlm : m < (L j).n
          · obtain ⟨y0, y1⟩ := (Y.next HV).hc m hlm
            have n4 : (L j).n ≤ 4000 := by omega
            have HA2 := below_alloc wr (.cells #[.int .i64 ((L j).f m).x, .int .i64 ((L j).f m).y] 24)
            have HVa := below_next HV HA2
            have HBa := below_next HBo HVa
            have Q := At.new wr ((L j).f m).x ((L j).f m).y
            by_cases o1 : ((L j).f m).x < -1048576
            · go_wp2_with fail
              refine (awake_any _).mono ?_
              rintro e wf ⟨rfl, hf⟩
              go_wp2_with fail
              go_ret
              exact ⟨rfl, below_next HBa hf⟩
            by_cases o2 : 1048576 < ((L j).f m).x
            · go_wp2_with fail
              refine (awake_any _).mono ?_
              rintro e wf ⟨rfl, hf⟩
              go_wp2_with fail
              go_ret
              exact ⟨rfl, below_next HBa hf⟩
            by_cases o3 : ((L j).f m).y < -1048576
            · go_wp2_with fail
              refine (awake_any _).mono ?_
              rintro e wf ⟨rfl, hf⟩
              go_wp2_with fail
              go_ret
              exact ⟨rfl, below_next HBa hf⟩
            by_cases o4 : 1048576 < ((L j).f m).y
            · go_wp2_with fail
              refine (awake_any _).mono ?_
              rintro e wf ⟨rfl, hf⟩
              go_wp2_with fail
              go_ret
              exact ⟨rfl, below_next HBa hf⟩
            have hbd : Bd ((L j).f m) := ⟨⟨by omega, by omega⟩, ⟨by omega, by omega⟩⟩
            go_wp2_with fail
            have HBD := Lib.hid hbd
            have ATa := ATo.next HVa
            clear o1 o2 o3 o4 y0 y1 HA2 HV hbd
            have c0 := ATa.c0
            have c1 := ATa.c1
            have d0 := Q.c0
            have d1 := Q.c1
            generalize wr.alloc (.cells #[.int .i64 ((L j).f m).x, .int .i64 ((L j).f m).y] 24) = wa at Q ATa HVa HBa c0 c1 d0 d1 ⊢
            cases l <;> cases r <;> cases b <;> cases u
            all_goals
              go_region
              go_wp2_with fail
              go_region
              go_wp2_with fail
              go_roundw
              · exact ⟨m + 1, _, _, _, _, by omega, by go_num, rfl, rfl, rfl, rfl, FL.step HBD.out (by simp) (by simp) (by simp) (by simp), HVa.drew.drew⟩
              · simp [intOf]; omega
          · obtain rfl : m = (L j).n := by omega
            go_wp2_with fail
            go_roundw
            case rel => exact ⟨j + 1, l, r, b, u, by omega, by go_num, rfl, rfl, rfl, rfl, FL.row, below_next HWo HV⟩
            case measure => simp [intOf]; omega
    · obtain rfl : j = N := by omega
      have c0 := ATr.c0
      have c1 := ATr.c1
      by_cases hall : l = false ∧ r = false ∧ b = false ∧ u = false
      · obtain ⟨rfl, rfl, rfl, rfl⟩ := hall
        go_wp2_with fail
        refine (awake_any _).mono ?_
        rintro e wf ⟨rfl, hf⟩
        go_wp2_with fail
        go_ret
        exact ⟨rfl, below_next HBr hf⟩
      · have hv : wind j L p = 0 := far_wind j L p FL.bd.1 (by
          by_cases h1 : l = true
          · exact .inl (FL.l h1).1
          · by_cases h2 : r = true
            · exact .inr (.inl (FL.r h2).1)
            · by_cases h3 : b = true
              · exact .inr (.inr (.inl (FL.b h3).1))
              · by_cases h4 : u = true
                · exact .inr (.inr (.inr (FL.u h4).1))
                · exact absurd ⟨by simpa using h1, by simpa using h2, by simpa using h3, by simpa using h4⟩ hall)
        have HV := Lib.hid hv
        have HALL := Lib.hid hall
        clear hv hall FL
        cases l <;> cases r <;> cases b <;> cases u
        · exact absurd ⟨rfl, rfl, rfl, rfl⟩ HALL.out
        all_goals
          go_wp2_with fail
          refine (wind_is _ _ _ L p _ (S.next HBr) HN.out HT.out 0 HV.out).mono ?_
          rintro e we ⟨rfl, he⟩
          go_wp2_with fail
          refine (awake_any _).mono ?_
          rintro e wf ⟨rfl, hf⟩
          go_wp2_with fail
          go_ret
          exact ⟨rfl, below_next (below_next HBr he) hf⟩
theorem windFar_walk (a : Option Addr) (N c : Nat) (L : Nat → Pg) (p : P) (w : World) (S : Ll a N L w) (hT : N ≤ 100 → tot L N ≤ 4611686018427387904) :
    Calls Try.prog 7 #[.slice a N c, .agg #[.int .i64 p.x, .int .i64 p.y]] w fun e w' => e = .returned (.bool true) ∧ Below w.heap.size w w' := by
  by_cases h1 : 100 < N ∨ 400 < tot L N
  · exact windFar_heavy a N c L p w S hT h1
  · exact windFar_main a N c L p w S h1
end Go.Proofs.Ytffmmfeedfdlaaa
