/- The walk of WindAdds. -/
import Derived.Test.YtffmmfeedfdlaaaWPoints
import Derived.Test.YtffmmfeedfdlaaaSums
namespace Go.Proofs.Ytffmmfeedfdlaaa
open Go.ChangeShapes Go.WideShapes Go.ChangeAt Go.RowKit
set_option linter.unusedVariables false

theorem At.keep {b : Nat} {x y : Int} {w w' : World} (h : At b x y w) (hk : KeepT 24 w w') : At b x y w' := ⟨hk _ _ _ h.row⟩
theorem windAdds_heavy1 (a : Option Addr) (N c : Nat) (L : Nat → Pg) (a2 : Option Addr) (N2 c2 : Nat) (L2 : Nat → Pg) (p : P) (w : World) (S : Ll a N L w) (hT : N ≤ 100 → tot L N ≤ 4611686018427387904) (h1 : 100 < N ∨ 400 < tot L N) :
    Calls Try.prog 4 #[.slice a N c, .slice a2 N2 c2, .agg #[.int .i64 p.x, .int .i64 p.y]] w fun e w' => e = .returned (.bool true) ∧ Below w.heap.size w w' := by
  have H1 := Lib.hid h1
  have HT := Lib.hid hT
  clear h1 hT
  go_enter Try.func4, Try.ntmps4
  have HA := below_alloc w (.cells #[.int .i64 p.x, .int .i64 p.y] 24)
  go_wp2_with fail
  refine (heavy_is a N c L _ (S.next HA) HT.out true (decide_eq_true H1.out)).mono ?_
  rintro e w1 ⟨rfl, hb⟩
  go_wp2_with fail
  refine (awake_any _).mono ?_
  rintro e w2 ⟨rfl, hb2⟩
  go_wp2_with fail
  go_ret
  exact ⟨rfl, below_next (below_next HA hb) hb2⟩
theorem windAdds_heavy2 (a : Option Addr) (N c : Nat) (L : Nat → Pg) (a2 : Option Addr) (N2 c2 : Nat) (L2 : Nat → Pg) (p : P) (w : World) (S : Ll a N L w) (S2 : Ll a2 N2 L2 w) (hT : N ≤ 100 → tot L N ≤ 4611686018427387904) (hT2 : N2 ≤ 100 → tot L2 N2 ≤ 4611686018427387904) (h1 : ¬ (100 < N ∨ 400 < tot L N)) (h2 : 100 < N2 ∨ 400 < tot L2 N2) :
    Calls Try.prog 4 #[.slice a N c, .slice a2 N2 c2, .agg #[.int .i64 p.x, .int .i64 p.y]] w fun e w' => e = .returned (.bool true) ∧ Below w.heap.size w w' := by
  have H1 := Lib.hid h1
  have HT := Lib.hid hT
  have H2 := Lib.hid h2
  have HT2 := Lib.hid hT2
  clear h1 hT h2 hT2
  go_enter Try.func4, Try.ntmps4
  have HA := below_alloc w (.cells #[.int .i64 p.x, .int .i64 p.y] 24)
  go_wp2_with fail
  refine (heavy_is a N c L _ (S.next HA) HT.out false (decide_eq_false H1.out)).mono ?_
  rintro e w1 ⟨rfl, hb⟩
  go_wp2_with fail
  refine (heavy_is a2 N2 c2 L2 _ (S2.next (below_next HA hb)) HT2.out true (decide_eq_true H2.out)).mono ?_
  rintro e w2 ⟨rfl, hb2⟩
  go_wp2_with fail
  refine (awake_any _).mono ?_
  rintro e w3 ⟨rfl, hb3⟩
  go_wp2_with fail
  go_ret
  exact ⟨rfl, below_next (below_next (below_next HA hb) hb2) hb3⟩
theorem ll_cat {a : Option Addr} {N N2 : Nat} {L L2 : Nat → Pg} {b b2 : Option Addr} {w : World} (S : Ll b N L w) (S2 : Ll b2 N2 L2 w) (O : Lc a (N + N2) (GO.cat N L L2) w) : Ll a (N + N2) (GO.cat N L L2) w :=
  O.ll fun i hi => by
    by_cases h : i < N
    · rw [GO.cat_lt h]
      rcases S with h0 | ⟨b, o, _, X⟩
      · omega
      · exact (X.hc i h).2
    · rw [GO.cat_ge (by omega)]
      rcases S2 with h0 | ⟨b, o, _, X⟩
      · omega
      · exact (X.hc _ (by omega)).2
set_option maxRecDepth 100000 in
set_option maxHeartbeats 2000000 in
theorem windAdds_main (a : Option Addr) (N c : Nat) (L : Nat → Pg) (a2 : Option Addr) (N2 c2 : Nat) (L2 : Nat → Pg) (p : P) (w : World) (S : Ll a N L w) (S2 : Ll a2 N2 L2 w) (h1 : ¬ (100 < N ∨ 400 < tot L N)) (h2 : ¬ (100 < N2 ∨ 400 < tot L2 N2)) :
    Calls Try.prog 4 #[.slice a N c, .slice a2 N2 c2, .agg #[.int .i64 p.x, .int .i64 p.y]] w fun e w' => e = .returned (.bool true) ∧ Below w.heap.size w w' := by
  have hN : N ≤ 100 := by omega
  have hN2 : N2 ≤ 100 := by omega
  obtain ⟨v1, hv1⟩ : ∃ v, wind N L p = v := ⟨_, rfl⟩
  obtain ⟨v2, hv2⟩ : ∃ v, wind N2 L2 p = v := ⟨_, rfl⟩
  obtain ⟨A1, hA1⟩ : ∃ A, pal L N = A := ⟨_, rfl⟩
  obtain ⟨A2, hA2⟩ : ∃ A, pal L2 N2 = A := ⟨_, rfl⟩
  have hv : wind (N + N2) (GO.cat N L L2) p = v1 + v2 := by rw [wind_cat, hv1, hv2]
  have hA : pal (GO.cat N L L2) (N + N2) = A1 + A2 := by rw [pal_cat, hA1, hA2]
  have i1 := wind_in N L p
  have i2 := wind_in N2 L2 p
  have i3 := pal_in L N
  have i4 := pal_in L2 N2
  rw [hv1] at i1
  rw [hv2] at i2
  rw [hA1] at i3
  rw [hA2] at i4
  have wv : IntKind.i64.wrap (v1 + v2) = v1 + v2 := IntWalk.i64_in _ (by omega)
  have wA : IntKind.i64.wrap (A1 + A2) = A1 + A2 := IntWalk.i64_in _ (by omega)
  have hTb : tot (GO.cat N L L2) (N + N2) ≤ 4000 := by rw [tot_cat]; omega
  have hT' : N ≤ 100 → tot L N ≤ 4611686018427387904 := by omega
  have hT2' : N2 ≤ 100 → tot L2 N2 ≤ 4611686018427387904 := by omega
  have HN := Lib.hid (show N ≤ 1000 by omega)
  have HN2 := Lib.hid (show N2 ≤ 1000 by omega)
  have HNN := Lib.hid (show N + N2 ≤ 1000 by omega)
  have HT1 := Lib.hid (show tot L N ≤ 4000 by omega)
  have HT2 := Lib.hid (show tot L2 N2 ≤ 4000 by omega)
  have HTb := Lib.hid hTb
  have HT' := Lib.hid hT'
  have HT2' := Lib.hid hT2'
  have H1 := Lib.hid h1
  have H2 := Lib.hid h2
  have V1 := Lib.hid hv1
  have V2 := Lib.hid hv2
  have V3 := Lib.hid hv
  have B1 := Lib.hid hA1
  have B2 := Lib.hid hA2
  have B3 := Lib.hid hA
  clear hv1 hv2 hA1 hA2 hv hA i1 i2 i3 i4 hTb hT' hT2' h1 h2
  go_enter Try.func4, Try.ntmps4
  have HA := below_alloc w (.cells #[.int .i64 p.x, .int .i64 p.y] 24)
  go_wp2_with fail
  refine (heavy_is a N c L _ (S.next HA) HT'.out false (decide_eq_false H1.out)).mono ?_
  rintro e w1 ⟨rfl, hb⟩
  have AT := (At.new w p.x p.y).next hb
  have HB := below_next HA hb
  clear HA hb
  go_wp2_with fail
  refine (heavy_is a2 N2 c2 L2 _ (S2.next HB) HT2'.out false (decide_eq_false H2.out)).mono ?_
  rintro e w2 ⟨rfl, hb⟩
  replace AT := AT.next hb
  replace HB := below_next HB hb
  clear hb
  have bs := below_alloc w2 (.cells #[] 33)
  replace AT := AT.next bs
  have HB' := below_next HB bs
  have hsz := HB.size
  go_wp2_with (first
    | (at_builtin; refine GO.wpList_append_vecs rfl (.tmp 15) (.tmp 16) elt33 rfl rfl (GO.Ow.empty w.heap.size 33 L w2 hsz) rfl (S.next HB').lc (by omega) (by simp; omega) N (by omega) L (fun i hi => GO.cat_ge (Nat.zero_le i)) ?_; intro a' c' w3 O3 G3; have HB3 := G3.below _ _ HB' (Nat.le_refl _); have hsz3 := HB3.size; have AT3 := AT.keep (G3.keep 24 (by decide)))
    | (at_builtin; refine GO.wpList_append_vecs rfl (.tmp 17) (.tmp 18) elt33 rfl rfl O3 rfl (S2.next HB3).lc (by omega) hsz3 (N + N2) rfl (GO.cat N L L2) (fun i hi => rfl) ?_; intro a'' c'' w4 O4 G4; have HB4 := G4.below _ _ HB3 (Nat.le_refl _); have AT4 := AT3.keep (G4.keep 24 (by decide))))
  have S4 := S.next HB4
  have S24 := S2.next HB4
  have Sb := ll_cat S4 S24 O4.sx
  clear O3 O4 G3 G4 AT3 HB3 HB' bs AT HB
  have MK : Hid (∀ w', Below w4.heap.size w4 w' → Below w4.heap.size w4 w' ∧ w'.cell? ⟨w.heap.size, 0, none⟩ = some (.int .i64 p.x) ∧ w'.cell? ⟨w.heap.size, 1, none⟩ = some (.int .i64 p.y)) := fun w' h => ⟨h, (AT4.next h).c0, (AT4.next h).c1⟩
  go_region_held3 (fun w' => Below w4.heap.size w4 w' ∧ w'.cell? ⟨w.heap.size, 0, none⟩ = some (.int .i64 p.x) ∧ w'.cell? ⟨w.heap.size, 1, none⟩ = some (.int .i64 p.y))
    (first | exact MK.out _ (Below.refl _ _).drew | exact MK.out _ (below_next (by go_split_ands; assumption) hb))
    (first
      | (go_at_call 10; with_reducible refine (wind_is a'' (N + N2) c'' (GO.cat N L L2) p _ (Sb.next (by go_split_ands; assumption)) HNN.out HTb.out (v1 + v2) V3.out).mono ?_; rintro e wt ⟨rfl, hb⟩)
      | (go_at_call 10; with_reducible refine (wind_is a N c L p _ (S4.next (by go_split_ands; assumption)) HN.out HT1.out v1 V1.out).mono ?_; rintro e wt ⟨rfl, hb⟩)
      | (go_at_call 10; with_reducible refine (wind_is a2 N2 c2 L2 p _ (S24.next (by go_split_ands; assumption)) HN2.out HT2.out v2 V2.out).mono ?_; rintro e wt ⟨rfl, hb⟩)
      | (go_at_call 13; with_reducible refine (areas_is a'' (N + N2) c'' (GO.cat N L L2) _ (Sb.next (by go_split_ands; assumption)) HNN.out HTb.out (A1 + A2) B3.out).mono ?_; rintro e wt ⟨rfl, hb⟩)
      | (go_at_call 13; with_reducible refine (areas_is a N c L _ (S4.next (by go_split_ands; assumption)) HN.out HT1.out A1 B1.out).mono ?_; rintro e wt ⟨rfl, hb⟩)
      | (go_at_call 13; with_reducible refine (areas_is a2 N2 c2 L2 _ (S24.next (by go_split_ands; assumption)) HN2.out HT2.out A2 B2.out).mono ?_; rintro e wt ⟨rfl, hb⟩)
      | (go_at_call 9; refine (awake_any _).mono ?_; rintro e wt ⟨rfl, hb⟩))
  have HZ : Below w.heap.size w _ := below_next HB4 (by go_split_ands; assumption)
  go_wp2_with fail
  go_ret
  exact ⟨rfl, HZ⟩
theorem windAdds_walk (a : Option Addr) (N c : Nat) (L : Nat → Pg) (a2 : Option Addr) (N2 c2 : Nat) (L2 : Nat → Pg) (p : P) (w : World) (S : Ll a N L w) (hT : N ≤ 100 → tot L N ≤ 4611686018427387904) (S2 : Ll a2 N2 L2 w) (hT2 : N2 ≤ 100 → tot L2 N2 ≤ 4611686018427387904) :
    Calls Try.prog 4 #[.slice a N c, .slice a2 N2 c2, .agg #[.int .i64 p.x, .int .i64 p.y]] w fun e w' => e = .returned (.bool true) ∧ Below w.heap.size w w' := by
  by_cases h1 : 100 < N ∨ 400 < tot L N
  · exact windAdds_heavy1 a N c L a2 N2 c2 L2 p w S hT h1
  · by_cases h2 : 100 < N2 ∨ 400 < tot L2 N2
    · exact windAdds_heavy2 a N c L a2 N2 c2 L2 p w S S2 hT hT2 h1 h2
    · exact windAdds_main a N c L a2 N2 c2 L2 p w S S2 h1 h2
end Go.Proofs.Ytffmmfeedfdlaaa
