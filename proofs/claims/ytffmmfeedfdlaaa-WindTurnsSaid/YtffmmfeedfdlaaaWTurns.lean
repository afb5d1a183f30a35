/- The walk of WindTurns. -/
import Derived.Test.YtffmmfeedfdlaaaWAdds
import Derived.Test.YtffmmfeedfdlaaaSums2
import Derived.Test.YtffmmfeedfdlaaaRevo
namespace Go.Proofs.Ytffmmfeedfdlaaa
open Go.ChangeShapes Go.WideShapes Go.ChangeAt Go.RowKit
set_option linter.unusedVariables false

/-- The polygons made of the first j: reversed, turned by K. -/
def Made (L : Nat → Pg) (K j : Nat) (Lb Lt : Nat → Pg) (w : World) : Prop := ∀ i, i < j →
  ((Lb i).n = (L i).n ∧ (Lb i).f = (fun q => (L i).f ((L i).n - 1 - q)) ∧ ∃ B, PO.Ow B 24 (Lb i).a (Lb i).c (Lb i).n (Lb i).f w) ∧
  ((Lt i).n = (L i).n ∧ (∀ q, q < (L i).n → (Lt i).f q = (L i).f ((q + K) % (L i).n)) ∧ ∃ B, PO.Ow B 24 (Lt i).a (Lt i).c (Lt i).n (Lt i).f w)
theorem Made.keep {L : Nat → Pg} {K j : Nat} {Lb Lt : Nat → Pg} {w w' : World} (h : Made L K j Lb Lt w) (hk : KeepT 24 w w') : Made L K j Lb Lt w' := fun i hi => by
  obtain ⟨⟨h1, h2, B, h3⟩, h4, h5, B', h6⟩ := h i hi
  exact ⟨⟨h1, h2, B, h3.keep hk⟩, h4, h5, B', h6.keep hk⟩
theorem Made.snoc {L : Nat → Pg} {K j : Nat} {Lb Lt : Nat → Pg} {w : World} {ra a3 : Option Addr} {rc c3 B B' : Nat} (h : Made L K j Lb Lt w)
    (Ob : PO.Ow B 24 ra rc (L j).n (fun q => (L j).f ((L j).n - 1 - q)) w) (Ot : PO.Ow B' 24 a3 c3 (L j).n (fun q => (L j).f ((q + K) % (L j).n)) w) :
    Made L K (j + 1) (GO.cat j Lb (fun _ => ⟨ra, (L j).n, rc, fun q => (L j).f ((L j).n - 1 - q)⟩)) (GO.cat j Lt (fun _ => ⟨a3, (L j).n, c3, fun q => (L j).f ((q + K) % (L j).n)⟩)) w := fun i hi => by
  rcases Nat.lt_or_ge i j with h' | h'
  · rw [GO.cat_lt h', GO.cat_lt h']
    exact h i h'
  · obtain rfl : i = j := by omega
    rw [GO.cat_ge (Nat.le_refl _), GO.cat_ge (Nat.le_refl _)]
    exact ⟨⟨rfl, rfl, B, Ob⟩, rfl, fun _ _ => rfl, B', Ot⟩
theorem wp1_same {g h : Pg} (p : P) (hn : g.n = h.n) (hf : ∀ q, q < h.n → g.f q = h.f q) : wp1 g p g.n = wp1 h p h.n := by
  rw [wp1_sm, wp1_sm, hn]
  exact sm_congr fun i hi => by rw [hf i hi, hf _ (Nat.mod_lt _ (by omega))]
theorem parea_same {g h : Pg} (hn : g.n = h.n) (hf : ∀ q, q < h.n → g.f q = h.f q) : parea g = parea h := by
  unfold parea
  have e : pa1 g g.n = pa1 h h.n := by
    rw [pa1_sm, pa1_sm, hn]
    exact sm_congr fun i hi => by dsimp only; rw [hf i hi, hf _ (Nat.mod_lt _ (by omega))]
  by_cases k : AllP h.n h.f
  · rw [if_pos k, if_pos (show AllP g.n g.f from fun i hi => by rw [hf i (by omega)]; exact k i (by omega)), e]
  · rw [if_neg k, if_neg (fun k' => k fun i hi => by rw [← hf i hi]; exact k' i (by omega))]
theorem made_tot {L : Nat → Pg} {K j : Nat} {Lb Lt : Nat → Pg} {w : World} (h : Made L K j Lb Lt w) : ∀ {n}, n ≤ j → tot Lb n = tot L n ∧ tot Lt n = tot L n
  | 0, _ => ⟨rfl, rfl⟩
  | n + 1, hn => by
    obtain ⟨i1, i2⟩ := made_tot h (n := n) (by omega)
    obtain ⟨⟨h1, _⟩, h4, _⟩ := h n (by omega)
    simp only [tot]
    exact ⟨by rw [i1, h1], by rw [i2, h4]⟩
theorem made_wl {L : Nat → Pg} {K j : Nat} {Lb Lt : Nat → Pg} {w : World} (p : P) (h : Made L K j Lb Lt w) : ∀ {n}, n ≤ j → wl Lb p n = - wl L p n ∧ wl Lt p n = wl L p n
  | 0, _ => ⟨rfl, rfl⟩
  | n + 1, hn => by
    obtain ⟨i1, i2⟩ := made_wl p h (n := n) (by omega)
    obtain ⟨⟨h1, h2, _⟩, h4, h5, _⟩ := h n (by omega)
    simp only [wl]
    rw [i1, i2, wp1_same (h := ⟨none, (L n).n, 0, fun q => (L n).f ((L n).n - 1 - q)⟩) p h1 (fun q _ => by rw [h2]), wp1_same (h := ⟨none, (L n).n, 0, fun q => (L n).f ((q + K) % (L n).n)⟩) p h4 h5, wp1_rev (L n) none 0 p, wp1_rot (L n) none 0 K p]
    exact ⟨by omega, rfl⟩
theorem made_pal {L : Nat → Pg} {K j : Nat} {Lb Lt : Nat → Pg} {w : World} (h : Made L K j Lb Lt w) : ∀ {n}, n ≤ j → pal Lb n = - pal L n ∧ pal Lt n = pal L n
  | 0, _ => ⟨rfl, rfl⟩
  | n + 1, hn => by
    obtain ⟨i1, i2⟩ := made_pal h (n := n) (by omega)
    obtain ⟨⟨h1, h2, _⟩, h4, h5, _⟩ := h n (by omega)
    simp only [pal]
    rw [i1, i2, parea_same (h := ⟨none, (L n).n, 0, fun q => (L n).f ((L n).n - 1 - q)⟩) h1 (fun q _ => by rw [h2]), parea_same (h := ⟨none, (L n).n, 0, fun q => (L n).f ((q + K) % (L n).n)⟩) h4 h5, parea_rev (L n) none 0, parea_rot (L n) none 0 K]
    exact ⟨by omega, rfl⟩
theorem made_wind {L : Nat → Pg} {K N : Nat} {Lb Lt : Nat → Pg} {w : World} (p : P) (h : Made L K N Lb Lt w) {v : Int} (hv : wind N L p = v) : wind N Lb p = - v ∧ wind N Lt p = v := by
  subst hv
  unfold wind
  split
  · exact made_wl p h (Nat.le_refl _)
  · exact ⟨rfl, rfl⟩
set_option maxRecDepth 100000 in
set_option maxHeartbeats 60000000 in
theorem windTurns_main (a : Option Addr) (N c : Nat) (L : Nat → Pg) (p : P) (K : Nat) (hK : K ≤ 255) (w : World) (S : Ll a N L w) (h1 : ¬ (100 < N ∨ 400 < tot L N)) :
    Calls Try.prog 5 #[.slice a N c, .agg #[.int .i64 p.x, .int .i64 p.y], .int .u8 K] w fun e w' => e = .returned (.bool true) ∧ Below w.heap.size w w' := by
  have HN := Lib.hid (show N ≤ 1000 by omega)
  have HT := Lib.hid (show tot L N ≤ 4000 by omega)
  have HT' := Lib.hid (show N ≤ 100 → tot L N ≤ 4611686018427387904 by omega)
  have H1 := Lib.hid h1
  have hN : N ≤ 100 := by omega
  have hT : tot L N ≤ 400 := by omega
  clear h1
  go_enter Try.func5, Try.ntmps5
  have HA := below_alloc w (.cells #[.int .i64 p.x, .int .i64 p.y] 24)
  go_wp2_with fail
  refine (heavy_is a N c L _ (S.next HA) HT'.out false (decide_eq_false H1.out)).mono ?_
  rintro e wz ⟨rfl, hb⟩
  have AT := (At.new w p.x p.y).next hb
  have HB := below_next HA hb
  clear HA hb
  go_wp2_with fail
  go_loopw [18, 7, 8] (fun i t7 t8 wk => ∃ (j : Nat) (a1 : Option Addr) (c1 : Nat) (a2 : Option Addr) (c2 : Nat) (Lb Lt : Nat → Pg), j ≤ N ∧ i = .int .i64 j ∧ t7 = .slice a1 j c1 ∧ t8 = .slice a2 j c2 ∧ GO.Ow wz.heap.size 33 a1 c1 j Lb wk ∧ GO.Ow wz.heap.size 33 a2 c2 j Lt wk ∧ Apart a1 j c1 a2 j c2 ∧ Made L K j Lb Lt wk ∧ Below wz.heap.size wz wk) (fun i _ _ _ => N - (intOf i).toNat)
  case atStart => exact ⟨0, none, 0, none, 0, L, L, Nat.zero_le _, rfl, rfl, rfl, GO.Ow.nil _ _ _ _, GO.Ow.nil _ _ _ _, (fun g h => by simp [Value.ownBlock] at h), (fun i hi => absurd hi (by omega)), Below.refl _ _⟩
  case round =>
    obtain ⟨j, a1, c1, a2, c2, Lb, Lt, hj, rfl, rfl, rfl, OB, OT, AP, MD, HW⟩ := hrel
    have HBr := below_next HB HW
    by_cases hlt : j < N
    · rcases S.next HBr with h0 | ⟨ba, oa, rfl, X⟩
      · omega
      · obtain ⟨x0, X1⟩ := X.hc j hlt
        have ht := tot_one L hlt
        have n4 : (L j).n ≤ 400 := by omega
        -- the variable of the loop
        have B0 := Bx.new wr (.slice (L j).a (L j).n (L j).c) 33
        have HO := below_alloc wr (.cells #[.slice (L j).a (L j).n (L j).c] 33)
        have b0 := B0.c0
        go_wp2_with fail
        have HWo := below_next HW HO
        have OBo := OB.keep (.below HO)
        have OTo := OT.keep (.below HO)
        have MDo := MD.keep (.below HO)
        have XO := X1.next HO
        have LB : ∀ g, (Value.slice a1 j c1).ownBlock = some g → g ≠ wr.heap.size := fun g h => Nat.ne_of_lt (OB.lt h)
        have LT : ∀ g, (Value.slice a2 j c2).ownBlock = some g → g ≠ wr.heap.size := fun g h => Nat.ne_of_lt (OT.lt h)
        clear x0 X X1 HW HBr HO OB OT MD b0
        generalize wr.alloc (.cells #[.slice (L j).a (L j).n (L j).c] 33) = wo at B0 HWo OBo OTo MDo XO ⊢
        generalize wr.heap.size = T10 at B0 LB LT ⊢
        refine (reversed_own (L j).a (L j).n (L j).c (L j).f _ XO (by omega)).mono ?_
        rintro e wp ⟨ra, rc, rfl, RO, hb⟩
        replace B0 := B0.next hb
        have HWp := below_next HWo hb
        have OBp := OBo.keep (.below hb)
        have OTp := OTo.keep (.below hb)
        have MDp := MDo.keep (.below hb)
        have XP := XO.next hb
        clear HWo OBo OTo MDo XO hb
        -- back grows
        have bs := below_alloc wp (.cells #[.slice ra (L j).n rc] 33)
        have one : Lc (some ⟨wp.heap.size, 0, none⟩) 1 (fun _ => (⟨ra, (L j).n, rc, fun q => (L j).f ((L j).n - 1 - q)⟩ : Pg)) (wp.alloc (.cells #[.slice ra (L j).n rc] 33)) :=
          (ll1 (g := (⟨ra, (L j).n, rc, fun q => (L j).f ((L j).n - 1 - q)⟩ : Pg)) (heap_alloc_new wp _) (RO.sx.next bs)).lc
        have hsz : wz.heap.size ≤ (wp.alloc (.cells #[.slice ra (L j).n rc] 33)).heap.size := Nat.le_trans HWp.size bs.size
        go_wp2_with (at_builtin; refine wpList_append_pg rfl (.tmp 22) (.tmp 25) elt33 rfl rfl (OBp.keep (.below bs)) rfl one (by omega) hsz (OTp.keep (.below bs)) AP ?_; intro a1' c1' wq OB1 G1 OT1 AP1 gb1; have b0 := ((B0.next bs).kept gb1 LB).c0; have l0 := ((B0.next bs).kept gb1 LB).lt)
        have B0q := (B0.next bs).kept gb1 LB
        have MDq := (MDp.keep (.below bs)).keep (G1.keep 24 (by decide))
        have ROq := (RO.keep (.below bs)).keep (G1.keep 24 (by decide))
        have HWq : Below wz.heap.size wz wq := G1.below _ _ (below_next HWp bs) (Nat.le_refl _)
        have XQ : Pl (L j).a (L j).n (L j).f wq := by
          rcases S.next (below_next HB HWq) with h0 | ⟨_, _, _, X⟩
          · omega
          · exact (X.hc j hlt).2
        have bn := below_alloc wq (.cells #[.slice none 0 0] 33)
        have Z0 := Bx.new wq (.slice none 0 0) 33
        have P0 := PO.Ow.nil wq.heap.size 24 (fun q => (L j).f ((q + K) % (L j).n)) (wq.alloc (.cells #[.slice none 0 0] 33))
        clear b0 l0 B0 MDp RO HWp XP bs one hsz OBp OTp G1 gb1 LB LT AP
        generalize wq.alloc (.cells #[.slice none 0 0] 33) = wi at bn Z0 P0 ⊢
        rcases XQ with hz | ⟨b2, o2, ea, Y⟩
        · go_loopw [30] (fun i wk => ∃ (m : Nat) (a3 : Option Addr) (c3 : Nat), m ≤ (L j).n ∧ i = .int .i64 m ∧ Bx wq.heap.size (.slice a3 m c3) 33 wk ∧ PO.Ow wq.heap.size 24 a3 c3 m (fun q => (L j).f ((q + K) % (L j).n)) wk ∧ Below wq.heap.size wq wk) (fun i _ => (L j).n - (intOf i).toNat)
          case atStart => exact ⟨0, none, 0, Nat.zero_le _, rfl, Z0, P0, bn⟩
          case round =>
            obtain ⟨m, a3, c3, hm, rfl, Z3, OA, HV⟩ := hrel
            obtain rfl : m = (L j).n := by omega
            clear hz
            have OB2 := OB1.keep (.below HV)
            have OT2 := OT1.keep (.below HV)
            have MD2 := MDq.keep (.below HV)
            have RO2 := ROq.keep (.below HV)
            have HW2 := below_next HWq HV
            have bs2 := below_alloc wr (.cells #[.slice a3 (L j).n c3] 33)
            have one2 : Lc (some ⟨wr.heap.size, 0, none⟩) 1 (fun _ => (⟨a3, (L j).n, c3, fun q => (L j).f ((q + K) % (L j).n)⟩ : Pg)) (wr.alloc (.cells #[.slice a3 (L j).n c3] 33)) :=
              (ll1 (g := (⟨a3, (L j).n, c3, fun q => (L j).f ((q + K) % (L j).n)⟩ : Pg)) (heap_alloc_new wr _) (OA.sx.next bs2)).lc
            have hsz2 : wz.heap.size ≤ (wr.alloc (.cells #[.slice a3 (L j).n c3] 33)).heap.size := Nat.le_trans HW2.size bs2.size
            have z3 := Z3.c0
            go_wp2_with (at_builtin; refine wpList_append_pg rfl (.tmp 51) (.tmp 53) elt33 rfl rfl (OT2.keep (.below bs2)) rfl one2 (by omega) hsz2 (OB2.keep (.below bs2)) AP1.symm ?_; intro a2' c2' wv OT3 G3 OB3 AP3 gb3)
            go_roundw
            case rel => exact ⟨j + 1, a1', c1', a2', c2', _, _, by omega, by go_num, rfl, rfl, OB3, OT3, AP3.symm, Made.snoc ((MD2.keep (.below bs2)).keep (G3.keep 24 (by decide))) ((RO2.keep (.below bs2)).keep (G3.keep 24 (by decide))) ((OA.keep (.below bs2)).keep (G3.keep 24 (by decide))), G3.below _ _ (below_next HW2 bs2) (Nat.le_refl _)⟩
            case measure => simp [intOf]; omega
        simp only [ea] at B0q ⊢
        go_loopw [30] (fun i wk => ∃ (m : Nat) (a3 : Option Addr) (c3 : Nat), m ≤ (L j).n ∧ i = .int .i64 m ∧ Bx wq.heap.size (.slice a3 m c3) 33 wk ∧ PO.Ow wq.heap.size 24 a3 c3 m (fun q => (L j).f ((q + K) % (L j).n)) wk ∧ Below wq.heap.size wq wk) (fun i _ => (L j).n - (intOf i).toNat)
        case atStart => exact ⟨0, none, 0, Nat.zero_le _, rfl, Z0, P0, bn⟩
        case round =>
          obtain ⟨m, a3, c3, hm, rfl, Z3, OA, HV⟩ := hrel
          by_cases hlm : m < (L j).n
          · obtain ⟨q, hq⟩ : ∃ q, (m + K) % (L j).n = q := ⟨_, rfl⟩
            have hqn : q < (L j).n := by rw [← hq]; exact Nat.mod_lt _ (by omega)
            have hqi : ((m : Int) + K) % (L j).n = q := by rw [← hq]; simp
            have hmt : ((m : Int) + K).tmod (L j).n = q := by rw [Int.tmod_eq_emod_of_nonneg (by omega)]; exact hqi
            have nz : ¬ (L j).n = 0 := by omega
            have q0 : (0 : Int) ≤ q := by omega
            have q1 : (q : Int) < (L j).n := by omega
            have wK : IntKind.i64.wrap (K : Int) = K := IntWalk.i64_in _ (by omega)
            have wm : IntKind.i64.wrap ((m : Int) + K) = m + K := IntWalk.i64_in _ (by omega)
            have wm1 : IntKind.i64.wrap ((m : Int) + 1) = m + 1 := IntWalk.i64_in _ (by omega)
            have Yk := Y.next HV
            obtain ⟨s0, s1⟩ := Yk.hc q hqn
            have B0k := B0q.next HV
            have bt := below_alloc wr.drew (.cells #[.int .i64 ((L j).f q).x, .int .i64 ((L j).f q).y] 24)
            have bt' : Below wr.heap.size wr (wr.drew.alloc (.cells #[.int .i64 ((L j).f q).x, .int .i64 ((L j).f q).y] 24)) := below_next (Below.refl _ _).drew bt
            have one : Pl (some ⟨wr.heap.size, 0, none⟩) 1 (fun _ => (L j).f ((m + K) % (L j).n)) (wr.drew.alloc (.cells #[.int .i64 ((L j).f q).x, .int .i64 ((L j).f q).y] 24)) := by rw [hq]; exact pl_one (heap_alloc_new wr.drew _)
            have OA2 := OA.keep (.below bt')
            have Z32 := Z3.next bt'
            have hsz : wq.heap.size ≤ (wr.drew.alloc (.cells #[.int .i64 ((L j).f q).x, .int .i64 ((L j).f q).y] 24)).heap.size := Nat.le_trans HV.size bt'.size
            have k1 := B0k.c0
            have k3 := Z3.c0
            have l1 : T10 < wr.heap.size := B0k.lt
            have l3 : wq.heap.size < wr.heap.size := Z3.lt
            have l0 : b2 < wr.heap.size := Yk.hb
            have HQ := Lib.hid hq
            have EA := Lib.hid ea
            clear hq ea hqi
            go_wp2_with fail
            go_region_law (first | (refine PO.step_append_vecs rfl (.tmp 34) (.tmp 47) elt24 rfl rfl OA2 rfl one (by omega) hsz (m + 1) rfl (fun q => (L j).f ((q + K) % (L j).n)) (PO.cat_snoc m _) ?_; intro a'' c'' w5 O5 G5; have Z35 := Z32.keep (G5.keep 33 (by decide)); have f5 := Z35.f 0; have z5 := Z35.c0))
            all_goals
              go_wp2_with fail
              go_roundw
              · exact ⟨m + 1, a'', c'', by omega, rfl, Z35.set _, O5.keep ((KeepT.refl _ _).set (p := ⟨wq.heap.size, 0, none⟩) Z35.row (by decide) _), (G5.below _ _ (below_next HV bt') (Nat.le_refl _)).setCell (p := ⟨wq.heap.size, 0, none⟩) (Nat.le_refl _) _⟩
              · simp [intOf]; omega
          · obtain rfl : m = (L j).n := by omega
            have OB2 := OB1.keep (.below HV)
            have OT2 := OT1.keep (.below HV)
            have MD2 := MDq.keep (.below HV)
            have RO2 := ROq.keep (.below HV)
            have HW2 := below_next HWq HV
            have bs2 := below_alloc wr (.cells #[.slice a3 (L j).n c3] 33)
            have one2 : Lc (some ⟨wr.heap.size, 0, none⟩) 1 (fun _ => (⟨a3, (L j).n, c3, fun q => (L j).f ((q + K) % (L j).n)⟩ : Pg)) (wr.alloc (.cells #[.slice a3 (L j).n c3] 33)) :=
              (ll1 (g := (⟨a3, (L j).n, c3, fun q => (L j).f ((q + K) % (L j).n)⟩ : Pg)) (heap_alloc_new wr _) (OA.sx.next bs2)).lc
            have hsz2 : wz.heap.size ≤ (wr.alloc (.cells #[.slice a3 (L j).n c3] 33)).heap.size := Nat.le_trans HW2.size bs2.size
            have z3 := Z3.c0
            go_wp2_with (at_builtin; refine wpList_append_pg rfl (.tmp 51) (.tmp 53) elt33 rfl rfl (OT2.keep (.below bs2)) rfl one2 (by omega) hsz2 (OB2.keep (.below bs2)) AP1.symm ?_; intro a2' c2' wv OT3 G3 OB3 AP3 gb3)
            go_roundw
            case rel => exact ⟨j + 1, a1', c1', a2', c2', _, _, by omega, by go_num, rfl, rfl, OB3, OT3, AP3.symm, Made.snoc ((MD2.keep (.below bs2)).keep (G3.keep 24 (by decide))) ((RO2.keep (.below bs2)).keep (G3.keep 24 (by decide))) ((OA.keep (.below bs2)).keep (G3.keep 24 (by decide))), G3.below _ _ (below_next HW2 bs2) (Nat.le_refl _)⟩
            case measure => simp [intOf]; omega
    · obtain rfl : j = N := by omega
      have ATr := AT.next HW
      have S4 := S.next HBr
      have Lbk : Ll a1 j Lb wr := OB.sx.ll fun i hi => by obtain ⟨⟨_, _, _, h⟩, _⟩ := MD i hi; exact h.sx
      have Ltn : Ll a2 j Lt wr := OT.sx.ll fun i hi => by obtain ⟨_, _, _, _, h⟩ := MD i hi; exact h.sx
      obtain ⟨v, hv⟩ : ∃ v, wind j L p = v := ⟨_, rfl⟩
      obtain ⟨A, hA⟩ : ∃ A, pal L j = A := ⟨_, rfl⟩
      have i1 := wind_in j L p
      have i2 := pal_in L j
      obtain ⟨hv1, hv2⟩ := made_wind p MD hv
      obtain ⟨hA1, hA2⟩ := made_pal MD (Nat.le_refl j)
      obtain ⟨t1, t2⟩ := made_tot MD (Nat.le_refl j)
      rw [hv] at i1
      rw [hA] at i2 hA1 hA2
      have wv : IntKind.i64.wrap (-v) = -v := IntWalk.i64_in _ (by omega)
      have wA : IntKind.i64.wrap (-A) = -A := IntWalk.i64_in _ (by omega)
      have TB := Lib.hid (show tot Lb j ≤ 4000 by omega)
      have TT := Lib.hid (show tot Lt j ≤ 4000 by omega)
      have V0 := Lib.hid hv
      have V1 := Lib.hid hv1
      have V2 := Lib.hid hv2
      have B0 := Lib.hid hA
      have B1 := Lib.hid hA1
      have B2 := Lib.hid hA2
      have q0 := ATr.c0
      have q1 := ATr.c1
      clear hv hv1 hv2 hA hA1 hA2 t1 t2 i1 i2 OB OT MD AP HW
      go_wp2_with fail
      clear q0 q1
      have MK : Hid (∀ w', Below wr.heap.size wr w' → Below wr.heap.size wr w' ∧ w'.cell? ⟨w.heap.size, 0, none⟩ = some (.int .i64 p.x) ∧ w'.cell? ⟨w.heap.size, 1, none⟩ = some (.int .i64 p.y)) := fun w' h => ⟨h, (ATr.next h).c0, (ATr.next h).c1⟩
      go_region_held3 (fun w' => Below wr.heap.size wr w' ∧ w'.cell? ⟨w.heap.size, 0, none⟩ = some (.int .i64 p.x) ∧ w'.cell? ⟨w.heap.size, 1, none⟩ = some (.int .i64 p.y))
        (first | exact MK.out _ (Below.refl _ _).drew | exact MK.out _ (below_next (by go_split_ands; assumption) hb))
      (first
        | (go_at_call 10; with_reducible refine (wind_is a1 j c1 Lb p _ (Lbk.next (by go_split_ands; assumption)) HN.out TB.out (-v) V1.out).mono ?_; rintro e wt ⟨rfl, hb⟩)
        | (go_at_call 10; with_reducible refine (wind_is a2 j c2 Lt p _ (Ltn.next (by go_split_ands; assumption)) HN.out TT.out v V2.out).mono ?_; rintro e wt ⟨rfl, hb⟩)
        | (go_at_call 10; with_reducible refine (wind_is a j c L p _ (S4.next (by go_split_ands; assumption)) HN.out HT.out v V0.out).mono ?_; rintro e wt ⟨rfl, hb⟩)
        | (go_at_call 13; with_reducible refine (areas_is a1 j c1 Lb _ (Lbk.next (by go_split_ands; assumption)) HN.out TB.out (-A) B1.out).mono ?_; rintro e wt ⟨rfl, hb⟩)
        | (go_at_call 13; with_reducible refine (areas_is a2 j c2 Lt _ (Ltn.next (by go_split_ands; assumption)) HN.out TT.out A B2.out).mono ?_; rintro e wt ⟨rfl, hb⟩)
        | (go_at_call 13; with_reducible refine (areas_is a j c L _ (S4.next (by go_split_ands; assumption)) HN.out HT.out A B0.out).mono ?_; rintro e wt ⟨rfl, hb⟩)
        | (go_at_call 9; refine (awake_any _).mono ?_; rintro e wt ⟨rfl, hb⟩))
      go_wp2_with fail
      go_region_held3 (fun w' => Below wr.heap.size wr w' ∧ w'.cell? ⟨w.heap.size, 0, none⟩ = some (.int .i64 p.x) ∧ w'.cell? ⟨w.heap.size, 1, none⟩ = some (.int .i64 p.y))
        (first | exact MK.out _ (Below.drew (by go_split_ands; assumption)) | exact MK.out _ (below_next (by go_split_ands; assumption) hb))
      (first
        | (go_at_call 10; with_reducible refine (wind_is a1 j c1 Lb p _ (Lbk.next (by go_split_ands; assumption)) HN.out TB.out (-v) V1.out).mono ?_; rintro e wt ⟨rfl, hb⟩)
        | (go_at_call 10; with_reducible refine (wind_is a2 j c2 Lt p _ (Ltn.next (by go_split_ands; assumption)) HN.out TT.out v V2.out).mono ?_; rintro e wt ⟨rfl, hb⟩)
        | (go_at_call 10; with_reducible refine (wind_is a j c L p _ (S4.next (by go_split_ands; assumption)) HN.out HT.out v V0.out).mono ?_; rintro e wt ⟨rfl, hb⟩)
        | (go_at_call 13; with_reducible refine (areas_is a1 j c1 Lb _ (Lbk.next (by go_split_ands; assumption)) HN.out TB.out (-A) B1.out).mono ?_; rintro e wt ⟨rfl, hb⟩)
        | (go_at_call 13; with_reducible refine (areas_is a2 j c2 Lt _ (Ltn.next (by go_split_ands; assumption)) HN.out TT.out A B2.out).mono ?_; rintro e wt ⟨rfl, hb⟩)
        | (go_at_call 13; with_reducible refine (areas_is a j c L _ (S4.next (by go_split_ands; assumption)) HN.out HT.out A B0.out).mono ?_; rintro e wt ⟨rfl, hb⟩)
        | (go_at_call 9; refine (awake_any _).mono ?_; rintro e wt ⟨rfl, hb⟩))
      go_wp2_with fail
      go_ret
      exact ⟨rfl, below_next HBr (by go_split_ands; assumption)⟩
theorem windTurns_heavy (a : Option Addr) (N c : Nat) (L : Nat → Pg) (p : P) (K : Int) (w : World) (S : Ll a N L w) (hT : N ≤ 100 → tot L N ≤ 4611686018427387904) (h1 : 100 < N ∨ 400 < tot L N) :
    Calls Try.prog 5 #[.slice a N c, .agg #[.int .i64 p.x, .int .i64 p.y], .int .u8 K] w fun e w' => e = .returned (.bool true) ∧ Below w.heap.size w w' := by
  have H1 := Lib.hid h1
  have HT := Lib.hid hT
  clear h1 hT
  go_enter Try.func5, Try.ntmps5
  have HA := below_alloc w (.cells #[.int .i64 p.x, .int .i64 p.y] 24)
  go_wp2_with fail
  refine (heavy_is a N c L _ (S.next HA) HT.out true (decide_eq_true H1.out)).mono ?_
  rintro e w1 ⟨rfl, hb⟩
  go_wp2_with fail
  refine (awake_any _).mono ?_
  rintro e w2 ⟨rfl, hb2⟩
  go_wp2_with fail
  go_ret
  exact ⟨rfl, below_next (below_next HA hb) hb2⟩
theorem windTurns_walk (a : Option Addr) (N c : Nat) (L : Nat → Pg) (p : P) (k : Int) (w : World) (S : Ll a N L w) (hT : N ≤ 100 → tot L N ≤ 4611686018427387904) (hk : (Lit.int .u8 k).wf = true) :
    Calls Try.prog 5 #[.slice a N c, .agg #[.int .i64 p.x, .int .i64 p.y], .int .u8 k] w fun e w' => e = .returned (.bool true) ∧ Below w.heap.size w w' := by
  by_cases h1 : 100 < N ∨ 400 < tot L N
  · exact windTurns_heavy a N c L p k w S hT h1
  · have hb : 0 ≤ k ∧ k ≤ 255 := by
      simp only [Lit.wf, Bool.and_eq_true, decide_eq_true_eq, show IntKind.u8.min = 0 by kernel_rfl, show IntKind.u8.max = 255 by kernel_rfl] at hk
      exact hk
    obtain ⟨K, rfl⟩ : ∃ K : Nat, k = K := ⟨k.toNat, by omega⟩
    exact windTurns_main a N c L p K (by omega) w S h1
end Go.Proofs.Ytffmmfeedfdlaaa
