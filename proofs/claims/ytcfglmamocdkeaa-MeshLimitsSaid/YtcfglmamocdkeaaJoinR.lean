/- The contract of the reference's Join. Printed by joins.py. -/
import Derived.Test.YtcfglmamocdkeaaJoin
namespace Go.Proofs.Ytcfglmamocdkeaa
open Go.ChangeShapes Go.WideShapes Go.ChangeAt Go.RowKit
set_option linter.unusedVariables false

theorem Ow.base {base base' : Nat} {e : TypeId} {a : Option Addr} {c n : Nat} {f : Nat → V} {w : World} (h : Ow base e a c n f w) (hb : base' ≤ base) : Ow base' e a c n f w := by
  refine ⟨h.own.1, ?_⟩
  rcases h.own.2 with h' | ⟨g, cap, cur, h1, h2, h3⟩
  · exact .inl h'
  · exact .inr ⟨g, cap, cur, h1, Nat.le_trans hb h2, h3⟩
/-- What the region of the reference's Join that draws its order has made. -/
def RJR (w wz : World) (n n2 k : Nat) (f f2 g : Nat → V) (s : Value) (w' : World) : Prop :=
  ∃ Z a c b d, s = .pointer (some ⟨Z, 0, none⟩) ∧ wz.heap.size ≤ Z ∧ Mb Z (.slice a (n + n2) c) (.slice b k d) w' ∧ Ow w.heap.size 36 a c (n + n2) (cat n f f2) w' ∧ Ow w.heap.size 47 b d k g w' ∧ Below wz.heap.size wz w'
/-- What its operations keep. -/
def RR (n : Nat) (j : Nat) (w w' : World) : Prop := match j with
  | 6 => KeepT 25 w w' ∧ KeepT 47 w w' ∧ ∀ B a c m f, m ≤ n → Ow B 36 a c m f w → Ow B 36 a c m f w'
  | _ => Below w.heap.size w w'
def FJR (wz : World) (base B : Nat) (n n2 k : Nat) (cap cap' cap2 : Nat) (a b a2 : Option Addr) (f f2 g : Nat → V) (i : Nat) (v : Value) (w : World) : Prop :=
  match i with
  | 0 => ∃ X, v = .slice (some ⟨X, 0, none⟩) 0 0 ∧ Ow base 36 (some ⟨X, 0, none⟩) 0 0 f w
  | 1 => v = .pointer (some ⟨B, 0, none⟩)
  | 2 => v = .slice a n cap
  | 3 => ∃ a' c', v = .slice a' n c' ∧ Ow base 36 a' c' n f w
  | 4 => v = .pointer (some ⟨B + 1, 0, none⟩)
  | 5 => v = .slice a2 n2 cap2
  | 6 => ∃ a' c', v = .slice a' (n + n2) c' ∧ Ow base 36 a' c' (n + n2) (cat n f f2) w
  | 7 => ∃ X, v = .slice (some ⟨X, 0, none⟩) 0 0 ∧ Ow base 47 (some ⟨X, 0, none⟩) 0 0 g w
  | 8 => v = .pointer (some ⟨B, 1, none⟩)
  | 9 => v = .slice b k cap'
  | 10 => ∃ a' c', v = .slice a' k c' ∧ Ow base 47 a' c' k g w
  | 11 => ∃ a' c' b' d', v = .agg #[.slice a' (n + n2) c', .slice b' k d'] ∧ Ow base 36 a' c' (n + n2) (cat n f f2) w ∧ Ow base 47 b' d' k g w
  | 12 => ∃ Z, v = .pointer (some ⟨Z, 0, none⟩) ∧ wz.heap.size ≤ Z ∧ Mb Z (.slice none 0 0) (.slice none 0 0) w
  | _ => True
theorem RR.cases {n j : Nat} {w w' : World} (h : RR n j w w') : (j = 6 ∧ KeepT 25 w w' ∧ KeepT 47 w w' ∧ ∀ B a c m f, m ≤ n → Ow B 36 a c m f w → Ow B 36 a c m f w') ∨ (j ≠ 6 ∧ Below w.heap.size w w') := by
  by_cases hj : j = 6
  · subst hj; exact .inl ⟨rfl, h⟩
  · right
    refine ⟨hj, ?_⟩
    unfold RR at h
    split at h
    · exact absurd rfl hj
    · exact h
theorem FJR.stable {wz : World} {base B n n2 k cap cap' cap2 : Nat} {a b a2 : Option Addr} {f f2 g : Nat → V} (i j : Nat) (v : Value) (w w' : World) (hij : i ≠ j) (hw : i = 11 → j = 6 → False) (h : FJR wz base B n n2 k cap cap' cap2 a b a2 f f2 g i v w) (hR : RR n j w w') : FJR wz base B n n2 k cap cap' cap2 a b a2 f f2 g i v w' := by
  rcases hR.cases with ⟨rfl, k25, k47, ho⟩ | ⟨hj, hb⟩
  · match i, h with
    | 0, ⟨X, h1, h2⟩ => exact ⟨X, h1, ho _ _ _ _ _ (Nat.zero_le _) h2⟩
    | 1, h => exact h
    | 2, h => exact h
    | 3, ⟨a', c', h1, h2⟩ => exact ⟨a', c', h1, ho _ _ _ _ _ (Nat.le_refl _) h2⟩
    | 4, h => exact h
    | 5, h => exact h
    | 6, _ => exact absurd rfl hij
    | 7, ⟨X, h1, h2⟩ => exact ⟨X, h1, h2.keep k47⟩
    | 8, h => exact h
    | 9, h => exact h
    | 10, ⟨a', c', h1, h2⟩ => exact ⟨a', c', h1, h2.keep k47⟩
    | 11, _ => exact (hw rfl rfl).elim
    | 12, ⟨Z, h1, h2, h3⟩ => exact ⟨Z, h1, h2, h3.keep k25⟩
    | n + 13, _ => exact trivial
  · match i, h with
    | 0, ⟨X, h1, h2⟩ => exact ⟨X, h1, h2.keep (.below hb)⟩
    | 1, h => exact h
    | 2, h => exact h
    | 3, ⟨a', c', h1, h2⟩ => exact ⟨a', c', h1, h2.keep (.below hb)⟩
    | 4, h => exact h
    | 5, h => exact h
    | 6, ⟨a', c', h1, h2⟩ => exact ⟨a', c', h1, h2.keep (.below hb)⟩
    | 7, ⟨X, h1, h2⟩ => exact ⟨X, h1, h2.keep (.below hb)⟩
    | 8, h => exact h
    | 9, h => exact h
    | 10, ⟨a', c', h1, h2⟩ => exact ⟨a', c', h1, h2.keep (.below hb)⟩
    | 11, ⟨a', c', b', d', h1, h2, h3⟩ => exact ⟨a', c', b', d', h1, h2.keep (.below hb), h3.keep (.below hb)⟩
    | 12, ⟨Z, h1, h2, h3⟩ => exact ⟨Z, h1, h2, h3.next hb⟩
    | n + 13, _ => exact trivial

set_option maxRecDepth 100000 in
set_option maxHeartbeats 4000000 in
theorem join_okr (a b a2 b2 : Option Addr) (n k n2 k2 cap cap' cap2 cap2' : Nat) (f g f2 g2 : Nat → V) (w : World) (SA : Sx a n f w) (SB : Sx b k g w) (SA2 : Sx a2 n2 f2 w) (SB2 : Sx b2 k2 g2 w)
    (hp : pcheck n k f g = 0) (hp2 : pcheck n2 k2 f2 g2 = 0) (hn : n + n2 ≤ 4096) (hk : k + k2 ≤ 4096) (ht2 : AllT n2 k2 g2) :
    Calls Try.prog 27 #[.agg #[.slice a n cap, .slice b k cap'], .agg #[.slice a2 n2 cap2, .slice b2 k2 cap2']] w (RetJ w (n + n2) (k + k2) (cat n f f2) (cat k g (fun i => shf n (g2 i))) 0) := by
  have HT := Lib.hid ht2
  clear ht2
  go_enter Try.func27, Try.ntmps27
  go_wp2_with fail
  have e1 := below_alloc w (.cells #[.slice a n cap, .slice b k cap'] 25)
  have e2 := below_alloc (w.alloc (.cells #[.slice a n cap, .slice b k cap'] 25)) (.cells #[.slice a2 n2 cap2, .slice b2 k2 cap2'] 25)
  have e3 := below_alloc ((w.alloc (.cells #[.slice a n cap, .slice b k cap'] 25)).alloc (.cells #[.slice a2 n2 cap2, .slice b2 k2 cap2'] 25)) (.cells #[.slice none 0 0, .slice none 0 0] 25)
  have M0 := ((Mb.new w (.slice a n cap) (.slice b k cap')).next e2).next e3
  have N0 := (Mb.new (w.alloc (.cells #[.slice a n cap, .slice b k cap'] 25)) (.slice a2 n2 cap2) (.slice b2 k2 cap2')).next e3
  have R0 := Mb.new ((w.alloc (.cells #[.slice a n cap, .slice b k cap'] 25)).alloc (.cells #[.slice a2 n2 cap2, .slice b2 k2 cap2'] 25)) (.slice none 0 0) (.slice none 0 0)
  have HB0 := below_next (below_next e1 e2) e3
  simp only [World.size_alloc] at N0 R0
  refine (check_auxr a b n k cap cap' f g _ (SA.next HB0) (SB.next HB0) 0 hp.symm).mono ?_
  rintro e w1 ⟨rfl, hb1⟩
  have M1 := M0.next hb1
  have N1 := N0.next hb1
  have R1 := R0.next hb1
  have HB1 := below_next HB0 hb1
  clear e1 e2 e3 M0 N0 R0 HB0 hb1
  have c0 := N1.c0
  have c1 := N1.c1
  go_wp2_with fail
  refine (check_auxr a2 b2 n2 k2 cap2 cap2' f2 g2 _ (SA2.next HB1) (SB2.next HB1) 0 hp2.symm).mono ?_
  rintro e wz ⟨rfl, hb2⟩
  have M := M1.next hb2
  have N := N1.next hb2
  have R := R1.next hb2
  have HB := below_next HB1 hb2
  clear c0 c1 M1 N1 R1 HB1 hb2
  have c0 := M.c0
  have c1 := M.c1
  have n0 := N.c0
  have n1 := N.c1
  have d1 : decide ((4096 : Int) < (n : Int) + n2) = false := by simp; omega
  have d2 : decide ((4096 : Int) < (k : Int) + k2) = false := by simp; omega
  go_wp2_with fail
  clear c0 c1 n0 n1 d1 d2
  go_cut [7] (RJR w wz n n2 k f f2 g)
  case first =>
    rename_i hmeet
    have hsz := HB.size
    refine wp_region_each _ _ (fun w' => Below wz.heap.size wz w') (RR n) (FJR wz wz.heap.size w.heap.size n n2 k cap cap' cap2 a b a2 f f2 g) 13 (by kernel_rfl) rfl (by kernel_rfl) (by kernel_rfl) 80 rfl (by kernel_rfl) ?hst (Below.refl _ _).drew ?hop ?hend
    case hst =>
      intro i j o v w' w'' ho hij hnw h hR
      refine FJR.stable i j v w' w'' hij (fun hi hj => ?_) h hR
      subst hi hj
      simp only [List.getElem?_toArray, List.getElem?_cons_zero, List.getElem?_cons_succ, Option.some.injEq] at ho
      subst ho
      exact hnw { on := 6, ground := Ground.data } (by simp) rfl rfl
    case hop =>
      intro i o hi ho a1 w' FR C1 D
      have t2 := FR.tmp 2 (by kernel_rfl)
      have t3 := FR.tmp 3 (by kernel_rfl)
      have hs1 := C1.size
      obtain rfl | rfl | rfl | rfl | rfl | rfl | rfl | rfl | rfl | rfl | rfl | rfl | rfl : i = 0 ∨ i = 1 ∨ i = 2 ∨ i = 3 ∨ i = 4 ∨ i = 5 ∨ i = 6 ∨ i = 7 ∨ i = 8 ∨ i = 9 ∨ i = 10 ∨ i = 11 ∨ i = 12 := by omega
      all_goals simp only [List.getElem?_toArray, List.getElem?_cons_zero, List.getElem?_cons_succ, Option.some.injEq] at ho
      all_goals subst ho
      · exact op_make36 rfl ⟨_, rfl, ⟨⟨_, rfl, Ow.empty _ _ _ _ (by omega)⟩, by simp⟩, below_next C1 (below_alloc _ _), below_alloc _ _⟩
      · exact op_field0 2 rfl t2 ⟨_, rfl, ⟨rfl, by simp⟩, C1, Below.refl _ _⟩
      · have d0 := D { on := 1, ground := Ground.data } (by simp) rfl _ rfl
        exact op_load22 42 rfl ((slot_tmp rfl).trans d0) (M.next C1).c0 ⟨_, rfl, ⟨rfl, by simp⟩, C1, Below.refl _ _⟩
      · obtain ⟨X, h1, h2⟩ := D { on := 0, ground := Ground.data } (by simp) rfl _ rfl
        have h3 := D { on := 2, ground := Ground.data } (by simp) rfl _ rfl
        refine wp_append_vecs (.tmp 41) (.tmp 43) elt36 rfl ((slot_tmp rfl).trans h1) h2 ((slot_tmp rfl).trans h3) (SA.next (below_next HB C1)) (by omega) (by omega) n (by omega) f (fun i hi => cat_ge (Nat.zero_le i)) ?_
        intro a' c' w'' O G
        exact ⟨_, rfl, ⟨⟨a', c', rfl, O⟩, by simp⟩, below_next C1 (G.fresh rfl), G.fresh rfl⟩
      · exact op_field0 3 rfl t3 ⟨_, rfl, ⟨rfl, by simp⟩, C1, Below.refl _ _⟩
      · have d0 := D { on := 4, ground := Ground.data } (by simp) rfl _ rfl
        exact op_load22 45 rfl ((slot_tmp rfl).trans d0) (N.next C1).c0 ⟨_, rfl, ⟨rfl, by simp⟩, C1, Below.refl _ _⟩
      · obtain ⟨a3, c3, h1, h2⟩ := D { on := 3, ground := Ground.data } (by simp) rfl _ rfl
        have h3 := D { on := 5, ground := Ground.data } (by simp) rfl _ rfl
        refine wp_append_vecs (.tmp 44) (.tmp 46) elt36 rfl ((slot_tmp rfl).trans h1) h2 ((slot_tmp rfl).trans h3) (SA2.next (below_next HB C1)) (by omega) (by omega) (n + n2) rfl (cat n f f2) (fun i _ => rfl) ?_
        intro a' c' w'' O G
        exact ⟨_, rfl, ⟨⟨a', c', rfl, O⟩, by simp⟩, G.below _ _ C1 (Nat.le_refl _), G.keep 25 (by decide), G.keep 47 (by decide), G.old⟩
      · exact op_make47 rfl ⟨_, rfl, ⟨⟨_, rfl, Ow.empty _ _ _ _ (by omega)⟩, by simp⟩, below_next C1 (below_alloc _ _), below_alloc _ _⟩
      · exact op_field1 2 rfl t2 ⟨_, rfl, ⟨rfl, by simp⟩, C1, Below.refl _ _⟩
      · have d0 := D { on := 8, ground := Ground.data } (by simp) rfl _ rfl
        exact op_load23 49 rfl ((slot_tmp rfl).trans d0) (M.next C1).c1 ⟨_, rfl, ⟨rfl, by simp⟩, C1, Below.refl _ _⟩
      · obtain ⟨X, h1, h2⟩ := D { on := 7, ground := Ground.data } (by simp) rfl _ rfl
        have h3 := D { on := 9, ground := Ground.data } (by simp) rfl _ rfl
        refine wp_append_vecs (.tmp 48) (.tmp 50) elt47 rfl ((slot_tmp rfl).trans h1) h2 ((slot_tmp rfl).trans h3) (SB.next (below_next HB C1)) (by omega) (by omega) k (by omega) g (fun i hi => cat_ge (Nat.zero_le i)) ?_
        intro a' c' w'' O G
        exact ⟨_, rfl, ⟨⟨a', c', rfl, O⟩, by simp⟩, below_next C1 (G.fresh rfl), G.fresh rfl⟩
      · obtain ⟨a', c', h1, h2⟩ := D { on := 6, ground := Ground.data } (by simp) rfl _ rfl
        obtain ⟨b', d', h3, h4⟩ := D { on := 10, ground := Ground.data } (by simp) rfl _ rfl
        exact op_build25 47 51 rfl ((slot_tmp rfl).trans h1) ((slot_tmp rfl).trans h3) ⟨_, rfl, ⟨⟨a', c', b', d', rfl, h2, h4⟩, by simp⟩, C1, Below.refl _ _⟩
      · exact op_alloc25 rfl ⟨_, rfl, ⟨⟨_, rfl, hs1, Mb.new _ _ _⟩, by simp⟩, below_next C1 (below_alloc _ _), below_alloc _ _⟩
    case hend =>
      intro o ho a1 w' FR C1 D
      simp only [List.getElem?_toArray, List.getElem?_cons_zero, List.getElem?_cons_succ, Option.some.injEq] at ho
      subst ho
      obtain ⟨a8, c8, b8, d8, s8, O8, P8⟩ := D 11 _ (by omega) rfl
      obtain ⟨Z, s9, hZ, M9⟩ := D 12 _ (by omega) rfl
      refine op_store25 7 52 rfl rfl ((slot_tmp rfl).trans s9) ((slot_tmp rfl).trans s8) M9 ?_
      have E := FR.eq
      simp only [List.foldl_cons, List.foldl_nil, Act.put, List.setIfInBounds_toArray, List.set_cons_zero, List.set_cons_succ] at E
      rw [E]
      have Z1 := M9.set0 (.slice a8 (n + n2) c8)
      refine hmeet _ _ ?_
      go_meet
      exact ⟨Z, a8, c8, b8, d8, s9, hZ, Z1.set1 _, (O8.base hsz).keep (((KeepT.refl _ _).set (p := ⟨Z, 0, none⟩) M9.row (by decide) _).set (p := ⟨Z, 1, none⟩) Z1.row (by decide) _), (P8.base hsz).keep (((KeepT.refl _ _).set (p := ⟨Z, 0, none⟩) M9.row (by decide) _).set (p := ⟨Z, 1, none⟩) Z1.row (by decide) _), (C1.setCell (p := ⟨Z, 0, none⟩) hZ _).setCell (p := ⟨Z, 1, none⟩) hZ _⟩
  case rest =>
    obtain ⟨Z, a9, c9, b8, d8, rfl, hZ, Z10, O10, P10, HC⟩ := hcut
    have N10 := N.next HC
    have R10 := R.next HC
    have HB10 := below_next HB HC
    have hZr : w.heap.size + 1 + 1 < Z := Nat.lt_of_lt_of_le R.hZ hZ
    clear M N R HB HC
    have n1 := N10.c1
    go_wp2_with fail
    clear n1
    go_loopw [56] (fun i wk => ∃ (j : Nat) (b' : Option Addr) (d' : Nat), j ≤ k2 ∧ i = .int .i64 j ∧ Mb Z (.slice a9 (n + n2) c9) (.slice b' (k + j) d') wk ∧ Ow w.heap.size 36 a9 c9 (n + n2) (cat n f f2) wk ∧ Ow w.heap.size 47 b' d' (k + j) (cat k g (fun i => shf n (g2 i))) wk ∧ Mb (w.heap.size + 1 + 1) (.slice none 0 0) (.slice none 0 0) wk ∧ Below w.heap.size w wk) (fun i _ => k2 - (intOf i).toNat)
    case atStart => exact ⟨0, b8, d8, by omega, rfl, Z10, O10, P10.congr fun i hi => (cat_lt hi).symm, R10, HB10⟩
    case round =>
      obtain ⟨j, b', d', hj, rfl, MZ, OA, OB, R4, HB4⟩ := hrel
      by_cases hlt : j < k2
      · rcases SB2.next HB4 with h0 | ⟨b0, o0, rfl, S⟩
        · omega
        · obtain ⟨s0, s1, s2⟩ := S.hc j hlt
          have ht := HT.out j hlt
          unfold TriOk at ht
          have bt := below_alloc wr (.cells #[.int .i64 (g2 j).x, .int .i64 (g2 j).y, .int .i64 (g2 j).z] 47)
          have bs := below_alloc (wr.alloc (.cells #[.int .i64 (g2 j).x, .int .i64 (g2 j).y, .int .i64 (g2 j).z] 47)) (.cells #[.int .i64 ((g2 j).x + n), .int .i64 ((g2 j).y + n), .int .i64 ((g2 j).z + n)] 47)
          have z1 := (MZ.next bt).c1
          have bts := below_next bt bs
          have MZ2 := MZ.next bts
          have OA2 := OA.keep (.below bts)
          have OB2 := OB.keep (.below bts)
          have R42 := R4.next bts
          have HB42 := below_next HB4 bts
          have hsz := HB42.size
          have one : Sx (some ⟨wr.heap.size + 1, 0, none⟩) 1 (fun _ => cat k g (fun i => shf n (g2 i)) (k + j)) ((wr.alloc (.cells #[.int .i64 (g2 j).x, .int .i64 (g2 j).y, .int .i64 (g2 j).z] 47)).alloc (.cells #[.int .i64 ((g2 j).x + n), .int .i64 ((g2 j).y + n), .int .i64 ((g2 j).z + n)] 47)) := by
            rw [cat_ge (by omega), show k + j - k = j by omega]
            exact sx_one_new (by simp)
          go_wp2_with (at_builtin; refine wpList_append_vecs rfl (.tmp 61) (.tmp 75) elt47 rfl rfl OB2 rfl one (by omega) hsz (k + j + 1) rfl (cat k g (fun i => shf n (g2 i))) (cat_snoc (k + j) _) ?_; intro b'' d'' w5 O5 G5; have MZ5 := MZ2.keep (G5.keep 25 (by decide)); have f5 := MZ5.f 1; have z5 := MZ5.c1)
          go_roundw
          case rel => exact ⟨j + 1, b'', d'', by omega, by go_num, MZ5.set1 _, (OA2.keep (G5.keep 36 (by decide))).keep ((KeepT.refl _ _).set (p := ⟨Z, 1, none⟩) MZ5.row (by decide) _), O5.keep ((KeepT.refl _ _).set (p := ⟨Z, 1, none⟩) MZ5.row (by decide) _), (R42.keep (G5.keep 25 (by decide))).other ⟨Z, 1, none⟩ _ (Nat.ne_of_lt hZr), (G5.below _ _ HB42 (Nat.le_refl _)).setCell (p := ⟨Z, 1, none⟩) (by dsimp only; omega) _⟩
          case measure => simp [intOf]; omega
      · obtain rfl : j = k2 := by omega
        have z0 := MZ.c0
        have z1 := MZ.c1
        have r0 := R4.c0
        have r1 := R4.c1
        have f0 := R4.f 0
        have f1 := R4.f 1
        go_wp2_with fail
        have E0 := (R4.set0 (.slice a9 (n + n2) c9)).set1 (.slice b' (k + j) d')
        exact bodyPost_ret (v := .tuple #[.agg #[.slice a9 (n + n2) c9, .slice b' (k + j) d'], .int .i64 0]) (by simp [results, Try.results27, go_sem, E0.c0, E0.c1]) rfl ⟨a9, b', c9, d', rfl, (OA.keep (((KeepT.refl _ _).set (p := ⟨w.heap.size + 1 + 1, 0, none⟩) R4.row (by decide) _).set (p := ⟨w.heap.size + 1 + 1, 1, none⟩) (R4.set0 _).row (by decide) _)).sx, (OB.keep (((KeepT.refl _ _).set (p := ⟨w.heap.size + 1 + 1, 0, none⟩) R4.row (by decide) _).set (p := ⟨w.heap.size + 1 + 1, 1, none⟩) (R4.set0 _).row (by decide) _)).sx, (HB4.setCell (p := ⟨w.heap.size + 1 + 1, 0, none⟩) (by dsimp only; omega) _).setCell (p := ⟨w.heap.size + 1 + 1, 1, none⟩) (by dsimp only; omega) _⟩
end Go.Proofs.Ytcfglmamocdkeaa
