/- Slices of points and of polygons that the program itself makes. Printed by own.py out of mesh's Own. -/
import Derived.Test.YtffmmfeedfdlaaaWinding
import Derived.Maps.AppendAt
import Derived.Laws.OwnMore
import Derived.OwnWalk
namespace Go.Proofs.Ytffmmfeedfdlaaa
open Go.ChangeShapes Go.WideShapes Go.ChangeAt Go.RowKit
set_option linter.unusedVariables false

theorem addr_plus (b o k : Nat) : (⟨b, o, none⟩ : Addr).add k = ⟨b, o + k, none⟩ := by
  unfold Addr.add; split
  · simp [*]
  · rfl
/-- Every block of element type e is as it was. -/
def KeepT (e : TypeId) (w w' : World) : Prop := ∀ (k : Nat) (cs : Array Value) (fr : Nat × Nat), w.heap[k]? = some (Obj.cells cs e fr) → w'.heap[k]? = some (Obj.cells cs e fr)
theorem KeepT.refl (e : TypeId) (w : World) : KeepT e w w := fun _ _ _ h => h
theorem KeepT.trans {e : TypeId} {a b c : World} (h : KeepT e a b) (k : KeepT e b c) : KeepT e a c := fun _ _ _ x => k _ _ _ (h _ _ _ x)
theorem KeepT.below {e : TypeId} {w w' : World} (h : Below w.heap.size w w') : KeepT e w w' := fun k _ _ x => (h.block k (lt_of_row x)).trans x
theorem KeepT.alloc {e : TypeId} {a w : World} (h : KeepT e a w) (o : Obj) : KeepT e a (w.alloc o) := h.trans (.below (below_alloc _ _))
theorem KeepT.set {e t : TypeId} {a w : World} {p : Addr} {cs : Array Value} {fr : Nat × Nat} (h : KeepT e a w) (hp : w.heap[p.block]? = some (.cells cs t fr)) (hne : t ≠ e) (u : Value) : KeepT e a (w.setCell p u) :=
  h.trans fun k cs' fr' x => (Below.heap_setCell w p u k (fun hk => by
    subst hk
    rw [hp] at x
    injection x with x
    injection x with _ x
    exact hne x)).trans x

section
variable {P : Program} {w : World}
theorem run_append_nothing {base : Nat} {t ty e : TypeId} {i : TypeInfo} {size : Nat} (ht : P.underlying t = some (.slice e)) (hi : P.info? e = some i)
    {v : Value} {n : Nat} {xs : List Value} (hown : w.ownsRow base e size v n xs) (c : Nat) : (Builtin.append_ #[t, t] ty #[v, .slice none 0 c]).run P w = .ok v w := by
  rcases hown.2 with ⟨rfl, rfl⟩ | ⟨g, cap, cur, rfl, _, _, hnc, _⟩
  · simp [Builtin.append_, run_underlying ht, sizeOf, typeInfo, hi, Builtin.lenOf, Builtin.firstCells]
  · simp [Builtin.append_, run_underlying ht, sizeOf, typeInfo, hi, Builtin.lenOf, Builtin.firstCells, hnc, storeCells]
end
abbrev Pt2 := P
/-- The cells of N polygons. -/
structure Lcx (b o N : Nat) (L : Nat → Pg) (w : World) : Prop where
  hb : b < w.heap.size
  hc : ∀ i, i < N → w.cell? ⟨b, o + i, none⟩ = some (.slice (L i).a (L i).n (L i).c)
def Lc (a : Option Addr) (N : Nat) (L : Nat → Pg) (w : World) : Prop := N = 0 ∨ ∃ b o, a = some ⟨b, o, none⟩ ∧ Lcx b o N L w
theorem Ll.lc {a : Option Addr} {N : Nat} {L : Nat → Pg} {w : World} (h : Ll a N L w) : Lc a N L w := by
  rcases h with h | ⟨b, o, h1, h2⟩
  · exact .inl h
  · exact .inr ⟨b, o, h1, h2.hb, fun i hi => (h2.hc i hi).1⟩
theorem Lc.ll {a : Option Addr} {N : Nat} {L : Nat → Pg} {w : World} (h : Lc a N L w) (hp : ∀ i, i < N → Pl (L i).a (L i).n (L i).f w) : Ll a N L w := by
  rcases h with h | ⟨b, o, h1, h2⟩
  · exact .inl h
  · exact .inr ⟨b, o, h1, h2.hb, fun i hi => ⟨h2.hc i hi, hp i hi⟩⟩
theorem Lc.next {a : Option Addr} {N : Nat} {L : Nat → Pg} {w w' : World} (h : Lc a N L w) (hb : Below w.heap.size w w') : Lc a N L w' := by
  rcases h with h | ⟨b, o, h1, h2⟩
  · exact .inl h
  · exact .inr ⟨b, o, h1, Nat.lt_of_lt_of_le h2.hb hb.size, fun i hi => (hb.cell (p := ⟨b, o + i, none⟩) h2.hb).trans (h2.hc i hi)⟩
namespace PO
def flat (f : Nat → Pt2) : Nat → List Value
  | 0 => []
  | n + 1 => flat f n ++ [.int .i64 (f n).x, .int .i64 (f n).y]
theorem flat_length (f : Nat → Pt2) : ∀ n, (flat f n).length = n * 2
  | 0 => rfl
  | n + 1 => by simp [flat, flat_length f n]; try omega
theorem flat_one (f : Nat → Pt2) : ∀ n, ∀ u ∈ flat f n, u.oneCell' = true
  | 0 => fun u h => by cases h
  | n + 1 => fun u h => by
    rcases List.mem_append.1 h with h | h
    · exact flat_one f n u h
    · simp only [List.mem_cons, List.not_mem_nil, or_false] at h
      rcases h with rfl | rfl <;> rfl
theorem flat_at (f : Nat → Pt2) (i : Nat) : ∀ n, i < n → (flat f n)[i * 2]? = some (.int .i64 (f i).x) ∧ (flat f n)[i * 2 + 1]? = some (.int .i64 (f i).y)
  | 0, h => absurd h (by omega)
  | n + 1, h => by
    have hl := flat_length f n
    by_cases hi : i = n
    · subst hi
      simp only [flat]
      refine ⟨?_, ?_⟩
      · rw [List.getElem?_append_right (by omega), hl, show i * 2 - i * 2 = 0 by omega]; rfl
      · rw [List.getElem?_append_right (by omega), hl, show i * 2 + 1 - i * 2 = 1 by omega]; rfl
    · have hh := flat_at f i n (by omega)
      obtain ⟨h0, h1⟩ := hh
      simp only [flat]
      exact ⟨by rw [List.getElem?_append_left (by omega)]; exact h0, by rw [List.getElem?_append_left (by omega)]; exact h1⟩
theorem flat_congr {f g : Nat → Pt2} : ∀ {n}, (∀ i, i < n → f i = g i) → flat f n = flat g n
  | 0, _ => rfl
  | n + 1, h => by simp only [flat]; rw [flat_congr fun i hi => h i (by omega), h n (by omega)]
def cat (n : Nat) (f g : Nat → Pt2) (i : Nat) : Pt2 := if i < n then f i else g (i - n)
theorem cat_lt {n i : Nat} {f g : Nat → Pt2} (h : i < n) : cat n f g i = f i := if_pos h
theorem cat_ge {n i : Nat} {f g : Nat → Pt2} (h : n ≤ i) : cat n f g i = g (i - n) := if_neg (by omega)
theorem flat_cat (n : Nat) (f g : Nat → Pt2) : ∀ m, flat f n ++ flat g m = flat (cat n f g) (n + m)
  | 0 => by simp only [flat, List.append_nil, Nat.add_zero]; exact flat_congr fun i hi => (cat_lt hi).symm
  | m + 1 => by
    have e : cat n f g (n + m) = g m := by rw [cat_ge (by omega), show n + m - n = m by omega]
    show flat f n ++ (flat g m ++ _) = flat (cat n f g) (n + m) ++ [.int .i64 (cat n f g (n + m)).x, .int .i64 (cat n f g (n + m)).y]
    rw [e, ← flat_cat n f g m, List.append_assoc]
theorem cat_snoc (n : Nat) (F : Nat → Pt2) : ∀ i, i < n + 1 → cat n F (fun _ => F n) i = F i := fun i hi => by
  rcases Nat.lt_or_ge i n with h | h
  · exact cat_lt h
  · obtain rfl : i = n := by omega
    exact cat_ge (Nat.le_refl _)
theorem flat_cells {b o : Nat} {f : Nat → Pt2} {w : World} : ∀ {n}, (∀ i, i < n → w.cell? ⟨b, o + i * 2, none⟩ = some (.int .i64 (f i).x) ∧ w.cell? ⟨b, o + i * 2 + 1, none⟩ = some (.int .i64 (f i).y)) → ∀ j u, (flat f n)[j]? = some u → w.cell? ((⟨b, o, none⟩ : Addr).add j) = some u
  | 0, _ => fun j u h => by simp [flat] at h
  | n + 1, h => fun j u hu => by
    have hl := flat_length f n
    simp only [flat] at hu
    rcases Nat.lt_or_ge j (n * 2) with hj | hj
    · rw [List.getElem?_append_left (by omega)] at hu
      exact flat_cells (fun i hi => h i (by omega)) j u hu
    · rw [List.getElem?_append_right (by omega), hl] at hu
      obtain ⟨h0, h1⟩ := h n (by omega)
      rw [addr_plus]
      have hj2 : j < n * 2 + 2 := by
        have := (List.getElem?_eq_some_iff.1 hu).1
        simp at this
        omega
      obtain rfl | rfl : j = n * 2 ∨ j = n * 2 + 1 := by omega
      · rw [show n * 2 - n * 2 = 0 by omega] at hu; exact h0.trans hu
      · rw [show n * 2 + 1 - n * 2 = 1 by omega] at hu; exact h1.trans hu
/-- The call's own slice. -/
structure Ow (base : Nat) (e : TypeId) (a : Option Addr) (c n : Nat) (f : Nat → Pt2) (w : World) : Prop where
  own : w.ownsRow base e 2 (.slice a n c) n (flat f n)
theorem Ow.keep {base : Nat} {e : TypeId} {a : Option Addr} {c n : Nat} {f : Nat → Pt2} {w w' : World} (h : Ow base e a c n f w) (hk : KeepT e w w') : Ow base e a c n f w' := by
  refine ⟨h.own.1, ?_⟩
  rcases h.own.2 with h' | ⟨g, cap, cur, h1, h2, h3, h4⟩
  · exact .inl h'
  · exact .inr ⟨g, cap, cur, h1, h2, hk _ _ _ h3, h4⟩
theorem Ow.congr {base : Nat} {e : TypeId} {a : Option Addr} {c n : Nat} {f g : Nat → Pt2} {w : World} (h : Ow base e a c n f w) (hfg : ∀ i, i < n → f i = g i) : Ow base e a c n g w := ⟨by rw [← flat_congr hfg]; exact h.own⟩
theorem Ow.sx {base : Nat} {e : TypeId} {a : Option Addr} {c n : Nat} {f : Nat → Pt2} {w : World} (h : Ow base e a c n f w) : Pl a n f w := by
  by_cases hn : n = 0
  · exact .inl hn
  · rcases h.own.2 with ⟨h1, h2⟩ | ⟨g, cap, cur, h1, h2, h3, h4⟩
    · exact absurd h2 hn
    · have ha : a = some ⟨g, 0, none⟩ := by injection h1
      subst ha
      refine .inr ⟨g, 0, rfl, lt_of_row h3, fun i hi => ?_⟩
      obtain ⟨f0, f1⟩ := flat_at f i n hi
      have c0 := h.own.cells (g := g) rfl _ _ f0
      have c1 := h.own.cells (g := g) rfl _ _ f1
      rw [addr_plus] at c0 c1
      exact ⟨c0, c1⟩
theorem Ow.nil (base : Nat) (e : TypeId) (f : Nat → Pt2) (w : World) : Ow base e none 0 0 f w := ⟨World.ownsRow_nil w base e 2⟩
theorem Ow.empty (base : Nat) (e : TypeId) (f : Nat → Pt2) (w : World) (hb : base ≤ w.heap.size) : Ow base e (some ⟨w.heap.size, 0, none⟩) 0 0 f (w.alloc (.cells #[] e)) :=
  ⟨World.ownsRow_made w #[] 0 hb (by decide) rfl⟩
/-- What an append to the call's own slice leaves. -/
structure Grew (base : Nat) (e : TypeId) (c n : Nat) (w w' : World) : Prop where
  below : ∀ B a, Below B a w → B ≤ base → Below B a w'
  keep : ∀ t, t ≠ e → KeepT t w w'
  row : ∀ k o, w.heap[k]? = some o → k < base → w'.heap[k]? = some o
  old : ∀ B a c m f, m ≤ n → Ow B e a c m f w → Ow B e a c m f w'
  fresh : c = 0 → Below w.heap.size w w'

section
variable {P : Program} {w : World}
theorem grew_of {base : Nat} {e : TypeId} {a : Option Addr} {c n : Nat} {f : Nat → Pt2} {w w' : World} (h : Ow base e a c n f w) (hb : base ≤ w.heap.size) (hg : w.grownBy w' (Value.slice a n c).ownBlock) (ho : ∀ B a c m f, m ≤ n → Ow B e a c m f w → Ow B e a c m f w') (hz : c = 0 → ∀ k, (Value.slice a n c).ownBlock = some k → w'.heap[k]? = w.heap[k]?) : Grew base e c n w w' := by
  have hlt := h.own.lt
  refine ⟨fun B a' hB hle => hB.grown hg (by omega) (fun k hk => by have := hlt k hk; omega), fun t hne k cs fr hk => (hg.block k (lt_of_row hk) fun hx => ?_).trans hk, fun k o hk hkb => (hg.block k (lt_of_row hk) fun hx => ?_).trans hk, ho, fun h0 => ⟨hg.os, hg.tape, hg.output, hg.size, fun k hk => ?_⟩⟩
  · rcases h.own.2 with ⟨h1, h2⟩ | ⟨g, cap, cur, h1, h2, h3, h4⟩
    · rw [h1] at hx; cases hx
    · rw [h1] at hx
      obtain rfl : k = g := by simpa [Value.ownBlock] using hx
      rw [hk] at h3
      injection h3 with h3
      injection h3 with _ h3
      exact hne h3
  · have := hlt k hx.symm
    omega
  · by_cases hx : some k = (Value.slice a n c).ownBlock
    · exact hz h0 k hx.symm
    · exact hg.block k hk hx
theorem keepT_setRow_same {e : TypeId} {g n : Nat} {cur : Array Value} {cs : Array Value} (hg : w.heap[g]? = some (Obj.cells cur e (0, 0))) (hs : cs.size = cur.size) (hp : cs.toList.take (n * 2) = cur.toList.take (n * 2)) :
    ∀ B a c m f, m ≤ n → Ow B e a c m f w → Ow B e a c m f (w.setRow g cs) := fun B a c m f hm h => by
  refine ⟨h.own.1, ?_⟩
  rcases h.own.2 with h' | ⟨k, cap, ck, h1, h2, h3, h4, h5, h6, h7⟩
  · exact .inl h'
  · by_cases hk : k = g
    · subst hk
      obtain rfl : cur = ck := by rw [hg] at h3; injection h3 with h3; injection h3
      refine .inr ⟨k, cap, cs, h1, h2, setRow_heap w k cur cs e _ hg, h4, h5, hs.trans h6, ?_⟩
      have e1 : cs.toList.take (m * 2) = (cs.toList.take (n * 2)).take (m * 2) := by rw [List.take_take, Nat.min_eq_left (by omega)]
      have e2 : cur.toList.take (m * 2) = (cur.toList.take (n * 2)).take (m * 2) := by rw [List.take_take, Nat.min_eq_left (by omega)]
      rw [e1, hp, ← e2, h7]
    · exact .inr ⟨k, cap, ck, h1, h2, (setRow_other w g k cs hk).trans h3, h4, h5, h6, h7⟩
/-- The row of the table of an element type of three numbers. -/
structure Elt (P : Program) (t e : TypeId) : Prop where
  und : P.underlying t = some (.slice e)
  inf : (P.info? e).map (fun i => (i.zero, i.size, i.bytes)) = some (some (.agg #[.int .i64 0, .int .i64 0]), 2, 16)
theorem run_append_vecs {t ty e : TypeId} (T : Elt P t e) {base : Nat} {a A : Option Addr} {c n m d : Nat} {f g : Nat → Pt2} (hown : Ow base e a c n f w) (hr : Pl A m g w) (hnm : n + m ≤ 1000000) (hbase : base ≤ w.heap.size) :
    ∃ a' c' w', (Builtin.append_ #[t, t] ty #[.slice a n c, .slice A m d]).run P w = .ok (.slice a' (n + m) c') w' ∧ Ow base e a' c' (n + m) (cat n f g) w' ∧ Grew base e c n w w' := by
  obtain ⟨i0, hi, hz0, hz1, hz2⟩ := info_parts T.inf
  have key : ∀ (ad : Addr) (news : List Value), A = some ad → news = flat g m → (∀ j u, news[j]? = some u → w.cell? (ad.add j) = some u) →
      ∃ a' c' w', (Builtin.append_ #[t, t] ty #[.slice a n c, .slice A m d]).run P w = .ok (.slice a' (n + m) c') w' ∧ Ow base e a' c' (n + m) (cat n f g) w' ∧ Grew base e c n w w' := by
    intro ad news hA hn hc
    subst hA hn
    obtain ⟨v', w', hrun, h2, h3, _, h5⟩ := run_append_own_at (P := P) w base t ty e i0 _ 2 16 T.und hi hz0 hz1 hz2 rfl (by decide) _ n _ hown.own ad m d (flat g m) (flat_length g m) hc (flat_one g m) (by simp only [maxLen]; omega) (by omega) hbase
    obtain ⟨a', c', rfl⟩ : ∃ a' c', v' = .slice a' (n + m) c' := by
      rcases h2.2 with ⟨h, h'⟩ | ⟨g', cap, cur, h, _⟩
      · exact ⟨none, 0, by rw [h, h']⟩
      · exact ⟨_, _, h⟩
    refine ⟨a', c', w', hrun, ⟨by rw [← flat_cat]; exact h2⟩, grew_of hown hbase h3 ?_ ?_⟩
    · have hfl := flat_length g m
      have hfn := flat_length f n
      rcases hown.own.2 with ⟨h1, h0⟩ | ⟨k, cap, cur, h1, _, hk, hnc, hcm, hcs, htake⟩
      · subst h0
        obtain ⟨rfl, rfl⟩ : a = none ∧ c = 0 := by injection h1 with h1 _ h1'; exact ⟨h1, h1'⟩
        by_cases hm : m = 0
        · subst hm
          have hr : (Builtin.append_ #[t, t] ty #[.slice none 0 0, .slice (some ad) 0 d]).run P w = .ok (.slice none 0 0) w := by
            simp [Builtin.append_, run_underlying T.und, sizeOf, typeInfo, hi, Builtin.lenOf, Builtin.firstCells, loadCells, loadCellsFrom]
          rw [hr] at hrun
          injection hrun with _ hw
          subst hw
          exact fun _ _ _ _ _ _ h => h
        · have hr := run_append_nil (P := P) w t ty e i0 _ T.und hi hz0 ad m d (flat g m) (by rw [hfl, hz1]) hc (by omega) (by omega) (by rw [hz2]; omega)
          rw [hr] at hrun
          injection hrun with _ hw
          subst hw
          exact fun _ _ _ _ _ _ h => h.keep (((KeepT.refl e w).trans (fun _ _ _ h => h) : KeepT e w w.drew).alloc _)
      · have ha : a = some ⟨k, 0, none⟩ ∧ c = cap := by injection h1 with h1 _ h1'; exact ⟨h1, h1'⟩
        obtain ⟨rfl, rfl⟩ := ha
        by_cases hroom : n + m ≤ c
        · have hr := run_append_room (P := P) w t ty e i0 T.und hi k n c cur hk ad m d (flat g m) (by rw [hfl, hz1]) hc (flat_one g m) hroom (by rw [hz1, hfl, hcs]; omega)
          rw [hr] at hrun
          injection hrun with _ hw
          subst hw
          refine keepT_setRow_same hk ?_ ?_
          · simp only [List.size_toArray, List.length_append, List.length_take, List.length_drop, Array.length_toList, hz1, hfl]
            omega
          · rw [hz1, List.append_assoc]
            exact List.take_left' (by simp only [List.length_take, Array.length_toList]; omega)
        · have hr := run_append_grow (P := P) w t ty e i0 _ T.und hi hz0 ⟨k, 0, none⟩ n c (flat f n) (by rw [hfn, hz1]) (hown.own.cells (g := k) rfl) ad m d (flat g m) (by rw [hfl, hz1]) hc (by omega) (by omega) (growslice_fits (by omega) (by rw [hz2]; omega))
          rw [hr] at hrun
          injection hrun with _ hw
          subst hw
          exact fun _ _ _ _ _ _ h => h.keep (((KeepT.refl e w).trans (fun _ _ _ h => h) : KeepT e w w.drew).alloc _)
    · intro h0 k hk
      have hfl := flat_length g m
      rcases hown.own.2 with ⟨h1, h0'⟩ | ⟨k', cap, cur, h1, _, hk', hnc, hcm, hcs, htake⟩
      · rw [h1] at hk; cases hk
      · have ha : a = some ⟨k', 0, none⟩ ∧ c = cap := by injection h1 with h1 _ h1'; exact ⟨h1, h1'⟩
        obtain ⟨rfl, rfl⟩ := ha
        obtain rfl : k' = k := by simpa [Value.ownBlock] using hk
        subst h0
        obtain rfl : n = 0 := by omega
        by_cases hm : m = 0
        · subst hm
          have hr := run_append_room (P := P) w t ty e i0 T.und hi k' 0 0 cur hk' ad 0 d (flat g 0) (by rw [hfl, hz1]) hc (flat_one g 0) (Nat.le_refl _) (by rw [hz1, hfl, hcs]; omega)
          rw [hr] at hrun
          injection hrun with _ hw
          subst hw
          rw [hk', setRow_heap w k' cur _ e _ hk']
          simp [flat]
        · have hr := run_append_grow (P := P) w t ty e i0 _ T.und hi hz0 ⟨k', 0, none⟩ 0 0 (flat f 0) (by rw [hz1]; rfl) (hown.own.cells (g := k') rfl) ad m d (flat g m) (by rw [hfl, hz1]) hc (by omega) (by omega) (growslice_fits (by omega) (by rw [hz2]; omega))
          rw [hr] at hrun
          injection hrun with _ hw
          subst hw
          exact Below.heap_alloc _ _ _ (lt_of_row hk')
  rcases A with _ | ad
  · obtain rfl : m = 0 := by
      rcases hr with h | ⟨b, o, h, _⟩
      · exact h
      · cases h
    refine ⟨a, c, w, run_append_nothing T.und hi hown.own d, ?_, grew_of hown hbase (World.grownBy.refl w _) (fun _ _ _ _ _ _ h => h) fun _ _ _ => rfl⟩
    exact hown.congr fun i hi => (cat_lt hi).symm
  · refine key ad _ rfl rfl ?_
    rcases hr with rfl | ⟨b, o, h, hs⟩
    · intro j u hu; simp [flat] at hu
    · cases h
      exact flat_cells hs.hc
theorem wp_append_vecs {o : Oper} {ac : Act} {K : Act → World → Prop} {Q : Exit → Act → World → Prop} (s x : Operand) {t e : TypeId} (T : Elt P t e)
    (ho : o.op = .call { callee := .builtin .append, args := #[s, x], argTypes := #[t, t] })
    {base : Nat} {a A : Option Addr} {c n m d : Nat} {f g : Nat → Pt2} (hs : ac.eval s = .slice a n c) (hown : Ow base e a c n f w) (hx : ac.eval x = .slice A m d) (hr : Pl A m g w) (hnm : n + m ≤ 1000000) (hbase : base ≤ w.heap.size) (N : Nat) (hN : n + m = N) (F : Nat → Pt2) (hF : ∀ i, i < N → cat n f g i = F i)
    (h : ∀ a' c' w', Ow base e a' c' N F w' → Grew base e c n w w' → K (ac.put o.dst (.slice a' N c')) w') : o.wp P ac w K Q := by
  obtain ⟨a', c', w', hrun, h2, h3⟩ := run_append_vecs (w := w) (ty := o.type) (d := d) T hown hr hnm hbase
  unfold Oper.wp execOp
  simp only [ho, resolve, invoke, builtin, Sem.run_bind, Sem.run_pure, Result.andThen_ok, List.map_toArray, List.map_cons, List.map_nil, hs, hx, hrun]
  subst hN
  exact h a' c' w' (h2.congr hF) h3
theorem wpList_append_vecs {ops : Array Oper} {rest : List Oper} {o : Oper} {ac : Act} {Q : Exit → Act → World → Prop} (hgd : o.guard = none) (s x : Operand) {t e : TypeId} (T : Elt P t e)
    (ho : o.op = .call { callee := .builtin .append, args := #[s, x], argTypes := #[t, t] })
    {base : Nat} {a A : Option Addr} {c n m d : Nat} {f g : Nat → Pt2} (hs : ac.eval s = .slice a n c) (hown : Ow base e a c n f w) (hx : ac.eval x = .slice A m d) (hr : Pl A m g w) (hnm : n + m ≤ 1000000) (hbase : base ≤ w.heap.size) (N : Nat) (hN : n + m = N) (F : Nat → Pt2) (hF : ∀ i, i < N → cat n f g i = F i)
    (h : ∀ a' c' w', Ow base e a' c' N F w' → Grew base e c n w w' → wpList P ops Q rest (ac.put o.dst (.slice a' N c')) w') : wpList P ops Q (o :: rest) ac w :=
  wpList_plain hgd fun _ hK => wp_append_vecs s x T ho hs hown hx hr hnm hbase N hN F hF fun a' c' w' h2 h3 => hK _ _ (h a' c' w' h2 h3)
theorem step_append_vecs {ops : Array Oper} {o : Oper} {ac : Act} {K : Act → World → Prop} {Q : Exit → Act → World → Prop} {E : Prop} (hgd : o.guard = none) (s x : Operand) {t e : TypeId} (T : Elt P t e)
    (ho : o.op = .call { callee := .builtin .append, args := #[s, x], argTypes := #[t, t] })
    {base : Nat} {a A : Option Addr} {c n m d : Nat} {f g : Nat → Pt2} (hs : ac.eval s = .slice a n c) (hown : Ow base e a c n f w) (hx : ac.eval x = .slice A m d) (hr : Pl A m g w) (hnm : n + m ≤ 1000000) (hbase : base ≤ w.heap.size) (N : Nat) (hN : n + m = N) (F : Nat → Pt2) (hF : ∀ i, i < N → cat n f g i = F i)
    (h : ∀ a' c' w', Ow base e a' c' N F w' → Grew base e c n w w' → K (ac.put o.dst (.slice a' N c')) w') :
    if Region.wanted o (yielded ops ac.tmps) = true then Oper.wp P o ac w K Q else E := by
  have hw : Region.wanted o (yielded ops ac.tmps) = true := by simp [Region.wanted, hgd]
  rw [if_pos hw]
  exact wp_append_vecs s x T ho hs hown hx hr hnm hbase N hN F hF h
end
end PO
namespace GO
def flat (f : Nat → Pg) : Nat → List Value
  | 0 => []
  | n + 1 => flat f n ++ [.slice (f n).a (f n).n (f n).c]
theorem flat_length (f : Nat → Pg) : ∀ n, (flat f n).length = n * 1
  | 0 => rfl
  | n + 1 => by simp [flat, flat_length f n]; try omega
theorem flat_one (f : Nat → Pg) : ∀ n, ∀ u ∈ flat f n, u.oneCell' = true
  | 0 => fun u h => by cases h
  | n + 1 => fun u h => by
    rcases List.mem_append.1 h with h | h
    · exact flat_one f n u h
    · simp only [List.mem_cons, List.not_mem_nil, or_false] at h
      rcases h with rfl <;> rfl
theorem flat_at (f : Nat → Pg) (i : Nat) : ∀ n, i < n → (flat f n)[i * 1]? = some (.slice (f i).a (f i).n (f i).c)
  | 0, h => absurd h (by omega)
  | n + 1, h => by
    have hl := flat_length f n
    by_cases hi : i = n
    · subst hi
      simp only [flat]
      · rw [List.getElem?_append_right (by omega), hl, show i * 1 - i * 1 = 0 by omega]; rfl
    · have hh := flat_at f i n (by omega)
      have h0 := hh
      simp only [flat]
      exact by rw [List.getElem?_append_left (by omega)]; exact h0
theorem flat_congr {f g : Nat → Pg} : ∀ {n}, (∀ i, i < n → f i = g i) → flat f n = flat g n
  | 0, _ => rfl
  | n + 1, h => by simp only [flat]; rw [flat_congr fun i hi => h i (by omega), h n (by omega)]
def cat (n : Nat) (f g : Nat → Pg) (i : Nat) : Pg := if i < n then f i else g (i - n)
theorem cat_lt {n i : Nat} {f g : Nat → Pg} (h : i < n) : cat n f g i = f i := if_pos h
theorem cat_ge {n i : Nat} {f g : Nat → Pg} (h : n ≤ i) : cat n f g i = g (i - n) := if_neg (by omega)
theorem flat_cat (n : Nat) (f g : Nat → Pg) : ∀ m, flat f n ++ flat g m = flat (cat n f g) (n + m)
  | 0 => by simp only [flat, List.append_nil, Nat.add_zero]; exact flat_congr fun i hi => (cat_lt hi).symm
  | m + 1 => by
    have e : cat n f g (n + m) = g m := by rw [cat_ge (by omega), show n + m - n = m by omega]
    show flat f n ++ (flat g m ++ _) = flat (cat n f g) (n + m) ++ [.slice (cat n f g (n + m)).a (cat n f g (n + m)).n (cat n f g (n + m)).c]
    rw [e, ← flat_cat n f g m, List.append_assoc]
theorem cat_snoc (n : Nat) (F : Nat → Pg) : ∀ i, i < n + 1 → cat n F (fun _ => F n) i = F i := fun i hi => by
  rcases Nat.lt_or_ge i n with h | h
  · exact cat_lt h
  · obtain rfl : i = n := by omega
    exact cat_ge (Nat.le_refl _)
theorem flat_cells {b o : Nat} {f : Nat → Pg} {w : World} : ∀ {n}, (∀ i, i < n → w.cell? ⟨b, o + i * 1, none⟩ = some (.slice (f i).a (f i).n (f i).c)) → ∀ j u, (flat f n)[j]? = some u → w.cell? ((⟨b, o, none⟩ : Addr).add j) = some u
  | 0, _ => fun j u h => by simp [flat] at h
  | n + 1, h => fun j u hu => by
    have hl := flat_length f n
    simp only [flat] at hu
    rcases Nat.lt_or_ge j (n * 1) with hj | hj
    · rw [List.getElem?_append_left (by omega)] at hu
      exact flat_cells (fun i hi => h i (by omega)) j u hu
    · rw [List.getElem?_append_right (by omega), hl] at hu
      have h0 := h n (by omega)
      rw [addr_plus]
      have hj2 : j < n * 1 + 1 := by
        have := (List.getElem?_eq_some_iff.1 hu).1
        simp at this
        omega
      obtain rfl : j = n * 1 := by omega
      · rw [show n * 1 - n * 1 = 0 by omega] at hu; exact h0.trans hu
/-- The call's own slice. -/
structure Ow (base : Nat) (e : TypeId) (a : Option Addr) (c n : Nat) (f : Nat → Pg) (w : World) : Prop where
  own : w.ownsRow base e 1 (.slice a n c) n (flat f n)
theorem Ow.keep {base : Nat} {e : TypeId} {a : Option Addr} {c n : Nat} {f : Nat → Pg} {w w' : World} (h : Ow base e a c n f w) (hk : KeepT e w w') : Ow base e a c n f w' := by
  refine ⟨h.own.1, ?_⟩
  rcases h.own.2 with h' | ⟨g, cap, cur, h1, h2, h3, h4⟩
  · exact .inl h'
  · exact .inr ⟨g, cap, cur, h1, h2, hk _ _ _ h3, h4⟩
theorem Ow.congr {base : Nat} {e : TypeId} {a : Option Addr} {c n : Nat} {f g : Nat → Pg} {w : World} (h : Ow base e a c n f w) (hfg : ∀ i, i < n → f i = g i) : Ow base e a c n g w := ⟨by rw [← flat_congr hfg]; exact h.own⟩
theorem Ow.sx {base : Nat} {e : TypeId} {a : Option Addr} {c n : Nat} {f : Nat → Pg} {w : World} (h : Ow base e a c n f w) : Lc a n f w := by
  by_cases hn : n = 0
  · exact .inl hn
  · rcases h.own.2 with ⟨h1, h2⟩ | ⟨g, cap, cur, h1, h2, h3, h4⟩
    · exact absurd h2 hn
    · have ha : a = some ⟨g, 0, none⟩ := by injection h1
      subst ha
      refine .inr ⟨g, 0, rfl, lt_of_row h3, fun i hi => ?_⟩
      have f0 := flat_at f i n hi
      have c0 := h.own.cells (g := g) rfl _ _ f0
      rw [addr_plus, Nat.mul_one] at c0
      exact c0
theorem Ow.nil (base : Nat) (e : TypeId) (f : Nat → Pg) (w : World) : Ow base e none 0 0 f w := ⟨World.ownsRow_nil w base e 1⟩
theorem Ow.empty (base : Nat) (e : TypeId) (f : Nat → Pg) (w : World) (hb : base ≤ w.heap.size) : Ow base e (some ⟨w.heap.size, 0, none⟩) 0 0 f (w.alloc (.cells #[] e)) :=
  ⟨World.ownsRow_made w #[] 0 hb (by decide) rfl⟩
/-- What an append to the call's own slice leaves. -/
structure Grew (base : Nat) (e : TypeId) (c n : Nat) (w w' : World) : Prop where
  below : ∀ B a, Below B a w → B ≤ base → Below B a w'
  keep : ∀ t, t ≠ e → KeepT t w w'
  row : ∀ k o, w.heap[k]? = some o → k < base → w'.heap[k]? = some o
  old : ∀ B a c m f, m ≤ n → Ow B e a c m f w → Ow B e a c m f w'
  fresh : c = 0 → Below w.heap.size w w'

section
variable {P : Program} {w : World}
theorem grew_of {base : Nat} {e : TypeId} {a : Option Addr} {c n : Nat} {f : Nat → Pg} {w w' : World} (h : Ow base e a c n f w) (hb : base ≤ w.heap.size) (hg : w.grownBy w' (Value.slice a n c).ownBlock) (ho : ∀ B a c m f, m ≤ n → Ow B e a c m f w → Ow B e a c m f w') (hz : c = 0 → ∀ k, (Value.slice a n c).ownBlock = some k → w'.heap[k]? = w.heap[k]?) : Grew base e c n w w' := by
  have hlt := h.own.lt
  refine ⟨fun B a' hB hle => hB.grown hg (by omega) (fun k hk => by have := hlt k hk; omega), fun t hne k cs fr hk => (hg.block k (lt_of_row hk) fun hx => ?_).trans hk, fun k o hk hkb => (hg.block k (lt_of_row hk) fun hx => ?_).trans hk, ho, fun h0 => ⟨hg.os, hg.tape, hg.output, hg.size, fun k hk => ?_⟩⟩
  · rcases h.own.2 with ⟨h1, h2⟩ | ⟨g, cap, cur, h1, h2, h3, h4⟩
    · rw [h1] at hx; cases hx
    · rw [h1] at hx
      obtain rfl : k = g := by simpa [Value.ownBlock] using hx
      rw [hk] at h3
      injection h3 with h3
      injection h3 with _ h3
      exact hne h3
  · have := hlt k hx.symm
    omega
  · by_cases hx : some k = (Value.slice a n c).ownBlock
    · exact hz h0 k hx.symm
    · exact hg.block k hk hx
theorem keepT_setRow_same {e : TypeId} {g n : Nat} {cur : Array Value} {cs : Array Value} (hg : w.heap[g]? = some (Obj.cells cur e (0, 0))) (hs : cs.size = cur.size) (hp : cs.toList.take (n * 1) = cur.toList.take (n * 1)) :
    ∀ B a c m f, m ≤ n → Ow B e a c m f w → Ow B e a c m f (w.setRow g cs) := fun B a c m f hm h => by
  refine ⟨h.own.1, ?_⟩
  rcases h.own.2 with h' | ⟨k, cap, ck, h1, h2, h3, h4, h5, h6, h7⟩
  · exact .inl h'
  · by_cases hk : k = g
    · subst hk
      obtain rfl : cur = ck := by rw [hg] at h3; injection h3 with h3; injection h3
      refine .inr ⟨k, cap, cs, h1, h2, setRow_heap w k cur cs e _ hg, h4, h5, hs.trans h6, ?_⟩
      have e1 : cs.toList.take (m * 1) = (cs.toList.take (n * 1)).take (m * 1) := by rw [List.take_take, Nat.min_eq_left (by omega)]
      have e2 : cur.toList.take (m * 1) = (cur.toList.take (n * 1)).take (m * 1) := by rw [List.take_take, Nat.min_eq_left (by omega)]
      rw [e1, hp, ← e2, h7]
    · exact .inr ⟨k, cap, ck, h1, h2, (setRow_other w g k cs hk).trans h3, h4, h5, h6, h7⟩
/-- The row of the table of an element type of three numbers. -/
structure Elt (P : Program) (t e : TypeId) : Prop where
  und : P.underlying t = some (.slice e)
  inf : (P.info? e).map (fun i => (i.zero, i.size, i.bytes)) = some (some (.agg #[.slice none 0 0]), 1, 24)
theorem run_append_vecs {t ty e : TypeId} (T : Elt P t e) {base : Nat} {a A : Option Addr} {c n m d : Nat} {f g : Nat → Pg} (hown : Ow base e a c n f w) (hr : Lc A m g w) (hnm : n + m ≤ 1000000) (hbase : base ≤ w.heap.size) :
    ∃ a' c' w', (Builtin.append_ #[t, t] ty #[.slice a n c, .slice A m d]).run P w = .ok (.slice a' (n + m) c') w' ∧ Ow base e a' c' (n + m) (cat n f g) w' ∧ Grew base e c n w w' := by
  obtain ⟨i0, hi, hz0, hz1, hz2⟩ := info_parts T.inf
  have key : ∀ (ad : Addr) (news : List Value), A = some ad → news = flat g m → (∀ j u, news[j]? = some u → w.cell? (ad.add j) = some u) →
      ∃ a' c' w', (Builtin.append_ #[t, t] ty #[.slice a n c, .slice A m d]).run P w = .ok (.slice a' (n + m) c') w' ∧ Ow base e a' c' (n + m) (cat n f g) w' ∧ Grew base e c n w w' := by
    intro ad news hA hn hc
    subst hA hn
    obtain ⟨v', w', hrun, h2, h3, _, h5⟩ := run_append_own_at (P := P) w base t ty e i0 _ 1 24 T.und hi hz0 hz1 hz2 rfl (by decide) _ n _ hown.own ad m d (flat g m) (flat_length g m) hc (flat_one g m) (by simp only [maxLen]; omega) (by omega) hbase
    obtain ⟨a', c', rfl⟩ : ∃ a' c', v' = .slice a' (n + m) c' := by
      rcases h2.2 with ⟨h, h'⟩ | ⟨g', cap, cur, h, _⟩
      · exact ⟨none, 0, by rw [h, h']⟩
      · exact ⟨_, _, h⟩
    refine ⟨a', c', w', hrun, ⟨by rw [← flat_cat]; exact h2⟩, grew_of hown hbase h3 ?_ ?_⟩
    · have hfl := flat_length g m
      have hfn := flat_length f n
      rcases hown.own.2 with ⟨h1, h0⟩ | ⟨k, cap, cur, h1, _, hk, hnc, hcm, hcs, htake⟩
      · subst h0
        obtain ⟨rfl, rfl⟩ : a = none ∧ c = 0 := by injection h1 with h1 _ h1'; exact ⟨h1, h1'⟩
        by_cases hm : m = 0
        · subst hm
          have hr : (Builtin.append_ #[t, t] ty #[.slice none 0 0, .slice (some ad) 0 d]).run P w = .ok (.slice none 0 0) w := by
            simp [Builtin.append_, run_underlying T.und, sizeOf, typeInfo, hi, Builtin.lenOf, Builtin.firstCells, loadCells, loadCellsFrom]
          rw [hr] at hrun
          injection hrun with _ hw
          subst hw
          exact fun _ _ _ _ _ _ h => h
        · have hr := run_append_nil (P := P) w t ty e i0 _ T.und hi hz0 ad m d (flat g m) (by rw [hfl, hz1]) hc (by omega) (by omega) (by rw [hz2]; omega)
          rw [hr] at hrun
          injection hrun with _ hw
          subst hw
          exact fun _ _ _ _ _ _ h => h.keep (((KeepT.refl e w).trans (fun _ _ _ h => h) : KeepT e w w.drew).alloc _)
      · have ha : a = some ⟨k, 0, none⟩ ∧ c = cap := by injection h1 with h1 _ h1'; exact ⟨h1, h1'⟩
        obtain ⟨rfl, rfl⟩ := ha
        by_cases hroom : n + m ≤ c
        · have hr := run_append_room (P := P) w t ty e i0 T.und hi k n c cur hk ad m d (flat g m) (by rw [hfl, hz1]) hc (flat_one g m) hroom (by rw [hz1, hfl, hcs]; omega)
          rw [hr] at hrun
          injection hrun with _ hw
          subst hw
          refine keepT_setRow_same hk ?_ ?_
          · simp only [List.size_toArray, List.length_append, List.length_take, List.length_drop, Array.length_toList, hz1, hfl]
            omega
          · rw [hz1, List.append_assoc]
            exact List.take_left' (by simp only [List.length_take, Array.length_toList]; omega)
        · have hr := run_append_grow (P := P) w t ty e i0 _ T.und hi hz0 ⟨k, 0, none⟩ n c (flat f n) (by rw [hfn, hz1]) (hown.own.cells (g := k) rfl) ad m d (flat g m) (by rw [hfl, hz1]) hc (by omega) (by omega) (growslice_fits (by omega) (by rw [hz2]; omega))
          rw [hr] at hrun
          injection hrun with _ hw
          subst hw
          exact fun _ _ _ _ _ _ h => h.keep (((KeepT.refl e w).trans (fun _ _ _ h => h) : KeepT e w w.drew).alloc _)
    · intro h0 k hk
      have hfl := flat_length g m
      rcases hown.own.2 with ⟨h1, h0'⟩ | ⟨k', cap, cur, h1, _, hk', hnc, hcm, hcs, htake⟩
      · rw [h1] at hk; cases hk
      · have ha : a = some ⟨k', 0, none⟩ ∧ c = cap := by injection h1 with h1 _ h1'; exact ⟨h1, h1'⟩
        obtain ⟨rfl, rfl⟩ := ha
        obtain rfl : k' = k := by simpa [Value.ownBlock] using hk
        subst h0
        obtain rfl : n = 0 := by omega
        by_cases hm : m = 0
        · subst hm
          have hr := run_append_room (P := P) w t ty e i0 T.und hi k' 0 0 cur hk' ad 0 d (flat g 0) (by rw [hfl, hz1]) hc (flat_one g 0) (Nat.le_refl _) (by rw [hz1, hfl, hcs]; omega)
          rw [hr] at hrun
          injection hrun with _ hw
          subst hw
          rw [hk', setRow_heap w k' cur _ e _ hk']
          simp [flat]
        · have hr := run_append_grow (P := P) w t ty e i0 _ T.und hi hz0 ⟨k', 0, none⟩ 0 0 (flat f 0) (by rw [hz1]; rfl) (hown.own.cells (g := k') rfl) ad m d (flat g m) (by rw [hfl, hz1]) hc (by omega) (by omega) (growslice_fits (by omega) (by rw [hz2]; omega))
          rw [hr] at hrun
          injection hrun with _ hw
          subst hw
          exact Below.heap_alloc _ _ _ (lt_of_row hk')
  rcases A with _ | ad
  · obtain rfl : m = 0 := by
      rcases hr with h | ⟨b, o, h, _⟩
      · exact h
      · cases h
    refine ⟨a, c, w, run_append_nothing T.und hi hown.own d, ?_, grew_of hown hbase (World.grownBy.refl w _) (fun _ _ _ _ _ _ h => h) fun _ _ _ => rfl⟩
    exact hown.congr fun i hi => (cat_lt hi).symm
  · refine key ad _ rfl rfl ?_
    rcases hr with rfl | ⟨b, o, h, hs⟩
    · intro j u hu; simp [flat] at hu
    · cases h
      exact flat_cells fun i hi => by rw [Nat.mul_one]; exact hs.hc i hi
theorem wp_append_vecs {o : Oper} {ac : Act} {K : Act → World → Prop} {Q : Exit → Act → World → Prop} (s x : Operand) {t e : TypeId} (T : Elt P t e)
    (ho : o.op = .call { callee := .builtin .append, args := #[s, x], argTypes := #[t, t] })
    {base : Nat} {a A : Option Addr} {c n m d : Nat} {f g : Nat → Pg} (hs : ac.eval s = .slice a n c) (hown : Ow base e a c n f w) (hx : ac.eval x = .slice A m d) (hr : Lc A m g w) (hnm : n + m ≤ 1000000) (hbase : base ≤ w.heap.size) (N : Nat) (hN : n + m = N) (F : Nat → Pg) (hF : ∀ i, i < N → cat n f g i = F i)
    (h : ∀ a' c' w', Ow base e a' c' N F w' → Grew base e c n w w' → K (ac.put o.dst (.slice a' N c')) w') : o.wp P ac w K Q := by
  obtain ⟨a', c', w', hrun, h2, h3⟩ := run_append_vecs (w := w) (ty := o.type) (d := d) T hown hr hnm hbase
  unfold Oper.wp execOp
  simp only [ho, resolve, invoke, builtin, Sem.run_bind, Sem.run_pure, Result.andThen_ok, List.map_toArray, List.map_cons, List.map_nil, hs, hx, hrun]
  subst hN
  exact h a' c' w' (h2.congr hF) h3
theorem wpList_append_vecs {ops : Array Oper} {rest : List Oper} {o : Oper} {ac : Act} {Q : Exit → Act → World → Prop} (hgd : o.guard = none) (s x : Operand) {t e : TypeId} (T : Elt P t e)
    (ho : o.op = .call { callee := .builtin .append, args := #[s, x], argTypes := #[t, t] })
    {base : Nat} {a A : Option Addr} {c n m d : Nat} {f g : Nat → Pg} (hs : ac.eval s = .slice a n c) (hown : Ow base e a c n f w) (hx : ac.eval x = .slice A m d) (hr : Lc A m g w) (hnm : n + m ≤ 1000000) (hbase : base ≤ w.heap.size) (N : Nat) (hN : n + m = N) (F : Nat → Pg) (hF : ∀ i, i < N → cat n f g i = F i)
    (h : ∀ a' c' w', Ow base e a' c' N F w' → Grew base e c n w w' → wpList P ops Q rest (ac.put o.dst (.slice a' N c')) w') : wpList P ops Q (o :: rest) ac w :=
  wpList_plain hgd fun _ hK => wp_append_vecs s x T ho hs hown hx hr hnm hbase N hN F hF fun a' c' w' h2 h3 => hK _ _ (h a' c' w' h2 h3)
theorem step_append_vecs {ops : Array Oper} {o : Oper} {ac : Act} {K : Act → World → Prop} {Q : Exit → Act → World → Prop} {E : Prop} (hgd : o.guard = none) (s x : Operand) {t e : TypeId} (T : Elt P t e)
    (ho : o.op = .call { callee := .builtin .append, args := #[s, x], argTypes := #[t, t] })
    {base : Nat} {a A : Option Addr} {c n m d : Nat} {f g : Nat → Pg} (hs : ac.eval s = .slice a n c) (hown : Ow base e a c n f w) (hx : ac.eval x = .slice A m d) (hr : Lc A m g w) (hnm : n + m ≤ 1000000) (hbase : base ≤ w.heap.size) (N : Nat) (hN : n + m = N) (F : Nat → Pg) (hF : ∀ i, i < N → cat n f g i = F i)
    (h : ∀ a' c' w', Ow base e a' c' N F w' → Grew base e c n w w' → K (ac.put o.dst (.slice a' N c')) w') :
    if Region.wanted o (yielded ops ac.tmps) = true then Oper.wp P o ac w K Q else E := by
  have hw : Region.wanted o (yielded ops ac.tmps) = true := by simp [Region.wanted, hgd]
  rw [if_pos hw]
  exact wp_append_vecs s x T ho hs hown hx hr hnm hbase N hN F hF h
end
end GO
theorem elt24 : PO.Elt Try.prog 31 24 := ⟨Try.underlying31, by kernel_rfl⟩
theorem elt33 : GO.Elt Try.prog 22 33 := ⟨Try.underlying22, by kernel_rfl⟩
end Go.Proofs.Ytffmmfeedfdlaaa
