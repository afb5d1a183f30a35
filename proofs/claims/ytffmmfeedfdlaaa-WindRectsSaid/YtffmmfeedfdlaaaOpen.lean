/- The arguments opened: []Poly, Pt. -/
import Derived.Test.YtffmmfeedfdlaaaMem
import Derived.Lib.SmallJoins
import Derived.Deep.Slices
import Derived.Deep.Fields
import Derived.ChangeSame
import Derived.SizedLaws
namespace Go.Proofs.Ytffmmfeedfdlaaa
open Go.ChangeShapes Go.WideShapes Go.ChangeAt Go.RowKit Go.Joins Go.Deep
set_option linter.unusedVariables false

variable {H : Type} {enc : TypeId × Value → H} {w : World} {base : Nat} {spare : Nat → Bool} {held : Bool}
theorem block_of_cell {a : Addr} {v : Value} (h : w.cell? a = some v) : a.block < w.heap.size := by
  rcases Nat.lt_or_ge a.block w.heap.size with h' | h'
  · exact h'
  · simp [World.cell?, Array.getElem?_eq_none h'] at h
theorem addr_more (b o k : Nat) : (⟨b, o, none⟩ : Addr).add k = ⟨b, o + k, none⟩ := by
  unfold Addr.add; split
  · simp [*]
  · rfl
theorem two_ints {n : Nat} {c0 c1 : Value} {y : DataW H × List MemPlace} (h : DataW.trod enc Try.prog w base spare held n 24 [c0, c1] = some y) :
    ∃ x y : Int, c0 = .int .i64 x ∧ c1 = .int .i64 y := by
  obtain ⟨y0, y1, m, hx, _, h0, h1⟩ := trod_struct2 Try.underlying24 h
  simp only [List.drop, List.take, show Try.prog.cellsOf 3 = 1 by kernel_rfl] at h0 h1
  obtain ⟨x, e0, -, -⟩ := DataW.trod_int Try.underlying3 h0
  obtain ⟨y, e1, -, -⟩ := DataW.trod_int Try.underlying3 h1
  simp only [List.cons.injEq, and_true] at e0 e1
  exact ⟨x, y, e0, e1⟩
theorem bytes24 : Try.prog.bytesOf 24 = 16 := by kernel_rfl
theorem open_pts {fuel : Nat} {v : Value} {x : DataW H × List MemPlace} (hf : DataW.trod enc Try.prog w base spare held fuel 31 [v] = some x) :
    ∃ a n cap f, v = .slice a n cap ∧ Pl a n f w ∧ ((∀ k ∈ x.1.weights Try.prog 31, k ≤ reachBytes) → n ≤ 17592186044416) := by
  have h3 : Try.prog.cellsOf 24 = 2 := by kernel_rfl
  rcases open_slice Try.underlying31 hf with ⟨h0, -⟩ | ⟨a, len, cap, m, n, D, Ps, hcs, hb, hl, hm, hmm, hx, hi⟩
  · obtain rfl : v = .slice none 0 0 := by simpa using h0
    exact ⟨none, 0, 0, fun _ => ⟨0, 0⟩, rfl, .inl rfl, fun _ => by omega⟩
  · obtain rfl : v = .slice (some a) len cap := by simpa using hcs
    by_cases hl0 : len = 0
    · subst hl0
      exact ⟨_, 0, _, fun _ => ⟨0, 0⟩, rfl, .inl rfl, fun _ => by omega⟩
    rw [h3] at hi
    have hlm : len ≤ m := by rw [hmm]; split <;> omega
    have hS : (∀ k ∈ x.1.weights Try.prog 31, k ≤ reachBytes) → len ≤ 17592186044416 := by
      intro hk
      have := hk ((len + (m - len)) * Try.prog.bytesOf 24) (by rw [hx]; simp [DataW.weights, Try.underlying31])
      rw [bytes24] at this
      simp only [reachBytes] at this
      omega
    have one : ∀ i, i < len → ∃ u : P, w.cell? (a.add (i * 2)) = some (.int .i64 u.x) ∧ w.cell? (a.add (i * 2 + 1)) = some (.int .i64 u.y) := by
      intro i hilt
      obtain ⟨cs', hc, ht⟩ := hi i (by omega)
      obtain ⟨_, hcl, hat⟩ := World.cells?_some hc
      match cs', hcl with
      | [c0, c1], _ =>
        obtain ⟨x, y, rfl, rfl⟩ := two_ints ht
        have g0 := hat 0 (by omega)
        have g1 := hat 1 (by omega)
        rw [add_add] at g0 g1
        exact ⟨⟨x, y⟩, g0, g1⟩
    obtain ⟨f, hF⟩ : ∃ f : Nat → P, ∀ i, i < len → w.cell? (a.add (i * 2)) = some (.int .i64 (f i).x) ∧ w.cell? (a.add (i * 2 + 1)) = some (.int .i64 (f i).y) := by
      refine ⟨fun i => if h : i < len then Classical.choose (one i h) else ⟨0, 0⟩, fun i hi => ?_⟩
      dsimp only
      rw [dif_pos hi]
      exact Classical.choose_spec (one i hi)
    have hz' : w.cell? a = some (.int .i64 (f 0).x) := (hF 0 (by omega)).1
    have hbk := block_of_cell hz'
    have hsp := World.cell?_spot hz'
    obtain ⟨b, o, sp⟩ := a
    dsimp only at hsp hbk
    subst hsp
    simp only [addr_more] at hF
    exact ⟨_, len, cap, f, rfl, .inr ⟨b, o, rfl, hbk, fun i hi => ⟨(hF i hi).1, by rw [Nat.add_assoc]; exact (hF i hi).2⟩⟩, hS⟩
theorem weights_all {P : Program} {e : TypeId} {d : DataW H} {ds : List (DataW H)} {k : Nat} (hd : d ∈ ds) (hk : k ∈ d.weights P e) : k ∈ DataW.weightsAll P e ds := by
  induction ds with
  | nil => cases hd
  | cons x r ih =>
    simp only [DataW.weightsAll, List.mem_append]
    rcases List.mem_cons.1 hd with rfl | h
    · exact .inl hk
    · exact .inr (ih h)
theorem open_polys {fuel : Nat} {v : Value} {x : DataW H × List MemPlace} (hf : DataW.trod enc Try.prog w base spare held fuel 22 [v] = some x) :
    ∃ a N cap L, v = .slice a N cap ∧ Ll a N L w ∧ ((∀ k ∈ x.1.weights Try.prog 22, k ≤ reachBytes) → ∀ i, i < N → (L i).n ≤ 17592186044416) := by
  have h1 : Try.prog.cellsOf 33 = 1 := by kernel_rfl
  rcases open_slice1 Try.underlying22 h1 hf with ⟨h0, -⟩ | ⟨a, len, cap, m, n, V, D, Ps, hcs, hb, hl, hm, hmm, hx, hi⟩
  · obtain rfl : v = .slice none 0 0 := by simpa using h0
    exact ⟨none, 0, 0, fun _ => ⟨none, 0, 0, fun _ => ⟨0, 0⟩⟩, rfl, .inl rfl, fun _ i hi => by omega⟩
  · obtain rfl : v = .slice (some a) len cap := by simpa using hcs
    by_cases hl0 : len = 0
    · subst hl0
      exact ⟨_, 0, _, fun _ => ⟨none, 0, 0, fun _ => ⟨0, 0⟩⟩, rfl, .inl rfl, fun _ i hi => by omega⟩
    have hlm : len ≤ m := by rw [hmm]; split <;> omega
    have one : ∀ i, i < len → ∃ g : Pg, w.cell? (a.add i) = some (.slice g.a g.n g.c) ∧ Pl g.a g.n g.f w ∧ ((∀ k ∈ x.1.weights Try.prog 22, k ≤ reachBytes) → g.n ≤ 17592186044416) := by
      intro i hilt
      obtain ⟨hc, ht⟩ := hi i (by omega)
      obtain ⟨y0, m', hxy, _, ht'⟩ := trod_struct1 Try.underlying33 ht
      simp only [List.drop, List.take, show Try.prog.cellsOf 31 = 1 by kernel_rfl] at ht'
      obtain ⟨b, k, c, f, hV, hP, hS⟩ := open_pts ht'
      refine ⟨⟨b, k, c, f⟩, by rw [hc, hV], hP, fun hk => hS fun q hq => hk q ?_⟩
      rw [hx]
      simp only [DataW.weights, Try.underlying22]
      refine List.mem_cons_of_mem _ (List.mem_append_left _ (weights_all (d := D i) (List.mem_map.2 ⟨i, List.mem_range.2 hilt, rfl⟩) ?_))
      have hD : D i = .agg [y0.1] := by
        have := congrArg Prod.fst hxy
        exact this
      rw [hD]
      simp only [DataW.weights, Try.underlying33]
      show q ∈ DataW.weightsEach Try.prog [31] [y0.1]
      simp only [DataW.weightsEach, List.mem_append]
      exact .inl hq
    obtain ⟨L, hL⟩ : ∃ L : Nat → Pg, ∀ i, i < len → w.cell? (a.add i) = some (.slice (L i).a (L i).n (L i).c) ∧ Pl (L i).a (L i).n (L i).f w ∧ ((∀ k ∈ x.1.weights Try.prog 22, k ≤ reachBytes) → (L i).n ≤ 17592186044416) := by
      refine ⟨fun i => if h : i < len then Classical.choose (one i h) else ⟨none, 0, 0, fun _ => ⟨0, 0⟩⟩, fun i hi => ?_⟩
      dsimp only
      rw [dif_pos hi]
      exact Classical.choose_spec (one i hi)
    have hz' : w.cell? a = some (.slice (L 0).a (L 0).n (L 0).c) := (hL 0 (by omega)).1
    have hbk := block_of_cell hz'
    have hsp := World.cell?_spot hz'
    obtain ⟨b, o, sp⟩ := a
    dsimp only at hsp hbk
    subst hsp
    simp only [addr_more] at hL
    exact ⟨_, len, cap, L, rfl, .inr ⟨b, o, rfl, hbk, fun i hi => ⟨(hL i hi).1, (hL i hi).2.1⟩⟩, fun hk i hi => (hL i hi).2.2 hk⟩
theorem tot_le {L : Nat → Pg} {B : Nat} : ∀ {N}, (∀ i, i < N → (L i).n ≤ B) → tot L N ≤ N * B
  | 0, _ => by simp [tot]
  | N + 1, h => by
    have h1 := tot_le (N := N) fun i hi => h i (by omega)
    have h2 := h N (by omega)
    simp only [tot]
    rw [Nat.succ_mul]
    omega
theorem tot_reach {L : Nat → Pg} {N : Nat} (h : ∀ i, i < N → (L i).n ≤ 17592186044416) : N ≤ 100 → tot L N ≤ 4611686018427387904 := fun hN => by
  have := tot_le h
  omega
theorem open_pt {r : Reach} {b0 : Nat} {v : Value} {d : DataW H} {p : List MemPlace} (hv : Value.okWide Try.prog w r b0 24 v) (h : DataW.Trod enc Try.prog w base spare held 24 v d p) :
    ∃ q : P, v = .agg #[.int .i64 q.x, .int .i64 q.y] := by
  obtain ⟨v0, v1, y0, y1, m, rfl, -, -, h0, h1⟩ := open_agg2 Try.underlying24 (by kernel_rfl) (by kernel_rfl) hv h
  obtain ⟨x, e0, -, -⟩ := DataW.trod_int Try.underlying3 h0
  obtain ⟨y, e1, -, -⟩ := DataW.trod_int Try.underlying3 h1
  simp only [List.cons.injEq, and_true] at e0 e1
  exact ⟨⟨x, y⟩, by rw [e0, e1]⟩
end Go.Proofs.Ytffmmfeedfdlaaa
