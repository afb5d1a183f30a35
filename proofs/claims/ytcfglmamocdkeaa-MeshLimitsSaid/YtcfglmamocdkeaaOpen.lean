/- An argument of type Mesh opened. Printed by mopen.py. -/
import Derived.Test.YtcfglmamocdkeaaCorn
import Derived.Lib.SmallJoins
import Derived.Deep.Slices
import Derived.Deep.Fields
import Derived.ChangeSame
namespace Go.Proofs.Ytcfglmamocdkeaa
open Go.ChangeShapes Go.WideShapes Go.ChangeAt Go.RowKit Go.Joins Go.Deep
set_option linter.unusedVariables false

variable {H : Type} {enc : TypeId × Value → H} {w : World} {base : Nat} {spare : Nat → Bool} {held : Bool}
theorem block_of_cell {a : Addr} {v : Value} (h : w.cell? a = some v) : a.block < w.heap.size := by
  rcases Nat.lt_or_ge a.block w.heap.size with h' | h'
  · exact h'
  · simp [World.cell?, Array.getElem?_eq_none h'] at h
theorem addr_more (b o k : Nat) : (⟨b, o, none⟩ : Addr).add k = ⟨b, o + k, none⟩ := by
  unfold Addr.add; split
  · simp [*]
  · rfl
theorem three_ints36 {n : Nat} {c0 c1 c2 : Value} {y : DataW H × List MemPlace} (h : DataW.trod enc Try.prog w base spare held n 36 [c0, c1, c2] = some y) :
    ∃ x y z : Int, c0 = .int .i64 x ∧ c1 = .int .i64 y ∧ c2 = .int .i64 z := by
  obtain ⟨y0, y1, y2, m, hx, _, h0, h1, h2⟩ := trod_struct3 Try.underlying36 h
  simp only [List.drop, List.take, show Try.prog.cellsOf 3 = 1 by kernel_rfl] at h0 h1 h2
  obtain ⟨x, e0, -, -⟩ := DataW.trod_int Try.underlying3 h0
  obtain ⟨y, e1, -, -⟩ := DataW.trod_int Try.underlying3 h1
  obtain ⟨z, e2, -, -⟩ := DataW.trod_int Try.underlying3 h2
  simp only [List.cons.injEq, and_true] at e0 e1 e2
  exact ⟨x, y, z, e0, e1, e2⟩
theorem open_sx36 {fuel : Nat} {v : Value} {x : DataW H × List MemPlace} (hf : DataW.trod enc Try.prog w base spare held fuel 22 [v] = some x) :
    ∃ a n cap f, v = .slice a n cap ∧ Sx a n f w := by
  have h3 : Try.prog.cellsOf 36 = 3 := by kernel_rfl
  rcases open_slice Try.underlying22 hf with ⟨h0, -⟩ | ⟨a, len, cap, m, n, D, Pl, hcs, hb, hl, hm, hmm, hx, hi⟩
  · obtain rfl : v = .slice none 0 0 := by simpa using h0
    exact ⟨none, 0, 0, fun _ => ⟨0, 0, 0⟩, rfl, .inl rfl⟩
  · obtain rfl : v = .slice (some a) len cap := by simpa using hcs
    by_cases hl0 : len = 0
    · subst hl0
      exact ⟨_, 0, _, fun _ => ⟨0, 0, 0⟩, rfl, .inl rfl⟩
    rw [h3] at hi
    have hlm : len ≤ m := by rw [hmm]; split <;> omega
    have one : ∀ i, i < len → ∃ u : V, w.cell? (a.add (i * 3)) = some (.int .i64 u.x) ∧ w.cell? (a.add (i * 3 + 1)) = some (.int .i64 u.y) ∧ w.cell? (a.add (i * 3 + 2)) = some (.int .i64 u.z) := by
      intro i hilt
      obtain ⟨cs', hc, ht⟩ := hi i (by omega)
      obtain ⟨_, hcl, hat⟩ := World.cells?_some hc
      match cs', hcl with
      | [c0, c1, c2], _ =>
        obtain ⟨x, y, z, rfl, rfl, rfl⟩ := three_ints36 ht
        have g0 := hat 0 (by omega)
        have g1 := hat 1 (by omega)
        have g2 := hat 2 (by omega)
        rw [add_add] at g0 g1 g2
        exact ⟨⟨x, y, z⟩, g0, g1, g2⟩
    obtain ⟨f, hF⟩ : ∃ f : Nat → V, ∀ i, i < len → w.cell? (a.add (i * 3)) = some (.int .i64 (f i).x) ∧ w.cell? (a.add (i * 3 + 1)) = some (.int .i64 (f i).y) ∧ w.cell? (a.add (i * 3 + 2)) = some (.int .i64 (f i).z) := by
      refine ⟨fun i => if h : i < len then Classical.choose (one i h) else ⟨0, 0, 0⟩, fun i hi => ?_⟩
      dsimp only
      rw [dif_pos hi]
      exact Classical.choose_spec (one i hi)
    have hz' : w.cell? a = some (.int .i64 (f 0).x) := (hF 0 (by omega)).1
    have hbk := block_of_cell hz'
    have hsp := World.cell?_spot hz'
    obtain ⟨b, o, sp⟩ := a
    dsimp only at hsp hbk
    subst hsp
    simp only [addr_more] at hF
    exact ⟨_, len, cap, f, rfl, .inr ⟨b, o, rfl, hbk, fun i hi => ⟨(hF i hi).1, by rw [Nat.add_assoc]; exact (hF i hi).2.1, by rw [Nat.add_assoc]; exact (hF i hi).2.2⟩⟩⟩
theorem three_ints47 {n : Nat} {c0 c1 c2 : Value} {y : DataW H × List MemPlace} (h : DataW.trod enc Try.prog w base spare held n 47 [c0, c1, c2] = some y) :
    ∃ x y z : Int, c0 = .int .i64 x ∧ c1 = .int .i64 y ∧ c2 = .int .i64 z := by
  obtain ⟨y0, y1, y2, m, hx, _, h0, h1, h2⟩ := trod_struct3 Try.underlying47 h
  simp only [List.drop, List.take, show Try.prog.cellsOf 3 = 1 by kernel_rfl] at h0 h1 h2
  obtain ⟨x, e0, -, -⟩ := DataW.trod_int Try.underlying3 h0
  obtain ⟨y, e1, -, -⟩ := DataW.trod_int Try.underlying3 h1
  obtain ⟨z, e2, -, -⟩ := DataW.trod_int Try.underlying3 h2
  simp only [List.cons.injEq, and_true] at e0 e1 e2
  exact ⟨x, y, z, e0, e1, e2⟩
theorem open_sx47 {fuel : Nat} {v : Value} {x : DataW H × List MemPlace} (hf : DataW.trod enc Try.prog w base spare held fuel 23 [v] = some x) :
    ∃ a n cap f, v = .slice a n cap ∧ Sx a n f w := by
  have h3 : Try.prog.cellsOf 47 = 3 := by kernel_rfl
  rcases open_slice Try.underlying23 hf with ⟨h0, -⟩ | ⟨a, len, cap, m, n, D, Pl, hcs, hb, hl, hm, hmm, hx, hi⟩
  · obtain rfl : v = .slice none 0 0 := by simpa using h0
    exact ⟨none, 0, 0, fun _ => ⟨0, 0, 0⟩, rfl, .inl rfl⟩
  · obtain rfl : v = .slice (some a) len cap := by simpa using hcs
    by_cases hl0 : len = 0
    · subst hl0
      exact ⟨_, 0, _, fun _ => ⟨0, 0, 0⟩, rfl, .inl rfl⟩
    rw [h3] at hi
    have hlm : len ≤ m := by rw [hmm]; split <;> omega
    have one : ∀ i, i < len → ∃ u : V, w.cell? (a.add (i * 3)) = some (.int .i64 u.x) ∧ w.cell? (a.add (i * 3 + 1)) = some (.int .i64 u.y) ∧ w.cell? (a.add (i * 3 + 2)) = some (.int .i64 u.z) := by
      intro i hilt
      obtain ⟨cs', hc, ht⟩ := hi i (by omega)
      obtain ⟨_, hcl, hat⟩ := World.cells?_some hc
      match cs', hcl with
      | [c0, c1, c2], _ =>
        obtain ⟨x, y, z, rfl, rfl, rfl⟩ := three_ints47 ht
        have g0 := hat 0 (by omega)
        have g1 := hat 1 (by omega)
        have g2 := hat 2 (by omega)
        rw [add_add] at g0 g1 g2
        exact ⟨⟨x, y, z⟩, g0, g1, g2⟩
    obtain ⟨f, hF⟩ : ∃ f : Nat → V, ∀ i, i < len → w.cell? (a.add (i * 3)) = some (.int .i64 (f i).x) ∧ w.cell? (a.add (i * 3 + 1)) = some (.int .i64 (f i).y) ∧ w.cell? (a.add (i * 3 + 2)) = some (.int .i64 (f i).z) := by
      refine ⟨fun i => if h : i < len then Classical.choose (one i h) else ⟨0, 0, 0⟩, fun i hi => ?_⟩
      dsimp only
      rw [dif_pos hi]
      exact Classical.choose_spec (one i hi)
    have hz' : w.cell? a = some (.int .i64 (f 0).x) := (hF 0 (by omega)).1
    have hbk := block_of_cell hz'
    have hsp := World.cell?_spot hz'
    obtain ⟨b, o, sp⟩ := a
    dsimp only at hsp hbk
    subst hsp
    simp only [addr_more] at hF
    exact ⟨_, len, cap, f, rfl, .inr ⟨b, o, rfl, hbk, fun i hi => ⟨(hF i hi).1, by rw [Nat.add_assoc]; exact (hF i hi).2.1, by rw [Nat.add_assoc]; exact (hF i hi).2.2⟩⟩⟩
theorem open_mesh {r : Reach} {b0 : Nat} {v : Value} {d : DataW H} {p : List MemPlace} (hv : Value.okWide Try.prog w r b0 25 v) (h : DataW.Trod enc Try.prog w base spare held 25 v d p) :
    ∃ a n cap b k cap' f g, v = .agg #[.slice a n cap, .slice b k cap'] ∧ Sx a n f w ∧ Sx b k g w := by
  obtain ⟨v0, v1, y0, y1, m, rfl, -, -, h0, h1⟩ := open_agg2 Try.underlying25 (by kernel_rfl) (by kernel_rfl) hv h
  obtain ⟨a, n, cap, f, rfl, SA⟩ := open_sx36 h0
  obtain ⟨b, k, cap', g, rfl, SB⟩ := open_sx47 h1
  exact ⟨a, n, cap, b, k, cap', f, g, rfl, SA, SB⟩
end Go.Proofs.Ytcfglmamocdkeaa
