/- An argument of type []Vec opened. -/
import Derived.Test.YthhlofcponekhaaFour
import Derived.Test.YthhlofcponekhaaBnds
import Derived.Deep.Slices
import Derived.Deep.Fields
import Derived.ChangeSame
namespace Go.Proofs.Ythhlofcponekhaa
open Go.ChangeShapes Go.WideShapes Go.ChangeAt Go.RowKit Go.Joins Go.Deep

variable {H : Type} {enc : TypeId × Value → H} {w : World} {base : Nat} {spare : Nat → Bool} {held : Bool}
theorem block_of_cell {a : Addr} {v : Value} (h : w.cell? a = some v) : a.block < w.heap.size := by
  rcases Nat.lt_or_ge a.block w.heap.size with h' | h'
  · exact h'
  · simp [World.cell?, Array.getElem?_eq_none h'] at h
theorem addr_add (b o k : Nat) : (⟨b, o, none⟩ : Addr).add k = ⟨b, o + k, none⟩ := by
  unfold Addr.add; split
  · simp [*]
  · rfl
theorem open_vecs {r : Reach} {b0 : Nat} {v : Value} {d : DataW H} {p : List MemPlace} (hv : Value.okWide Try.prog w r b0 34 v) (h : DataW.Trod enc Try.prog w base spare held 34 v d p) :
    (∃ (a : Option Addr) (cap : Nat), v = .slice a 0 cap) ∨ ∃ (b o n cap : Nat) (f : Nat → V), 0 < n ∧ n ≤ cap ∧ v = .slice (some ⟨b, o, none⟩) n cap ∧ Sl b o n f w := by
  obtain ⟨a0, len, cap, rfl⟩ := okWide_slice Try.underlying34 hv
  by_cases hl0 : len = 0
  · subst hl0
    exact .inl ⟨_, _, rfl⟩
  obtain ⟨fuel, hf⟩ := h
  have h3 : Try.prog.cellsOf 23 = 3 := by kernel_rfl
  rcases open_slice Try.underlying34 hf with ⟨h0, -⟩ | ⟨a, len', cap', m, n, D, Pl, hcs, hb, hl, hm, hmm, hx, hi⟩
  · exfalso
    have e : (Value.slice a0 len cap).cells.toList = [.slice a0 len cap] := rfl
    rw [e] at h0
    simp at h0
    exact hl0 h0.2.1
  · have e : (Value.slice a0 len cap).cells.toList = [.slice a0 len cap] := rfl
    rw [e] at hcs
    simp only [List.cons.injEq, Value.slice.injEq, and_true] at hcs
    obtain ⟨rfl, rfl, rfl⟩ := hcs
    rw [h3] at hi
    have hlm : len ≤ m := by rw [hmm]; split <;> omega
    have one : ∀ i, i < len → ∃ u : V, w.cell? (a.add (i * 3)) = some (.int .i64 u.x) ∧ w.cell? (a.add (i * 3 + 1)) = some (.int .i64 u.y) ∧ w.cell? (a.add (i * 3 + 2)) = some (.int .i64 u.z) := by
      intro i hilt
      obtain ⟨cs', hc, ht⟩ := hi i (by omega)
      obtain ⟨_, hcl, hat⟩ := World.cells?_some hc
      match cs', hcl with
      | [c0, c1, c2], _ =>
        obtain ⟨x, y, z, rfl, rfl, rfl⟩ := three_ints ht
        have g0 := hat 0 (by omega)
        have g1 := hat 1 (by omega)
        have g2 := hat 2 (by omega)
        rw [add_add] at g0 g1 g2
        exact ⟨⟨x, y, z⟩, g0, g1, g2⟩
    right
    obtain ⟨f, hF⟩ : ∃ f : Nat → V, ∀ i, i < len → w.cell? (a.add (i * 3)) = some (.int .i64 (f i).x) ∧ w.cell? (a.add (i * 3 + 1)) = some (.int .i64 (f i).y) ∧ w.cell? (a.add (i * 3 + 2)) = some (.int .i64 (f i).z) := by
      refine ⟨fun i => if h : i < len then Classical.choose (one i h) else ⟨0, 0, 0⟩, fun i hi => ?_⟩
      dsimp only
      rw [dif_pos hi]
      exact Classical.choose_spec (one i hi)
    have hz := (hF 0 (by omega)).1
    have hz' : w.cell? a = some (.int .i64 (f 0).x) := hz
    have hbk := block_of_cell hz'
    have hsp := World.cell?_spot hz'
    obtain ⟨b, o, sp⟩ := a
    dsimp only at hsp hbk
    subst hsp
    simp only [addr_add] at hF
    exact ⟨b, o, len, cap, f, by omega, hl, rfl, hbk, fun i hi => ⟨(hF i hi).1, by rw [Nat.add_assoc]; exact (hF i hi).2.1, by rw [Nat.add_assoc]; exact (hF i hi).2.2⟩⟩
end Go.Proofs.Ythhlofcponekhaa
