/- Two own slices of polygons beside each other. -/
import Derived.Test.YtffmmfeedfdlaaaRevd
namespace Go.Proofs.Ytffmmfeedfdlaaa
open Go.ChangeShapes Go.WideShapes Go.ChangeAt Go.RowKit
set_option linter.unusedVariables false

theorem GO.Ow.kept {base : Nat} {e : TypeId} {a : Option Addr} {c n : Nat} {f : Nat → Pg} {w w' : World} {row : Option Nat} (h : GO.Ow base e a c n f w) (hg : w.grownBy w' row)
    (hne : ∀ g, (Value.slice a n c).ownBlock = some g → row ≠ some g) : GO.Ow base e a c n f w' := by
  refine ⟨h.own.1, ?_⟩
  rcases h.own.2 with h' | ⟨g, cap, cur, h1, h2, h3, h4⟩
  · exact .inl h'
  · exact .inr ⟨g, cap, cur, h1, h2, (hg.block g (lt_of_row h3) (fun e => hne g (by rw [h1]; rfl) e.symm)).trans h3, h4⟩
theorem GO.Ow.lt {base : Nat} {e : TypeId} {a : Option Addr} {c n : Nat} {f : Nat → Pg} {w : World} (h : GO.Ow base e a c n f w) {g : Nat} (hg : (Value.slice a n c).ownBlock = some g) : g < w.heap.size := by
  rcases h.own.2 with ⟨h1, _⟩ | ⟨g', cap, cur, h1, h2, h3, h4⟩
  · rw [h1] at hg; cases hg
  · rw [h1] at hg
    obtain rfl : g' = g := by simpa [Value.ownBlock] using hg
    exact lt_of_row h3
theorem Bx.kept {B : Nat} {v : Value} {t : TypeId} {w w' : World} {row : Option Nat} (h : Bx B v t w) (hg : w.grownBy w' row) (hne : ∀ g, row = some g → g ≠ B) : Bx B v t w' :=
  ⟨(hg.block B h.lt (fun e => hne B e.symm rfl)).trans h.row⟩
/-- Two slices lie in different blocks. -/
def Apart (a : Option Addr) (n c : Nat) (b : Option Addr) (m d : Nat) : Prop := ∀ g, (Value.slice a n c).ownBlock = some g → (Value.slice b m d).ownBlock ≠ some g
theorem Apart.symm {a b : Option Addr} {n c m d : Nat} (h : Apart a n c b m d) : Apart b m d a n c := fun g h1 h2 => h g h2 h1
section
variable {Pr : Program} {w : World}
theorem run_append_pg {t ty e : TypeId} (T : GO.Elt Pr t e) {base : Nat} {a : Option Addr} {ad : Addr} {c n d : Nat} {f : Nat → Pg} {g : Pg} (hown : GO.Ow base e a c n f w) (hr : Lc (some ad) 1 (fun _ => g) w) (hnm : n + 1 ≤ 1000000) (hbase : base ≤ w.heap.size) :
    ∃ a' c' w', (Builtin.append_ #[t, t] ty #[.slice a n c, .slice (some ad) 1 d]).run Pr w = .ok (.slice a' (n + 1) c') w' ∧ GO.Ow base e a' c' (n + 1) (GO.cat n f (fun _ => g)) w' ∧ GO.Grew base e c n w w' ∧
      w.grownBy w' (Value.slice a n c).ownBlock ∧ ((Value.slice a' (n + 1) c').ownBlock = (Value.slice a n c).ownBlock ∨ (Value.slice a' (n + 1) c').ownBlock = some w.heap.size) := by
  obtain ⟨a', c', w', hrun, h2, h3⟩ := GO.run_append_vecs (P := Pr) (w := w) (ty := ty) (d := d) T hown hr hnm hbase
  obtain ⟨i0, hi, hz0, hz1, hz2⟩ := info_parts T.inf
  have hc : ∀ j u, (GO.flat (fun _ => g) 1)[j]? = some u → w.cell? (ad.add j) = some u := by
    rcases hr with h | ⟨b, o, h, hs⟩
    · omega
    · cases h
      exact GO.flat_cells fun i hi => by rw [Nat.mul_one]; exact hs.hc i hi
  obtain ⟨v', w'', hrun', k2, k3, _, k5⟩ := run_append_own_at (P := Pr) w base t ty e i0 _ 1 24 T.und hi hz0 hz1 hz2 rfl (by decide) _ n _ hown.own ad 1 d (GO.flat (fun _ => g) 1) (GO.flat_length _ 1) hc (GO.flat_one _ 1) (by simp only [maxLen]; omega) (by omega) hbase
  rw [hrun] at hrun'
  injection hrun' with e1 e2
  subst e1 e2
  exact ⟨a', c', w', hrun, h2, h3, k3, k5⟩
theorem wpList_append_pg {ops : Array Oper} {rest : List Oper} {o : Oper} {ac : Act} {Q : Exit → Act → World → Prop} (hgd : o.guard = none) (s x : Operand) {t e : TypeId} (T : GO.Elt Pr t e)
    (ho : o.op = .call { callee := .builtin .append, args := #[s, x], argTypes := #[t, t] })
    {base : Nat} {a : Option Addr} {ad : Addr} {c n d : Nat} {f : Nat → Pg} {g : Pg} (hs : ac.eval s = .slice a n c) (hown : GO.Ow base e a c n f w) (hx : ac.eval x = .slice (some ad) 1 d) (hr : Lc (some ad) 1 (fun _ => g) w) (hnm : n + 1 ≤ 1000000) (hbase : base ≤ w.heap.size)
    {b : Option Addr} {m q : Nat} {f2 : Nat → Pg} (hown2 : GO.Ow base e b q m f2 w) (hap : Apart a n c b m q)
    (h : ∀ a' c' w', GO.Ow base e a' c' (n + 1) (GO.cat n f (fun _ => g)) w' → GO.Grew base e c n w w' → GO.Ow base e b q m f2 w' → Apart a' (n + 1) c' b m q → w.grownBy w' (Value.slice a n c).ownBlock → wpList Pr ops Q rest (ac.put o.dst (.slice a' (n + 1) c')) w') : wpList Pr ops Q (o :: rest) ac w :=
  wpList_plain hgd fun K hK => by
    obtain ⟨a', c', w', hrun, h2, h3, h4, h5⟩ := run_append_pg (w := w) (ty := o.type) (d := d) T hown hr hnm hbase
    unfold Oper.wp execOp
    simp only [ho, resolve, invoke, builtin, Sem.run_bind, Sem.run_pure, Result.andThen_ok, List.map_toArray, List.map_cons, List.map_nil, hs, hx, hrun]
    refine hK _ _ (h a' c' w' h2 h3 (hown2.kept h4 fun g' h1 => fun k => hap g' k h1) (fun g' k1 k2 => ?_) h4)
    rcases h5 with h5 | h5
    · exact hap g' (h5.symm.trans k1) k2
    · have := hown2.lt k2
      have e : some w.heap.size = some g' := h5.symm.trans k1
      injection e with e
      omega
end
end Go.Proofs.Ytffmmfeedfdlaaa
