/- Points and polygons in memory; the plain words of the chapter. -/
import Derived.Test.YtffmmfeedfdlaaaPlan
namespace Go.Proofs.Ytffmmfeedfdlaaa
open Go.ChangeShapes Go.WideShapes Go.ChangeAt Go.RowKit

/-- n points lie from cell o of block b on. -/
structure Px (b o n : Nat) (f : Nat → P) (w : World) : Prop where
  hb : b < w.heap.size
  hc : ∀ i, i < n → w.cell? ⟨b, o + i * 2, none⟩ = some (.int .i64 (f i).x) ∧ w.cell? ⟨b, o + i * 2 + 1, none⟩ = some (.int .i64 (f i).y)
theorem Px.next {b o n : Nat} {f : Nat → P} {w w' : World} (h : Px b o n f w) (hb : Below w.heap.size w w') : Px b o n f w' :=
  ⟨Nat.lt_of_lt_of_le h.hb hb.size, fun i hi => ⟨(hb.cell (p := ⟨b, o + i * 2, none⟩) h.hb).trans (h.hc i hi).1, (hb.cell (p := ⟨b, o + i * 2 + 1, none⟩) h.hb).trans (h.hc i hi).2⟩⟩
def Pl (a : Option Addr) (n : Nat) (f : Nat → P) (w : World) : Prop := n = 0 ∨ ∃ b o, a = some ⟨b, o, none⟩ ∧ Px b o n f w
theorem Pl.next {a : Option Addr} {n : Nat} {f : Nat → P} {w w' : World} (h : Pl a n f w) (hb : Below w.heap.size w w') : Pl a n f w' := by
  rcases h with h | ⟨b, o, h1, h2⟩
  · exact .inl h
  · exact .inr ⟨b, o, h1, h2.next hb⟩
/-- A polygon: its slice and its points. -/
structure Pg where
  a : Option Addr
  n : Nat
  c : Nat
  f : Nat → P
/-- N polygons lie from cell o of block b on. -/
structure Lx (b o N : Nat) (L : Nat → Pg) (w : World) : Prop where
  hb : b < w.heap.size
  hc : ∀ i, i < N → w.cell? ⟨b, o + i, none⟩ = some (.slice (L i).a (L i).n (L i).c) ∧ Pl (L i).a (L i).n (L i).f w
theorem Lx.next {b o N : Nat} {L : Nat → Pg} {w w' : World} (h : Lx b o N L w) (hb : Below w.heap.size w w') : Lx b o N L w' :=
  ⟨Nat.lt_of_lt_of_le h.hb hb.size, fun i hi => ⟨(hb.cell (p := ⟨b, o + i, none⟩) h.hb).trans (h.hc i hi).1, (h.hc i hi).2.next hb⟩⟩
def Ll (a : Option Addr) (N : Nat) (L : Nat → Pg) (w : World) : Prop := N = 0 ∨ ∃ b o, a = some ⟨b, o, none⟩ ∧ Lx b o N L w
theorem Ll.next {a : Option Addr} {N : Nat} {L : Nat → Pg} {w w' : World} (h : Ll a N L w) (hb : Below w.heap.size w w') : Ll a N L w' := by
  rcases h with h | ⟨b, o, h1, h2⟩
  · exact .inl h
  · exact .inr ⟨b, o, h1, h2.next hb⟩

/-- The number of points of the first N polygons. -/
def tot (L : Nat → Pg) : Nat → Nat
  | 0 => 0
  | i + 1 => tot L i + (L i).n
theorem tot_mono (L : Nat → Pg) {i : Nat} : ∀ {N}, i ≤ N → tot L i ≤ tot L N
  | 0, h => by rw [show i = 0 by omega]; exact Nat.le_refl _
  | N + 1, h => by
    by_cases e : i = N + 1
    · rw [e]; exact Nat.le_refl _
    · have := tot_mono L (N := N) (show i ≤ N by omega)
      simp only [tot]
      omega
theorem tot_one (L : Nat → Pg) {i N : Nat} (h : i < N) : tot L i + (L i).n ≤ tot L N := tot_mono L (i := i + 1) h
/-- The point behind the j-th one. -/
def nx (g : Pg) (j : Nat) : P := g.f ((j + 1) % g.n)
/-- What an edge adds at p. -/
def cr (a b p : P) : Int := if a.Ok ∧ b.Ok then (if (a.y ≤ p.y ∧ p.y < b.y) ∧ 0 < pturn a b p then 1 else if (b.y ≤ p.y ∧ p.y < a.y) ∧ pturn a b p < 0 then -1 else 0) else 0
theorem cr_in (a b p : P) : -1 ≤ cr a b p ∧ cr a b p ≤ 1 := by
  unfold cr
  split
  · split
    · decide
    · split <;> decide
  · decide
/-- The winding of the first j edges of a polygon, of the first i polygons. -/
def wp1 (g : Pg) (p : P) : Nat → Int
  | 0 => 0
  | j + 1 => wp1 g p j + cr (g.f j) (nx g j) p
def wl (L : Nat → Pg) (p : P) : Nat → Int
  | 0 => 0
  | i + 1 => wl L p i + wp1 (L i) p (L i).n
def wind (N : Nat) (L : Nat → Pg) (p : P) : Int := if p.Ok then wl L p N else 0
theorem wp1_in (g : Pg) (p : P) : ∀ j : Nat, -(j : Int) ≤ wp1 g p j ∧ wp1 g p j ≤ j
  | 0 => by simp [wp1]
  | j + 1 => by
    have h := wp1_in g p j
    have c := cr_in (g.f j) (nx g j) p
    simp only [wp1]
    omega
theorem wl_in (L : Nat → Pg) (p : P) : ∀ i : Nat, -(tot L i : Int) ≤ wl L p i ∧ wl L p i ≤ tot L i
  | 0 => by simp [wl, tot]
  | i + 1 => by
    have h := wl_in L p i
    have c := wp1_in (L i) p (L i).n
    simp only [wl, tot]
    omega
theorem wind_in (N : Nat) (L : Nat → Pg) (p : P) : -(tot L N : Int) ≤ wind N L p ∧ wind N L p ≤ tot L N := by
  unfold wind
  split
  · exact wl_in L p N
  · omega
/-- The edges with valid ends: of the first j of a polygon, of the first i polygons. -/
def pe (g : Pg) : Nat → List (P × P)
  | 0 => []
  | j + 1 => if (g.f j).Ok ∧ (nx g j).Ok then pe g j ++ [(g.f j, nx g j)] else pe g j
def le (L : Nat → Pg) : Nat → List (P × P)
  | 0 => []
  | i + 1 => le L i ++ pe (L i) (L i).n
theorem pe_len (g : Pg) : ∀ j, (pe g j).length ≤ j
  | 0 => Nat.le_refl _
  | j + 1 => by
    have := pe_len g j
    simp only [pe]
    split
    · simp; omega
    · omega
theorem le_len (L : Nat → Pg) : ∀ i, (le L i).length ≤ tot L i
  | 0 => Nat.le_refl _
  | i + 1 => by
    have := le_len L i
    have := pe_len (L i) (L i).n
    simp only [le, tot, List.length_append]
    omega
/-- The sum over edges. -/
def ws (p : P) : List (P × P) → Int
  | [] => 0
  | e :: l => cr e.1 e.2 p + ws p l
theorem ws_app (p : P) : ∀ l l', ws p (l ++ l') = ws p l + ws p l'
  | [], l' => by simp [ws]
  | e :: l, l' => by simp only [List.cons_append, ws]; rw [ws_app p l l']; omega
theorem ws_snoc (p : P) (l : List (P × P)) (e : P × P) : ws p (l ++ [e]) = ws p l + cr e.1 e.2 p := by rw [ws_app]; simp [ws]
theorem ws_in (p : P) : ∀ l, -(l.length : Int) ≤ ws p l ∧ ws p l ≤ l.length
  | [] => by simp [ws]
  | e :: l => by
    have h := ws_in p l
    have c := cr_in e.1 e.2 p
    simp only [ws, List.length_cons]
    omega
theorem ws_pe (g : Pg) (p : P) : ∀ j, ws p (pe g j) = wp1 g p j
  | 0 => rfl
  | j + 1 => by
    simp only [pe, wp1]
    split
    · rw [ws_snoc, ws_pe g p j]
    · rw [ws_pe g p j]
      rename_i h
      unfold cr
      rw [if_neg h]
      omega
theorem ws_le (L : Nat → Pg) (p : P) : ∀ i, ws p (le L i) = wl L p i
  | 0 => rfl
  | i + 1 => by simp only [le, wl]; rw [ws_app, ws_le L p i, ws_pe]

/-- A list of polygons in one box. -/
structure Bx (B : Nat) (v : Value) (t : TypeId) (w : World) : Prop where
  row : w.heap[B]? = some (Obj.cells #[v] t (0, 0))
theorem Bx.next {B : Nat} {v : Value} {t : TypeId} {w w' : World} (h : Bx B v t w) (hb : Below w.heap.size w w') : Bx B v t w' := ⟨(hb.block B (lt_of_row h.row)).trans h.row⟩
theorem Bx.c0 {B : Nat} {v : Value} {t : TypeId} {w : World} (h : Bx B v t w) : w.cell? ⟨B, 0, none⟩ = some v := cell_of_row _ _ _ _ _ _ h.row
theorem Bx.new (w : World) (v : Value) (t : TypeId) : Bx w.heap.size v t (w.alloc (.cells #[v] t)) := ⟨heap_alloc_new w _⟩
end Go.Proofs.Ytffmmfeedfdlaaa
