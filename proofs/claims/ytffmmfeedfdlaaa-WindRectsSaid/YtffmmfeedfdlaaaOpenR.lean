/- An argument of type Rect opened. -/
import Derived.Test.YtffmmfeedfdlaaaOpen
namespace Go.Proofs.Ytffmmfeedfdlaaa
open Go.ChangeShapes Go.WideShapes Go.ChangeAt Go.RowKit Go.Joins Go.Deep
set_option linter.unusedVariables false
variable {H : Type} {enc : TypeId × Value → H} {w : World} {base : Nat} {spare : Nat → Bool} {held : Bool}
theorem open_rect {r : Reach} {b0 : Nat} {v : Value} {d : DataW H} {p : List MemPlace} (hv : Value.okWide Try.prog w r b0 37 v) (h : DataW.Trod enc Try.prog w base spare held 37 v d p) :
    ∃ X Y W H' PX PY : Int, v = .agg #[.int .i64 X, .int .i64 Y, .int .i64 W, .int .i64 H', .int .i64 PX, .int .i64 PY] := by
  obtain ⟨cs, rfl, hsz⟩ := okWide_struct Try.underlying37 hv
  have hC : Try.prog.cellsOf 37 = 6 := by kernel_rfl
  rw [hC] at hsz
  obtain ⟨l⟩ := cs
  match l, hsz with
  | [c0, c1, c2, c3, c4, c5], _ =>
    obtain ⟨fuel, hf⟩ := h
    obtain ⟨xs, n, _, hx, hl, hlen, hF⟩ := DataW.trod_struct Try.underlying37 hf
    have h6 : xs.length = 6 := hlen
    match xs, h6, hF with
    | [y0, y1, y2, y3, y4, y5], _, hF =>
    have one : Try.prog.cellsOf 3 = 1 := by kernel_rfl
    have g0 := hF 0 { name := "X", type := 3, offset := 0, embedded := false, tag := "", pkgPath := "", byteOffset := 0 } rfl
    dsimp only at g0
    rw [one] at g0
    have g0 : DataW.trod enc Try.prog w base spare held n 3 [c0] = some y0 := g0
    have g1 := hF 1 { name := "Y", type := 3, offset := 1, embedded := false, tag := "", pkgPath := "", byteOffset := 8 } rfl
    dsimp only at g1
    rw [one] at g1
    have g1 : DataW.trod enc Try.prog w base spare held n 3 [c1] = some y1 := g1
    have g2 := hF 2 { name := "W", type := 3, offset := 2, embedded := false, tag := "", pkgPath := "", byteOffset := 16 } rfl
    dsimp only at g2
    rw [one] at g2
    have g2 : DataW.trod enc Try.prog w base spare held n 3 [c2] = some y2 := g2
    have g3 := hF 3 { name := "H", type := 3, offset := 3, embedded := false, tag := "", pkgPath := "", byteOffset := 24 } rfl
    dsimp only at g3
    rw [one] at g3
    have g3 : DataW.trod enc Try.prog w base spare held n 3 [c3] = some y3 := g3
    have g4 := hF 4 { name := "PX", type := 3, offset := 4, embedded := false, tag := "", pkgPath := "", byteOffset := 32 } rfl
    dsimp only at g4
    rw [one] at g4
    have g4 : DataW.trod enc Try.prog w base spare held n 3 [c4] = some y4 := g4
    have g5 := hF 5 { name := "PY", type := 3, offset := 5, embedded := false, tag := "", pkgPath := "", byteOffset := 40 } rfl
    dsimp only at g5
    rw [one] at g5
    have g5 : DataW.trod enc Try.prog w base spare held n 3 [c5] = some y5 := g5
    obtain ⟨a0, e0, -, -⟩ := DataW.trod_int Try.underlying3 g0
    obtain ⟨a1, e1, -, -⟩ := DataW.trod_int Try.underlying3 g1
    obtain ⟨a2, e2, -, -⟩ := DataW.trod_int Try.underlying3 g2
    obtain ⟨a3, e3, -, -⟩ := DataW.trod_int Try.underlying3 g3
    obtain ⟨a4, e4, -, -⟩ := DataW.trod_int Try.underlying3 g4
    obtain ⟨a5, e5, -, -⟩ := DataW.trod_int Try.underlying3 g5
    have f0 : c0 = .int .i64 a0 := by injection e0
    have f1 : c1 = .int .i64 a1 := by injection e1
    have f2 : c2 = .int .i64 a2 := by injection e2
    have f3 : c3 = .int .i64 a3 := by injection e3
    have f4 : c4 = .int .i64 a4 := by injection e4
    have f5 : c5 = .int .i64 a5 := by injection e5
    exact ⟨a0, a1, a2, a3, a4, a5, by rw [f0, f1, f2, f3, f4, f5]⟩
end Go.Proofs.Ytffmmfeedfdlaaa
