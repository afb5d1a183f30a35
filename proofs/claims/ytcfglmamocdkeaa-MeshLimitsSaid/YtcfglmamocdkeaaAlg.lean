/- Plain laws of the determinant and of the products. -/
import Derived.Test.YtcfglmamocdkeaaVecs
namespace Go.Proofs.Ytcfglmamocdkeaa

/-- The determinant, written out. -/
def D (a b c : V) : Int := a.x * (b.y * c.z - b.z * c.y) + a.y * (b.z * c.x - b.x * c.z) + a.z * (b.x * c.y - b.y * c.x)
theorem pdet_all {a b c : V} (h : a.In 131072) (h' : b.In 131072) (h'' : c.In 131072) : pdet a b c = D a b c := by
  rw [pdet_yes h' h'', pdot_yes h ((pcross_in b c).mono (by decide)), pcross_yes h' h'']
  rfl
theorem pdet_cases (a b c : V) : (a.In 131072 ∧ b.In 131072 ∧ c.In 131072) ∨ ¬ (a.In 131072 ∧ b.In 131072 ∧ c.In 131072) := Classical.em _
theorem pdet_none {a b c : V} (h : ¬ (a.In 131072 ∧ b.In 131072 ∧ c.In 131072)) : pdet a b c = 0 := by
  by_cases h1 : a.In 131072
  · by_cases h2 : b.In 131072
    · exact pdet_no2 fun h3 => h ⟨h1, h2, h3⟩
    · exact pdet_no1 h2
  · exact pdet_no3 h1
theorem D_rot (a b c : V) : D b c a = D a b c := by
  unfold D
  simp only [Int.mul_sub]
  simp only [Int.mul_comm, Int.mul_left_comm]
  omega
theorem D_swap1 (a b c : V) : D b a c = -D a b c := by
  unfold D
  simp only [Int.mul_sub]
  simp only [Int.mul_comm, Int.mul_left_comm]
  omega
theorem D_swap2 (a b c : V) : D a c b = -D a b c := by
  unfold D
  simp only [Int.mul_sub]
  simp only [Int.mul_comm, Int.mul_left_comm]
  omega
theorem D_same1 (a b : V) : D a a b = 0 := by have := D_swap1 a a b; omega
theorem D_same2 (a b : V) : D a b b = 0 := by have := D_swap2 a b b; omega
theorem pdet_rot (a b c : V) : pdet b c a = pdet a b c := by
  rcases pdet_cases a b c with h | h
  · rw [pdet_all h.1 h.2.1 h.2.2, pdet_all h.2.1 h.2.2 h.1, D_rot]
  · rw [pdet_none h, pdet_none fun k => h ⟨k.2.2, k.1, k.2.1⟩]
theorem pdet_swap1 (a b c : V) : pdet b a c = -pdet a b c := by
  rcases pdet_cases a b c with h | h
  · rw [pdet_all h.1 h.2.1 h.2.2, pdet_all h.2.1 h.1 h.2.2, D_swap1]
  · rw [pdet_none h, pdet_none fun k => h ⟨k.2.1, k.1, k.2.2⟩]; rfl
theorem pdet_swap2 (a b c : V) : pdet a c b = -pdet a b c := by
  rcases pdet_cases a b c with h | h
  · rw [pdet_all h.1 h.2.1 h.2.2, pdet_all h.1 h.2.2 h.2.1, D_swap2]
  · rw [pdet_none h, pdet_none fun k => h ⟨k.1, k.2.2, k.2.1⟩]; rfl
theorem pdet_same1 (a b : V) : pdet a a b = 0 := by have := pdet_swap1 a a b; omega
theorem pdet_same2 (a b : V) : pdet a b b = 0 := by have := pdet_swap2 a b b; omega
theorem pdet_in (a b c : V) : -18014398509481984 ≤ pdet a b c ∧ pdet a b c ≤ 18014398509481984 := by
  rcases pdet_cases a b c with h | h
  · rw [pdet_yes h.2.1 h.2.2, pdot_yes h.1 ((pcross_in b c).mono (by decide))]
    have k := pcross_in b c
    obtain ⟨h1, -, -⟩ := h
    unfold V.In at h1 k
    have p1 := mul_in h1.1 k.1
    have p2 := mul_in h1.2.1 k.2.1
    have p3 := mul_in h1.2.2 k.2.2
    omega
  · rw [pdet_none h]; decide
/-- A cross product is orthogonal to its factors. -/
theorem orth1 {a b : V} (h : a.In 131072) (h' : b.In 131072) : pdot a (pcross a b) = 0 := by rw [← pdet_yes h h', pdet_same1]
theorem orth2 {a b : V} (h : a.In 131072) (h' : b.In 131072) : pdot b (pcross a b) = 0 := by
  rw [← pdet_yes h h', pdet_rot b b a, pdet_same1]
theorem D_sub (a b c d : V) : D ⟨a.x - b.x, a.y - b.y, a.z - b.z⟩ c d = D a c d - D b c d := by
  unfold D
  simp only [Int.sub_mul]
  omega
theorem pdet_sub {a b c d : V} (h : a.In 65536) (h' : b.In 65536) (hc : c.In 65536) (hd : d.In 65536) : pdet (psub a b) c d = pdet a c d - pdet b c d := by
  have hs : (psub a b).In 131072 := by
    rw [psub_yes h h']
    unfold V.In at h h' ⊢
    dsimp only
    omega
  rw [pdet_all hs (hc.mono (by decide)) (hd.mono (by decide)), pdet_all (h.mono (by decide)) (hc.mono (by decide)) (hd.mono (by decide)), pdet_all (h'.mono (by decide)) (hc.mono (by decide)) (hd.mono (by decide)), psub_yes h h', D_sub]
end Go.Proofs.Ytcfglmamocdkeaa
