/- Plain laws: crossings. -/
import Derived.Test.YtffmmfeedfdlaaaSums
namespace Go.Proofs.Ytffmmfeedfdlaaa
open Go.ChangeShapes Go.WideShapes Go.ChangeAt Go.RowKit
set_option linter.unusedVariables false

theorem X3_eq (a b p : P) : X3 a b p = (b.x - p.x) * (p.y - a.y) + (b.y - p.y) * (a.x - p.x) := by
  obtain ⟨s, hs⟩ : ∃ s, a.x - p.x = s := ⟨_, rfl⟩
  obtain ⟨t, ht⟩ : ∃ t, b.x - p.x = t := ⟨_, rfl⟩
  obtain ⟨u, hu⟩ : ∃ u, p.y - a.y = u := ⟨_, rfl⟩
  obtain ⟨v, hv⟩ : ∃ v, b.y - p.y = v := ⟨_, rfl⟩
  unfold X3
  rw [hs, ht, hu, hv, show b.x - a.x = t - s by omega, show b.y - a.y = u + v by omega, show p.x - a.x = - s by omega, Int.sub_mul, Int.mul_neg, Int.add_mul, Int.mul_comm u s]
  omega
theorem X3_anti (a b p : P) : X3 b a p = - X3 a b p := by
  rw [X3_eq, X3_eq, show p.y - b.y = -(b.y - p.y) by omega, show p.y - a.y = -(a.y - p.y) by omega, Int.mul_neg, Int.mul_neg, Int.mul_comm (b.x - p.x), Int.mul_comm (b.y - p.y)]
  omega
theorem pturn_anti (a b p : P) : pturn b a p = - pturn a b p := by
  unfold pturn
  by_cases h : a.Ok ∧ b.Ok ∧ p.Ok
  · rw [pcross_yes h.1 h.2.1 h.2.2, pcross_yes h.2.1 h.1 h.2.2, X3_anti]
    unfold sgn
    split <;> split <;> omega
  · rw [pcross_no h, pcross_no (fun k => h ⟨k.2.1, k.1, k.2.2⟩)]
    rfl
theorem cr_anti (p a b : P) : cr b a p = - cr a b p := by
  rw [cr_is, cr_is, pturn_anti]
  generalize pturn a b p = t
  split
  · rw [if_neg (by omega), if_pos (by omega)]; rfl
  · split
    · rw [if_pos (by omega)]; try rfl
    · rw [if_neg (by omega), if_neg (by omega)]; rfl
theorem wp1_rev (g : Pg) (a : Option Addr) (c : Nat) (p : P) : wp1 ⟨a, g.n, c, fun i => g.f (g.n - 1 - i)⟩ p g.n = - wp1 g p g.n := by
  rw [wp1_cyc g p]
  exact (wp1_cyc ⟨a, g.n, c, fun i => g.f (g.n - 1 - i)⟩ p).trans (cyc_rev _ (cr_anti p) g.f g.n)
theorem wp1_rot (g : Pg) (a : Option Addr) (c k : Nat) (p : P) : wp1 ⟨a, g.n, c, fun i => g.f ((i + k) % g.n)⟩ p g.n = wp1 g p g.n := by
  rw [wp1_cyc g p]
  exact (wp1_cyc ⟨a, g.n, c, fun i => g.f ((i + k) % g.n)⟩ p).trans (cyc_rot _ g.f g.n k)
theorem pa1_sm (g : Pg) : ∀ n, pa1 g n = sm (fun j => (fun a b : P => a.x * b.y - a.y * b.x) (g.f j) (g.f ((j + 1) % g.n))) n
  | 0 => rfl
  | n + 1 => by simp only [pa1, sm]; rw [pa1_sm g n]; rfl
theorem pa1_cyc (g : Pg) : pa1 g g.n = cyc (fun a b : P => a.x * b.y - a.y * b.x) g.f g.n := pa1_sm g g.n
theorem at_anti (a b : P) : (fun a b : P => a.x * b.y - a.y * b.x) b a = - (fun a b : P => a.x * b.y - a.y * b.x) a b := by
  show b.x * a.y - b.y * a.x = -(a.x * b.y - a.y * b.x)
  rw [Int.mul_comm b.x, Int.mul_comm b.y]; omega
theorem parea_rev (g : Pg) (a : Option Addr) (c : Nat) : parea ⟨a, g.n, c, fun i => g.f (g.n - 1 - i)⟩ = - parea g := by
  unfold parea
  by_cases h : AllP g.n g.f
  · rw [if_pos h, if_pos (show AllP g.n (fun i => g.f (g.n - 1 - i)) from fun i hi => h _ (by omega)), pa1_cyc g]
    exact (pa1_cyc ⟨a, g.n, c, fun i => g.f (g.n - 1 - i)⟩).trans (cyc_rev _ at_anti g.f g.n)
  · rw [if_neg h, if_neg (show ¬ AllP g.n (fun i => g.f (g.n - 1 - i)) from fun k => h fun i hi => by
      have := k (g.n - 1 - i) (by omega)
      dsimp only at this
      rw [show g.n - 1 - (g.n - 1 - i) = i by omega] at this
      exact this)]
    rfl
theorem parea_rot (g : Pg) (a : Option Addr) (c k : Nat) : parea ⟨a, g.n, c, fun i => g.f ((i + k) % g.n)⟩ = parea g := by
  unfold parea
  by_cases h : AllP g.n g.f
  · rw [if_pos h, if_pos (show AllP g.n (fun i => g.f ((i + k) % g.n)) from fun i hi => h _ (Nat.mod_lt _ (by omega))), pa1_cyc g]
    exact (pa1_cyc ⟨a, g.n, c, fun i => g.f ((i + k) % g.n)⟩).trans (cyc_rot _ g.f g.n k)
  · rw [if_neg h, if_neg (show ¬ AllP g.n (fun i => g.f ((i + k) % g.n)) from fun q => h fun i hi => by
      have hk : k % g.n < g.n := Nat.mod_lt _ (by omega)
      have := q ((i + (g.n - k % g.n)) % g.n) (Nat.mod_lt _ (by omega))
      dsimp only at this
      rw [Nat.mod_add_mod, show i + (g.n - k % g.n) + k = i + g.n * (1 + k / g.n) by have := Nat.mod_add_div k g.n; rw [Nat.mul_add]; omega, Nat.add_mul_mod_self_left, Nat.mod_eq_of_lt hi] at this
      exact this)]
/-! ### Points beyond -/
theorem sm_zero {g : Nat → Int} {n : Nat} (h : ∀ i, i < n → g i = 0) : sm g n = 0 := by
  induction n with
  | zero => rfl
  | succ n ih => simp only [sm]; rw [ih fun i hi => h i (by omega), h n (by omega)]; rfl
def ht (p q : P) : Int := if p.y < q.y then 1 else 0
theorem cr_left {a b p : P} (ha : a.Ok) (hb : b.Ok) (hp : p.Ok) (h1 : p.x < a.x) (h2 : p.x < b.x) : cr a b p = ht p b - ht p a := by
  rw [cr_is]
  unfold pturn
  rw [pcross_yes ha hb hp, X3_eq]
  unfold ht sgn
  by_cases c1 : a.y ≤ p.y
  · by_cases c2 : p.y < b.y
    · have e1 := Int.mul_nonneg (show 0 ≤ b.x - p.x by omega) (show 0 ≤ p.y - a.y by omega)
      have e2 := Int.mul_pos (show 0 < b.y - p.y by omega) (show 0 < a.x - p.x by omega)
      rw [if_pos (show 0 < (b.x - p.x) * (p.y - a.y) + (b.y - p.y) * (a.x - p.x) by omega), if_pos ⟨⟨c1, c2⟩, by omega⟩, if_pos c2, if_neg (by omega)]; rfl
    · rw [if_neg (by omega), if_neg (by omega), if_neg c2, if_neg (by omega)]; rfl
  · by_cases c2 : p.y < b.y
    · rw [if_neg (by omega), if_neg (by omega), if_pos c2, if_pos (by omega)]; rfl
    · have e1 := Int.mul_pos (show 0 < b.x - p.x by omega) (show 0 < a.y - p.y by omega)
      have e2 := Int.mul_nonneg (show 0 ≤ p.y - b.y by omega) (show 0 ≤ a.x - p.x by omega)
      rw [show p.y - a.y = -(a.y - p.y) by omega, show b.y - p.y = -(p.y - b.y) by omega, Int.mul_neg, Int.neg_mul]
      rw [if_neg (show ¬ 0 < -((b.x - p.x) * (a.y - p.y)) + -((p.y - b.y) * (a.x - p.x)) by omega), if_pos (show -((b.x - p.x) * (a.y - p.y)) + -((p.y - b.y) * (a.x - p.x)) < 0 by omega), if_neg (by omega), if_pos (by omega), if_neg c2, if_pos (by omega)]; rfl
theorem cr_right {a b p : P} (ha : a.Ok) (hb : b.Ok) (hp : p.Ok) (h1 : a.x < p.x) (h2 : b.x < p.x) : cr a b p = 0 := by
  rw [cr_is]
  unfold pturn
  rw [pcross_yes ha hb hp, X3_eq]
  by_cases c1 : a.y ≤ p.y ∧ p.y < b.y
  · have e1 := Int.mul_nonneg (show 0 ≤ p.x - b.x by omega) (show 0 ≤ p.y - a.y by omega)
    have e2 := Int.mul_pos (show 0 < b.y - p.y by omega) (show 0 < p.x - a.x by omega)
    rw [show b.x - p.x = -(p.x - b.x) by omega, show a.x - p.x = -(p.x - a.x) by omega, Int.neg_mul, Int.mul_neg]
    unfold sgn
    rw [if_neg (show ¬ 0 < -((p.x - b.x) * (p.y - a.y)) + -((b.y - p.y) * (p.x - a.x)) by omega), if_pos (show -((p.x - b.x) * (p.y - a.y)) + -((b.y - p.y) * (p.x - a.x)) < 0 by omega), if_neg (by omega), if_neg (by omega)]
  · by_cases c2 : b.y ≤ p.y ∧ p.y < a.y
    · have e1 := Int.mul_pos (show 0 < p.x - b.x by omega) (show 0 < a.y - p.y by omega)
      have e2 := Int.mul_nonneg (show 0 ≤ p.y - b.y by omega) (show 0 ≤ p.x - a.x by omega)
      rw [show b.x - p.x = -(p.x - b.x) by omega, show a.x - p.x = -(p.x - a.x) by omega, show p.y - a.y = -(a.y - p.y) by omega, show b.y - p.y = -(p.y - b.y) by omega, Int.neg_mul_neg, Int.neg_mul_neg]
      unfold sgn
      rw [if_pos (show 0 < (p.x - b.x) * (a.y - p.y) + (p.y - b.y) * (p.x - a.x) by omega), if_neg (by omega), if_neg (by omega)]
    · rw [if_neg (fun k => c1 k.1), if_neg (fun k => c2 k.1)]
def Bd (q : P) : Prop := (-1048576 ≤ q.x ∧ q.x ≤ 1048576) ∧ (-1048576 ≤ q.y ∧ q.y ≤ 1048576)
theorem Bd.ok {q : P} (h : Bd q) : q.Ok := by unfold Bd at h; unfold P.Ok; omega
/-- Every point of the first j polygons. -/
def Al (L : Nat → Pg) (j : Nat) (C : P → Prop) : Prop := ∀ i, i < j → ∀ k, k < (L i).n → C ((L i).f k)
theorem far1 (g : Pg) (p : P) (hp : p.Ok) (hb : ∀ k, k < g.n → Bd (g.f k))
    (h : (∀ k, k < g.n → p.x < (g.f k).x) ∨ (∀ k, k < g.n → (g.f k).x < p.x) ∨ (∀ k, k < g.n → p.y < (g.f k).y) ∨ (∀ k, k < g.n → (g.f k).y < p.y)) : wp1 g p g.n = 0 := by
  have hm : ∀ {j}, j < g.n → (j + 1) % g.n < g.n := fun {j} hj => Nat.mod_lt _ (by omega)
  rw [wp1_cyc]
  rcases h with h | h | h | h
  · rw [← cyc_zero (ht p) g.f g.n]
    exact sm_congr fun j hj => cr_left (hb j hj).ok (hb _ (hm hj)).ok hp (h j hj) (h _ (hm hj))
  · exact sm_zero fun j hj => cr_right (hb j hj).ok (hb _ (hm hj)).ok hp (h j hj) (h _ (hm hj))
  · refine sm_zero fun j hj => ?_
    have h1 := h j hj
    have h2 := h _ (hm hj)
    show cr _ _ _ = 0
    rw [cr_is, if_neg (by omega), if_neg (by omega)]
  · refine sm_zero fun j hj => ?_
    have h1 := h j hj
    have h2 := h _ (hm hj)
    show cr _ _ _ = 0
    rw [cr_is, if_neg (by omega), if_neg (by omega)]
theorem far_wl (L : Nat → Pg) (p : P) (hp : p.Ok) : ∀ N, Al L N Bd →
    (Al L N (fun q => p.x < q.x) ∨ Al L N (fun q => q.x < p.x) ∨ Al L N (fun q => p.y < q.y) ∨ Al L N (fun q => q.y < p.y)) → wl L p N = 0
  | 0, _, _ => rfl
  | N + 1, hb, h => by
    have ih := far_wl L p hp N (fun i hi => hb i (by omega)) (by
      rcases h with h | h | h | h
      · exact .inl fun i hi => h i (by omega)
      · exact .inr (.inl fun i hi => h i (by omega))
      · exact .inr (.inr (.inl fun i hi => h i (by omega)))
      · exact .inr (.inr (.inr fun i hi => h i (by omega))))
    simp only [wl]
    rw [ih, far1 (L N) p hp (hb N (by omega)) (by
      rcases h with h | h | h | h
      · exact .inl (h N (by omega))
      · exact .inr (.inl (h N (by omega)))
      · exact .inr (.inr (.inl (h N (by omega))))
      · exact .inr (.inr (.inr (h N (by omega)))))]
    rfl
theorem far_wind (N : Nat) (L : Nat → Pg) (p : P) (hb : Al L N Bd)
    (h : Al L N (fun q => p.x < q.x) ∨ Al L N (fun q => q.x < p.x) ∨ Al L N (fun q => p.y < q.y) ∨ Al L N (fun q => q.y < p.y)) : wind N L p = 0 := by
  unfold wind
  split
  · rename_i hp
    exact far_wl L p hp N hb h
  · rfl
end Go.Proofs.Ytffmmfeedfdlaaa
