/- Plain laws: sums over the edges of polygons. -/
import Derived.Test.YtffmmfeedfdlaaaOwn
namespace Go.Proofs.Ytffmmfeedfdlaaa
open Go.ChangeShapes Go.WideShapes Go.ChangeAt Go.RowKit
set_option linter.unusedVariables false

/-! ### One list behind the other -/
theorem wl_congr {L L' : Nat → Pg} {p : P} : ∀ {N}, (∀ i, i < N → L i = L' i) → wl L p N = wl L' p N
  | 0, _ => rfl
  | N + 1, h => by simp only [wl]; rw [wl_congr fun i hi => h i (by omega), h N (by omega)]
theorem pal_congr {L L' : Nat → Pg} : ∀ {N}, (∀ i, i < N → L i = L' i) → pal L N = pal L' N
  | 0, _ => rfl
  | N + 1, h => by simp only [pal]; rw [pal_congr fun i hi => h i (by omega), h N (by omega)]
theorem tot_congr {L L' : Nat → Pg} : ∀ {N}, (∀ i, i < N → L i = L' i) → tot L N = tot L' N
  | 0, _ => rfl
  | N + 1, h => by simp only [tot]; rw [tot_congr fun i hi => h i (by omega), h N (by omega)]
theorem wl_cat (n : Nat) (L L' : Nat → Pg) (p : P) : ∀ m, wl (GO.cat n L L') p (n + m) = wl L p n + wl L' p m
  | 0 => by simp only [wl, Nat.add_zero, Int.add_zero]; exact wl_congr fun i hi => GO.cat_lt hi
  | m + 1 => by
    have e : GO.cat n L L' (n + m) = L' m := by rw [GO.cat_ge (by omega), show n + m - n = m by omega]
    have ih := wl_cat n L L' p m
    show wl _ p (n + m) + wp1 (GO.cat n L L' (n + m)) p (GO.cat n L L' (n + m)).n = wl L p n + (wl L' p m + wp1 (L' m) p (L' m).n)
    rw [e, ih]; omega
theorem pal_cat (n : Nat) (L L' : Nat → Pg) : ∀ m, pal (GO.cat n L L') (n + m) = pal L n + pal L' m
  | 0 => by simp only [pal, Nat.add_zero, Int.add_zero]; exact pal_congr fun i hi => GO.cat_lt hi
  | m + 1 => by
    have e : GO.cat n L L' (n + m) = L' m := by rw [GO.cat_ge (by omega), show n + m - n = m by omega]
    have ih := pal_cat n L L' m
    show pal _ (n + m) + parea (GO.cat n L L' (n + m)) = pal L n + (pal L' m + parea (L' m))
    rw [e, ih]; omega
theorem tot_cat (n : Nat) (L L' : Nat → Pg) : ∀ m, tot (GO.cat n L L') (n + m) = tot L n + tot L' m
  | 0 => by simp only [tot, Nat.add_zero]; exact tot_congr fun i hi => GO.cat_lt hi
  | m + 1 => by
    have e : GO.cat n L L' (n + m) = L' m := by rw [GO.cat_ge (by omega), show n + m - n = m by omega]
    have ih := tot_cat n L L' m
    show tot _ (n + m) + (GO.cat n L L' (n + m)).n = tot L n + (tot L' m + (L' m).n)
    rw [e, ih]; omega
theorem wind_cat (n m : Nat) (L L' : Nat → Pg) (p : P) : wind (n + m) (GO.cat n L L') p = wind n L p + wind m L' p := by
  unfold wind
  split
  · exact wl_cat n L L' p m
  · rfl

/-! ### Sums over a cycle -/
def sm (g : Nat → Int) : Nat → Int
  | 0 => 0
  | n + 1 => sm g n + g n
theorem sm_congr {g g' : Nat → Int} : ∀ {n}, (∀ i, i < n → g i = g' i) → sm g n = sm g' n
  | 0, _ => rfl
  | n + 1, h => by simp only [sm]; rw [sm_congr fun i hi => h i (by omega), h n (by omega)]
theorem sm_neg (g : Nat → Int) : ∀ n, sm (fun i => - g i) n = - sm g n
  | 0 => rfl
  | n + 1 => by simp only [sm]; rw [sm_neg g n]; omega
theorem sm_head (g : Nat → Int) : ∀ n, sm g (n + 1) = g 0 + sm (fun i => g (i + 1)) n
  | 0 => by simp [sm]
  | n + 1 => by
    have ih := sm_head g n
    show sm g (n + 1) + g (n + 1) = g 0 + (sm (fun i => g (i + 1)) n + g (n + 1))
    rw [ih]; omega
theorem sm_rev : ∀ (n : Nat) (g : Nat → Int), sm (fun i => g (n - 1 - i)) n = sm g n
  | 0, _ => rfl
  | n + 1, g => by
    rw [sm_head]
    have ih := sm_rev n g
    have e : sm (fun i => g (n + 1 - 1 - (i + 1))) n = sm (fun i => g (n - 1 - i)) n := sm_congr fun i hi => by rw [show n + 1 - 1 - (i + 1) = n - 1 - i by omega]
    rw [e, ih]
    show g (n + 1 - 1 - 0) + sm g n = sm g n + g n
    rw [show n + 1 - 1 - 0 = n by omega]; omega
theorem sm_shift (g : Nat → Int) (n : Nat) : sm (fun i => g (i + 1)) n = sm g n + g n - g 0 := by
  have h := sm_head g n
  have h2 : sm g (n + 1) = sm g n + g n := rfl
  omega
theorem sm_rot (g : Nat → Int) (n : Nat) : ∀ k, sm (fun i => g ((i + k) % n)) n = sm g n
  | 0 => sm_congr fun i hi => by rw [Nat.add_zero, Nat.mod_eq_of_lt hi]
  | k + 1 => by
    have ih := sm_rot g n k
    have e : sm (fun i => g ((i + (k + 1)) % n)) n = sm (fun i => (fun j => g ((j + k) % n)) (i + 1)) n := sm_congr fun i hi => by
      show g ((i + (k + 1)) % n) = g ((i + 1 + k) % n)
      rw [show i + (k + 1) = i + 1 + k by omega]
    refine (e.trans (sm_shift (fun j => g ((j + k) % n)) n)).trans ?_
    show sm (fun j => g ((j + k) % n)) n + g ((n + k) % n) - g ((0 + k) % n) = sm g n
    rw [ih, Nat.add_mod_left, Nat.zero_add]; omega
/-- The sum of a term over the edges. -/
def cyc (T : P → P → Int) (f : Nat → P) (n : Nat) : Int := sm (fun j => T (f j) (f ((j + 1) % n))) n
theorem cyc_rev (T : P → P → Int) (hT : ∀ a b, T b a = - T a b) (f : Nat → P) (n : Nat) : cyc T (fun i => f (n - 1 - i)) n = - cyc T f n := by
  rcases n with _ | n
  · rfl
  · unfold cyc
    have e1 : sm (fun j => T (f (n + 1 - 1 - j)) (f (n + 1 - 1 - (j + 1) % (n + 1)))) (n + 1) = sm (fun j => T (f (n + 1 - 1 - j)) (f (n + 1 - 1 - (j + 1) % (n + 1)))) n + T (f 0) (f n) := by
      show sm _ n + T (f (n + 1 - 1 - n)) (f (n + 1 - 1 - (n + 1) % (n + 1))) = _
      rw [Nat.mod_self, show n + 1 - 1 - n = 0 by omega, show n + 1 - 1 - 0 = n by omega]
    have e2 : sm (fun j => T (f j) (f ((j + 1) % (n + 1)))) (n + 1) = sm (fun j => T (f j) (f (j + 1))) n + T (f n) (f 0) := by
      show sm _ n + T (f n) (f ((n + 1) % (n + 1))) = _
      rw [Nat.mod_self]
      congr 1
      exact sm_congr fun i hi => by rw [Nat.mod_eq_of_lt (by omega)]
    have e3 : sm (fun j => T (f (n + 1 - 1 - j)) (f (n + 1 - 1 - (j + 1) % (n + 1)))) n = - sm (fun j => T (f j) (f (j + 1))) n := by
      refine (sm_congr (g' := fun i => - (fun j => T (f j) (f (j + 1))) (n - 1 - i)) fun i hi => ?_).trans ((sm_neg (fun i => (fun j => T (f j) (f (j + 1))) (n - 1 - i)) n).trans (congrArg _ (sm_rev n (fun j => T (f j) (f (j + 1))))))
      show T (f (n + 1 - 1 - i)) (f (n + 1 - 1 - (i + 1) % (n + 1))) = - T (f (n - 1 - i)) (f (n - 1 - i + 1))
      rw [Nat.mod_eq_of_lt (by omega), show n + 1 - 1 - i = n - 1 - i + 1 by omega, show n + 1 - 1 - (i + 1) = n - 1 - i by omega]
      exact hT _ _
    rw [e1, e2, e3, hT (f n) (f 0)]
    omega
theorem cyc_rot (T : P → P → Int) (f : Nat → P) (n k : Nat) : cyc T (fun i => f ((i + k) % n)) n = cyc T f n := by
  unfold cyc
  refine Eq.trans (sm_congr fun i hi => ?_) (sm_rot (fun j => T (f j) (f ((j + 1) % n))) n k)
  show T (f ((i + k) % n)) (f (((i + 1) % n + k) % n)) = T (f ((i + k) % n)) (f (((i + k) % n + 1) % n))
  rw [Nat.mod_add_mod, Nat.mod_add_mod, show i + 1 + k = i + k + 1 by omega]
theorem sm_sub (u v : Nat → Int) : ∀ m, sm (fun j => u j - v j) m = sm u m - sm v m
  | 0 => rfl
  | m + 1 => by simp only [sm]; rw [sm_sub u v m]; omega
/-- A difference of heights sums to nothing. -/
theorem cyc_zero (h : P → Int) (f : Nat → P) (n : Nat) : cyc (fun a b => h b - h a) f n = 0 := by
  unfold cyc
  have e := sm_sub (fun j => h (f ((j + 1) % n))) (fun j => h (f j)) n
  have r := sm_rot (fun j => h (f j)) n 1
  show sm (fun j => h (f ((j + 1) % n)) - h (f j)) n = 0
  rw [e, r]; omega
theorem wp1_sm (g : Pg) (p : P) : ∀ n, wp1 g p n = sm (fun j => cr (g.f j) (g.f ((j + 1) % g.n)) p) n
  | 0 => rfl
  | n + 1 => by simp only [wp1, sm]; rw [wp1_sm g p n]; rfl
theorem wp1_cyc (g : Pg) (p : P) : wp1 g p g.n = cyc (fun a b => cr a b p) g.f g.n := wp1_sm g p g.n
end Go.Proofs.Ytffmmfeedfdlaaa
