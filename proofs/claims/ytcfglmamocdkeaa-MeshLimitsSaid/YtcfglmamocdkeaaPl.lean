/- Plain laws of meshes. -/
import Derived.Test.YtcfglmamocdkeaaVol
import Derived.Test.YtcfglmamocdkeaaSame
import Derived.Test.YtcfglmamocdkeaaJoin
namespace Go.Proofs.Ytcfglmamocdkeaa

theorem triOk_swp {n : Nat} {t : V} : TriOk n (swp t) ↔ TriOk n t := by
  unfold TriOk swp
  constructor <;> (rintro ⟨h1, h2, h3⟩; exact ⟨h1, h3, h2⟩)
theorem pcheck_swp (n k : Nat) (f g : Nat → V) : pcheck n k f (fun i => swp (g i)) = pcheck n k f g := by
  unfold pcheck
  have h : AllT n k (fun i => swp (g i)) ↔ AllT n k g := by
    unfold AllT
    exact ⟨fun h j hj => triOk_swp.1 (h j hj), fun h j hj => triOk_swp.2 (h j hj)⟩
  by_cases ht : AllT n k g
  · rw [if_pos ht, if_pos (h.2 ht)]
  · rw [if_neg ht, if_neg fun k => ht (h.1 k)]
theorem pcheck_zero {f g : Nat → V} : pcheck 0 0 f g = 0 := by
  unfold pcheck
  rw [if_neg (by omega), if_pos (show AllV 0 f from fun i hi => absurd hi (by omega)), if_pos (show AllT 0 0 g from fun i hi => absurd hi (by omega))]
theorem vol_swp (f g : Nat → V) : ∀ l, vol f (fun i => swp (g i)) l = -vol f g l
  | 0 => rfl
  | l + 1 => by
    simp only [vol]
    rw [vol_swp f g l]
    show -vol f g l + pdet (cor f (g l).x) (cor f (g l).z) (cor f (g l).y) = _
    rw [pdet_swap2]
    omega
theorem pvol_swp (n k : Nat) (f g : Nat → V) : pvol n k f (fun i => swp (g i)) = -pvol n k f g := by
  unfold pvol
  rw [pcheck_swp]
  split
  · exact vol_swp f g k
  · rfl
theorem pvol_zero (f g : Nat → V) : pvol 0 0 f g = 0 := by
  unfold pvol
  rw [if_pos pcheck_zero]
  rfl
theorem pvol_in (n k : Nat) (f g : Nat → V) (hk : k ≤ 400) : -7205759403792793600 ≤ pvol n k f g ∧ pvol n k f g ≤ 7205759403792793600 := by
  unfold pvol
  split
  · have := vol_in f g k
    omega
  · decide
theorem eqV_symm {u v : V} (h : EqV u v) : EqV v u := ⟨h.1.symm, h.2.1.symm, h.2.2.symm⟩
theorem psame_comm (n k n' k' : Nat) (f g f' g' : Nat → V) : psame n' k' n k f' g' f g = psame n k n' k' f g f' g' := by
  unfold psame
  refine decide_eq_decide.2 ⟨?_, ?_⟩
  · rintro ⟨rfl, rfl, h1, h2⟩
    exact ⟨rfl, rfl, fun i hi => eqV_symm (h1 i hi), fun i hi => eqV_symm (h2 i hi)⟩
  · rintro ⟨rfl, rfl, h1, h2⟩
    exact ⟨rfl, rfl, fun i hi => eqV_symm (h1 i hi), fun i hi => eqV_symm (h2 i hi)⟩
theorem psame_refl (n k : Nat) (f g : Nat → V) : psame n k n k f g f g = true := decide_eq_true ⟨rfl, rfl, fun _ _ => ⟨rfl, rfl, rfl⟩, fun _ _ => ⟨rfl, rfl, rfl⟩⟩
theorem psame_swp (n k : Nat) (f g : Nat → V) : psame n k n k f (fun i => swp (swp (g i))) f g = true := decide_eq_true ⟨rfl, rfl, fun _ _ => ⟨rfl, rfl, rfl⟩, fun _ _ => ⟨rfl, rfl, rfl⟩⟩
theorem psame_nil (f g f' g' : Nat → V) : psame 0 0 0 0 f g f' g' = true := decide_eq_true ⟨rfl, rfl, fun i hi => absurd hi (by omega), fun i hi => absurd hi (by omega)⟩
theorem pcheck_of {n k : Nat} {f g : Nat → V} (hn : n ≤ 4096) (hk : k ≤ 4096) (hv : AllV n f) (ht : AllT n k g) : pcheck n k f g = 0 := by
  unfold pcheck
  rw [if_neg (by omega), if_pos hv, if_pos ht]
section
variable {n k n2 k2 : Nat} {f g f2 g2 : Nat → V}
theorem pcheck_join (h : pcheck n k f g = 0) (h2 : pcheck n2 k2 f2 g2 = 0) (hn : n + n2 ≤ 4096) (hk : k + k2 ≤ 4096) : pcheck (n + n2) (k + k2) (cat n f f2) (cat k g (fun i => shf n (g2 i))) = 0 := by
  obtain ⟨-, -, hv, ht⟩ := pcheck_all h
  obtain ⟨-, -, hv2, ht2⟩ := pcheck_all h2
  refine pcheck_of hn hk (fun i hi => ?_) (fun j hj => ?_)
  · rcases Nat.lt_or_ge i n with hl | hl
    · rw [cat_lt hl]; exact hv i hl
    · rw [cat_ge hl]; exact hv2 _ (by omega)
  · rcases Nat.lt_or_ge j k with hl | hl
    · rw [cat_lt hl]
      have := ht j hl
      unfold TriOk at this ⊢
      omega
    · rw [cat_ge hl]
      have := ht2 (j - k) (by omega)
      unfold TriOk shf at *
      dsimp only
      omega
theorem cor_low {c : Int} (h0 : 0 ≤ c) (h : c < n) : cor (cat n f f2) c = cor f c := by
  unfold cor
  exact cat_lt (by omega)
theorem cor_high {c : Int} (h0 : 0 ≤ c) : cor (cat n f f2) (c + n) = cor f2 c := by
  unfold cor
  rw [cat_ge (by omega)]
  congr 1
  omega
theorem vol_low (ht : AllT n k g) : ∀ l, l ≤ k → vol (cat n f f2) (cat k g (fun i => shf n (g2 i))) l = vol f g l
  | 0, _ => rfl
  | l + 1, hl => by
    have t := ht l (by omega)
    unfold TriOk at t
    simp only [vol]
    rw [vol_low ht l (by omega), cat_lt (show l < k by omega), cor_low t.1.1 t.1.2, cor_low t.2.1.1 t.2.1.2, cor_low t.2.2.1 t.2.2.2]
theorem vol_high (ht : AllT n k g) (ht2 : AllT n2 k2 g2) : ∀ l, l ≤ k2 → vol (cat n f f2) (cat k g (fun i => shf n (g2 i))) (k + l) = vol f g k + vol f2 g2 l
  | 0, _ => by rw [Nat.add_zero, vol_low ht k (Nat.le_refl _)]; simp [vol]
  | l + 1, hl => by
    have t := ht2 l (by omega)
    unfold TriOk at t
    rw [← Nat.add_assoc]
    simp only [vol]
    rw [vol_high ht ht2 l (by omega), cat_ge (show k ≤ k + l by omega), show k + l - k = l by omega]
    show _ + pdet (cor (cat n f f2) ((g2 l).x + n)) (cor (cat n f f2) ((g2 l).y + n)) (cor (cat n f f2) ((g2 l).z + n)) = _
    rw [cor_high t.1.1, cor_high t.2.1.1, cor_high t.2.2.1]
    omega
theorem pvol_join (h : pcheck n k f g = 0) (h2 : pcheck n2 k2 f2 g2 = 0) (hn : n + n2 ≤ 4096) (hk : k + k2 ≤ 4096) : pvol (n + n2) (k + k2) (cat n f f2) (cat k g (fun i => shf n (g2 i))) = pvol n k f g + pvol n2 k2 f2 g2 := by
  unfold pvol
  rw [if_pos (pcheck_join h h2 hn hk), if_pos h, if_pos h2]
  exact vol_high (pcheck_all h).2.2.2 (pcheck_all h2).2.2.2 k2 (Nat.le_refl _)
end
end Go.Proofs.Ytcfglmamocdkeaa
