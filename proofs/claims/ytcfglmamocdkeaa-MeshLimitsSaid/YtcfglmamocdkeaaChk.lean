/- Meshes in memory; the contract of Check. -/
import Derived.Test.YtcfglmamocdkeaaBnds
import Derived.Test.YtcfglmamocdkeaaDets
namespace Go.Proofs.Ytcfglmamocdkeaa
open Go.ChangeShapes Go.WideShapes Go.ChangeAt Go.RowKit

/-- A slice of n vectors or triangles, nil or empty included. -/
def Sx (a : Option Addr) (n : Nat) (f : Nat → V) (w : World) : Prop := n = 0 ∨ ∃ b o, a = some ⟨b, o, none⟩ ∧ Sl b o n f w
theorem Sx.next {a : Option Addr} {n : Nat} {f : Nat → V} {w w' : World} (h : Sx a n f w) (hb : Below w.heap.size w w') : Sx a n f w' := by
  rcases h with h | ⟨b, o, h1, h2⟩
  · exact .inl h
  · exact .inr ⟨b, o, h1, h2.next hb⟩
def TriOk (n : Nat) (t : V) : Prop := (0 ≤ t.x ∧ t.x < n) ∧ (0 ≤ t.y ∧ t.y < n) ∧ (0 ≤ t.z ∧ t.z < n)
instance (n : Nat) (t : V) : Decidable (TriOk n t) := by unfold TriOk; exact inferInstance
def AllV (n : Nat) (f : Nat → V) : Prop := ∀ i, i < n → (f i).In 65536
def AllT (n k : Nat) (g : Nat → V) : Prop := ∀ j, j < k → TriOk n (g j)
instance (n : Nat) (f : Nat → V) : Decidable (AllV n f) := by unfold AllV; exact inferInstance
instance (n k : Nat) (g : Nat → V) : Decidable (AllT n k g) := by unfold AllT; exact inferInstance
def pcheck (n k : Nat) (f g : Nat → V) : Int := if 4096 < n ∨ 4096 < k then 2 else if AllV n f then (if AllT n k g then 0 else 1) else 8

/-- A mesh in block B. -/
structure Mb (B : Nat) (u v : Value) (w : World) : Prop where
  row : w.heap[B]? = some (.cells #[u, v] 25)
theorem Mb.hZ {B : Nat} {u v : Value} {w : World} (h : Mb B u v w) : B < w.heap.size := by
  rcases Nat.lt_or_ge B w.heap.size with h' | h'
  · exact h'
  · have := h.row
    rw [Array.getElem?_eq_none h'] at this
    cases this
theorem Mb.c0 {B : Nat} {u v : Value} {w : World} (h : Mb B u v w) : w.cell? ⟨B, 0, none⟩ = some u := cell_of_row _ _ _ _ _ _ h.row
theorem Mb.c1 {B : Nat} {u v : Value} {w : World} (h : Mb B u v w) : w.cell? ⟨B, 1, none⟩ = some v := cell_of_row _ _ _ _ _ _ h.row
theorem Mb.next {B : Nat} {u v : Value} {a c : World} (h : Mb B u v a) (hb : Below a.heap.size a c) : Mb B u v c := ⟨(hb.block B h.hZ).trans h.row⟩
theorem Mb.new (w : World) (u v : Value) : Mb w.heap.size u v (w.alloc (.cells #[u, v] 25)) := ⟨heap_alloc_new w _⟩
theorem valid_is {a : V} {r : Bool} (h : decide (a.In 65536) = r) (w : World) : Calls Try.prog 31 #[.agg #[.int .i64 a.x, .int .i64 a.y, .int .i64 a.z]] w fun e w' => e = .returned (.bool r) ∧ Below w.heap.size w w' := h ▸ valid_any a w

set_option maxRecDepth 100000 in
set_option maxHeartbeats 2000000 in
theorem check_aux (a b : Option Addr) (n k cap cap' : Nat) (f g : Nat → V) (w : World) (SA : Sx a n f w) (SB : Sx b k g w) (r : Int) (hr : r = pcheck n k f g) :
    Calls Try.prog 17 #[.agg #[.slice a n cap, .slice b k cap']] w fun e w' => e = .returned (.int .i64 r) ∧ Below w.heap.size w w' := by
  by_cases hn : 4096 < n
  · have d1 : decide ((4096 : Int) < n) = true := by simp; omega
    have e : pcheck n k f g = 2 := by unfold pcheck; rw [if_pos (.inl hn)]
    rw [e] at hr
    subst hr
    clear e
    go_enter Try.func17, Try.ntmps17
    go_wp2_with fail
    go_ret
    exact ⟨rfl, below_alloc _ _⟩
  · have d1 : decide ((4096 : Int) < n) = false := by simp; omega
    by_cases hk : 4096 < k
    · have d2 : decide ((4096 : Int) < k) = true := by simp; omega
      have e : pcheck n k f g = 2 := by unfold pcheck; rw [if_pos (.inr hk)]
      rw [e] at hr
      subst hr
      clear e
      go_enter Try.func17, Try.ntmps17
      go_wp2_with fail
      go_ret
      exact ⟨rfl, below_alloc _ _⟩
    · have d2 : decide ((4096 : Int) < k) = false := by simp; omega
      have e : pcheck n k f g = if AllV n f then (if AllT n k g then 0 else 1) else 8 := by unfold pcheck; rw [if_neg (by omega)]
      rw [e] at hr
      have HR := Lib.hid hr
      clear e hr
      go_enter Try.func17, Try.ntmps17
      go_wp2_with fail
      have M := Mb.new w (.slice a n cap) (.slice b k cap')
      have HB := below_alloc w (.cells #[.slice a n cap, .slice b k cap'] 25)
      have SA1 := SA.next HB
      have SB1 := SB.next HB
      generalize w.alloc _ = wz at M HB SA1 SB1 ⊢
      go_loopw [22] (fun i wk => ∃ j : Nat, j ≤ n ∧ i = .int .i64 j ∧ (∀ l, l < j → (f l).In 65536) ∧ Below wz.heap.size wz wk) (fun i _ => n - (intOf i).toNat)
      case atStart => exact ⟨0, by omega, rfl, fun l hl => absurd hl (by omega), Below.refl _ _⟩
      case round =>
        obtain ⟨j, hj, rfl, hall, hW⟩ := hrel
        have HALL := Lib.hid hall
        clear hall
        by_cases hlt : j < n
        · rcases SA1.next hW with h0 | ⟨b0, o0, rfl, S⟩
          · omega
          · obtain ⟨s0, s1, s2⟩ := S.hc j hlt
            by_cases hv : (f j).In 65536
            · have HV := Lib.hid hv
              clear hv
              go_wp2_with (go_at_call 31; refine (valid_is (decide_eq_true HV.out) _).mono ?_; rintro e wv ⟨rfl, hbv⟩)
              go_wp2
              go_roundw
              case rel =>
                refine ⟨j + 1, by omega, by go_num, fun l hl => ?_, below_next hW (below_next (below_alloc _ _) hbv)⟩
                rcases Nat.lt_or_ge l j with h' | h'
                · exact HALL.out l h'
                · obtain rfl : l = j := by omega
                  exact HV.out
              case measure => simp [intOf]; omega
            · have e : r = 8 := HR.out.trans (if_neg fun h => hv (h j hlt))
              have HV := Lib.hid hv
              have HE := Lib.hid e
              clear hv e
              go_wp2_with (go_at_call 31; refine (valid_is (decide_eq_false HV.out) _).mono ?_; rintro e wv ⟨rfl, hbv⟩)
              go_ret
              exact ⟨by rw [HE.out]; rfl, below_next HB (below_next hW (below_next (below_alloc _ _) hbv))⟩
        · obtain rfl : j = n := by omega
          have e : r = if AllT j k g then 0 else 1 := HR.out.trans (if_pos HALL.out)
          have HE := Lib.hid e
          clear e HALL HR
          have M2 := M.next hW
          have HB2 := below_next HB hW
          have SB2 := SB1.next hW
          have m0 := M2.c0
          have m1 := M2.c1
          go_wp2_with fail
          clear m0 m1 M SA1 SB1 HB hW SA SB
          go_loopw [33] (fun i wk => ∃ l : Nat, l ≤ k ∧ i = .int .i64 l ∧ (∀ t, t < l → TriOk j (g t)) ∧ Below wr.heap.size wr wk) (fun i _ => k - (intOf i).toNat)
          case atStart => exact ⟨0, by omega, rfl, fun l hl => absurd hl (by omega), Below.refl _ _⟩
          case round =>
            obtain ⟨l, hl, rfl, hall, hW⟩ := hrel
            have HALL := Lib.hid hall
            clear hall
            by_cases hlt : l < k
            · rcases SB2.next hW with h0 | ⟨b0, o0, rfl, S⟩
              · omega
              · obtain ⟨s0, s1, s2⟩ := S.hc l hlt
                by_cases hv : TriOk j (g l)
                · have HV := Lib.hid hv
                  unfold TriOk at hv
                  go_wp2
                  all_goals go_roundw
                  all_goals first
                    | (refine ⟨l + 1, by omega, by go_num, fun t ht => ?_, below_next hW (below_alloc _ _)⟩
                       rcases Nat.lt_or_ge t l with h' | h'
                       · exact HALL.out t h'
                       · obtain rfl : t = l := by omega
                         exact HV.out)
                    | (simp [intOf]; omega)
                · have e : r = 1 := HE.out.trans (if_neg fun h => hv (h l hlt))
                  have HF := Lib.hid e
                  clear e
                  unfold TriOk at hv
                  go_wp2
                  all_goals go_ret
                  all_goals exact ⟨by rw [HF.out]; rfl, below_next HB2 (below_next hW (below_alloc _ _))⟩
            · obtain rfl : l = k := by omega
              have e : r = 0 := HE.out.trans (if_pos HALL.out)
              have HF := Lib.hid e
              clear e
              go_wp2_with fail
              go_ret
              exact ⟨by rw [HF.out]; rfl, below_next HB2 hW⟩
end Go.Proofs.Ytcfglmamocdkeaa
