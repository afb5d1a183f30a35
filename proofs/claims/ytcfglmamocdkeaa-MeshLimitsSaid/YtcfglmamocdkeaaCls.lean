/- Contracts in the form that decides tests. Printed by mlaws.py. -/
import Derived.Test.YtcfglmamocdkeaaAwake
import Derived.Test.YtcfglmamocdkeaaPl
import Derived.Test.YtcfglmamocdkeaaSameR
import Derived.Test.YtcfglmamocdkeaaVolR
import Derived.Test.YtcfglmamocdkeaaRevR
import Derived.Test.YtcfglmamocdkeaaJoinB
namespace Go.Proofs.Ytcfglmamocdkeaa
open Go.ChangeShapes Go.WideShapes Go.ChangeAt Go.RowKit
set_option linter.unusedVariables false

theorem pvol_small (n k : Nat) (f g : Nat → V) (hk : k ≤ 200) : -3602879701896396800 ≤ pvol n k f g ∧ pvol n k f g ≤ 3602879701896396800 := by
  unfold pvol
  split
  · have := vol_in f g k
    omega
  · decide
theorem heavy_is {a b : Option Addr} {n k cap cap' : Nat} {w : World} {r : Bool} (h : decide (200 < n ∨ 200 < k) = r) :
    Calls Try.prog 10 #[.agg #[.slice a n cap, .slice b k cap']] w fun e w' => e = .returned (.bool r) ∧ Below w.heap.size w w' := h ▸ heavy_any a b n k cap cap' w
theorem samer_is {a b a' b' : Option Addr} {n k n' k' c1 c2 c3 c4 : Nat} {f g f' g' : Nat → V} {w : World} (SA : Sx a n f w) (SB : Sx b k g w) (SA' : Sx a' n' f' w) (SB' : Sx b' k' g' w) (hN : n ≤ 100000) (hK : k ≤ 100000) {r : Bool} (hr : psame n k n' k' f g f' g' = r) :
    Calls Try.prog 15 #[.agg #[.slice a n c1, .slice b k c2], .agg #[.slice a' n' c3, .slice b' k' c4]] w fun e w' => e = .returned (.bool r) ∧ Below w.heap.size w w' := same_auxr a b a' b' n k n' k' c1 c2 c3 c4 f g f' g' w SA SB SA' SB' hN hK r hr.symm
theorem checkr_is {a b : Option Addr} {n k cap cap' : Nat} {f g : Nat → V} {w : World} (SA : Sx a n f w) (SB : Sx b k g w) {r : Int} (hr : pcheck n k f g = r) :
    Calls Try.prog 21 #[.agg #[.slice a n cap, .slice b k cap']] w fun e w' => e = .returned (.int .i64 r) ∧ Below w.heap.size w w' := check_auxr a b n k cap cap' f g w SA SB r hr.symm
theorem vol_is {a b : Option Addr} {n k cap cap' : Nat} {f g : Nat → V} {w : World} (SA : Sx a n f w) (SB : Sx b k g w) (hk : k ≤ 400) {v : Int} (hv : pvol n k f g = v) :
    Calls Try.prog 12 #[.agg #[.slice a n cap, .slice b k cap']] w fun e w' => e = .returned (.int .i64 v) ∧ Below w.heap.size w w' := vol_any a b n k cap cap' f g w SA SB hk v hv
theorem volr_is {a b : Option Addr} {n k cap cap' : Nat} {f g : Nat → V} {w : World} (SA : Sx a n f w) (SB : Sx b k g w) (hk : k ≤ 400) {v : Int} (hv : pvol n k f g = v) :
    Calls Try.prog 26 #[.agg #[.slice a n cap, .slice b k cap']] w fun e w' => e = .returned (.int .i64 v) ∧ Below w.heap.size w w' := vol_anyr a b n k cap cap' f g w SA SB hk v hv
theorem norm_is {a b : Option Addr} {n k cap cap' : Nat} {f g : Nat → V} {w : World} {i : Int} (SA : Sx a n f w) (SB : Sx b k g w) {v : V} (hv : pnorm n k f g i = v) :
    Calls Try.prog 22 #[.agg #[.slice a n cap, .slice b k cap'], .int .i64 i] w fun e w' => e = .returned (.agg #[.int .i64 v.x, .int .i64 v.y, .int .i64 v.z]) ∧ Below w.heap.size w w' := norm_any a b n k cap cap' f g w SA SB i v hv
theorem normr_is {a b : Option Addr} {n k cap cap' : Nat} {f g : Nat → V} {w : World} {i : Int} (SA : Sx a n f w) (SB : Sx b k g w) {v : V} (hv : pnorm n k f g i = v) :
    Calls Try.prog 23 #[.agg #[.slice a n cap, .slice b k cap'], .int .i64 i] w fun e w' => e = .returned (.agg #[.int .i64 v.x, .int .i64 v.y, .int .i64 v.z]) ∧ Below w.heap.size w w' := norm_anyr a b n k cap cap' f g w SA SB i v hv
/-- A box and what lies below. -/
structure Qz (wz : World) (B : Nat) (u v : Value) (w1 : World) : Prop where
  m : Mb B u v w1
  hB : Below wz.heap.size wz w1
theorem Qz.on {wz : World} {B : Nat} {u v : Value} {w' : World} {fn : FuncId} {args : Array Value} {r : Value} (h' : Qz wz B u v w')
    (h : Calls Try.prog fn args w' fun e w'' => e = .returned r ∧ Below w'.heap.size w' w'') : Calls Try.prog fn args w' fun e w'' => e = .returned r ∧ Qz wz B u v w'' :=
  h.mono fun _ _ ⟨he, hb⟩ => ⟨he, h'.m.next hb, below_next h'.hB hb⟩
theorem quiet_load25 {b : Nat} {x y : Value} {q : Oper} {a : Act} {C : World → Prop} {K : Act → Prop} (i : Nat) (h : q.op = .load 25 (.tmp i)) (ha : a.eval (.tmp i) = .pointer (some ⟨b, 0, none⟩))
    (hC : ∀ w, C w → Mb b x y w) (hk : K (a.put q.dst (.agg #[x, y]))) : q.quiet Try.prog a C K := by
  refine ⟨_, fun w' h' => ?_, hk⟩
  have d0 := (hC w' h').c0
  have d1 := (hC w' h').c1
  obtain ⟨dst, op, type, pos, after, guard⟩ := q
  dsimp only at h
  subst h
  unfold Oper.quietAt execOp
  simp only [ha]
  go_simp
end Go.Proofs.Ytcfglmamocdkeaa
