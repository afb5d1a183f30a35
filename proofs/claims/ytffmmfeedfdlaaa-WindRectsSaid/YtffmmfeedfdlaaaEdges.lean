/- The contract of edges: the range over a function. -/
import Derived.RangeFuncNested
import Derived.RangeFuncBound
import Derived.RangeFuncCalls
import Derived.RangeFuncLeaves
import Derived.RangeFuncBox
import Derived.Shelf.Abstract
import Derived.Shelf.RegionOpen
import Derived.OwnWalkIn
import Derived.TacticsInMore
import Derived.LoopNIn
import Derived.LoopIn
import Derived.BigRegionIn
import Derived.Test.YtffmmfeedfdlaaaRefW
namespace Go.Proofs.Ytffmmfeedfdlaaa
open Go.ChangeShapes Go.WideShapes Go.ChangeAt Go.RowKit Go.Shelf
set_option linter.unusedVariables false
attribute [local go_sem] Oper.semAt_some

/-- What a round of the caller keeps: every cell but the counter's. -/
def Kb (Bn : Nat) (W W' : World) : Prop := W.heap.size ≤ W'.heap.size ∧ ∀ (p : Addr) v, p.block ≠ Bn → W.cell? p = some v → W'.cell? p = some v
/-- Every cell is as it was. -/
def Kc (W W' : World) : Prop := W.heap.size ≤ W'.heap.size ∧ ∀ (p : Addr) v, W.cell? p = some v → W'.cell? p = some v
theorem lt_of_cell {w : World} {p : Addr} {v : Value} (h : w.cell? p = some v) : p.block < w.heap.size := World.block_lt_of_cell? w p h
theorem Kb.trans {Bn : Nat} {A B C : World} (h : Kb Bn A B) (k : Kb Bn B C) : Kb Bn A C := ⟨Nat.le_trans h.1 k.1, fun p v hp hv => k.2 p v hp (h.2 p v hp hv)⟩
theorem Kb.put {Bn : Nat} (W : World) (l : Nat) (o o' : Obj) (h : W.heap[l]? = some o) (hc : o.isCells = false) : Kb Bn W (W.putObj l o') :=
  ⟨(grownBy_putObj' W l o').size, fun p v _ hv => cell_kept hv (grownBy_putObj' W l o') fun r e => by cases e; exact ⟨o, h, hc⟩⟩
theorem Kb.below {Bn : Nat} {W W' : World} (h : Below W.heap.size W W') : Kb Bn W W' := ⟨h.size, fun p v _ hv => (h.cell (lt_of_cell hv)).trans hv⟩
theorem Kc.below {W W' : World} (h : Below W.heap.size W W') : Kc W W' := ⟨h.size, fun p v hv => (h.cell (lt_of_cell hv)).trans hv⟩
theorem Kc.trans {A B C : World} (h : Kc A B) (k : Kc B C) : Kc A C := ⟨Nat.le_trans h.1 k.1, fun p v hv => k.2 p v (h.2 p v hv)⟩
theorem Kc.kb {Bn : Nat} {A B C : World} (h : Kc A B) (k : Kb Bn B C) (hBn : A.heap.size ≤ Bn) : Kc A C :=
  ⟨Nat.le_trans h.1 k.1, fun p v hv => k.2 p v (fun e => by have := lt_of_cell hv; omega) (h.2 p v hv)⟩
theorem Px.kc {b o n : Nat} {f : Nat → P} {w w' : World} (h : Px b o n f w) (k : Kc w w') : Px b o n f w' :=
  ⟨Nat.lt_of_lt_of_le h.hb k.1, fun i hi => ⟨k.2 _ _ (h.hc i hi).1, k.2 _ _ (h.hc i hi).2⟩⟩
theorem Pl.kc {a : Option Addr} {n : Nat} {f : Nat → P} {w w' : World} (h : Pl a n f w) (k : Kc w w') : Pl a n f w' := by
  rcases h with h | ⟨b, o, h1, h2⟩
  · exact .inl h
  · exact .inr ⟨b, o, h1, h2.kc k⟩
theorem Ll.kc {a : Option Addr} {N : Nat} {L : Nat → Pg} {w w' : World} (h : Ll a N L w) (k : Kc w w') : Ll a N L w' := by
  rcases h with h | ⟨b, o, h1, h2⟩
  · exact .inl h
  · exact .inr ⟨b, o, h1, Nat.lt_of_lt_of_le h2.hb k.1, fun i hi => ⟨k.2 _ _ (h2.hc i hi).1, (h2.hc i hi).2.kc k⟩⟩
theorem grown_of {W W' : World} (h : Below W.heap.size W W') : W.grownBy W' none := ⟨h.os, h.tape, h.output, h.size, fun k hk _ => h.block k hk⟩
theorem abides_below {β : Type} {B : Nat} {J : β → World → Prop} (hJ : AbidesFrom B J) {s : β} {W W' : World} (h : J s W) (hb : Below W.heap.size W W') : J s W' := hJ s W W' none h (grown_of hb) fun r e => by cases e

theorem edges_in (n : Nat) (a : Option Addr) (N c : Nat) (w : World) :
    CallsIn Fence.wide n Try.prog 19 #[.slice a N c] w fun e w' => e = .returned (.func (.func 25) #[] #[.pointer (some ⟨w.heap.size, 0, none⟩)]) ∧ w' = w.alloc (.cells #[.slice a N c] 22) := by
  refine callsIn_of_wp Try.func19 rfl trivial ?_ rfl
  simp only [Try.ntmps19, List.size_toArray, List.length_cons, List.length_nil, Nat.reduceAdd, Nat.reduceSub, Array.replicate_succ, Array.replicate_zero, List.push_toArray, List.append_toArray, List.nil_append, List.cons_append]
  gi_wp2
  go_ret
  exact ⟨rfl, rfl⟩

def enc (x : P × P) : Array Value := #[.agg #[.int .i64 x.1.x, .int .i64 x.1.y, .int .i64 x.2.x, .int .i64 x.2.y]]
set_option maxRecDepth 100000 in
set_option maxHeartbeats 4000000 in
theorem edges1_in (n : Nat) (hn : 1 ≤ n) (l Bs Bn : Nat) (a : Option Addr) (N c : Nat) (L : Nat → Pg) (w0 : World) (S : Ll a N L w0) (hN : N ≤ 1000) (hT : tot L N ≤ 4000) (hBn : w0.heap.size ≤ Bn) (J Jx : List (P × P) → World → Prop) (W : World) (hBW : Bn < W.heap.size)
    (hK : Kc w0 W) (hBs : W.cell? ⟨Bs, 0, none⟩ = some (.slice a N c)) (hJ : AbidesFrom W.heap.size J)
    (hY : ∀ pre x W1, J pre W1 → pre.length < tot L N → YieldAt Fence.wide (n - 1) Try.prog l (enc x) W1 fun e W' =>
      (e = .returned (.bool true) ∧ J (pre ++ [x]) W' ∧ Kb Bn W1 W') ∨ (e = .returned (.bool false) ∧ Jx (pre ++ [x]) W')) (h0 : J [] W) :
    CallsIn Fence.wide n Try.prog 25 #[.func (.yield l) #[] #[], .pointer (some ⟨Bs, 0, none⟩)] W fun e W' => (∃ v, e = .returned v) ∧
      ((∃ ys, ys = le L N ∧ J ys W') ∨ (∃ pre, True ∧ Jx pre W')) := by
  refine callsIn_of_wp Try.func25 rfl trivial ?_ rfl
  simp only [Try.ntmps25, List.size_toArray, List.length_cons, List.length_nil, Nat.reduceAdd, Nat.reduceSub, Array.replicate_succ, Array.replicate_zero, List.push_toArray, List.append_toArray, List.nil_append, List.cons_append]
  gi_wp2
  gi_loopw [11] (fun i wr => ∃ j : Nat, j ≤ N ∧ i = .int .i64 j ∧ J (le L j) wr ∧ Kc w0 wr ∧ W.heap.size ≤ wr.heap.size) (fun i _ => N - (intOf i).toNat)
  case atStart => exact ⟨0, Nat.zero_le _, rfl, h0, hK, Nat.le_refl _⟩
  case round =>
    obtain ⟨j, hj, rfl, hJs, hKr, hsz⟩ := hrel
    by_cases hlt : j < N
    · rcases S.kc hKr with h0' | ⟨b, o, rfl, X⟩
      · omega
      · obtain ⟨x0, X1⟩ := X.hc j hlt
        have ht := tot_one L hlt
        have P0 : Pl (L j).a (L j).n (L j).f w0 := by
          rcases S with h | ⟨b', o', e, X'⟩
          · omega
          · exact (X'.hc j hlt).2
        gi_wp2
        have B0 := (Bx.new wr (.slice (L j).a (L j).n (L j).c) 33).c0
        have HB := below_alloc wr (.cells #[.slice (L j).a (L j).n (L j).c] 33)
        have J1 := abides_below hJ hJs HB
        have K1 := hKr.trans (.below HB)
        have Z1 := Nat.le_trans hsz HB.size
        have X2 := X1.next HB
        have hT4 : Bn < wr.heap.size := Nat.lt_of_lt_of_le hBW hsz
        clear x0 X X1 hJs hKr hsz HB
        generalize wr.alloc (.cells #[.slice (L j).a (L j).n (L j).c] 33) = wo at B0 J1 K1 Z1 X2 ⊢
        generalize wr.heap.size = T4 at B0 hT4 ⊢
        rcases P0 with hz | ⟨b2, o2, ea, Y0⟩
        · gi_loopw [21] (fun i wk => i = .int .i64 0 ∧ J (le L j) wk ∧ Kc w0 wk ∧ W.heap.size ≤ wk.heap.size) (fun _ _ => 0)
          case atStart => exact ⟨rfl, J1, K1, Z1⟩
          case round =>
            obtain ⟨rfl, hJs, hKr, hsz⟩ := hrel
            gi_wp2
            go_roundw
            case rel => exact ⟨j + 1, by omega, by go_num, by simp only [le]; rw [hz]; simpa [pe] using hJs, hKr, hsz⟩
            case measure => simp [intOf]; omega
        have Y := Y0.kc K1
        simp only [ea] at B0 ⊢
        gi_loopw [21] (fun i wk => ∃ m : Nat, m ≤ (L j).n ∧ i = .int .i64 m ∧ J (le L j ++ pe (L j) m) wk ∧ Kc w0 wk ∧ Px b2 o2 (L j).n (L j).f wk ∧ wk.cell? ⟨T4, 0, none⟩ = some (.slice (some ⟨b2, o2, none⟩) (L j).n (L j).c) ∧ W.heap.size ≤ wk.heap.size) (fun i _ => (L j).n - (intOf i).toNat)
        case atStart => exact ⟨0, Nat.zero_le _, rfl, by simpa [pe] using J1, K1, Y, B0, Z1⟩
        case round =>
          obtain ⟨m, hm, rfl, hJs, hKr, Y1, B1, hsz⟩ := hrel
          by_cases hlm : m < (L j).n
          · obtain ⟨y0, y1⟩ := Y1.hc m hlm
            obtain ⟨q, hq⟩ : ∃ q, (m + 1) % (L j).n = q := ⟨_, rfl⟩
            have hqn : q < (L j).n := by rw [← hq]; exact Nat.mod_lt _ (by omega)
            have hqi : ((m : Int) + 1) % (L j).n = q := by rw [← hq]; simp
            obtain ⟨z0, z1⟩ := Y1.hc q hqn
            have n4 : (L j).n ≤ 4000 := by omega
            have m0 : (0 : Int) ≤ m := by omega
            have m1 : (m : Int) < (L j).n := by omega
            have q0 : (0 : Int) ≤ q := by omega
            have q1 : (q : Int) < (L j).n := by omega
            have wm : IntKind.i64.wrap ((m : Int) + 1) = m + 1 := IntWalk.i64_in _ (by omega)
            have hmt : ((m : Int) + 1).tmod (L j).n = q := by rw [Int.tmod_eq_emod_of_nonneg (by omega)]; exact hqi
            have nz : ¬ (L j).n = 0 := by omega
            gi_wp2
            have HB := below_alloc wr (.cells #[.int .i64 ((L j).f m).x, .int .i64 ((L j).f m).y] 24)
            have AT := At.new wr ((L j).f m).x ((L j).f m).y
            have J2 := abides_below hJ hJs HB
            have K2 := hKr.trans (.below HB)
            have Y2 := Y1.next HB
            have B2 := (HB.cell (p := ⟨T4, 0, none⟩) (lt_of_cell B1)).trans B1
            have Z2 := Nat.le_trans hsz HB.size
            obtain ⟨z0, z1⟩ := Y2.hc q hqn
            clear y0 y1 hJs hKr Y1 B1 hsz HB
            generalize wr.alloc (.cells #[.int .i64 ((L j).f m).x, .int .i64 ((L j).f m).y] 24) = wa at AT J2 K2 Y2 B2 Z2 z0 z1 ⊢
            generalize wr.heap.size = T7 at AT ⊢
            have l4 : T4 < wa.heap.size := lt_of_cell B2
            have l2 : b2 < wa.heap.size := Y2.hb
            have l7 : T7 < wa.heap.size := AT.hZ
            gi_region
            have HB := (below_alloc wa (.cells #[.int .i64 ((L j).f q).x, .int .i64 ((L j).f q).y] 24)).drew
            have AT8 := (At.new wa ((L j).f q).x ((L j).f q).y).drew
            have J3 := abides_below hJ J2 HB
            have K3 := K2.trans (.below HB)
            have Y3 := Y2.next HB
            have B3 := (HB.cell (p := ⟨T4, 0, none⟩) (lt_of_cell B2)).trans B2
            have Z3 := Nat.le_trans Z2 HB.size
            have A3 := AT.next HB
            clear z0 z1 J2 K2 Y2 B2 Z2 AT HB l2 l4 l7
            generalize (wa.alloc (.cells #[.int .i64 ((L j).f q).x, .int .i64 ((L j).f q).y] 24)).drew = wb at AT8 J3 K3 Y3 B3 Z3 A3 ⊢
            generalize wa.heap.size = T8 at AT8 ⊢
            obtain ⟨rv, hrv⟩ : ∃ rv, decide ((L j).f m).Ok = rv := ⟨_, rfl⟩
            have c0 := A3.c0
            have c1 := A3.c1
            gi_wp2_with fail
            (refine ⟨trivial, ?_⟩; gi_at_call 18; refine (callsIn_wide.2 (valid_is hrv _)).mono ?_; rintro e wc ⟨rfl, HC⟩)
            have AT9 := AT8.next HC
            have J4 := abides_below hJ J3 HC
            have K4 := K3.trans (.below HC)
            have Y4 := Y3.next HC
            have B4 := (HC.cell (p := ⟨T4, 0, none⟩) (lt_of_cell B3)).trans B3
            have Z4 := Nat.le_trans Z3 HC.size
            have A4 := A3.next HC
            clear c0 c1 J3 K3 Y3 B3 Z3 A3 AT8 HC
            have c0 := A4.c0
            have c1 := A4.c1
            have d0 := AT9.c0
            have d1 := AT9.c1
            cases rv with
            | false =>
              have nv : ¬ (((L j).f m).Ok ∧ (nx (L j) m).Ok) := fun h => by simp only [decide_eq_false_iff_not] at hrv; exact hrv h.1
              gi_wp2
              repeat (refine ⟨by first | exact trivial | (intro _ h; cases h), ?_⟩; gi_wp2)
              go_roundw
              case rel => exact ⟨m + 1, by omega, by go_num, by simp only [pe]; rw [if_neg nv]; exact J4, K4, Y4, B4, Z4⟩
              case measure => simp [intOf]; omega
            | true =>
              obtain ⟨rq, hrq⟩ : ∃ rq, decide ((L j).f q).Ok = rq := ⟨_, rfl⟩
              gi_wp2_with fail
              (refine ⟨trivial, ?_⟩; gi_at_call 18; refine (callsIn_wide.2 (valid_is hrq _)).mono ?_; rintro e wd ⟨rfl, HC⟩)
              have AT10 := AT9.next HC
              have J5 := abides_below hJ J4 HC
              have K5 := K4.trans (.below HC)
              have Y5 := Y4.next HC
              have B5 := (HC.cell (p := ⟨T4, 0, none⟩) (lt_of_cell B4)).trans B4
              have Z5 := Nat.le_trans Z4 HC.size
              have A5 := A4.next HC
              clear c0 c1 d0 d1 J4 K4 Y4 B4 Z4 A4 AT9 HC
              have c0 := A5.c0
              have c1 := A5.c1
              have d0 := AT10.c0
              have d1 := AT10.c1
              have enx : nx (L j) m = (L j).f q := by unfold nx; rw [hq]
              cases rq with
              | false =>
                have nv : ¬ (((L j).f m).Ok ∧ (nx (L j) m).Ok) := fun h => by simp only [decide_eq_false_iff_not] at hrq; rw [enx] at h; exact hrq h.2
                gi_wp2
                repeat (refine ⟨by first | exact trivial | (intro _ h; cases h), ?_⟩; gi_wp2)
                go_roundw
                case rel => exact ⟨m + 1, by omega, by go_num, by simp only [pe]; rw [if_neg nv]; exact J5, K5, Y5, B5, Z5⟩
                case measure => simp [intOf]; omega
              | true =>
                have yv : ((L j).f m).Ok ∧ (nx (L j) m).Ok := by rw [enx]; exact ⟨by simpa using hrv, by simpa using hrq⟩
                have hlen : (le L j ++ pe (L j) m).length < tot L N := by
                  have := le_len L j
                  have := pe_len (L j) m
                  simp only [List.length_append]
                  omega
                obtain ⟨fn, tmps, assign, body, hy, hR⟩ := hY _ ((L j).f m, (L j).f q) wd J5 hlen
                dsimp only [enc] at hy
                gi_wp2
                refine hR.mono ?_
                rintro e W3 (⟨rfl, hJ3, hk3⟩ | ⟨rfl, hJx3⟩)
                · have KK : Kc w0 W3 := K5.kb hk3 hBn
                  have Y6 : Px b2 o2 (L j).n (L j).f W3 := Y0.kc KK
                  have B6 := hk3.2 ⟨T4, 0, none⟩ _ (by dsimp only; omega) B5
                  have Z6 := Nat.le_trans Z5 hk3.1
                  have J6 : J (le L j ++ pe (L j) (m + 1)) W3 := by
                    simp only [pe]
                    rw [if_pos yv, enx, ← List.append_assoc]
                    exact hJ3
                  gi_wp2
                  go_roundw
                  case rel => exact ⟨m + 1, by omega, by go_num, J6, KK, Y6, B6, Z6⟩
                  case measure => simp [intOf]; omega
                · gi_wp2
                  refine bodyPost_ret (results_none rfl _ _ _) rfl ?_
                  exact ⟨⟨_, rfl⟩, .inr ⟨_, trivial, hJx3⟩⟩
          · obtain rfl : m = (L j).n := by omega
            gi_wp2
            go_roundw
            case rel => exact ⟨j + 1, by omega, by go_num, by simp only [le]; exact hJs, hKr, hsz⟩
            case measure => simp [intOf]; omega
    · obtain rfl : j = N := by omega
      gi_wp2
      go_end0
      exact ⟨⟨_, rfl⟩, .inl ⟨_, rfl, hJs⟩⟩
end Go.Proofs.Ytffmmfeedfdlaaa
