/- The walk of WireRoundTrips: the law returns true, and nothing that was in memory has changed. -/
import Derived.Test.YtfihncgeicogcaaTrips
namespace Go.Proofs.Ytfihncgeicogcaa
open Go.ChangeShapes Go.WideShapes Go.ChangeAt Go.RowKit

/-- The law's own copy of its argument stands in block B. -/
structure Frm (w w' : World) (f b t : ByteArray) (n k : Int) : Prop where
  c0 : w'.cell? ⟨w.heap.size, 0, none⟩ = some (.string f)
  c1 : w'.cell? ⟨w.heap.size, 1, none⟩ = some (.string b)
  c2 : w'.cell? ⟨w.heap.size, 2, none⟩ = some (.string t)
  c3 : w'.cell? ⟨w.heap.size, 3, none⟩ = some (.int .i64 n)
  c4 : w'.cell? ⟨w.heap.size, 4, none⟩ = some (.int .i64 k)
  hB : Below w.heap.size w w'
  hZ : w.heap.size < w'.heap.size
theorem Frm.next {w a c : World} {f b t : ByteArray} {n k : Int} (h : Frm w a f b t n k) (hb : Below a.heap.size a c) : Frm w c f b t n k :=
  ⟨(hb.cell (p := ⟨w.heap.size, 0, none⟩) h.hZ).trans h.c0, (hb.cell (p := ⟨w.heap.size, 1, none⟩) h.hZ).trans h.c1, (hb.cell (p := ⟨w.heap.size, 2, none⟩) h.hZ).trans h.c2,
    (hb.cell (p := ⟨w.heap.size, 3, none⟩) h.hZ).trans h.c3, (hb.cell (p := ⟨w.heap.size, 4, none⟩) h.hZ).trans h.c4, h.hB.trans (hb.mono h.hB.size), Nat.lt_of_lt_of_le h.hZ hb.size⟩
theorem Frm.new (w : World) (f b t : ByteArray) (n k : Int) : Frm w (w.alloc (.cells #[.string f, .string b, .string t, .int .i64 n, .int .i64 k] 39)) f b t n k :=
  ⟨cell_of_row _ _ _ _ _ _ (heap_alloc_new w _), cell_of_row _ _ _ _ _ _ (heap_alloc_new w _), cell_of_row _ _ _ _ _ _ (heap_alloc_new w _), cell_of_row _ _ _ _ _ _ (heap_alloc_new w _), cell_of_row _ _ _ _ _ _ (heap_alloc_new w _),
    (Below.refl _ _).alloc (Nat.le_refl _) _, by simp⟩

set_option maxRecDepth 1000000 in
set_option maxHeartbeats 2000000 in
theorem wireRoundTrips_walk (f b t : ByteArray) (n k : Int) (w : World) (wn : (Lit.int .i64 n).wf = true) :
    Calls Try.prog 10 #[.agg #[.string f, .string b, .string t, .int .i64 n, .int .i64 k]] w fun e w' => e = .returned (.bool true) ∧ Below w.heap.size w w' := by
  have bn := bounds_i64 wn
  clear wn
  have BN := Lib.hid bn
  clear bn
  by_cases hbig : (300 : Int) < f.size
  · have d1 : decide ((300 : Int) < f.size) = true := by simpa using hbig
    go_enter Try.func10, Try.ntmps10
    go_wp2_with (go_at_call 13; refine (awake_any _).mono ?_; rintro e w3 ⟨rfl, hb3⟩)
    go_ret
    exact ⟨rfl, ((Frm.new w f b t n k).next hb3).hB⟩
  · have d1 : decide ((300 : Int) < f.size) = false := by simpa using hbig
    by_cases hbig2 : (300 : Int) < b.size
    · have d2 : decide ((300 : Int) < b.size) = true := by simpa using hbig2
      go_enter Try.func10, Try.ntmps10
      go_wp2_with (go_at_call 13; refine (awake_any _).mono ?_; rintro e w3 ⟨rfl, hb3⟩)
      go_ret
      exact ⟨rfl, ((Frm.new w f b t n k).next hb3).hB⟩
    · have d2 : decide ((300 : Int) < b.size) = false := by simpa using hbig2
      by_cases hbig3 : (300 : Int) < t.size
      · have d3 : decide ((300 : Int) < t.size) = true := by simpa using hbig3
        go_enter Try.func10, Try.ntmps10
        go_wp2_with (go_at_call 13; refine (awake_any _).mono ?_; rintro e w3 ⟨rfl, hb3⟩)
        go_ret
        exact ⟨rfl, ((Frm.new w f b t n k).next hb3).hB⟩
      · have d3 : decide ((300 : Int) < t.size) = false := by simpa using hbig3
        have hf : f.size ≤ 300 := by omega
        have hbs : b.size ≤ 300 := by omega
        have hts : t.size ≤ 300 := by omega
        clear hbig hbig2 hbig3
        go_enter Try.func10, Try.ntmps10
        go_wp2_with fail
        refine (uint_all _ _ _ (by have := BN.out; omega)).mono ?_
        rintro e w1 ⟨s, c, rfl, hout, hb1⟩
        have F1 := (Frm.new w f b t n k).next hb1
        clear hb1
        go_upto_if 58 with fail
        go_cut [3] (fun s3 w' => s3 = .int .i64 (f.size : Nat) ∧ Frm w w' f b t n k)
        case first => as_aux_lemma =>
          rcases hout with ⟨m, j, rfl, rfl, j1, j8, hp, hm, rfl, rfl⟩ | hc
          · have HP := Lib.hid hp
            have HM := Lib.hid hm
            clear hp hm
            have c0 := F1.c0
            have c1 := F1.c1
            have c3 := F1.c3
            have c4 := F1.c4
            have hz := be_size m j
            go_wp2_with (go_at_call 19; refine (take_back _ _ _ _ _ j1 j8 HP.out HM.out hf hbs).mono ?_; rintro e w' ⟨rfl, rfl⟩)
            go_meet
            exact ⟨rfl, F1⟩
          · go_wp2_with fail
            go_meet
            exact ⟨rfl, F1⟩
        case rest =>
          obtain ⟨rfl, F2⟩ := hcut
          clear hout F1
          have c3 := F2.c3
          have c4 := F2.c4
          go_wp2_with fail
          refine (int_all _ _ _).mono ?_
          rintro e w3 ⟨s, c, rfl, hout, hb1⟩
          have F3 := F2.next hb1
          clear hb1 c3 c4 F2
          go_upto_if 99 with fail
          go_cut [3] (fun s3 w' => s3 = .int .i64 (f.size : Nat) ∧ Frm w w' f b t n k)
          case first => as_aux_lemma =>
            rcases hout with ⟨j, rfl, j1, j8, hg, rfl, rfl⟩ | hc
            · have HG := Lib.hid hg
              clear hg
              have c0 := F3.c0
              have c1 := F3.c1
              have c3 := F3.c3
              have c4 := F3.c4
              have hz := be_size (Go.Proofs.Ytfihncgeicogcaa.u64 n) j
              go_wp2_with (go_at_call 21; refine (takeInt_back _ _ _ _ _ j1 j8 HG.out BN.out.1 (by have := BN.out; omega) hf hbs).mono ?_; rintro e w' ⟨rfl, rfl⟩)
              go_meet
              exact ⟨rfl, F3⟩
            · go_wp2_with fail
              go_meet
              exact ⟨rfl, F3⟩
          case rest =>
            obtain ⟨rfl, F4⟩ := hcut
            clear hout F3
            have c2 := F4.c2
            go_wp2_with fail
            refine (text_ok _ _ (by omega)).mono ?_
            rintro e w5 ⟨rfl, hb5⟩
            have F5 := F4.next hb5
            clear hb5 F4 c2
            have c0 := F5.c0
            have c1 := F5.c1
            have c2 := F5.c2
            have c4 := F5.c4
            have htz := text_size t
            go_wp2_with fail
            refine (text_back _ _ _ _ hf hts hbs).mono ?_
            rintro e w' ⟨rfl, rfl⟩
            go_wp2_with fail
            refine (takeU_all _ _ _ hbs).mono ?_
            rintro e w' ⟨p, q, c, rfl, hout, rfl⟩
            go_upto_if 183 with fail
            go_cut [3, 19, 20, 21] (fun _ _ _ _ w' => Frm w w' f b t n k)
            case first => as_aux_lemma =>
              rcases hout with ⟨j, rfl, j1, j8, jb, rfl, hn, rfl, rfl⟩ | hc
              · have HU := Lib.hid (uint_again b j w5 j1 j8 jb hn)
                have hcb := cut_back b j
                have hjb : ((j : Nat) : Int) ≤ b.size := by omega
                clear hn
                obtain ⟨nn, hnn⟩ : ∃ x, x = numOf (sub b 0 j) := ⟨_, rfl⟩
                rw [← hnn] at HU ⊢
                clear hnn
                go_wp2_with (go_at_call 11; refine HU.out.mono ?_; rintro e w7 ⟨rfl, hb7⟩; have c17 := (F5.next hb7).c1; have c47 := (F5.next hb7).c4)
                go_meet
                exact F5.next hb7
              · go_wp2_with fail
                go_meet
                exact F5
            case rest =>
              clear hout F5
              have c1 := hcut.c1
              have c4 := hcut.c4
              go_wp2_with fail
              refine (takeI_all _ _ _ hbs).mono ?_
              rintro e w' ⟨p2, q2, d, rfl, hout, rfl⟩
              go_upto_if 222 with fail
              go_cut [3, 24, 25, 26] (fun _ _ _ _ w' => Frm w w' f b t n k)
              case first => as_aux_lemma =>
                rcases hout with ⟨j, rfl, j1, j8, jb, rfl, rfl, rfl⟩ | hc
                · have HU := Lib.hid (int_again b j wc j1 j8 jb)
                  have hcb := cut_back b j
                  have hjb : ((j : Nat) : Int) ≤ b.size := by omega
                  obtain ⟨nn, hnn⟩ : ∃ x, x = sg (numOf (sub b 0 j)) j := ⟨_, rfl⟩
                  rw [← hnn] at HU ⊢
                  clear hnn
                  go_wp2_with (go_at_call 15; refine HU.out.mono ?_; rintro e w7 ⟨rfl, hb7⟩; have c17 := (hcut.next hb7).c1; have c47 := (hcut.next hb7).c4)
                  go_meet
                  exact hcut.next hb7
                · go_wp2_with fail
                  go_meet
                  exact hcut
              case rest =>
                go_wp2_with (go_at_call 13; refine (awake_any _).mono ?_; rintro e w3 ⟨rfl, hb3⟩)
                go_ret
                exact ⟨rfl, (hcut.next hb3).hB⟩
end Go.Proofs.Ytfihncgeicogcaa
