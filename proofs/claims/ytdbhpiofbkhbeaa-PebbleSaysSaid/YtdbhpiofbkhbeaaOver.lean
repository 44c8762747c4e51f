/- The contract of 'pebble.Over' at a graph, given that of 'free'. -/
import Derived.Test.YtdbhpiofbkhbeaaTop
namespace Go.Proofs.Ytdbhpiofbkhbeaa
open Go.RowKit
set_option linter.unusedSimpArgs false
set_option linter.unusedVariables false

/-- Of each edge whether as many are free without it. -/
noncomputable def overs (n : Int) (is : List (Int × Int)) : List Bool := (List.range is.length).map fun k => many (frees n is (k : Nat)) == many (frees n is (-1))

theorem overs_length (n : Int) (is : List (Int × Int)) : (overs n is).length = is.length := by simp [overs]
theorem overs_get (n : Int) (is : List (Int × Int)) (k : Nat) (h : k < is.length) : (overs n is).getD k false = (many (frees n is (k : Nat)) == many (frees n is (-1))) := by
  simp [overs, h]

/-- Behind j edges. -/
def OverRel (n : Int) (is : List (Int × Int)) (w : World) (q j : Nat) (wr : World) : Prop :=
  Cells wr q 4 is.length (boolsV fun i => decide (i < j) && (overs n is).getD i false) ∧ Below w.heap.size w wr ∧ wr.heap[w.heap.size]? = some (.cells #[.int .i64 0, .int .i64 0] 30 (0, 0))

set_option maxHeartbeats 2000000 in
theorem Over_yes (hF : FreeSaid) (n : Int) (A : Option Addr) (cap : Nat) (is : List (Int × Int)) (w : World) (he : Edges w A is) (hlen : is.length ≤ 9223372036854775807) (hc : checkE n is = (0, 0)) :
    Calls Try.prog 16 #[.int .i64 n, .slice A is.length cap] w fun e w' => ∃ b, e = .returned (.tuple #[.slice (some ⟨b, 0, none⟩) is.length is.length, faultV (0, 0)]) ∧ w.heap.size ≤ b ∧ Cells w' b 4 is.length (boolsV fun i => (overs n is).getD i false) ∧ Below w.heap.size w w' := by
  have HF := Lib.hid hF
  clear hF
  have HE := Lib.hid he
  clear he
  go_enter Try.func16, Try.ntmps16
  go_wp2_with fail
  refine (check_any n A cap is _ (HE.out.below (belowAlloc (Below.refl _ _) _)) hlen).mono ?_
  rintro e w1 ⟨rfl, hb1⟩
  have hrow := row_later hb1
  have hbw : Below w.heap.size w w1 := (belowAlloc (Below.refl _ _) _).trans (hb1.mono (by simp))
  have hlt := (Array.getElem?_eq_some_iff.1 hrow).1
  rw [hc]
  have HRES := Lib.hid hrow
  have hrow2 : (w1.alloc (.cells #[.int .i64 0, .int .i64 0] 30)).heap[w.heap.size]? = some (.cells #[.int .i64 0, .int .i64 0] 30 (0, 0)) := (Below.heap_alloc _ _ _ hlt).trans HRES.out
  have hbw2 := belowAlloc hbw (.cells #[.int .i64 0, .int .i64 0] 30)
  have HROW2 := Lib.hid hrow2
  have HB2 := Lib.hid hbw2
  have HC := Lib.hid hc
  clear hrow hrow2 hb1 hbw hbw2 hc
  simp only [faultV]
  go_wp2_with fail
  refine (free_ints HF.out n A cap is (-1) _ HC.out (HE.out.below HB2.out)).mono ?_
  rintro e w3 ⟨b, rfl, hbge, hcells, hb3⟩
  have hsz : w.heap.size < (w1.alloc (.cells #[.int .i64 0, .int .i64 0] 30)).heap.size := (Array.getElem?_eq_some_iff.1 HROW2.out).1
  have hrow3 := (hb3.block _ hsz).trans HROW2.out
  have HROW3 := Lib.hid hrow3
  have HB3 := Lib.hid (HB2.out.trans (hb3.mono (Nat.le_of_lt hsz)))
  have HCELLS := Lib.hid hcells
  obtain ⟨hn1, hn2, hl45, _, _⟩ := check_ok HC.out
  clear hcells hb3 hrow3 hbge
  go_wp2_with fail
  refine (count_cells (frees n is (-1)) is.length b _ _ (frees_length ..) hl45 HCELLS.out).mono ?_
  rintro e w4 ⟨rfl, rfl⟩
  obtain ⟨m, hm0⟩ : ∃ m, many (frees n is (-1)) = m := ⟨_, rfl⟩
  rw [hm0]
  have HM := Lib.hid hm0
  clear hm0
  have hmk := make28 is.length (by omega)
  go_upto_region 6 with (fail)
  have hq0 := blank_cells w3 (.bool false) 4 is.length
  have hlt3 : w.heap.size < w3.heap.size := (Array.getElem?_eq_some_iff.1 HROW3.out).1
  have hrel0 : OverRel n is w w3.heap.size 0 (w3.alloc (blank (.bool false) 4 is.length)) := ⟨hq0.congr fun i hi => by simp [boolsV], belowAlloc HB3.out _, (Below.heap_alloc _ _ _ hlt3).trans HROW3.out⟩
  have HREL0 := Lib.hid hrel0
  clear hrel0 hq0 hmk
  generalize w3.alloc (blank (.bool false) 4 is.length) = W4 at *
  generalize hqd : w3.heap.size = q at *
  clear hqd
  go_wp2
  go_loopw [26] (fun i wr => ∃ j : Nat, j ≤ is.length ∧ i = .int .i64 j ∧ OverRel n is w q j wr) (fun i _ => is.length - (intOf i).toNat)
  case atStart => exact ⟨0, by omega, rfl, HREL0.out⟩
  case round =>
    clear HREL0
    obtain ⟨j, hj, rfl, hrel⟩ := hrel
    have HREL := Lib.hid hrel
    clear hrel
    by_cases hltj : j < is.length
    · go_wp2_with fail
      refine (free_ints HF.out n A cap is (j : Nat) _ HC.out (HE.out.below HREL.out.2.1)).mono ?_
      rintro e w5 ⟨b5, rfl, hbge5, hcells5, hb5⟩
      have hq5 := HREL.out.1.keep (hb5.block _ HREL.out.1.lt)
      have hsz5 : w.heap.size < wr.heap.size := (Array.getElem?_eq_some_iff.1 HREL.out.2.2).1
      have hrow5 := (hb5.block _ hsz5).trans HREL.out.2.2
      have hbb5 := HREL.out.2.1.trans (hb5.mono (Nat.le_of_lt hsz5))
      have HQ5 := Lib.hid hq5
      have HROW5 := Lib.hid hrow5
      have HB5 := Lib.hid hbb5
      have HC5 := Lib.hid hcells5
      clear hq5 hrow5 hbb5 hcells5 hb5 hbge5
      go_wp2_with fail
      refine (count_cells (frees n is (j : Nat)) is.length b5 _ _ (frees_length ..) hl45 HC5.out).mono ?_
      rintro e w6 ⟨rfl, rfl⟩
      obtain ⟨mj, hmj⟩ : ∃ m, many (frees n is (j : Nat)) = m := ⟨_, rfl⟩
      rw [hmj]
      have HMJ := Lib.hid hmj
      clear hmj
      have d1 : w5.cell? ⟨q, j, none⟩ = some (.bool (decide (j < j) && (overs n is).getD j false)) := HQ5.out.cell hltj
      have d2 : w5.frozen? ⟨q, j, none⟩ = false := HQ5.out.frozen _
      have hX : OverRel n is w q (j + 1) (w5.setCell ⟨q, j, none⟩ (.bool ((mj : Int) == m))) := by
        have hqne : q ≠ w.heap.size := by omega
        refine ⟨(HQ5.out.set hltj _).congr fun i hi => ?_, HB5.out.setCell (p := ⟨q, j, none⟩) (Nat.le_of_lt hlt3) _, (Below.heap_setCell _ _ _ _ (Ne.symm hqne)).trans HROW5.out⟩
        unfold boolsV upd
        dsimp only
        by_cases e : i = j
        · subst e
          rw [if_pos rfl, overs_get n is i hi, HM.out, HMJ.out]
          have : decide (i < i + 1) = true := by simp
          rw [this, Bool.true_and]
          congr 1
          rw [Bool.eq_iff_iff, beq_iff_eq, beq_iff_eq]
          omega
        · rw [if_neg e]
          have : decide (i < j) = decide (i < j + 1) := by congr 1; exact propext ⟨fun h => by omega, fun h => by omega⟩
          rw [this]
      have HX := Lib.hid hX
      clear hX
      go_wp2
      go_roundw
      case rel => exact ⟨j + 1, by omega, by go_num, HX.out⟩
      case measure => simp [intOf]; omega
    · obtain ⟨hq, hb, hrow⟩ := HREL.out
      obtain ⟨r0, r1, f0, f1⟩ := two_at hrow
      have HB := Lib.hid hb
      have HQ := Lib.hid hq
      clear hq hb hrow
      obtain rfl : j = is.length := by omega
      go_wp2
      refine bodyPost_ret (v := .tuple #[.slice (some ⟨q, 0, none⟩) is.length is.length, .agg #[.int .i64 0, .int .i64 0]]) (by simp [results, Try.results16, go_sem, r0, r1]) rfl ⟨q, rfl, Nat.le_of_lt hlt3, ?_, ?_⟩
      · refine ((HQ.out.setOther (by simp; omega) _).setOther (by simp; omega) _).congr fun i hi => ?_
        unfold boolsV
        dsimp only
        rw [decide_eq_true hi, Bool.true_and]
      · exact (HB.out.setCell (Nat.le_refl _) _).setCell (Nat.le_refl _) _
end Go.Proofs.Ytdbhpiofbkhbeaa
