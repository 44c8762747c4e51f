/- The contract of 'rafterlaw.PebbleSays' at what is no graph: true, given the contract of 'free'. Condition: the list's bytes are within a process's reach. -/
import Derived.Test.YtdbhpiofbkhbeaaEqb
import Derived.Test.YtdbhpiofbkhbeaaPlays
import Derived.Test.YtdbhpiofbkhbeaaOver
import Derived.Deep.RegionHeld3
namespace Go.Proofs.Ytdbhpiofbkhbeaa
open Go.RowKit
set_option linter.unusedSimpArgs false
set_option linter.unusedVariables false

/-- Two faults differ. -/
def diffF (a b c d : Int) : Bool := !(a == c && b == d)
theorem nes30 (a b c d : Int) (w : World) : (binOp .neq 30 (.agg #[.int .i64 a, .int .i64 b]) (.agg #[.int .i64 c, .int .i64 d])).run Try.prog w = .ok (.bool (diffF a b c d)) w := neq30 a b c d w
theorem diffF_self (a b : Int) : diffF a b a b = false := by simp [diffF]

theorem later {w w' : World} {o p : Obj} {q : Nat} (hq : w.heap[q]? = some p) (hb : Below w.heap.size w w') : (w'.alloc o).heap[q]? = some p := by
  have h1 : q < w.heap.size := (Array.getElem?_eq_some_iff.1 hq).1
  have h2 := (hb.block q h1).trans hq
  exact (Below.heap_alloc w' o q (Array.getElem?_eq_some_iff.1 h2).1).trans h2

theorem below_later {w0 w w' : World} (h : Below w0.heap.size w0 w) (hb : Below w.heap.size w w') (o : Obj) : Below w0.heap.size w0 (w'.alloc o) :=
  belowAlloc (h.trans (hb.mono h.size)) o

theorem owns_later {w w' : World} {base c : Nat} {A : Option Addr} {is : List (Int × Int)} (h : OwnsE w base A c is) (hb : Below w.heap.size w w') (o : Obj) : OwnsE (w'.alloc o) base A c is :=
  (h.below hb).alloc o

/-- The cells of four faults. -/
theorem four_at {w : World} {q3 q4 q5 q6 : Nat} {c0 a0 : Int} (h3 : w.heap[q3]? = some (.cells #[.int .i64 c0, .int .i64 a0] 30 (0, 0))) (h4 : w.heap[q4]? = some (.cells #[.int .i64 c0, .int .i64 a0] 30 (0, 0)))
    (h5 : w.heap[q5]? = some (.cells #[.int .i64 c0, .int .i64 a0] 30 (0, 0))) (h6 : w.heap[q6]? = some (.cells #[.int .i64 c0, .int .i64 a0] 30 (0, 0))) :
    (w.cell? ⟨q3, 0, none⟩ = some (.int .i64 c0) ∧ w.cell? ⟨q3, 1, none⟩ = some (.int .i64 a0)) ∧ (w.cell? ⟨q4, 0, none⟩ = some (.int .i64 c0) ∧ w.cell? ⟨q4, 1, none⟩ = some (.int .i64 a0)) ∧
      (w.cell? ⟨q5, 0, none⟩ = some (.int .i64 c0) ∧ w.cell? ⟨q5, 1, none⟩ = some (.int .i64 a0)) ∧ w.cell? ⟨q6, 0, none⟩ = some (.int .i64 c0) ∧ w.cell? ⟨q6, 1, none⟩ = some (.int .i64 a0) :=
  ⟨⟨(two_at h3).1, (two_at h3).2.1⟩, ⟨(two_at h4).1, (two_at h4).2.1⟩, ⟨(two_at h5).1, (two_at h5).2.1⟩, (two_at h6).1, (two_at h6).2.1⟩

set_option maxRecDepth 100000 in
set_option maxHeartbeats 4000000 in
theorem Says_no (hF : FreeSaid) (n : Int) (A : Option Addr) (cap : Nat) (is : List (Int × Int)) (w : World) (he : Edges w A is) (hcap : is.length ≤ cap) (hlen : is.length * 16 ≤ 140737488351232) (hc : checkE n is ≠ (0, 0)) :
    Calls Try.prog 5 #[.int .i64 n, .slice A is.length cap] w fun e w' => e = .returned (.bool true) ∧ Below w.heap.size w w' := by
  have HF := Lib.hid hF
  have HE := Lib.hid he
  have HC := Lib.hid hc
  obtain ⟨c0, a0, hca⟩ : ∃ c0 a0, checkE n is = (c0, a0) := ⟨_, _, rfl⟩
  have hc0 : (c0 != 0) = true := by
    have := check_code n is
    rw [hca] at this
    have h1 := this.resolve_left (by rw [hca] at hc; exact hc)
    simpa using h1
  have HCA := Lib.hid hca
  have HL63 := Lib.hid (show is.length ≤ 9223372036854775807 by omega)
  clear hF he hc hca
  obtain ⟨len, hl⟩ : ∃ len, is.length = len := ⟨_, rfl⟩
  rw [hl] at hcap hlen ⊢
  have HL := Lib.hid hl
  clear hl
  have q30 := nes30
  have hdf := diffF_self c0 a0
  go_enter Try.func5, Try.ntmps5
  go_wp2_with fail
  refine (plays_walk HF.out w).mono ?_
  rintro e w1 ⟨rfl, hb1⟩
  have HB1 := Lib.hid hb1
  clear hb1
  go_wp2_with fail
  have c13 := Lend_walk A cap is w1 (HE.out.below HB1.out) (by rw [HL.out]; exact hlen)
  rw [HL.out] at c13
  refine c13.mono ?_
  clear c13
  rintro e w2 ⟨b, c, rfl, hown, hb2⟩
  have HB2 := Lib.hid (HB1.out.trans (hb2.mono HB1.out.size))
  have HO2 := Lib.hid (hown.weaken HB1.out.size)
  clear hown hb2 HB1
  go_wp2_with fail
  have c14 := graph_any n A cap is w2 (HE.out.below HB2.out) (by rw [HL.out]; exact hcap) HL63.out
  rw [HL.out, HCA.out] at c14
  refine c14.mono ?_
  clear c14
  rintro e w3 ⟨rfl, hb3⟩
  have HB3 := Lib.hid (below_later HB2.out hb3 (.cells #[.int .i64 c0, .int .i64 a0] 30))
  have HO3 := Lib.hid (owns_later HO2.out hb3 (.cells #[.int .i64 c0, .int .i64 a0] 30))
  have K3 := Lib.hid (heap_alloc_new w3 (.cells #[.int .i64 c0, .int .i64 a0] 30))
  clear hb3 HB2 HO2
  simp only [faultV]
  go_upto_region 5 with (fail)
  generalize w3.alloc (.cells #[.int .i64 c0, .int .i64 a0] 30) = W3 at *
  generalize w3.heap.size = q3 at *
  go_wp2_with fail
  have c9 := Free_no n (some ⟨b, 0, none⟩) c is W3 HO3.out.edges.headPart HL63.out HC.out
  rw [HL.out, HCA.out] at c9
  refine c9.mono ?_
  clear c9
  rintro e w4 ⟨rfl, hb4⟩
  have HB4 := Lib.hid (below_later HB3.out hb4 (.cells #[.int .i64 c0, .int .i64 a0] 30))
  have HO4 := Lib.hid (owns_later HO3.out hb4 (.cells #[.int .i64 c0, .int .i64 a0] 30))
  have K34 := Lib.hid (later (o := .cells #[.int .i64 c0, .int .i64 a0] 30) K3.out hb4)
  have K4 := Lib.hid (heap_alloc_new w4 (.cells #[.int .i64 c0, .int .i64 a0] 30))
  clear hb4 HB3 HO3 K3
  simp only [faultV]
  go_upto_region 6 with (fail)
  generalize w4.alloc (.cells #[.int .i64 c0, .int .i64 a0] 30) = W4 at *
  generalize w4.heap.size = q4 at *
  go_wp2_with fail
  have c15 := Rigid_no n (some ⟨b, 0, none⟩) c is W4 HO4.out.edges.headPart HL63.out HC.out
  rw [HL.out, HCA.out] at c15
  refine c15.mono ?_
  clear c15
  rintro e w5 ⟨rfl, hb5⟩
  have HB5 := Lib.hid (below_later HB4.out hb5 (.cells #[.int .i64 c0, .int .i64 a0] 30))
  have HO5 := Lib.hid (owns_later HO4.out hb5 (.cells #[.int .i64 c0, .int .i64 a0] 30))
  have K35 := Lib.hid (later (o := .cells #[.int .i64 c0, .int .i64 a0] 30) K34.out hb5)
  have K45 := Lib.hid (later (o := .cells #[.int .i64 c0, .int .i64 a0] 30) K4.out hb5)
  have K5 := Lib.hid (heap_alloc_new w5 (.cells #[.int .i64 c0, .int .i64 a0] 30))
  clear hb5 HB4 HO4 K34 K4
  simp only [faultV]
  go_upto_region 7 with (fail)
  generalize w5.alloc (.cells #[.int .i64 c0, .int .i64 a0] 30) = W5 at *
  generalize w5.heap.size = q5 at *
  go_wp2_with fail
  have c16 := Over_no n (some ⟨b, 0, none⟩) c is W5 HO5.out.edges.headPart HL63.out HC.out
  rw [HL.out, HCA.out] at c16
  refine c16.mono ?_
  clear c16
  rintro e w6 ⟨rfl, hb6⟩
  have HB6 := Lib.hid (below_later HB5.out hb6 (.cells #[.int .i64 c0, .int .i64 a0] 30))
  have HO6 := Lib.hid (owns_later HO5.out hb6 (.cells #[.int .i64 c0, .int .i64 a0] 30))
  have K36 := Lib.hid (later (o := .cells #[.int .i64 c0, .int .i64 a0] 30) K35.out hb6)
  have K46 := Lib.hid (later (o := .cells #[.int .i64 c0, .int .i64 a0] 30) K45.out hb6)
  have K56 := Lib.hid (later (o := .cells #[.int .i64 c0, .int .i64 a0] 30) K5.out hb6)
  have K6 := Lib.hid (heap_alloc_new w6 (.cells #[.int .i64 c0, .int .i64 a0] 30))
  clear hb6 HB5 HO5 K35 K45 K5
  simp only [faultV]
  go_upto_region 8 with (fail)
  generalize w6.alloc (.cells #[.int .i64 c0, .int .i64 a0] 30) = W6 at *
  generalize w6.heap.size = q6 at *
  have K36' := Lib.hid (show W6.drew.heap[q3]? = some (.cells #[.int .i64 c0, .int .i64 a0] 30 (0, 0)) from K36.out)
  have K46' := Lib.hid (show W6.drew.heap[q4]? = some (.cells #[.int .i64 c0, .int .i64 a0] 30 (0, 0)) from K46.out)
  have K56' := Lib.hid (show W6.drew.heap[q5]? = some (.cells #[.int .i64 c0, .int .i64 a0] 30 (0, 0)) from K56.out)
  have K66' := Lib.hid (show W6.drew.heap[q6]? = some (.cells #[.int .i64 c0, .int .i64 a0] 30 (0, 0)) from K6.out)
  have HB7 := Lib.hid HB6.out.drew
  have HO7 := Lib.hid (HO6.out.keep (w' := W6.drew) (fun _ _ => rfl))
  clear K36 K46 K56 K6 HB6 HO6
  refine wp_region_held_drew (S := (fun w' => (w'.cell? ⟨q3, 0, none⟩ = some (.int .i64 c0) ∧ w'.cell? ⟨q3, 1, none⟩ = some (.int .i64 a0)) ∧ (w'.cell? ⟨q4, 0, none⟩ = some (.int .i64 c0) ∧ w'.cell? ⟨q4, 1, none⟩ = some (.int .i64 a0)) ∧ (w'.cell? ⟨q5, 0, none⟩ = some (.int .i64 c0) ∧ w'.cell? ⟨q5, 1, none⟩ = some (.int .i64 a0)) ∧ w'.cell? ⟨q6, 0, none⟩ = some (.int .i64 c0) ∧ w'.cell? ⟨q6, 1, none⟩ = some (.int .i64 a0))) (by kernel_rfl) (four_at K36'.out K46'.out K56'.out K66'.out) (fun hHeld => ?_)
  generalize W6.drew = W7 at *
  refine wpAnyH_take (i := 0) (oi := ⟨some 42, _, _, _, _, _⟩) (v := ?v0) rfl (by kernel_rfl) (by kernel_rfl) (by kernel_rfl) (fun _ _ _ h => h) (Or.inl ⟨by rfl, ?y0⟩) hHeld ?r0
  case y0 => (intro w hSw; (try dsimp only at hSw); go_simp; try with_reducible rfl)
  simp only [Act.put, List.setIfInBounds_toArray, List.set_cons_zero, List.set_cons_succ]
  refine wpAnyH_take (i := 1) (oi := ⟨some 43, _, _, _, _, _⟩) (v := ?v1) rfl (by kernel_rfl) (by kernel_rfl) (by kernel_rfl) (fun _ _ _ h => h) (Or.inl ⟨by rfl, ?y1⟩) hHeld ?r1
  case y1 => (intro w hSw; (try dsimp only at hSw); go_simp; try with_reducible rfl)
  simp only [Act.put, List.setIfInBounds_toArray, List.set_cons_zero, List.set_cons_succ]
  refine wpAnyH_take (i := 3) (oi := ⟨some 45, _, _, _, _, _⟩) (v := ?v3) rfl (by kernel_rfl) (by kernel_rfl) (by kernel_rfl) (fun _ _ _ h => h) (Or.inl ⟨by rfl, ?y3⟩) hHeld ?r3
  case y3 => (intro w hSw; (try dsimp only at hSw); go_simp; try with_reducible rfl)
  simp only [Act.put, List.setIfInBounds_toArray, List.set_cons_zero, List.set_cons_succ]
  refine wpAnyH_ready (rs := [2]) (by kernel_rfl) (by simp) ?_
  refine AllReadyH.cons rfl (fun K hK => ?_) AllReadyH.nil
  go_simp
  have c17 := check_any n (some ⟨b, 0, none⟩) c is W7 HO7.out.edges.headPart HL63.out
  rw [HL.out, HCA.out] at c17
  refine c17.mono ?_
  clear c17
  rintro e w8 ⟨rfl, hb8⟩
  have K38 := Lib.hid (show w8.heap[q3]? = some (.cells #[.int .i64 c0, .int .i64 a0] 30 (0, 0)) from (hb8.block _ (Array.getElem?_eq_some_iff.1 K36'.out).1).trans K36'.out)
  have K48 := Lib.hid (show w8.heap[q4]? = some (.cells #[.int .i64 c0, .int .i64 a0] 30 (0, 0)) from (hb8.block _ (Array.getElem?_eq_some_iff.1 K46'.out).1).trans K46'.out)
  have K58 := Lib.hid (show w8.heap[q5]? = some (.cells #[.int .i64 c0, .int .i64 a0] 30 (0, 0)) from (hb8.block _ (Array.getElem?_eq_some_iff.1 K56'.out).1).trans K56'.out)
  have K68 := Lib.hid (show w8.heap[q6]? = some (.cells #[.int .i64 c0, .int .i64 a0] 30 (0, 0)) from (hb8.block _ (Array.getElem?_eq_some_iff.1 K66'.out).1).trans K66'.out)
  have HB8 := Lib.hid (HB7.out.trans (hb8.mono HB7.out.size))
  have HO8 := Lib.hid (HO7.out.below hb8)
  clear hb8 K36' K46' K56' K66' HB7 HO7
  refine hK.out _ _ (four_at K38.out K48.out K58.out K68.out) (fun hHeld => ?_)
  clear hK K
  try simp only [Act.put, List.setIfInBounds_toArray, List.set_cons_zero, List.set_cons_succ]
  simp only [faultV]
  refine wpAnyH_take (i := 4) (oi := ⟨some 46, _, _, _, _, _⟩) (v := ?v4) rfl (by kernel_rfl) (by kernel_rfl) (by kernel_rfl) (fun _ _ _ h => h) (Or.inl ⟨by rfl, ?y4⟩) hHeld ?r4
  case y4 => (intro w hSw; (try dsimp only at hSw); go_simp; try with_reducible rfl)
  simp only [Act.put, List.setIfInBounds_toArray, List.set_cons_zero, List.set_cons_succ]
  refine wpAnyH_take (i := 5) (oi := ⟨some 47, _, _, _, _, _⟩) (v := ?v5) rfl (by kernel_rfl) (by kernel_rfl) (by kernel_rfl) (fun _ _ _ h => h) (Or.inl ⟨by rfl, ?y5⟩) hHeld ?r5
  case y5 => (intro w hSw; (try dsimp only at hSw); go_simp; try with_reducible rfl)
  simp only [Act.put, List.setIfInBounds_toArray, List.set_cons_zero, List.set_cons_succ]
  refine wpAnyH_take (i := 6) (oi := ⟨some 48, _, _, _, _, _⟩) (v := ?v6) rfl (by kernel_rfl) (by kernel_rfl) (by kernel_rfl) (fun _ _ _ h => h) (Or.inl ⟨by rfl, ?y6⟩) hHeld ?r6
  case y6 => (intro w hSw; (try dsimp only at hSw); go_simp; try with_reducible rfl)
  simp only [Act.put, List.setIfInBounds_toArray, List.set_cons_zero, List.set_cons_succ]
  refine wpAnyH_take (i := 7) (oi := ⟨some 49, _, _, _, _, _⟩) (v := ?v7) rfl (by kernel_rfl) (by kernel_rfl) (by kernel_rfl) (fun _ _ _ h => h) (Or.inl ⟨by rfl, ?y7⟩) hHeld ?r7
  case y7 => (intro w hSw; (try dsimp only at hSw); go_simp; try with_reducible rfl)
  simp only [Act.put, List.setIfInBounds_toArray, List.set_cons_zero, List.set_cons_succ]
  refine wpAnyH_take (i := 8) (oi := ⟨some 50, _, _, _, _, _⟩) (v := ?v8) rfl (by kernel_rfl) (by kernel_rfl) (by kernel_rfl) (fun _ _ _ h => h) (Or.inl ⟨by rfl, ?y8⟩) hHeld ?r8
  case y8 => (intro w hSw; (try dsimp only at hSw); go_simp; try with_reducible rfl)
  simp only [Act.put, List.setIfInBounds_toArray, List.set_cons_zero, List.set_cons_succ]
  refine wpAnyH_take (i := 9) (oi := ⟨some 51, _, _, _, _, _⟩) (v := ?v9) rfl (by kernel_rfl) (by kernel_rfl) (by kernel_rfl) (fun _ _ _ h => h) (Or.inl ⟨by rfl, ?y9⟩) hHeld ?r9
  case y9 => (intro w hSw; (try dsimp only at hSw); go_simp; try with_reducible rfl)
  simp only [Act.put, List.setIfInBounds_toArray, List.set_cons_zero, List.set_cons_succ]
  refine wpAnyH_take (i := 10) (oi := ⟨some 52, _, _, _, _, _⟩) (v := ?v10) rfl (by kernel_rfl) (by kernel_rfl) (by kernel_rfl) (fun _ _ _ h => h) (Or.inl ⟨by rfl, ?y10⟩) hHeld ?r10
  case y10 => (intro w hSw; (try dsimp only at hSw); go_simp; try with_reducible rfl)
  simp only [Act.put, List.setIfInBounds_toArray, List.set_cons_zero, List.set_cons_succ]
  refine wpAnyH_take (i := 11) (oi := ⟨some 53, _, _, _, _, _⟩) (v := ?v11) rfl (by kernel_rfl) (by kernel_rfl) (by kernel_rfl) (fun _ _ _ h => h) (Or.inl ⟨by rfl, ?y11⟩) hHeld ?r11
  case y11 => (intro w hSw; (try dsimp only at hSw); go_simp; try with_reducible rfl)
  simp only [Act.put, List.setIfInBounds_toArray, List.set_cons_zero, List.set_cons_succ]
  refine wpAnyH_take (i := 12) (oi := ⟨some 54, _, _, _, _, _⟩) (v := ?v12) rfl (by kernel_rfl) (by kernel_rfl) (by kernel_rfl) (fun _ _ _ h => h) (Or.inl ⟨by rfl, ?y12⟩) hHeld ?r12
  case y12 => (intro w hSw; (try dsimp only at hSw); go_simp; try with_reducible rfl)
  simp only [Act.put, List.setIfInBounds_toArray, List.set_cons_zero, List.set_cons_succ]
  refine wpAnyH_take (i := 13) (oi := ⟨some 55, _, _, _, _, _⟩) (v := ?v13) rfl (by kernel_rfl) (by kernel_rfl) (by kernel_rfl) (fun _ _ _ h => h) (Or.inl ⟨by rfl, ?y13⟩) hHeld ?r13
  case y13 => (intro w hSw; (try dsimp only at hSw); go_simp; try with_reducible rfl)
  simp only [Act.put, List.setIfInBounds_toArray, List.set_cons_zero, List.set_cons_succ]
  refine wpAnyH_take (i := 14) (oi := ⟨some 56, _, _, _, _, _⟩) (v := ?v14) rfl (by kernel_rfl) (by kernel_rfl) (by kernel_rfl) (fun _ _ _ h => h) (Or.inl ⟨by rfl, ?y14⟩) hHeld ?r14
  case y14 => (intro w hSw; (try dsimp only at hSw); go_simp; try with_reducible rfl)
  simp only [Act.put, List.setIfInBounds_toArray, List.set_cons_zero, List.set_cons_succ]
  refine wpAnyH_take (i := 15) (oi := ⟨some 57, _, _, _, _, _⟩) (v := ?v15) rfl (by kernel_rfl) (by kernel_rfl) (by kernel_rfl) (fun _ _ _ h => h) (Or.inl ⟨by rfl, ?y15⟩) hHeld ?r15
  case y15 => (intro w hSw; (try dsimp only at hSw); go_simp; try with_reducible rfl)
  simp only [Act.put, List.setIfInBounds_toArray, List.set_cons_zero, List.set_cons_succ]
  refine wpAnyH_take (i := 16) (oi := ⟨some 58, _, _, _, _, _⟩) (v := ?v16) rfl (by kernel_rfl) (by kernel_rfl) (by kernel_rfl) (fun _ _ _ h => h) (Or.inl ⟨by rfl, ?y16⟩) hHeld ?r16
  case y16 => (intro w hSw; (try dsimp only at hSw); go_simp; try with_reducible rfl)
  simp only [Act.put, List.setIfInBounds_toArray, List.set_cons_zero, List.set_cons_succ]
  refine wpAnyH_take (i := 17) (oi := ⟨some 59, _, _, _, _, _⟩) (v := ?v17) rfl (by kernel_rfl) (by kernel_rfl) (by kernel_rfl) (fun _ _ _ h => h) (Or.inl ⟨by rfl, ?y17⟩) hHeld ?r17
  case y17 => (intro w hSw; (try dsimp only at hSw); go_simp; try with_reducible rfl)
  simp only [Act.put, List.setIfInBounds_toArray, List.set_cons_zero, List.set_cons_succ]
  refine wpAnyH_take (i := 18) (oi := ⟨some 60, _, _, _, _, _⟩) (v := ?v18) rfl (by kernel_rfl) (by kernel_rfl) (by kernel_rfl) (fun _ _ _ h => h) (Or.inl ⟨by rfl, ?y18⟩) hHeld ?r18
  case y18 => (intro w hSw; (try dsimp only at hSw); go_simp; try with_reducible rfl)
  simp only [Act.put, List.setIfInBounds_toArray, List.set_cons_zero, List.set_cons_succ]
  refine wpAnyH_take (i := 19) (oi := ⟨some 61, _, _, _, _, _⟩) (v := ?v19) rfl (by kernel_rfl) (by kernel_rfl) (by kernel_rfl) (fun _ _ _ h => h) (Or.inl ⟨by rfl, ?y19⟩) hHeld ?r19
  case y19 => (intro w hSw; (try dsimp only at hSw); go_simp; try with_reducible rfl)
  simp only [Act.put, List.setIfInBounds_toArray, List.set_cons_zero, List.set_cons_succ]
  refine wpAnyH_take (i := 20) (oi := ⟨some 62, _, _, _, _, _⟩) (v := ?v20) rfl (by kernel_rfl) (by kernel_rfl) (by kernel_rfl) (fun _ _ _ h => h) (Or.inl ⟨by rfl, ?y20⟩) hHeld ?r20
  case y20 => (intro w hSw; (try dsimp only at hSw); go_simp; try with_reducible rfl)
  simp only [Act.put, List.setIfInBounds_toArray, List.set_cons_zero, List.set_cons_succ]
  refine wpAnyH_take (i := 21) (oi := ⟨some 63, _, _, _, _, _⟩) (v := ?v21) rfl (by kernel_rfl) (by kernel_rfl) (by kernel_rfl) (fun _ _ _ h => h) (Or.inl ⟨by rfl, ?y21⟩) hHeld ?r21
  case y21 => (intro w hSw; (try dsimp only at hSw); go_simp; try with_reducible rfl)
  simp only [Act.put, List.setIfInBounds_toArray, List.set_cons_zero, List.set_cons_succ]
  refine wpAnyH_take (i := 22) (oi := ⟨some 64, _, _, _, _, _⟩) (v := ?v22) rfl (by kernel_rfl) (by kernel_rfl) (by kernel_rfl) (fun _ _ _ h => h) (Or.inl ⟨by rfl, ?y22⟩) hHeld ?r22
  case y22 => (intro w hSw; (try dsimp only at hSw); go_simp; try with_reducible rfl)
  simp only [Act.put, List.setIfInBounds_toArray, List.set_cons_zero, List.set_cons_succ]
  refine wpAnyH_take (i := 23) (oi := ⟨some 65, _, _, _, _, _⟩) (v := ?v23) rfl (by kernel_rfl) (by kernel_rfl) (by kernel_rfl) (fun _ _ _ h => h) (Or.inl ⟨by rfl, ?y23⟩) hHeld ?r23
  case y23 => (intro w hSw; (try dsimp only at hSw); go_simp; try with_reducible rfl)
  simp only [Act.put, List.setIfInBounds_toArray, List.set_cons_zero, List.set_cons_succ]
  refine wpAnyH_ready (rs := [24]) (by kernel_rfl) (by simp) ?_
  refine AllReadyH.cons rfl (fun K hK => ?_) AllReadyH.nil
  go_simp
  have c18 := Still_walk b c A cap w.heap.size is w8 (HE.out.below HB8.out) HO8.out (by rw [HL.out]; exact hlen)
  rw [HL.out] at c18
  refine c18.mono ?_
  clear c18
  rintro e w9 ⟨rfl, hb9⟩
  have K39 := Lib.hid (show w9.heap[q3]? = some (.cells #[.int .i64 c0, .int .i64 a0] 30 (0, 0)) from (hb9.block _ (Array.getElem?_eq_some_iff.1 K38.out).1).trans K38.out)
  have K49 := Lib.hid (show w9.heap[q4]? = some (.cells #[.int .i64 c0, .int .i64 a0] 30 (0, 0)) from (hb9.block _ (Array.getElem?_eq_some_iff.1 K48.out).1).trans K48.out)
  have K59 := Lib.hid (show w9.heap[q5]? = some (.cells #[.int .i64 c0, .int .i64 a0] 30 (0, 0)) from (hb9.block _ (Array.getElem?_eq_some_iff.1 K58.out).1).trans K58.out)
  have K69 := Lib.hid (show w9.heap[q6]? = some (.cells #[.int .i64 c0, .int .i64 a0] 30 (0, 0)) from (hb9.block _ (Array.getElem?_eq_some_iff.1 K68.out).1).trans K68.out)
  have HB9 := Lib.hid (HB8.out.trans (hb9.mono HB8.out.size))
  clear hb9 K38 K48 K58 K68 HB8 HO8
  refine hK.out _ _ (four_at K39.out K49.out K59.out K69.out) (fun hHeld => ?_)
  clear hK K
  try simp only [Act.put, List.setIfInBounds_toArray, List.set_cons_zero, List.set_cons_succ]
  refine wpAnyH_take (i := 25) (oi := ⟨some 67, _, _, _, _, _⟩) (v := ?v25) rfl (by kernel_rfl) (by kernel_rfl) (by kernel_rfl) (fun _ _ _ h => h) (Or.inl ⟨by rfl, ?y25⟩) hHeld ?r25
  case y25 => (intro w hSw; (try dsimp only at hSw); go_simp; try with_reducible rfl)
  simp only [Act.put, List.setIfInBounds_toArray, List.set_cons_zero, List.set_cons_succ]
  refine wpAnyH_take (i := 26) (oi := ⟨some 68, _, _, _, _, _⟩) (v := ?v26) rfl (by kernel_rfl) (by kernel_rfl) (by kernel_rfl) (fun _ _ _ h => h) (Or.inl ⟨by rfl, ?y26⟩) hHeld ?r26
  case y26 => (intro w hSw; (try dsimp only at hSw); go_simp; try with_reducible rfl)
  simp only [Act.put, List.setIfInBounds_toArray, List.set_cons_zero, List.set_cons_succ]
  refine wpAnyH_done (by kernel_rfl) ?_ _
  obtain ⟨r30, r31, _, _⟩ := two_at K39.out
  clear hHeld
  go_wp2
  go_ret
  exact ⟨rfl, HB9.out⟩
end Go.Proofs.Ytdbhpiofbkhbeaa
