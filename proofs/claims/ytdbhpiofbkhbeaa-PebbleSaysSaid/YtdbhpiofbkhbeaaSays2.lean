/- The contract of 'rafterlaw.PebbleSays' at every graph: true, given the contract of 'free'. Condition: the list's bytes are within a process's reach. -/
import Derived.Test.YtdbhpiofbkhbeaaSays
import Derived.Test.YtdbhpiofbkhbeaaTurns
import Derived.Laws.OwnMore
import Derived.OwnWalk
namespace Go.Proofs.Ytdbhpiofbkhbeaa
open Go.RowKit
set_option linter.unusedSimpArgs false
set_option linter.unusedVariables false

theorem cells_later {w w' : World} {b n : Nat} {t : TypeId} {f : Nat → Value} (h : Cells w b t n f) (hb : Below w.heap.size w w') : Cells w' b t n f := h.keep (hb.block _ h.lt)

/-- A slice of bools of the call's own, read. -/
theorem owns_bools {w : World} {base n : Nat} {v : Value} {l : List Bool} (h : w.ownsRow base 4 1 v n (l.map Value.bool)) (hl : l.length = n) : ∃ X c, v = .slice X n c ∧ BRd w X n l := by
  rcases h.2 with ⟨rfl, rfl⟩ | ⟨g, cap, cur, rfl, _⟩
  · exact ⟨none, 0, rfl, fun i hi => absurd hi (by omega)⟩
  · refine ⟨_, _, rfl, fun i hi => ⟨g, 0, rfl, ?_⟩⟩
    rw [Nat.zero_add, h.cellAt i (by omega), List.getElem?_map, List.getD_eq_getElem?_getD, List.getElem?_eq_getElem (by omega)]
    rfl

theorem news1b (w : World) (bb : Bool) : ∀ (j : Nat) (u : Value), [Value.bool bb][j]? = some u → (w.alloc (.cells #[.bool bb] 4)).cell? ((⟨w.heap.size, 0, none⟩ : Addr).add j) = some u := by
  intro j u hu
  have hj : j = 0 := by
    rcases j with _ | j
    · rfl
    · simp at hu
  subst hj
  have hadd : (⟨w.heap.size, 0, none⟩ : Addr).add 0 = ⟨w.heap.size, 0, none⟩ := by unfold Addr.add; split <;> simp_all
  have hn := heap_alloc_new w (.cells #[.bool bb] 4)
  rw [hadd]
  simp only [World.cell?]
  rw [hn]
  simpa using hu

theorem bools_snoc (l : List Bool) (j : Nat) (h : j < l.length) : (l.take (j + 1)).map Value.bool = (l.take j).map Value.bool ++ [.bool (l.getD j false)] := by
  rw [List.take_succ_eq_append_getElem h, List.map_append, List.getD_eq_getElem?_getD, List.getElem?_eq_getElem h]
  rfl

set_option maxRecDepth 100000 in
set_option maxHeartbeats 8000000 in
theorem Says_yes (hF : FreeSaid) (n : Int) (A : Option Addr) (cap : Nat) (is : List (Int × Int)) (w : World) (he : Edges w A is) (hcap : is.length ≤ cap) (hc : checkE n is = (0, 0)) :
    Calls Try.prog 5 #[.int .i64 n, .slice A is.length cap] w fun e w' => e = .returned (.bool true) ∧ Below w.heap.size w w' := by
  have HF := Lib.hid hF
  have HE := Lib.hid he
  have HC := Lib.hid hc
  obtain ⟨hn1, hn10, hl45, _, _⟩ := check_ok hc
  have hlen : is.length * 16 ≤ 140737488351232 := by omega
  have HL63 := Lib.hid (show is.length ≤ 9223372036854775807 by omega)
  have HFL := Lib.hid (frees_length n is (-1))
  have HOL := Lib.hid (overs_length n is)
  clear hF he hc
  obtain ⟨len, hl⟩ : ∃ len, is.length = len := ⟨_, rfl⟩
  rw [hl] at hcap hlen hl45 ⊢
  have HL := Lib.hid hl
  clear hl
  obtain ⟨m, hm0⟩ : ∃ m, many (frees n is (-1)) = m := ⟨_, rfl⟩
  have HM := Lib.hid hm0
  clear hm0
  have hml : m ≤ 45 := by
    have := many_le (frees n is (-1))
    rw [HM.out, HFL.out, HL.out] at this
    omega
  obtain ⟨bv, hbv⟩ : ∃ bv, ((m : Int) == max (2 * n - 3) 0) = bv := ⟨_, rfl⟩
  have HBV := Lib.hid hbv
  clear hbv
  have q30 := nes30
  have hdf := diffF_self 0 0
  go_enter Try.func5, Try.ntmps5
  go_wp2_with fail
  refine (plays_walk HF.out w).mono ?_
  rintro e w1 ⟨rfl, hb1⟩
  have HB1 := Lib.hid hb1
  clear hb1
  go_wp2_with fail
  have c13 := Lend_walk A cap is w1 (HE.out.below HB1.out) (by rw [HL.out]; exact hlen)
  rw [HL.out] at c13
  refine c13.mono ?_
  clear c13
  rintro e w2 ⟨b, c, rfl, hown, hb2⟩
  have HB2 := Lib.hid (HB1.out.trans (hb2.mono HB1.out.size))
  have HO2 := Lib.hid (hown.weaken HB1.out.size)
  clear hown hb2 HB1
  go_wp2_with fail
  have c14 := graph_any n A cap is w2 (HE.out.below HB2.out) (by rw [HL.out]; exact hcap) HL63.out
  rw [HL.out, HC.out] at c14
  refine c14.mono ?_
  clear c14
  rintro e w3 ⟨rfl, hb3⟩
  have HB3 := Lib.hid (below_later HB2.out hb3 (.cells #[.int .i64 0, .int .i64 0] 30))
  have HO3 := Lib.hid (owns_later HO2.out hb3 (.cells #[.int .i64 0, .int .i64 0] 30))
  have K3 := Lib.hid (heap_alloc_new w3 (.cells #[.int .i64 0, .int .i64 0] 30))
  clear hb3 HB2 HO2
  simp only [faultV]
  go_upto_region 5 with (fail)
  generalize w3.alloc (.cells #[.int .i64 0, .int .i64 0] 30) = W3 at *
  generalize w3.heap.size = q3 at *
  go_wp2_with fail
  have c9 := Free_yes HF.out n (some ⟨b, 0, none⟩) c is W3 HO3.out.edges.headPart HL63.out HC.out
  rw [HL.out] at c9
  refine c9.mono ?_
  clear c9
  rintro e w4 ⟨b7, rfl, _, hcl7, hb4⟩
  have HB4 := Lib.hid (below_later HB3.out hb4 (.cells #[.int .i64 0, .int .i64 0] 30))
  have HO4 := Lib.hid (owns_later HO3.out hb4 (.cells #[.int .i64 0, .int .i64 0] 30))
  have HC74 := Lib.hid (hcl7.alloc (.cells #[.int .i64 0, .int .i64 0] 30))
  have K34 := Lib.hid (later (o := (.cells #[.int .i64 0, .int .i64 0] 30)) K3.out hb4)
  have K4 := Lib.hid (heap_alloc_new w4 (.cells #[.int .i64 0, .int .i64 0] 30))
  clear hb4 HB3 HO3 K3 hcl7
  simp only [faultV]
  go_upto_region 6 with (fail)
  generalize w4.alloc (.cells #[.int .i64 0, .int .i64 0] 30) = W4 at *
  generalize w4.heap.size = q4 at *
  go_wp2_with fail
  have c15 := Rigid_yes HF.out n (some ⟨b, 0, none⟩) c is W4 HO4.out.edges.headPart HL63.out HC.out
  rw [HL.out, HM.out, HBV.out] at c15
  refine c15.mono ?_
  clear c15
  rintro e w5 ⟨rfl, hb5⟩
  have HB5 := Lib.hid (below_later HB4.out hb5 (.cells #[.int .i64 0, .int .i64 0] 30))
  have HO5 := Lib.hid (owns_later HO4.out hb5 (.cells #[.int .i64 0, .int .i64 0] 30))
  have HC75 := Lib.hid ((cells_later HC74.out hb5).alloc (.cells #[.int .i64 0, .int .i64 0] 30))
  have K35 := Lib.hid (later (o := (.cells #[.int .i64 0, .int .i64 0] 30)) K34.out hb5)
  have K45 := Lib.hid (later (o := (.cells #[.int .i64 0, .int .i64 0] 30)) K4.out hb5)
  have K5 := Lib.hid (heap_alloc_new w5 (.cells #[.int .i64 0, .int .i64 0] 30))
  clear hb5 HB4 HO4 K34 K4 HC74
  simp only [faultV]
  go_upto_region 7 with (fail)
  generalize w5.alloc (.cells #[.int .i64 0, .int .i64 0] 30) = W5 at *
  generalize w5.heap.size = q5 at *
  go_wp2_with fail
  have c16 := Over_yes HF.out n (some ⟨b, 0, none⟩) c is W5 HO5.out.edges.headPart HL63.out HC.out
  rw [HL.out] at c16
  refine c16.mono ?_
  clear c16
  rintro e w6 ⟨b11, rfl, _, hcl11, hb6⟩
  have HB6 := Lib.hid (below_later HB5.out hb6 (.cells #[.int .i64 0, .int .i64 0] 30))
  have HO6 := Lib.hid (owns_later HO5.out hb6 (.cells #[.int .i64 0, .int .i64 0] 30))
  have HC7 := Lib.hid (((cells_later HC75.out hb6).alloc (.cells #[.int .i64 0, .int .i64 0] 30)).drew)
  have HC11 := Lib.hid ((hcl11.alloc (.cells #[.int .i64 0, .int .i64 0] 30)).drew)
  have K36 := Lib.hid (later (o := (.cells #[.int .i64 0, .int .i64 0] 30)) K35.out hb6)
  have K46 := Lib.hid (later (o := (.cells #[.int .i64 0, .int .i64 0] 30)) K45.out hb6)
  have K56 := Lib.hid (later (o := (.cells #[.int .i64 0, .int .i64 0] 30)) K5.out hb6)
  have K6 := Lib.hid (heap_alloc_new w6 (.cells #[.int .i64 0, .int .i64 0] 30))
  clear hb6 HB5 HO5 K35 K45 K5 HC75 hcl11
  simp only [faultV]
  go_upto_region 8 with (fail)
  generalize w6.alloc (.cells #[.int .i64 0, .int .i64 0] 30) = W6 at *
  generalize w6.heap.size = q6 at *
  have K36' := Lib.hid (show W6.drew.heap[q3]? = some (.cells #[.int .i64 0, .int .i64 0] 30 (0, 0)) from K36.out)
  have K46' := Lib.hid (show W6.drew.heap[q4]? = some (.cells #[.int .i64 0, .int .i64 0] 30 (0, 0)) from K46.out)
  have K56' := Lib.hid (show W6.drew.heap[q5]? = some (.cells #[.int .i64 0, .int .i64 0] 30 (0, 0)) from K56.out)
  have K66' := Lib.hid (show W6.drew.heap[q6]? = some (.cells #[.int .i64 0, .int .i64 0] 30 (0, 0)) from K6.out)
  have HB7 := Lib.hid HB6.out.drew
  have HO7 := Lib.hid (HO6.out.keep (w' := W6.drew) (fun _ _ => rfl))
  clear K36 K46 K56 K6 HB6 HO6
  refine wp_region_held_drew (S := (fun w' => (w'.cell? ⟨q3, 0, none⟩ = some (.int .i64 0) ∧ w'.cell? ⟨q3, 1, none⟩ = some (.int .i64 0)) ∧ (w'.cell? ⟨q4, 0, none⟩ = some (.int .i64 0) ∧ w'.cell? ⟨q4, 1, none⟩ = some (.int .i64 0)) ∧ (w'.cell? ⟨q5, 0, none⟩ = some (.int .i64 0) ∧ w'.cell? ⟨q5, 1, none⟩ = some (.int .i64 0)) ∧ w'.cell? ⟨q6, 0, none⟩ = some (.int .i64 0) ∧ w'.cell? ⟨q6, 1, none⟩ = some (.int .i64 0))) (by kernel_rfl) (four_at K36'.out K46'.out K56'.out K66'.out) (fun hHeld => ?_)
  generalize W6.drew = W7 at *
  refine wpAnyH_take (i := 0) (oi := ⟨some 42, _, _, _, _, _⟩) (v := ?v0) rfl (by kernel_rfl) (by kernel_rfl) (by kernel_rfl) (fun _ _ _ h => h) (Or.inl ⟨by rfl, ?y0⟩) hHeld ?r0
  case y0 => (intro w hSw; (try dsimp only at hSw); go_simp; try with_reducible rfl)
  simp only [Act.put, List.setIfInBounds_toArray, List.set_cons_zero, List.set_cons_succ]
  refine wpAnyH_take (i := 1) (oi := ⟨some 43, _, _, _, _, _⟩) (v := ?v1) rfl (by kernel_rfl) (by kernel_rfl) (by kernel_rfl) (fun _ _ _ h => h) (Or.inl ⟨by rfl, ?y1⟩) hHeld ?r1
  case y1 => (intro w hSw; (try dsimp only at hSw); go_simp; try with_reducible rfl)
  simp only [Act.put, List.setIfInBounds_toArray, List.set_cons_zero, List.set_cons_succ]
  refine wpAnyH_take (i := 3) (oi := ⟨some 45, _, _, _, _, _⟩) (v := ?v3) rfl (by kernel_rfl) (by kernel_rfl) (by kernel_rfl) (fun _ _ _ h => h) (Or.inl ⟨by rfl, ?y3⟩) hHeld ?r3
  case y3 => (intro w hSw; (try dsimp only at hSw); go_simp; try with_reducible rfl)
  simp only [Act.put, List.setIfInBounds_toArray, List.set_cons_zero, List.set_cons_succ]
  refine wpAnyH_ready (rs := [2]) (by kernel_rfl) (by simp) ?_
  refine AllReadyH.cons rfl (fun K hK => ?_) AllReadyH.nil
  go_simp
  have c17 := check_any n (some ⟨b, 0, none⟩) c is W7 HO7.out.edges.headPart HL63.out
  rw [HL.out, HC.out] at c17
  refine c17.mono ?_
  clear c17
  rintro e w8 ⟨rfl, hb8⟩
  have K38 := Lib.hid (show w8.heap[q3]? = some (.cells #[.int .i64 0, .int .i64 0] 30 (0, 0)) from (hb8.block _ (Array.getElem?_eq_some_iff.1 K36'.out).1).trans K36'.out)
  have K48 := Lib.hid (show w8.heap[q4]? = some (.cells #[.int .i64 0, .int .i64 0] 30 (0, 0)) from (hb8.block _ (Array.getElem?_eq_some_iff.1 K46'.out).1).trans K46'.out)
  have K58 := Lib.hid (show w8.heap[q5]? = some (.cells #[.int .i64 0, .int .i64 0] 30 (0, 0)) from (hb8.block _ (Array.getElem?_eq_some_iff.1 K56'.out).1).trans K56'.out)
  have K68 := Lib.hid (show w8.heap[q6]? = some (.cells #[.int .i64 0, .int .i64 0] 30 (0, 0)) from (hb8.block _ (Array.getElem?_eq_some_iff.1 K66'.out).1).trans K66'.out)
  have HB8 := Lib.hid (HB7.out.trans (hb8.mono HB7.out.size))
  have HO8 := Lib.hid (HO7.out.below hb8)
  have HC78 := Lib.hid (cells_later HC7.out hb8)
  have HC118 := Lib.hid (cells_later HC11.out hb8)
  clear HC7 HC11
  clear hb8 K36' K46' K56' K66' HB7 HO7
  refine hK.out _ _ (four_at K38.out K48.out K58.out K68.out) (fun hHeld => ?_)
  clear hK K
  try simp only [Act.put, List.setIfInBounds_toArray, List.set_cons_zero, List.set_cons_succ]
  simp only [faultV]
  refine wpAnyH_take (i := 4) (oi := ⟨some 46, _, _, _, _, _⟩) (v := ?v4) rfl (by kernel_rfl) (by kernel_rfl) (by kernel_rfl) (fun _ _ _ h => h) (Or.inl ⟨by rfl, ?y4⟩) hHeld ?r4
  case y4 => (intro w hSw; (try dsimp only at hSw); go_simp; try with_reducible rfl)
  simp only [Act.put, List.setIfInBounds_toArray, List.set_cons_zero, List.set_cons_succ]
  refine wpAnyH_take (i := 5) (oi := ⟨some 47, _, _, _, _, _⟩) (v := ?v5) rfl (by kernel_rfl) (by kernel_rfl) (by kernel_rfl) (fun _ _ _ h => h) (Or.inl ⟨by rfl, ?y5⟩) hHeld ?r5
  case y5 => (intro w hSw; (try dsimp only at hSw); go_simp; try with_reducible rfl)
  simp only [Act.put, List.setIfInBounds_toArray, List.set_cons_zero, List.set_cons_succ]
  refine wpAnyH_take (i := 6) (oi := ⟨some 48, _, _, _, _, _⟩) (v := ?v6) rfl (by kernel_rfl) (by kernel_rfl) (by kernel_rfl) (fun _ _ _ h => h) (Or.inl ⟨by rfl, ?y6⟩) hHeld ?r6
  case y6 => (intro w hSw; (try dsimp only at hSw); go_simp; try with_reducible rfl)
  simp only [Act.put, List.setIfInBounds_toArray, List.set_cons_zero, List.set_cons_succ]
  refine wpAnyH_take (i := 7) (oi := ⟨some 49, _, _, _, _, _⟩) (v := ?v7) rfl (by kernel_rfl) (by kernel_rfl) (by kernel_rfl) (fun _ _ _ h => h) (Or.inl ⟨by rfl, ?y7⟩) hHeld ?r7
  case y7 => (intro w hSw; (try dsimp only at hSw); go_simp; try with_reducible rfl)
  simp only [Act.put, List.setIfInBounds_toArray, List.set_cons_zero, List.set_cons_succ]
  refine wpAnyH_take (i := 8) (oi := ⟨some 50, _, _, _, _, _⟩) (v := ?v8) rfl (by kernel_rfl) (by kernel_rfl) (by kernel_rfl) (fun _ _ _ h => h) (Or.inl ⟨by rfl, ?y8⟩) hHeld ?r8
  case y8 => (intro w hSw; (try dsimp only at hSw); go_simp; try with_reducible rfl)
  simp only [Act.put, List.setIfInBounds_toArray, List.set_cons_zero, List.set_cons_succ]
  refine wpAnyH_take (i := 9) (oi := ⟨some 51, _, _, _, _, _⟩) (v := ?v9) rfl (by kernel_rfl) (by kernel_rfl) (by kernel_rfl) (fun _ _ _ h => h) (Or.inl ⟨by rfl, ?y9⟩) hHeld ?r9
  case y9 => (intro w hSw; (try dsimp only at hSw); go_simp; try with_reducible rfl)
  simp only [Act.put, List.setIfInBounds_toArray, List.set_cons_zero, List.set_cons_succ]
  refine wpAnyH_take (i := 10) (oi := ⟨some 52, _, _, _, _, _⟩) (v := ?v10) rfl (by kernel_rfl) (by kernel_rfl) (by kernel_rfl) (fun _ _ _ h => h) (Or.inl ⟨by rfl, ?y10⟩) hHeld ?r10
  case y10 => (intro w hSw; (try dsimp only at hSw); go_simp; try with_reducible rfl)
  simp only [Act.put, List.setIfInBounds_toArray, List.set_cons_zero, List.set_cons_succ]
  refine wpAnyH_take (i := 11) (oi := ⟨some 53, _, _, _, _, _⟩) (v := ?v11) rfl (by kernel_rfl) (by kernel_rfl) (by kernel_rfl) (fun _ _ _ h => h) (Or.inl ⟨by rfl, ?y11⟩) hHeld ?r11
  case y11 => (intro w hSw; (try dsimp only at hSw); go_simp; try with_reducible rfl)
  simp only [Act.put, List.setIfInBounds_toArray, List.set_cons_zero, List.set_cons_succ]
  refine wpAnyH_take (i := 12) (oi := ⟨some 54, _, _, _, _, _⟩) (v := ?v12) rfl (by kernel_rfl) (by kernel_rfl) (by kernel_rfl) (fun _ _ _ h => h) (Or.inl ⟨by rfl, ?y12⟩) hHeld ?r12
  case y12 => (intro w hSw; (try dsimp only at hSw); go_simp; try with_reducible rfl)
  simp only [Act.put, List.setIfInBounds_toArray, List.set_cons_zero, List.set_cons_succ]
  refine wpAnyH_take (i := 13) (oi := ⟨some 55, _, _, _, _, _⟩) (v := ?v13) rfl (by kernel_rfl) (by kernel_rfl) (by kernel_rfl) (fun _ _ _ h => h) (Or.inl ⟨by rfl, ?y13⟩) hHeld ?r13
  case y13 => (intro w hSw; (try dsimp only at hSw); go_simp; try with_reducible rfl)
  simp only [Act.put, List.setIfInBounds_toArray, List.set_cons_zero, List.set_cons_succ]
  refine wpAnyH_take (i := 14) (oi := ⟨some 56, _, _, _, _, _⟩) (v := ?v14) rfl (by kernel_rfl) (by kernel_rfl) (by kernel_rfl) (fun _ _ _ h => h) (Or.inl ⟨by rfl, ?y14⟩) hHeld ?r14
  case y14 => (intro w hSw; (try dsimp only at hSw); go_simp; try with_reducible rfl)
  simp only [Act.put, List.setIfInBounds_toArray, List.set_cons_zero, List.set_cons_succ]
  refine wpAnyH_take (i := 15) (oi := ⟨some 57, _, _, _, _, _⟩) (v := ?v15) rfl (by kernel_rfl) (by kernel_rfl) (by kernel_rfl) (fun _ _ _ h => h) (Or.inl ⟨by rfl, ?y15⟩) hHeld ?r15
  case y15 => (intro w hSw; (try dsimp only at hSw); go_simp; try with_reducible rfl)
  simp only [Act.put, List.setIfInBounds_toArray, List.set_cons_zero, List.set_cons_succ]
  refine wpAnyH_take (i := 16) (oi := ⟨some 58, _, _, _, _, _⟩) (v := ?v16) rfl (by kernel_rfl) (by kernel_rfl) (by kernel_rfl) (fun _ _ _ h => h) (Or.inl ⟨by rfl, ?y16⟩) hHeld ?r16
  case y16 => (intro w hSw; (try dsimp only at hSw); go_simp; try with_reducible rfl)
  simp only [Act.put, List.setIfInBounds_toArray, List.set_cons_zero, List.set_cons_succ]
  refine wpAnyH_take (i := 17) (oi := ⟨some 59, _, _, _, _, _⟩) (v := ?v17) rfl (by kernel_rfl) (by kernel_rfl) (by kernel_rfl) (fun _ _ _ h => h) (Or.inl ⟨by rfl, ?y17⟩) hHeld ?r17
  case y17 => (intro w hSw; (try dsimp only at hSw); go_simp; try with_reducible rfl)
  simp only [Act.put, List.setIfInBounds_toArray, List.set_cons_zero, List.set_cons_succ]
  refine wpAnyH_take (i := 18) (oi := ⟨some 60, _, _, _, _, _⟩) (v := ?v18) rfl (by kernel_rfl) (by kernel_rfl) (by kernel_rfl) (fun _ _ _ h => h) (Or.inl ⟨by rfl, ?y18⟩) hHeld ?r18
  case y18 => (intro w hSw; (try dsimp only at hSw); go_simp; try with_reducible rfl)
  simp only [Act.put, List.setIfInBounds_toArray, List.set_cons_zero, List.set_cons_succ]
  refine wpAnyH_take (i := 19) (oi := ⟨some 61, _, _, _, _, _⟩) (v := ?v19) rfl (by kernel_rfl) (by kernel_rfl) (by kernel_rfl) (fun _ _ _ h => h) (Or.inl ⟨by rfl, ?y19⟩) hHeld ?r19
  case y19 => (intro w hSw; (try dsimp only at hSw); go_simp; try with_reducible rfl)
  simp only [Act.put, List.setIfInBounds_toArray, List.set_cons_zero, List.set_cons_succ]
  refine wpAnyH_take (i := 20) (oi := ⟨some 62, _, _, _, _, _⟩) (v := ?v20) rfl (by kernel_rfl) (by kernel_rfl) (by kernel_rfl) (fun _ _ _ h => h) (Or.inl ⟨by rfl, ?y20⟩) hHeld ?r20
  case y20 => (intro w hSw; (try dsimp only at hSw); go_simp; try with_reducible rfl)
  simp only [Act.put, List.setIfInBounds_toArray, List.set_cons_zero, List.set_cons_succ]
  refine wpAnyH_take (i := 21) (oi := ⟨some 63, _, _, _, _, _⟩) (v := ?v21) rfl (by kernel_rfl) (by kernel_rfl) (by kernel_rfl) (fun _ _ _ h => h) (Or.inl ⟨by rfl, ?y21⟩) hHeld ?r21
  case y21 => (intro w hSw; (try dsimp only at hSw); go_simp; try with_reducible rfl)
  simp only [Act.put, List.setIfInBounds_toArray, List.set_cons_zero, List.set_cons_succ]
  refine wpAnyH_take (i := 22) (oi := ⟨some 64, _, _, _, _, _⟩) (v := ?v22) rfl (by kernel_rfl) (by kernel_rfl) (by kernel_rfl) (fun _ _ _ h => h) (Or.inl ⟨by rfl, ?y22⟩) hHeld ?r22
  case y22 => (intro w hSw; (try dsimp only at hSw); go_simp; try with_reducible rfl)
  simp only [Act.put, List.setIfInBounds_toArray, List.set_cons_zero, List.set_cons_succ]
  refine wpAnyH_take (i := 23) (oi := ⟨some 65, _, _, _, _, _⟩) (v := ?v23) rfl (by kernel_rfl) (by kernel_rfl) (by kernel_rfl) (fun _ _ _ h => h) (Or.inl ⟨by rfl, ?y23⟩) hHeld ?r23
  case y23 => (intro w hSw; (try dsimp only at hSw); go_simp; try with_reducible rfl)
  simp only [Act.put, List.setIfInBounds_toArray, List.set_cons_zero, List.set_cons_succ]
  refine wpAnyH_ready (rs := [24]) (by kernel_rfl) (by simp) ?_
  refine AllReadyH.cons rfl (fun K hK => ?_) AllReadyH.nil
  go_simp
  have c18 := Still_walk b c A cap w.heap.size is w8 (HE.out.below HB8.out) HO8.out (by rw [HL.out]; exact hlen)
  rw [HL.out] at c18
  refine c18.mono ?_
  clear c18
  rintro e w9 ⟨rfl, hb9⟩
  have K39 := Lib.hid (show w9.heap[q3]? = some (.cells #[.int .i64 0, .int .i64 0] 30 (0, 0)) from (hb9.block _ (Array.getElem?_eq_some_iff.1 K38.out).1).trans K38.out)
  have K49 := Lib.hid (show w9.heap[q4]? = some (.cells #[.int .i64 0, .int .i64 0] 30 (0, 0)) from (hb9.block _ (Array.getElem?_eq_some_iff.1 K48.out).1).trans K48.out)
  have K59 := Lib.hid (show w9.heap[q5]? = some (.cells #[.int .i64 0, .int .i64 0] 30 (0, 0)) from (hb9.block _ (Array.getElem?_eq_some_iff.1 K58.out).1).trans K58.out)
  have K69 := Lib.hid (show w9.heap[q6]? = some (.cells #[.int .i64 0, .int .i64 0] 30 (0, 0)) from (hb9.block _ (Array.getElem?_eq_some_iff.1 K68.out).1).trans K68.out)
  have HB9 := Lib.hid (HB8.out.trans (hb9.mono HB8.out.size))
  have HC79 := Lib.hid (cells_later HC78.out hb9)
  have HC119 := Lib.hid (cells_later HC118.out hb9)
  clear HC78 HC118
  clear hb9 K38 K48 K58 K68 HB8 HO8
  refine hK.out _ _ (four_at K39.out K49.out K59.out K69.out) (fun hHeld => ?_)
  clear hK K
  try simp only [Act.put, List.setIfInBounds_toArray, List.set_cons_zero, List.set_cons_succ]
  refine wpAnyH_take (i := 25) (oi := ⟨some 67, _, _, _, _, _⟩) (v := ?v25) rfl (by kernel_rfl) (by kernel_rfl) (by kernel_rfl) (fun _ _ _ h => h) (Or.inl ⟨by rfl, ?y25⟩) hHeld ?r25
  case y25 => (intro w hSw; (try dsimp only at hSw); go_simp; try with_reducible rfl)
  simp only [Act.put, List.setIfInBounds_toArray, List.set_cons_zero, List.set_cons_succ]
  refine wpAnyH_take (i := 26) (oi := ⟨some 68, _, _, _, _, _⟩) (v := ?v26) rfl (by kernel_rfl) (by kernel_rfl) (by kernel_rfl) (fun _ _ _ h => h) (Or.inl ⟨by rfl, ?y26⟩) hHeld ?r26
  case y26 => (intro w hSw; (try dsimp only at hSw); go_simp; try with_reducible rfl)
  simp only [Act.put, List.setIfInBounds_toArray, List.set_cons_zero, List.set_cons_succ]
  refine wpAnyH_done (by kernel_rfl) ?_ _
  obtain ⟨r30, r31, _, _⟩ := two_at K39.out
  clear hHeld q30 hdf
  go_upto_region 12 with (fail)
  clear r30 r31 K39 K49 K59 K69
  go_wp2_with fail
  have c19 := FreeOf_ints n A cap is (-1) w9 HC.out (HE.out.below HB9.out)
  rw [HL.out] at c19
  refine c19.mono ?_
  clear c19
  rintro e w10 ⟨b13, rfl, _, hcl13, hb10⟩
  have HBA := Lib.hid (HB9.out.trans (hb10.mono HB9.out.size))
  have HC7A := Lib.hid (cells_later HC79.out hb10)
  have HC11A := Lib.hid (cells_later HC119.out hb10)
  have HC13 := Lib.hid hcl13
  clear hb10 HB9 HC79 HC119 hcl13
  by_cases h7 : 7 < n
  · have hbq : ((m : Int) == 2 * n - 3) = bv := by
      rw [← HBV.out]
      congr 1
      omega
    go_wp2_with fail
    refine (equalBools2 (frees n is (-1)) len len len (some ⟨b7, 0, none⟩) (some ⟨b13, 0, none⟩) w10 (by omega) HC7A.out.brd HC13.out.brd).mono ?_
    rintro e w11 ⟨rfl, k11, rfl⟩
    go_wp2_with fail
    refine (Many_cells (frees n is (-1)) len b13 _ _ (HFL.out.trans HL.out) hl45 (HC13.out.drewN k11)).mono ?_
    rintro e w12 ⟨rfl, rfl⟩
    rw [HM.out]
    go_wp2
    go_ret
    exact ⟨rfl, below_drewN HBA.out k11⟩
  · go_upto_region 16 with (fail)
    obtain ⟨B0, hB0⟩ : ∃ B0, w10.heap.size = B0 := ⟨_, rfl⟩
    have HB0 := Lib.hid hB0
    clear hB0
    obtain ⟨i0, hi0, hz0, hz1, hz2⟩ := info_parts info4
    have HI := Lib.hid hi0
    have HZ0 := Lib.hid hz0
    have HZ1 := Lib.hid hz1
    have HZ2 := Lib.hid hz2
    clear hi0 hz0 hz1 hz2
    go_wp2_with fail
    go_loopw [14, 111] (fun v i wr => ∃ j : Nat, j ≤ len ∧ i = .int .i64 j ∧ wr.ownsRow B0 4 1 v j (((overs n is).take j).map Value.bool) ∧ Below w10.heap.size w10 wr) (fun _ i _ => len - (intOf i).toNat)
    case atStart => exact ⟨0, by omega, rfl, World.ownsRow_nil _ _ _ _, Below.refl _ _⟩
    case round =>
      obtain ⟨j, hj, rfl, hown, hb⟩ := hrel
      obtain ⟨xs, hxs⟩ : ∃ xs, ((overs n is).take j).map Value.bool = xs := ⟨_, rfl⟩
      rw [hxs] at hown
      have HXS := Lib.hid hxs
      have HOWN := Lib.hid hown
      have HBR := Lib.hid hb
      clear hown hb hxs
      by_cases hlt : j < len
      · go_wp2_with fail
        have c19 := FreeOf_ints n A cap is (j : Nat) wr HC.out (HE.out.below (HBA.out.trans (HBR.out.mono HBA.out.size)))
        rw [HL.out] at c19
        refine c19.mono ?_
        clear c19
        rintro e w11 ⟨bj, rfl, _, hclj, hb11⟩
        have HBR2 := Lib.hid (HBR.out.trans (hb11.mono HBR.out.size))
        have HOWN2 := Lib.hid (HOWN.out.kept (w' := w11) (row := none) ⟨hb11.os, hb11.tape, hb11.output, hb11.size, fun k hk _ => hb11.block k hk⟩ (by cases Value.ownBlock _ <;> simp))
        have HCJ := Lib.hid hclj
        clear hclj hb11 HBR HOWN
        go_wp2_with fail
        refine (Many_cells (frees n is (j : Nat)) len bj _ _ ((frees_length ..).trans HL.out) hl45 HCJ.out).mono ?_
        rintro e w12 ⟨rfl, rfl⟩
        go_wp2_with fail
        refine (Many_cells (frees n is (-1)) len b13 _ _ (HFL.out.trans HL.out) hl45 (cells_later HC13.out HBR2.out)).mono ?_
        rintro e w13 ⟨rfl, rfl⟩
        rw [HM.out]
        obtain ⟨mj, hmj⟩ : ∃ mj, many (frees n is (j : Nat)) = mj := ⟨_, rfl⟩
        rw [hmj]
        have hov := overs_get n is j (by rw [HL.out]; exact hlt)
        rw [HM.out, hmj] at hov
        obtain ⟨bb, hbb⟩ : ∃ bb, (overs n is).getD j false = bb := ⟨_, rfl⟩
        rw [hbb] at hov
        have hq : ((mj : Int) == (m : Int)) = bb := by
          rw [hov, Bool.eq_iff_iff, beq_iff_eq, beq_iff_eq]
          omega
        have HSN := Lib.hid (show ((overs n is).take (j + 1)).map Value.bool = xs ++ [.bool bb] by rw [bools_snoc _ _ (by rw [HOL.out, HL.out]; exact hlt), hbb, HXS.out])
        have HBB := Lib.hid (show B0 ≤ w11.heap.size by rw [← HB0.out]; exact HBR2.out.size)
        clear hov hbb hmj
        go_wp2_with (at_builtin; refine wpList_append_own _ rfl _ _ 28 rfl B0 4 i0 (.bool false) 1 1 Try.underlying28 HI.out HZ0.out HZ1.out HZ2.out rfl (by decide) _ j _ rfl (HOWN2.out.alloc _) ⟨w11.heap.size, 0, none⟩ 1 1 [.bool bb] rfl rfl (news1b w11 bb) (by simp [Value.oneCell']) (by unfold maxLen; omega) (by omega) (by have := HBB.out; simp; omega) ?_; intro v14 w14 hown14 hg14 _)
        have HB14 := Lib.hid ((belowAlloc HBR2.out (.cells #[.bool bb] 4)).grown hg14 (by have := HBR2.out.size; simp; omega) (fun k e => by rw [HB0.out]; exact (HOWN2.out.lt k e).1))
        have HO14 := Lib.hid (show w14.ownsRow B0 4 1 v14 (j + 1) (((overs n is).take (j + 1)).map Value.bool) by rw [HSN.out]; exact hown14)
        clear hown14 hg14
        go_roundw
        case rel => exact ⟨j + 1, by omega, by go_num, HO14.out, HB14.out⟩
        case measure => simp [intOf]; omega
      · obtain rfl : len = j := by omega
        obtain ⟨X, cv, rfl, hrd⟩ := owns_bools (l := (overs n is).take len) (by rw [HXS.out]; exact HOWN.out) (by rw [List.length_take, HOL.out, HL.out]; omega)
        rw [List.take_of_length_le (by rw [HOL.out, HL.out]; exact Nat.le_refl _)] at hrd
        have HRD := Lib.hid hrd
        clear hrd
        have HC7B := Lib.hid (cells_later HC7A.out HBR.out)
        have HC13B := Lib.hid (cells_later HC13.out HBR.out)
        have HC11B := Lib.hid (cells_later HC11A.out HBR.out)
        have HBF := Lib.hid (HBA.out.trans (HBR.out.mono HBA.out.size))
        go_wp2_with fail
        refine (equalBools2 (frees n is (-1)) len len len (some ⟨b7, 0, none⟩) (some ⟨b13, 0, none⟩) wr (by omega) HC7B.out.brd HC13B.out.brd).mono ?_
        rintro e w11 ⟨rfl, k11, rfl⟩
        go_wp2_with fail
        refine (Many_cells (frees n is (-1)) len b13 _ _ (HFL.out.trans HL.out) hl45 (HC13B.out.drewN k11)).mono ?_
        rintro e w12 ⟨rfl, rfl⟩
        rw [HM.out]
        have hbq := HBV.out
        go_wp2_with fail
        refine (equalBools2 (overs n is) len len cv (some ⟨b11, 0, none⟩) X (wr.drewN k11) (by omega) (HC11B.out.drewN k11).brd (show BRd (wr.drewN k11) X len (overs n is) from HRD.out)).mono ?_
        rintro e w13 ⟨rfl, k13, rfl⟩
        clear hbq
        go_wp2
        go_ret
        exact ⟨rfl, below_drewN HBF.out _⟩
end Go.Proofs.Ytdbhpiofbkhbeaa
