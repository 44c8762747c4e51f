/- The contract of 'rafterlaw.plays': true, given the contract of 'free'. -/
import Derived.Test.YtdbhpiofbkhbeaaRowE
namespace Go.Proofs.Ytdbhpiofbkhbeaa
open Go.RowKit
set_option linter.unusedSimpArgs false
set_option linter.unusedVariables false

def sq : List (Int × Int) := [(0, 1), (1, 2), (2, 3), (3, 0)]

theorem sq_sparse : Sparse 4 (toN sq) := (sparse_iff (by unfold Good; decide)).2 (by decide)
theorem sq5_sparse : Sparse 4 (toN (sq ++ [(0, 2)])) := (sparse_iff (by unfold Good; decide)).2 (by decide)
theorem sq6_not : ¬ Sparse 4 (toN (sq ++ [(0, 2), (1, 3)])) := fun h => by
  have := h (fun _ => true) (by decide)
  revert this
  decide

theorem sq_many : many (frees 4 sq (-1)) = 4 := by
  unfold frees
  rw [show ((4 : Int).toNat) = 4 from rfl, greedy_all 4 (toN sq) [] 0 ((List.nil_append _).symm ▸ sq_sparse)]
  rfl
theorem sq5_many : many (frees 4 (sq ++ [(0, 2)]) (-1)) = 5 := by
  unfold frees
  rw [show ((4 : Int).toNat) = 4 from rfl, greedy_all 4 (toN (sq ++ [(0, 2)])) [] 0 ((List.nil_append _).symm ▸ sq5_sparse)]
  rfl

theorem greedy_app (n : Nat) : ∀ (a b kept : Es) (i : Nat), Sparse n (kept ++ a) → greedy n (-1) i kept (a ++ b) = List.replicate a.length true ++ greedy n (-1) (i + a.length) (kept ++ a) b
  | [], b, kept, i, _ => by simp
  | e :: a, b, kept, i, h => by
    have h' : Sparse n (kept ++ [e] ++ a) := by simpa using h
    have ih := greedy_app n a b (kept ++ [e]) (i + 1) h'
    have e1 : kept ++ [e] ++ a = kept ++ e :: a := by simp
    have e2 : i + 1 + a.length = i + (e :: a).length := by simp; omega
    rw [List.cons_append]
    conv => lhs; unfold greedy
    rw [if_neg (by omega)]
    simp only [if_pos h'.of_append, List.length_cons, List.replicate_succ, List.cons_append]
    rw [ih, e1, e2]
    rfl

theorem sq6_frees : frees 4 (sq ++ [(0, 2), (1, 3)]) (-1) = [true, true, true, true, true, false] := by
  unfold frees
  have h := greedy_app 4 (toN (sq ++ [(0, 2)])) (toN [(1, 3)]) [] 0 ((List.nil_append _).symm ▸ sq5_sparse)
  have e : toN (sq ++ [(0, 2), (1, 3)]) = toN (sq ++ [(0, 2)]) ++ toN [(1, 3)] := rfl
  rw [show ((4 : Int).toNat) = 4 from rfl, e, h]
  have h6 : greedy 4 (-1) (0 + (toN (sq ++ [(0, 2)])).length) ([] ++ toN (sq ++ [(0, 2)])) (toN [(1, 3)]) = [false] := by
    show greedy 4 (-1) (0 + (toN (sq ++ [(0, 2)])).length) (toN (sq ++ [(0, 2)])) [(1, 3)] = [false]
    have h' : ¬ Sparse 4 (toN (sq ++ [(0, 2)]) ++ [(1, 3)]) := sq6_not
    unfold greedy
    rw [if_neg (by omega), if_neg h']
    rfl
  rw [h6]
  rfl

set_option maxHeartbeats 2000000 in
theorem plays_walk (hF : FreeSaid) (w : World) : Calls Try.prog 8 #[] w fun e w' => e = .returned (.bool true) ∧ Below w.heap.size w w' := by
  have HF := Lib.hid hF
  clear hF
  go_enter Try.func8, Try.ntmps8
  go_wp2_with fail
  have hown0 : OwnsE (w.alloc (.cells #[.int .i64 0, .int .i64 1, .int .i64 1, .int .i64 2, .int .i64 2, .int .i64 3, .int .i64 3, .int .i64 0] 34)) w.heap.size (some ⟨w.heap.size, 0, none⟩) 4 sq :=
    .inr ⟨_, _, rfl, Nat.le_refl _, heap_alloc_new w _, by decide, by decide, rfl⟩
  have hb0 := belowAlloc (Below.refl w.heap.size w) (.cells #[.int .i64 0, .int .i64 1, .int .i64 1, .int .i64 2, .int .i64 2, .int .i64 3, .int .i64 3, .int .i64 0] 34)
  have hsz0 : w.heap.size < (w.alloc (.cells #[.int .i64 0, .int .i64 1, .int .i64 1, .int .i64 2, .int .i64 2, .int .i64 3, .int .i64 3, .int .i64 0] 34)).heap.size := by simp
  generalize w.alloc (.cells #[.int .i64 0, .int .i64 1, .int .i64 1, .int .i64 2, .int .i64 2, .int .i64 3, .int .i64 3, .int .i64 0] 34) = W0 at *
  refine (Rigid_yes HF.out 4 _ 4 sq W0 hown0.edges (by decide) (by decide)).mono ?_
  rintro e w1 ⟨rfl, hb1⟩
  rw [sq_many]
  have hown1 := hown0.below hb1
  have hbb1 := hb0.trans (hb1.mono (Nat.le_of_lt hsz0))
  have hsz1 : w.heap.size < w1.heap.size := Nat.lt_of_lt_of_le hsz0 hb1.size
  have HO1 := Lib.hid (hown1.alloc (.cells #[.int .i64 0, .int .i64 0] 30))
  have HB1 := Lib.hid (belowAlloc hbb1 (.cells #[.int .i64 0, .int .i64 0] 30))
  have hsz1' : w.heap.size < (w1.alloc (.cells #[.int .i64 0, .int .i64 0] 30)).heap.size := by simp; omega
  clear hown0 hb0 hsz0 hb1 hown1 hbb1
  simp only [faultV]
  have hf1 : (((4 : Nat) : Int) == max (2 * 4 - 3) 0) = false := by decide
  rw [hf1]
  go_upto_region 3 with (fail)
  have k30 : (w1.alloc (.cells #[.int .i64 0, .int .i64 0] 30)).heap[w1.heap.size]? = some (.cells #[.int .i64 0, .int .i64 0] 30 (0, 0)) := heap_alloc_new w1 _
  have K30 := Lib.hid k30
  clear k30 hsz1
  generalize w1.alloc (.cells #[.int .i64 0, .int .i64 0] 30) = W2 at *
  generalize w1.heap.size = q1 at *
  go_wp2_with (at_builtin; refine wpList_append27 _ rfl _ _ rfl w.heap.size (some ⟨w.heap.size, 0, none⟩) 4 sq 4 rfl rfl ((HO1.out.full).alloc _) ⟨W2.heap.size, 0, none⟩ 1 1 [(0, 2)] rfl rfl (by decide) (news27 W2 [(0, 2)] _ rfl) (by decide) (by simp; omega) ?_; intro A2 c2 w3 hown3 hg3 hA3)
  have hg3' := (hA3.resolve_left (fun h => absurd h.2 (by decide))).2
  have hO3 : OwnsE w3 w.heap.size (some ⟨w.heap.size, 0, none⟩) 4 sq := (HO1.out.alloc (.cells #[.int .i64 0, .int .i64 2] 34)).keep fun k e => hg3'.block k (((HO1.out.alloc (.cells #[.int .i64 0, .int .i64 2] 34)).lt e).2) (by simp)
  have hb3 := (belowAlloc HB1.out (.cells #[.int .i64 0, .int .i64 2] 34)).grown hg3' (by simp; omega) (fun k e => by cases e)
  have hsz3 : w.heap.size < w3.heap.size := by have := hg3'.size; simp at this; omega
  have k3 : w3.heap[q1]? = some (.cells #[.int .i64 0, .int .i64 0] 30 (0, 0)) := by
    have hq : q1 < W2.heap.size := (Array.getElem?_eq_some_iff.1 K30.out).1
    rw [hg3'.block q1 (by simp; omega) (by simp), Below.heap_alloc _ _ _ hq]
    exact K30.out
  refine (Rigid_yes HF.out 4 _ _ (sq ++ [(0, 2)]) w3 hown3.edges (by decide) (by decide)).mono ?_
  rintro e w4 ⟨rfl, hb4⟩
  rw [sq5_many]
  have HO4 := Lib.hid ((hO3.below hb4).alloc (.cells #[.int .i64 0, .int .i64 0] 30))
  have HB4 := Lib.hid (belowAlloc (hb3.trans (hb4.mono (Nat.le_of_lt hsz3))) (.cells #[.int .i64 0, .int .i64 0] 30))
  have hsz4 : w.heap.size < (w4.alloc (.cells #[.int .i64 0, .int .i64 0] 30)).heap.size := by have := hb4.size; simp; omega
  have hq3 : q1 < w3.heap.size := (Array.getElem?_eq_some_iff.1 k3).1
  have k4 : (w4.alloc (.cells #[.int .i64 0, .int .i64 0] 30)).heap[q1]? = some (.cells #[.int .i64 0, .int .i64 0] 30 (0, 0)) := (Below.heap_alloc _ _ _ (Nat.lt_of_lt_of_le hq3 hb4.size)).trans ((hb4.block q1 hq3).trans k3)
  have k4' : (w4.alloc (.cells #[.int .i64 0, .int .i64 0] 30)).heap[w4.heap.size]? = some (.cells #[.int .i64 0, .int .i64 0] 30 (0, 0)) := heap_alloc_new w4 _
  have K4 := Lib.hid k4
  have K4' := Lib.hid k4'
  clear hown3 hg3 hA3 hg3' hO3 hb3 hsz3 k3 hb4 hq3 k4 k4' hf1 hsz1'
  simp only [faultV]
  have hf2 : (((5 : Nat) : Int) == max (2 * 4 - 3) 0) = true := by decide
  rw [hf2]
  go_upto_region 4 with (fail)
  clear hf2
  generalize w4.alloc (.cells #[.int .i64 0, .int .i64 0] 30) = W5 at *
  generalize w4.heap.size = q2 at *
  go_wp2_with (at_builtin; refine wpList_append27 _ rfl _ _ rfl w.heap.size (some ⟨w.heap.size, 0, none⟩) 4 sq 4 rfl rfl ((HO4.out.full).alloc _) ⟨W5.heap.size, 0, none⟩ 2 2 [(0, 2), (1, 3)] rfl rfl (by decide) (news27 W5 [(0, 2), (1, 3)] _ rfl) (by decide) (by simp; omega) ?_; intro A6 c6 w6 hown6 hg6 hA6)
  have hg6' := (hA6.resolve_left (fun h => absurd h.2 (by decide))).2
  have hb6 := (belowAlloc HB4.out (.cells #[.int .i64 0, .int .i64 2, .int .i64 1, .int .i64 3] 34)).grown hg6' (by simp; omega) (fun k e => by cases e)
  have hsz6 : w.heap.size < w6.heap.size := by have := hg6'.size; simp at this; omega
  have keep6 : ∀ q, W5.heap[q]? = some (Obj.cells #[Value.int .i64 0, Value.int .i64 0] 30 (0, 0)) → w6.heap[q]? = some (Obj.cells #[Value.int .i64 0, Value.int .i64 0] 30 (0, 0)) := fun q hq => by
    have hlt : q < W5.heap.size := (Array.getElem?_eq_some_iff.1 hq).1
    rw [hg6'.block q (by simp; omega) (by simp), Below.heap_alloc _ _ _ hlt]
    exact hq
  refine (Free_yes HF.out 4 _ _ (sq ++ [(0, 2), (1, 3)]) w6 hown6.edges (by decide) (by decide)).mono ?_
  rintro e w7 ⟨b7, rfl, hb7ge, hc7, hb7⟩
  have keep7 : ∀ q, W5.heap[q]? = some (Obj.cells #[Value.int .i64 0, Value.int .i64 0] 30 (0, 0)) → w7.heap[q]? = some (Obj.cells #[Value.int .i64 0, Value.int .i64 0] 30 (0, 0)) := fun q hq => by
    have h6 := keep6 q hq
    rw [hb7.block q (Array.getElem?_eq_some_iff.1 h6).1]
    exact h6
  have k7 := keep7 q1 K4.out
  have k7' := keep7 q2 K4'.out
  have HB7 := Lib.hid (hb6.trans (hb7.mono (Nat.le_of_lt hsz6)))
  rw [sq6_frees] at hc7
  have HC7 := Lib.hid hc7
  have hlt7 : q1 < w7.heap.size := (Array.getElem?_eq_some_iff.1 k7).1
  have hlt7' : q2 < w7.heap.size := (Array.getElem?_eq_some_iff.1 k7').1
  have K7 := Lib.hid k7
  have K7' := Lib.hid k7'
  clear hown6 hg6 hA6 hg6' hb6 hsz6 keep6 keep7 hb7 hc7 k7 k7' hb7ge
  simp only [faultV]
  go_upto_region 5 with (fail)
  have HC8 := Lib.hid (HC7.out.alloc (.cells #[.int .i64 0, .int .i64 0] 30))
  have HB8 := Lib.hid (belowAlloc HB7.out (.cells #[.int .i64 0, .int .i64 0] 30))
  have h8 : (w7.alloc (.cells #[.int .i64 0, .int .i64 0] 30)).heap[q1]? = some (.cells #[.int .i64 0, .int .i64 0] 30 (0, 0)) := (Below.heap_alloc _ _ _ hlt7).trans K7.out
  have h8' : (w7.alloc (.cells #[.int .i64 0, .int .i64 0] 30)).heap[q2]? = some (.cells #[.int .i64 0, .int .i64 0] 30 (0, 0)) := (Below.heap_alloc _ _ _ hlt7').trans K7'.out
  have h8'' : (w7.alloc (.cells #[.int .i64 0, .int .i64 0] 30)).heap[w7.heap.size]? = some (.cells #[.int .i64 0, .int .i64 0] 30 (0, 0)) := heap_alloc_new w7 _
  obtain ⟨m1, _, _, _⟩ := two_at h8
  obtain ⟨m2, _, _, _⟩ := two_at h8'
  obtain ⟨m3, _, _, _⟩ := two_at h8''
  clear h8 h8' h8''
  generalize w7.alloc (.cells #[.int .i64 0, .int .i64 0] 30) = W8 at *
  generalize w7.heap.size = q3 at *
  go_wp2_with fail
  have hnew : Cells (W8.alloc (.cells #[.bool true, .bool true, .bool true, .bool true, .bool true, .bool false] 4)) W8.heap.size 4 6 (boolsV fun i => [true, true, true, true, true, false].getD i false) := by
    refine ⟨_, heap_alloc_new W8 _, rfl, fun i hi => ?_⟩
    rcases i with _ | _ | _ | _ | _ | _ | i <;> first | rfl | omega
  refine (equalBools [true, true, true, true, true, false] 6 _ _ _ _ _ (by decide) (HC8.out.alloc _) hnew).mono ?_
  rintro e w9 ⟨rfl, k, rfl⟩
  go_wp2_with fail
  go_ret
  exact ⟨rfl, (belowAlloc HB8.out _).trans ⟨rfl, rfl, rfl, Nat.le_refl _, fun _ _ => rfl⟩⟩
end Go.Proofs.Ytdbhpiofbkhbeaa
