/- The contract of 'raftersame.Lend' at edges: a list in memory of its own, three marks behind it. Condition: the list's bytes are within a process's reach. -/
import Derived.Test.YtdbhpiofbkhbeaaStep
import Derived.Deep.RegionHeld3
namespace Go.Proofs.Ytdbhpiofbkhbeaa
open Go.RowKit
set_option linter.unusedSimpArgs false
set_option linter.unusedVariables false

/-- The cells of edges to be appended; nil holds none. -/
def SrcE (w : World) (X : Option Addr) (js : List (Int × Int)) : Prop := (X = none → js = []) ∧ ∀ ad, X = some ad → ∀ (j : Nat) (u : Value), (flat js)[j]? = some u → w.cell? (ad.add j) = some u

theorem Edges.src {w : World} {A : Option Addr} {is : List (Int × Int)} (h : Edges w A is) : SrcE w A is := by
  refine ⟨fun hA => ?_, fun ad hA => src27 h hA⟩
  subst hA
  rcases is with _ | ⟨e, is⟩
  · rfl
  · obtain ⟨b, o, h, _⟩ := h 0 (by simp); cases h

theorem SrcE.kept {w w' : World} {p : Nat} {js : List (Int × Int)} {row : Option Nat} (h : SrcE w (some ⟨p, 0, none⟩) js) (hg : w.grownBy w' row) (hne : some p ≠ row) : SrcE w' (some ⟨p, 0, none⟩) js := by
  refine ⟨(fun e => by cases e), fun ad e j u hu => ?_⟩
  cases e
  have h1 := h.2 _ rfl j u hu
  have hadd : (⟨p, 0, none⟩ : Addr).add j = ⟨p, j, none⟩ := by unfold Addr.add; split <;> simp_all
  rw [hadd] at h1 ⊢
  exact hg.cell h1 hne

theorem OwnsE.weaken {w : World} {base base' c : Nat} {A : Option Addr} {is : List (Int × Int)} (h : OwnsE w base A c is) (hb : base' ≤ base) : OwnsE w base' A c is := by
  rcases h with h | ⟨b, cur, h1, h2, h3⟩
  · exact .inl h
  · exact .inr ⟨b, cur, h1, by omega, h3⟩

theorem step_append27_src {ops : Array Oper} {o : Oper} {a : Act} {w : World} {K : Act → World → Prop} {Q : Exit → Act → World → Prop} {E : Prop}
    (hg : o.guard = none) (s x : Operand) (hop : o.op = Op.call { callee := Callee.builtin Builtin.append, args := #[s, x], argTypes := #[27, 27] })
    (base b c : Nat) (is : List (Int × Int)) (len : Nat) (hs : a.eval s = .slice (some ⟨b, 0, none⟩) len c) (hl : is.length = len) (h : OwnsE w base (some ⟨b, 0, none⟩) c is)
    (X : Option Addr) (m cx : Nat) (js : List (Int × Int)) (hx : a.eval x = .slice X m cx) (hm : js.length = m)
    (hX : SrcE w X js) (hlen : (is.length + m) * 16 ≤ 140737488355328) (hb : base ≤ w.heap.size)
    (hK : ∀ b' c' w', OwnsE w' base (some ⟨b', 0, none⟩) c' (is ++ js) → w.grownBy w' (some b) → (b' = b ∨ b' = w.heap.size) → K (a.put o.dst (.slice (some ⟨b', 0, none⟩) (len + m) c')) w') :
    if Region.wanted o (yielded ops a.tmps) = true then Oper.wp Try.prog o a w K Q else E := by
  have hw : Region.wanted o (yielded ops a.tmps) = true := by simp [Region.wanted, hg]
  rw [if_pos hw]
  subst hl
  cases X with
  | none =>
    have hj := hX.1 rfl
    subst hj
    have hm' : m = 0 := by simpa using hm.symm
    subst hm'
    obtain ⟨i0, hi0, hz0, hz1, hz2⟩ := info_parts info34
    have hrun := run_append_nothing (P := Try.prog) w 27 27 o.type 34 i0 Try.underlying27 hi0 (some ⟨b, 0, none⟩) is.length c h.len (.slice none 0 cx) (.ofNil w Try.underlying27 cx)
    unfold Oper.wp
    simp [execOp, hop, resolve, invoke, builtin, hs, hx, hrun, Result.andThen]
    exact hK b c w (by simpa using h) ⟨rfl, rfl, rfl, Nat.le_refl _, fun _ _ _ => rfl⟩ (.inl rfl)
  | some ad =>
    obtain ⟨A', c', w', hrun, h1, h2, h3⟩ := run_append27_any (cx := cx) o.type h hm (hX.2 ad rfl) hlen hb
    unfold Oper.wp
    simp [execOp, hop, resolve, invoke, builtin, hs, hx, hrun, Result.andThen]
    rcases h3 with rfl | rfl
    · have := hK b c' w' h1 h2 (.inl rfl)
      rw [← hm] at this
      exact this
    · have := hK _ c' w' h1 h2 (.inr rfl)
      rw [← hm] at this
      exact this

theorem step_make27 {ops : Array Oper} {o : Oper} {a : Act} {w : World} {K : Act → World → Prop} {Q : Exit → Act → World → Prop} {E : Prop}
    (hg : o.guard = none) (l c : Operand) (hop : o.op = Op.makeSlice 27 l c) (m : Nat) (hl : a.eval l = .int .i64 0) (hc : a.eval c = .int .i64 ((m : Nat) : Int)) (hm : m * 16 ≤ 281474976710656)
    (hK : ∀ w', OwnsE w' w.heap.size (some ⟨w.heap.size, 0, none⟩) m [] → w.grownBy w' none → K (a.put o.dst (.slice (some ⟨w.heap.size, 0, none⟩) 0 m)) w') :
    if Region.wanted o (yielded ops a.tmps) = true then Oper.wp Try.prog o a w K Q else E := by
  have hw : Region.wanted o (yielded ops a.tmps) = true := by simp [Region.wanted, hg]
  rw [if_pos hw]
  obtain ⟨i0, hi0, hz0, hz1, hz2⟩ := info_parts info34
  have hrun := run_make (P := Try.prog) w 27 34 i0 _ Try.underlying27 hi0 hz0 .i64 .i64 0 (m : Nat) (Int.le_refl _) (by omega) (by rw [hz2]; omega) (by omega)
  have h1 := hK (w.alloc (.cells (madeCells (Value.agg #[.int .i64 0, .int .i64 0]).cells ((m : Int).toNat * i0.size)) 34))
    (.inr ⟨_, _, rfl, Nat.le_refl _, heap_alloc_new w _, Nat.zero_le _, by rw [size_madeCells, hz1]; simp, by simp [flat]⟩) (World.grownBy_alloc w _ none)
  unfold Oper.wp
  simp [execOp, hop, hl, hc, hrun, Result.andThen, Oper.upon]
  simpa using h1

set_option maxHeartbeats 2000000 in
theorem Lend_walk (A : Option Addr) (cap : Nat) (is : List (Int × Int)) (w : World) (he : Edges w A is) (hlen : is.length * 16 ≤ 140737488351232) :
    Calls Try.prog 13 #[.slice A is.length cap, .agg #[.int .i64 (-9), .int .i64 (-9)]] w fun e w' => ∃ b c, e = .returned (.slice (some ⟨b, 0, none⟩) is.length c) ∧
      OwnsE w' w.heap.size (some ⟨b, 0, none⟩) c (is ++ [((-9 : Int), (-9 : Int)), ((-9 : Int), (-9 : Int)), ((-9 : Int), (-9 : Int))]) ∧ Below w.heap.size w w' := by
  have HE := Lib.hid he
  clear he
  generalize hl : is.length = len at *
  have HL := Lib.hid hl
  clear hl
  have hwk : IntKind.i64.wrap ((len : Int) + 3) = ((len + 3 : Nat) : Int) := by rw [IntKind.wrap_i64]; omega
  go_enter Try.func13, Try.ntmps13
  go_upto_region 1 with (fail)
  have hnew := heap_alloc_new w (.cells #[.int .i64 (-9), .int .i64 (-9)] 34)
  obtain ⟨y0', y1', _, _⟩ := two_at hnew
  have y0 : (w.alloc (.cells #[.int .i64 (-9), .int .i64 (-9)] 34)).drew.cell? ⟨w.heap.size, 0, none⟩ = some (.int .i64 (-9)) := y0'
  have y1 : (w.alloc (.cells #[.int .i64 (-9), .int .i64 (-9)] 34)).drew.cell? ⟨w.heap.size, 1, none⟩ = some (.int .i64 (-9)) := y1'
  have W7B := Lib.hid ((belowAlloc (Below.refl w.heap.size w) (.cells #[.int .i64 (-9), .int .i64 (-9)] 34)).drew)
  have hgs : w.heap.size < (w.alloc (.cells #[.int .i64 (-9), .int .i64 (-9)] 34)).drew.heap.size := (Array.getElem?_eq_some_iff.1 hnew).1
  clear hnew y0' y1'
  refine wp_region_held_drew (S := fun w' => w'.cell? ⟨w.heap.size, 0, none⟩ = some (.int .i64 (-9)) ∧ w'.cell? ⟨w.heap.size, 1, none⟩ = some (.int .i64 (-9))) (by kernel_rfl) ⟨y0, y1⟩ (fun hHeld => ?_)
  have W7S := Lib.hid (And.intro y0 y1)
  clear y0 y1
  generalize (w.alloc (.cells #[.int .i64 (-9), .int .i64 (-9)] 34)).drew = W7 at *
  refine wpAnyH_take (i := 0) (oi := ⟨some 6, _, _, _, _, _⟩) (v := ?v0) rfl (by kernel_rfl) (by kernel_rfl) (by kernel_rfl) (fun _ _ _ h => h) (Or.inl ⟨by rfl, ?y0⟩) hHeld ?r0
  case y0 => (intro w hSw; (try dsimp only at hSw); go_simp; try with_reducible rfl)
  simp only [Act.put, List.setIfInBounds_toArray, List.set_cons_zero, List.set_cons_succ]
  refine wpAnyH_take (i := 1) (oi := ⟨some 7, _, _, _, _, _⟩) (v := ?v1) rfl (by kernel_rfl) (by kernel_rfl) (by kernel_rfl) (fun _ _ _ h => h) (Or.inl ⟨by rfl, ?y1⟩) hHeld ?r1
  case y1 => (intro w hSw; (try dsimp only at hSw); go_simp; try with_reducible rfl)
  simp only [Act.put, List.setIfInBounds_toArray, List.set_cons_zero, List.set_cons_succ]
  refine wpAnyH_take (i := 2) (oi := ⟨some 8, _, _, _, _, _⟩) (v := .int .i64 ((len + 3 : Nat) : Int)) rfl (by kernel_rfl) (by kernel_rfl) (by kernel_rfl) (fun _ _ _ h => h) (Or.inl ⟨by rfl, ?y2⟩) hHeld ?r2
  case y2 => (intro w hSw; (try dsimp only at hSw); go_simp; try rw [hwk])
  simp only [Act.put, List.setIfInBounds_toArray, List.set_cons_zero, List.set_cons_succ]
  refine wpAnyH_take (i := 4) (oi := ⟨some 10, _, _, _, _, _⟩) (v := ?v4) rfl (by kernel_rfl) (by kernel_rfl) (by kernel_rfl) (fun _ _ _ h => h) (Or.inl ⟨by rfl, ?y4⟩) hHeld ?r4
  case y4 => (intro w hSw; (try dsimp only at hSw); go_simp; try with_reducible rfl)
  simp only [Act.put, List.setIfInBounds_toArray, List.set_cons_zero, List.set_cons_succ]
  refine wpAnyH_take (i := 6) (oi := ⟨some 12, _, _, _, _, _⟩) (v := ?v6) rfl (by kernel_rfl) (by kernel_rfl) (by kernel_rfl) (fun _ _ _ h => h) (Or.inl ⟨by rfl, ?y6⟩) hHeld ?r6
  case y6 => (intro w hSw; (try dsimp only at hSw); go_simp; try with_reducible rfl)
  simp only [Act.put, List.setIfInBounds_toArray, List.set_cons_zero, List.set_cons_succ]
  refine wpAnyH_take (i := 7) (oi := ⟨some 13, _, _, _, _, _⟩) (v := ?v7) rfl (by kernel_rfl) (by kernel_rfl) (by kernel_rfl) (fun _ _ _ h => h) (Or.inl ⟨by rfl, ?y7⟩) hHeld ?r7
  case y7 => (intro w hSw; (try dsimp only at hSw); go_simp; try with_reducible rfl)
  simp only [Act.put, List.setIfInBounds_toArray, List.set_cons_zero, List.set_cons_succ]
  refine wpAnyH_take (i := 8) (oi := ⟨some 14, _, _, _, _, _⟩) (v := ?v8) rfl (by kernel_rfl) (by kernel_rfl) (by kernel_rfl) (fun _ _ _ h => h) (Or.inl ⟨by rfl, ?y8⟩) hHeld ?r8
  case y8 => (intro w hSw; (try dsimp only at hSw); go_simp; try with_reducible rfl)
  simp only [Act.put, List.setIfInBounds_toArray, List.set_cons_zero, List.set_cons_succ]
  refine wpAnyH_ready (rs := [3, 9]) (by kernel_rfl) (by simp) ?_
  refine AllReadyH.cons rfl (fun K hK => ?_) (AllReadyH.cons rfl (fun K hK => ?_) AllReadyH.nil)
  · refine step_make27 (by rfl) _ _ (by rfl) (len + 3) (by rfl) (by rfl) (by omega) ?_
    intro WM hown hg
    have WMS := Lib.hid (And.intro (hg.cell W7S.out.1 (by simp)) (hg.cell W7S.out.2 (by simp)))
    have WMB := Lib.hid (W7B.out.grown hg W7B.out.size (fun k e => by cases e))
    have WMO := Lib.hid (hown.weaken W7B.out.size)
    have hbm : w.heap.size < W7.heap.size := hgs
    have hbmz : W7.heap.size < WM.heap.size := (hown.lt rfl).2
    clear hown hg
    refine hK.out _ _ WMS.out (fun hHeld => ?_)
    clear hK K
    try simp only [Act.put, List.setIfInBounds_toArray, List.set_cons_zero, List.set_cons_succ]
    generalize W7.heap.size = bm at *
    refine wpAnyH_ready (rs := [5, 9]) (by kernel_rfl) (by simp) ?_
    refine AllReadyH.cons rfl (fun K hK => ?_) (AllReadyH.cons rfl (fun K hK => ?_) AllReadyH.nil)
    · refine step_append27_src (by rfl) _ _ (by rfl) w.heap.size bm (len + 3) [] 0 (by rfl) rfl WMO.out A len cap is (by rfl) HL.out (HE.out.below WMB.out).src (by simp; omega) WMB.out.size ?_
      intro b5 c5 WA hown hg hb5
      rw [List.nil_append] at hown
      have WAS := Lib.hid (And.intro (hg.cell WMS.out.1 (fun e => by injection e with e; simp only at e; omega)) (hg.cell WMS.out.2 (fun e => by injection e with e; simp only at e; omega)))
      have WAB := Lib.hid (WMB.out.grown hg WMB.out.size (fun k e => by injection e with e; omega))
      have WAO := Lib.hid hown
      have hb5lo : w.heap.size < b5 := by rcases hb5 with rfl | rfl <;> omega
      have hga : w.heap.size < WA.heap.size := Nat.lt_of_lt_of_le (by omega : w.heap.size < WM.heap.size) hg.size
      clear hown hg hb5
      rw [Nat.zero_add]
      refine hK.out _ _ WAS.out (fun hHeld => ?_)
      clear hK K
      try simp only [Act.put, List.setIfInBounds_toArray, List.set_cons_zero, List.set_cons_succ]
      refine wpAnyH_ready (rs := [9]) (by kernel_rfl) (by simp) ?_
      refine AllReadyH.cons rfl (fun K hK => ?_) AllReadyH.nil
      go_simp
      have WBS := Lib.hid (And.intro ((World.cell?_alloc_lt WA (.cells #[.int .i64 (-9), .int .i64 (-9), .int .i64 (-9), .int .i64 (-9), .int .i64 (-9), .int .i64 (-9)] 34) ⟨w.heap.size, 0, none⟩ (by show w.heap.size < _; omega)).trans WAS.out.1) ((World.cell?_alloc_lt WA (.cells #[.int .i64 (-9), .int .i64 (-9), .int .i64 (-9), .int .i64 (-9), .int .i64 (-9), .int .i64 (-9)] 34) ⟨w.heap.size, 1, none⟩ (by show w.heap.size < _; omega)).trans WAS.out.2))
      have WBB := Lib.hid (belowAlloc WAB.out (.cells #[.int .i64 (-9), .int .i64 (-9), .int .i64 (-9), .int .i64 (-9), .int .i64 (-9), .int .i64 (-9)] 34))
      have WBN := Lib.hid (show SrcE (WA.alloc (.cells #[.int .i64 (-9), .int .i64 (-9), .int .i64 (-9), .int .i64 (-9), .int .i64 (-9), .int .i64 (-9)] 34)) (some ⟨WA.heap.size, 0, none⟩) [((-9 : Int), (-9 : Int)), ((-9 : Int), (-9 : Int)), ((-9 : Int), (-9 : Int))] from ⟨(fun e => by cases e), fun ad e => by cases e; exact news27 WA _ _ rfl⟩)
      have hgb : w.heap.size < (WA.alloc (.cells #[.int .i64 (-9), .int .i64 (-9), .int .i64 (-9), .int .i64 (-9), .int .i64 (-9), .int .i64 (-9)] 34)).heap.size := by simp; omega
      have hpb : WA.heap.size < (WA.alloc (.cells #[.int .i64 (-9), .int .i64 (-9), .int .i64 (-9), .int .i64 (-9), .int .i64 (-9), .int .i64 (-9)] 34)).heap.size := by simp
      have WBO := Lib.hid (WAO.out.alloc (.cells #[.int .i64 (-9), .int .i64 (-9), .int .i64 (-9), .int .i64 (-9), .int .i64 (-9), .int .i64 (-9)] 34))
      refine hK.out _ _ WBS.out (fun hHeld => ?_)
      clear hK K
      try simp only [Act.put, List.setIfInBounds_toArray, List.set_cons_zero, List.set_cons_succ]
      generalize WA.alloc (.cells #[.int .i64 (-9), .int .i64 (-9), .int .i64 (-9), .int .i64 (-9), .int .i64 (-9), .int .i64 (-9)] 34) = WB at *
      generalize WA.heap.size = p at *
      refine wpAnyH_ready (rs := [10]) (by kernel_rfl) (by simp) ?_
      refine AllReadyH.cons rfl (fun K hK => ?_) AllReadyH.nil
      refine step_append27_src (by rfl) _ _ (by rfl) w.heap.size b5 c5 is len (by rfl) HL.out WBO.out (some ⟨p, 0, none⟩) 3 3 [((-9 : Int), (-9 : Int)), ((-9 : Int), (-9 : Int)), ((-9 : Int), (-9 : Int))] (by rfl) rfl WBN.out (by rw [HL.out]; omega) WBB.out.size ?_
      intro b6 c6 WC hown hg hb6
      have WCB := Lib.hid (WBB.out.grown hg WBB.out.size (fun k e => by injection e with e; omega))
      have hc6 : (len : Int) ≤ (c6 : Int) := by
        have := hown.len
        rw [List.length_append, HL.out] at this
        omega
      have WCO := Lib.hid hown
      refine hK.out _ _ (And.intro (hg.cell WBS.out.1 (fun e => by injection e with e; simp only at e; omega)) (hg.cell WBS.out.2 (fun e => by injection e with e; simp only at e; omega))) (fun hHeld => ?_)
      clear hK K hown hg hb6
      try simp only [Act.put, List.setIfInBounds_toArray, List.set_cons_zero, List.set_cons_succ]
      refine wpAnyH_take (i := 11) (oi := ⟨some 5, _, _, _, _, _⟩) (v := ?v11a) rfl (by kernel_rfl) (by kernel_rfl) (by kernel_rfl) (fun _ _ _ h => h) (Or.inl ⟨by rfl, ?y11a⟩) hHeld ?r11a
      case y11a => (intro w hSw; (try dsimp only at hSw); go_simp; try with_reducible rfl)
      simp only [Act.put, List.setIfInBounds_toArray, List.set_cons_zero, List.set_cons_succ]
      refine wpAnyH_done (by kernel_rfl) ?_ _
      go_wp2
      go_ret
      exact ⟨b6, c6, rfl, WCO.out, WCB.out⟩
    · go_simp
      have WBS := Lib.hid (And.intro ((World.cell?_alloc_lt WM (.cells #[.int .i64 (-9), .int .i64 (-9), .int .i64 (-9), .int .i64 (-9), .int .i64 (-9), .int .i64 (-9)] 34) ⟨w.heap.size, 0, none⟩ (by show w.heap.size < _; omega)).trans WMS.out.1) ((World.cell?_alloc_lt WM (.cells #[.int .i64 (-9), .int .i64 (-9), .int .i64 (-9), .int .i64 (-9), .int .i64 (-9), .int .i64 (-9)] 34) ⟨w.heap.size, 1, none⟩ (by show w.heap.size < _; omega)).trans WMS.out.2))
      have WBB := Lib.hid (belowAlloc WMB.out (.cells #[.int .i64 (-9), .int .i64 (-9), .int .i64 (-9), .int .i64 (-9), .int .i64 (-9), .int .i64 (-9)] 34))
      have WBN := Lib.hid (show SrcE (WM.alloc (.cells #[.int .i64 (-9), .int .i64 (-9), .int .i64 (-9), .int .i64 (-9), .int .i64 (-9), .int .i64 (-9)] 34)) (some ⟨WM.heap.size, 0, none⟩) [((-9 : Int), (-9 : Int)), ((-9 : Int), (-9 : Int)), ((-9 : Int), (-9 : Int))] from ⟨(fun e => by cases e), fun ad e => by cases e; exact news27 WM _ _ rfl⟩)
      have hgb : w.heap.size < (WM.alloc (.cells #[.int .i64 (-9), .int .i64 (-9), .int .i64 (-9), .int .i64 (-9), .int .i64 (-9), .int .i64 (-9)] 34)).heap.size := by simp; omega
      have hpb : WM.heap.size < (WM.alloc (.cells #[.int .i64 (-9), .int .i64 (-9), .int .i64 (-9), .int .i64 (-9), .int .i64 (-9), .int .i64 (-9)] 34)).heap.size := by simp
      have WBO := Lib.hid (WMO.out.alloc (.cells #[.int .i64 (-9), .int .i64 (-9), .int .i64 (-9), .int .i64 (-9), .int .i64 (-9), .int .i64 (-9)] 34))
      refine hK.out _ _ WBS.out (fun hHeld => ?_)
      clear hK K
      try simp only [Act.put, List.setIfInBounds_toArray, List.set_cons_zero, List.set_cons_succ]
      generalize WM.alloc (.cells #[.int .i64 (-9), .int .i64 (-9), .int .i64 (-9), .int .i64 (-9), .int .i64 (-9), .int .i64 (-9)] 34) = WB at *
      generalize WM.heap.size = p at *
      refine wpAnyH_ready (rs := [5]) (by kernel_rfl) (by simp) ?_
      refine AllReadyH.cons rfl (fun K hK => ?_) AllReadyH.nil
      refine step_append27_src (by rfl) _ _ (by rfl) w.heap.size bm (len + 3) [] 0 (by rfl) rfl WBO.out A len cap is (by rfl) HL.out (HE.out.below WBB.out).src (by simp; omega) WBB.out.size ?_
      intro b5 c5 WA hown hg hb5
      rw [List.nil_append] at hown
      have WAS := Lib.hid (And.intro (hg.cell WBS.out.1 (fun e => by injection e with e; simp only at e; omega)) (hg.cell WBS.out.2 (fun e => by injection e with e; simp only at e; omega)))
      have WAB := Lib.hid (WBB.out.grown hg WBB.out.size (fun k e => by injection e with e; omega))
      have WAO := Lib.hid hown
      have hb5lo : w.heap.size < b5 := by rcases hb5 with rfl | rfl <;> omega
      have hga : w.heap.size < WA.heap.size := Nat.lt_of_lt_of_le (by omega : w.heap.size < WB.heap.size) hg.size
      have WAN := Lib.hid (WBN.out.kept hg (fun e => by injection e with e; omega))
      clear hown hg hb5
      rw [Nat.zero_add]
      refine hK.out _ _ WAS.out (fun hHeld => ?_)
      clear hK K
      try simp only [Act.put, List.setIfInBounds_toArray, List.set_cons_zero, List.set_cons_succ]
      refine wpAnyH_ready (rs := [10]) (by kernel_rfl) (by simp) ?_
      refine AllReadyH.cons rfl (fun K hK => ?_) AllReadyH.nil
      refine step_append27_src (by rfl) _ _ (by rfl) w.heap.size b5 c5 is len (by rfl) HL.out WAO.out (some ⟨p, 0, none⟩) 3 3 [((-9 : Int), (-9 : Int)), ((-9 : Int), (-9 : Int)), ((-9 : Int), (-9 : Int))] (by rfl) rfl WAN.out (by rw [HL.out]; omega) WAB.out.size ?_
      intro b6 c6 WC hown hg hb6
      have WCB := Lib.hid (WAB.out.grown hg WAB.out.size (fun k e => by injection e with e; omega))
      have hc6 : (len : Int) ≤ (c6 : Int) := by
        have := hown.len
        rw [List.length_append, HL.out] at this
        omega
      have WCO := Lib.hid hown
      refine hK.out _ _ (And.intro (hg.cell WAS.out.1 (fun e => by injection e with e; simp only at e; omega)) (hg.cell WAS.out.2 (fun e => by injection e with e; simp only at e; omega))) (fun hHeld => ?_)
      clear hK K hown hg hb6
      try simp only [Act.put, List.setIfInBounds_toArray, List.set_cons_zero, List.set_cons_succ]
      refine wpAnyH_take (i := 11) (oi := ⟨some 5, _, _, _, _, _⟩) (v := ?v11b) rfl (by kernel_rfl) (by kernel_rfl) (by kernel_rfl) (fun _ _ _ h => h) (Or.inl ⟨by rfl, ?y11b⟩) hHeld ?r11b
      case y11b => (intro w hSw; (try dsimp only at hSw); go_simp; try with_reducible rfl)
      simp only [Act.put, List.setIfInBounds_toArray, List.set_cons_zero, List.set_cons_succ]
      refine wpAnyH_done (by kernel_rfl) ?_ _
      go_wp2
      go_ret
      exact ⟨b6, c6, rfl, WCO.out, WCB.out⟩
  · go_simp
    have WBS := Lib.hid (And.intro ((World.cell?_alloc_lt W7 (.cells #[.int .i64 (-9), .int .i64 (-9), .int .i64 (-9), .int .i64 (-9), .int .i64 (-9), .int .i64 (-9)] 34) ⟨w.heap.size, 0, none⟩ (by show w.heap.size < _; omega)).trans W7S.out.1) ((World.cell?_alloc_lt W7 (.cells #[.int .i64 (-9), .int .i64 (-9), .int .i64 (-9), .int .i64 (-9), .int .i64 (-9), .int .i64 (-9)] 34) ⟨w.heap.size, 1, none⟩ (by show w.heap.size < _; omega)).trans W7S.out.2))
    have WBB := Lib.hid (belowAlloc W7B.out (.cells #[.int .i64 (-9), .int .i64 (-9), .int .i64 (-9), .int .i64 (-9), .int .i64 (-9), .int .i64 (-9)] 34))
    have WBN := Lib.hid (show SrcE (W7.alloc (.cells #[.int .i64 (-9), .int .i64 (-9), .int .i64 (-9), .int .i64 (-9), .int .i64 (-9), .int .i64 (-9)] 34)) (some ⟨W7.heap.size, 0, none⟩) [((-9 : Int), (-9 : Int)), ((-9 : Int), (-9 : Int)), ((-9 : Int), (-9 : Int))] from ⟨(fun e => by cases e), fun ad e => by cases e; exact news27 W7 _ _ rfl⟩)
    have hgb : w.heap.size < (W7.alloc (.cells #[.int .i64 (-9), .int .i64 (-9), .int .i64 (-9), .int .i64 (-9), .int .i64 (-9), .int .i64 (-9)] 34)).heap.size := by simp; omega
    have hpb : W7.heap.size < (W7.alloc (.cells #[.int .i64 (-9), .int .i64 (-9), .int .i64 (-9), .int .i64 (-9), .int .i64 (-9), .int .i64 (-9)] 34)).heap.size := by simp
    refine hK.out _ _ WBS.out (fun hHeld => ?_)
    clear hK K
    try simp only [Act.put, List.setIfInBounds_toArray, List.set_cons_zero, List.set_cons_succ]
    generalize W7.alloc (.cells #[.int .i64 (-9), .int .i64 (-9), .int .i64 (-9), .int .i64 (-9), .int .i64 (-9), .int .i64 (-9)] 34) = WB at *
    generalize W7.heap.size = p at *
    refine wpAnyH_ready (rs := [3]) (by kernel_rfl) (by simp) ?_
    refine AllReadyH.cons rfl (fun K hK => ?_) AllReadyH.nil
    refine step_make27 (by rfl) _ _ (by rfl) (len + 3) (by rfl) (by rfl) (by omega) ?_
    intro WM hown hg
    have WMS := Lib.hid (And.intro (hg.cell WBS.out.1 (by simp)) (hg.cell WBS.out.2 (by simp)))
    have WMB := Lib.hid (WBB.out.grown hg WBB.out.size (fun k e => by cases e))
    have WMO := Lib.hid (hown.weaken WBB.out.size)
    have hbm : w.heap.size < WB.heap.size := hgb
    have hbmz : WB.heap.size < WM.heap.size := (hown.lt rfl).2
    have WMN := Lib.hid (WBN.out.kept hg (by simp))
    clear hown hg
    refine hK.out _ _ WMS.out (fun hHeld => ?_)
    clear hK K
    try simp only [Act.put, List.setIfInBounds_toArray, List.set_cons_zero, List.set_cons_succ]
    generalize WB.heap.size = bm at *
    refine wpAnyH_ready (rs := [5]) (by kernel_rfl) (by simp) ?_
    refine AllReadyH.cons rfl (fun K hK => ?_) AllReadyH.nil
    refine step_append27_src (by rfl) _ _ (by rfl) w.heap.size bm (len + 3) [] 0 (by rfl) rfl WMO.out A len cap is (by rfl) HL.out (HE.out.below WMB.out).src (by simp; omega) WMB.out.size ?_
    intro b5 c5 WA hown hg hb5
    rw [List.nil_append] at hown
    have WAS := Lib.hid (And.intro (hg.cell WMS.out.1 (fun e => by injection e with e; simp only at e; omega)) (hg.cell WMS.out.2 (fun e => by injection e with e; simp only at e; omega)))
    have WAB := Lib.hid (WMB.out.grown hg WMB.out.size (fun k e => by injection e with e; omega))
    have WAO := Lib.hid hown
    have hb5lo : w.heap.size < b5 := by rcases hb5 with rfl | rfl <;> omega
    have hga : w.heap.size < WA.heap.size := Nat.lt_of_lt_of_le (by omega : w.heap.size < WM.heap.size) hg.size
    have WAN := Lib.hid (WMN.out.kept hg (fun e => by injection e with e; omega))
    clear hown hg hb5
    rw [Nat.zero_add]
    refine hK.out _ _ WAS.out (fun hHeld => ?_)
    clear hK K
    try simp only [Act.put, List.setIfInBounds_toArray, List.set_cons_zero, List.set_cons_succ]
    refine wpAnyH_ready (rs := [10]) (by kernel_rfl) (by simp) ?_
    refine AllReadyH.cons rfl (fun K hK => ?_) AllReadyH.nil
    refine step_append27_src (by rfl) _ _ (by rfl) w.heap.size b5 c5 is len (by rfl) HL.out WAO.out (some ⟨p, 0, none⟩) 3 3 [((-9 : Int), (-9 : Int)), ((-9 : Int), (-9 : Int)), ((-9 : Int), (-9 : Int))] (by rfl) rfl WAN.out (by rw [HL.out]; omega) WAB.out.size ?_
    intro b6 c6 WC hown hg hb6
    have WCB := Lib.hid (WAB.out.grown hg WAB.out.size (fun k e => by injection e with e; omega))
    have hc6 : (len : Int) ≤ (c6 : Int) := by
      have := hown.len
      rw [List.length_append, HL.out] at this
      omega
    have WCO := Lib.hid hown
    refine hK.out _ _ (And.intro (hg.cell WAS.out.1 (fun e => by injection e with e; simp only at e; omega)) (hg.cell WAS.out.2 (fun e => by injection e with e; simp only at e; omega))) (fun hHeld => ?_)
    clear hK K hown hg hb6
    try simp only [Act.put, List.setIfInBounds_toArray, List.set_cons_zero, List.set_cons_succ]
    refine wpAnyH_take (i := 11) (oi := ⟨some 5, _, _, _, _, _⟩) (v := ?v11c) rfl (by kernel_rfl) (by kernel_rfl) (by kernel_rfl) (fun _ _ _ h => h) (Or.inl ⟨by rfl, ?y11c⟩) hHeld ?r11c
    case y11c => (intro w hSw; (try dsimp only at hSw); go_simp; try with_reducible rfl)
    simp only [Act.put, List.setIfInBounds_toArray, List.set_cons_zero, List.set_cons_succ]
    refine wpAnyH_done (by kernel_rfl) ?_ _
    go_wp2
    go_ret
    exact ⟨b6, c6, rfl, WCO.out, WCB.out⟩
end Go.Proofs.Ytdbhpiofbkhbeaa
