/- The contract of 'rafterref.FreeOf': the greedy rule. Conditions: at most 10 points and 45 edges, and the edges are edges of them. -/
import Derived.Test.YtdbhpiofbkhbeaaStep
import Derived.Test.YtdbhpiofbkhbeaaTog
import Derived.Deep.RegionHeld3
namespace Go.Proofs.Ytdbhpiofbkhbeaa
open Go.RowKit
set_option linter.unusedSimpArgs false
set_option linter.unusedVariables false

/-- append of edges onto a slice without spare room: always a new block. -/
theorem step_append27_new {ops : Array Oper} {o : Oper} {a : Act} {w : World} {K : Act → World → Prop} {Q : Exit → Act → World → Prop} {E : Prop}
    (hg : o.guard = none) (s x : Operand) (hop : o.op = Op.call { callee := Callee.builtin Builtin.append, args := #[s, x], argTypes := #[27, 27] })
    (base : Nat) (A : Option Addr) (is : List (Int × Int)) (len : Nat) (hs : a.eval s = .slice A len len) (hl : is.length = len) (h : OwnsE w base A len is)
    (X : Addr) (m cx : Nat) (js : List (Int × Int)) (hx : a.eval x = .slice (some X) m cx) (hm : js.length = m) (hm0 : 0 < m)
    (hX : ∀ (j : Nat) (u : Value), (flat js)[j]? = some u → w.cell? (X.add j) = some u) (hlen : (is.length + m) * 16 ≤ 140737488355328) (hb : base ≤ w.heap.size)
    (hK : ∀ c' w', OwnsE w' base (some ⟨w.heap.size, 0, none⟩) c' (is ++ js) → w.grownBy w' none → K (a.put o.dst (.slice (some ⟨w.heap.size, 0, none⟩) (len + m) c')) w') :
    if Region.wanted o (yielded ops a.tmps) = true then Oper.wp Try.prog o a w K Q else E := by
  have hw : Region.wanted o (yielded ops a.tmps) = true := by simp [Region.wanted, hg]
  rw [if_pos hw]
  subst hl
  obtain ⟨A', c', w', hrun, h1, h2, h3⟩ := run_append27 (cx := cx) o.type h hm hm0 hX hlen hb
  rcases h3 with ⟨_, h3⟩ | ⟨rfl, h3⟩
  · omega
  · unfold Oper.wp
    simp [execOp, hop, resolve, invoke, builtin, hs, hx, hrun, Result.andThen]
    have := hK c' w' h1 h3
    rw [← hm] at this
    exact this

theorem drop_head {α : Type} {G : List α} {b : α} {T : List α} (j : Nat) (d : α) (h : G.drop j = b :: T) : G.getD j d = b ∧ G.drop (j + 1) = T := by
  have h0 : (G.drop j)[0]? = some b := by rw [h]; rfl
  rw [List.getElem?_drop] at h0
  refine ⟨by rw [List.getD_eq_getElem?_getD]; simp at h0; rw [h0]; rfl, ?_⟩
  rw [← List.drop_drop, h]
  rfl

theorem free_step {n : Nat} {wo : Int} {j : Nat} {kept rest : Es} {e : Nat × Nat} {G : List Bool} (h : G.drop j = greedy n wo j kept (e :: rest)) :
    ((j : Int) = wo → G.getD j false = false ∧ G.drop (j + 1) = greedy n wo (j + 1) kept rest) ∧
    (¬ (j : Int) = wo → Sparse n (kept ++ [e]) → G.getD j false = true ∧ G.drop (j + 1) = greedy n wo (j + 1) (kept ++ [e]) rest) ∧
    (¬ (j : Int) = wo → ¬ Sparse n (kept ++ [e]) → G.getD j false = false ∧ G.drop (j + 1) = greedy n wo (j + 1) kept rest) := by
  unfold greedy at h
  refine ⟨fun h1 => ?_, fun h1 h2 => ?_, fun h1 h2 => ?_⟩
  · rw [if_pos h1] at h; exact drop_head j false h
  · simp only [if_neg h1, if_pos h2] at h; exact drop_head j false h
  · simp only [if_neg h1, if_neg h2] at h; exact drop_head j false h

/-- Behind j edges. -/
def FofRel (n : Nat) (wo : Int) (es : Es) (w : World) (j : Nat) (kept : Es) (A : Option Addr) (c : Nat) (wr : World) : Prop :=
  Cells wr w.heap.size 4 es.length (boolsV fun i => decide (i < j) && (greedy n wo 0 [] es).getD i false) ∧ Below w.heap.size w wr ∧ OwnsE wr (w.heap.size + 1) A c (toI kept) ∧ kept.length ≤ j ∧ Good n kept ∧
    (greedy n wo 0 [] es).drop j = greedy n wo j kept (es.drop j)

theorem cells_no {w' : World} {q j n : Nat} {G : List Bool} (h : Cells w' q 4 n (boolsV fun i => decide (i < j) && G.getD i false)) (hj : G.getD j false = false) : Cells w' q 4 n (boolsV fun i => decide (i < j + 1) && G.getD i false) := by
  refine h.congr fun i hi => ?_
  unfold boolsV
  dsimp only
  by_cases e : i = j
  · subst e
    rw [hj]
    simp
  · have : decide (i < j) = decide (i < j + 1) := by congr 1; exact propext ⟨fun h => by omega, fun h => by omega⟩
    rw [this]

theorem cells_yes {w' : World} {q j n : Nat} {G : List Bool} (hjn : j < n) (h : Cells w' q 4 n (boolsV fun i => decide (i < j) && G.getD i false)) (hj : G.getD j false = true) :
    Cells (w'.setCell ⟨q, j, none⟩ (.bool true)) q 4 n (boolsV fun i => decide (i < j + 1) && G.getD i false) := by
  refine (h.set hjn _).congr fun i hi => ?_
  unfold boolsV upd
  dsimp only
  by_cases e : i = j
  · subst e
    rw [if_pos rfl, hj]
    simp
  · rw [if_neg e]
    have : decide (i < j) = decide (i < j + 1) := by congr 1; exact propext ⟨fun h => by omega, fun h => by omega⟩
    rw [this]

theorem toI_snoc (kept : Es) (x y : Nat) : toI (kept ++ [(x, y)]) = toI kept ++ [((x : Int), (y : Int))] := by
  unfold toI; rw [List.map_append]; rfl

set_option maxHeartbeats 4000000 in
theorem FreeOf_walk (n : Nat) (A : Option Addr) (cap : Nat) (es : Es) (wo : Int) (w : World) (hn1 : 1 ≤ n) (hn : n ≤ 10) (hl : es.length ≤ 45) (hg : Good n es) (he : Edges w A (toI es)) :
    Calls Try.prog 19 #[.int .i64 (n : Nat), .slice A es.length cap, .int .i64 wo] w fun e w' => ∃ b, e = .returned (.slice (some ⟨b, 0, none⟩) es.length es.length) ∧ w.heap.size ≤ b ∧
      Cells w' b 4 es.length (boolsV fun i => (greedy n wo 0 [] es).getD i false) ∧ Below w.heap.size w w' := by
  have HE := Lib.hid he
  have HGD := Lib.hid hg
  clear he hg
  have hq0 := blank_cells w (.bool false) 4 es.length
  have hrel0 : FofRel n wo es w 0 [] none 0 (w.alloc (blank (.bool false) 4 es.length)) := ⟨hq0.congr fun i hi => by simp [boolsV], belowAlloc (Below.refl _ _) _, .inl ⟨rfl, rfl, rfl⟩, Nat.le_refl _, (fun e h => by cases h), rfl⟩
  have HREL0 := Lib.hid hrel0
  clear hrel0 hq0
  generalize hlen : es.length = len at *
  have HL := Lib.hid hlen
  clear hlen
  have hmk := make28 len (by omega)
  go_enter Try.func19, Try.ntmps19
  go_upto_region 2 with (fail)
  generalize w.alloc (blank (.bool false) 4 len) = W1 at *
  clear hmk
  obtain ⟨q, hq⟩ : ∃ q, w.heap.size = q := ⟨_, rfl⟩
  rw [hq]
  have HQ := Lib.hid hq
  clear hq
  go_wp2_with fail
  go_loopw [8, 17] (fun v i wr => ∃ (j kl : Nat) (kept : Es) (A' : Option Addr) (c' : Nat), j ≤ len ∧ i = .int .i64 j ∧ v = .slice A' kl c' ∧ kept.length = kl ∧ FofRel n wo es w j kept A' c' wr) (fun _ i _ => len - (intOf i).toNat)
  case atStart => exact ⟨0, 0, [], none, 0, by omega, rfl, rfl, rfl, HREL0.out⟩
  case round =>
    clear HREL0
    obtain ⟨j, kl, kept, A', c', hj, rfl, rfl, hkl, hrel⟩ := hrel
    obtain ⟨wo', rfl⟩ : ∃ x : World, x = wr := ⟨_, rfl⟩
    obtain ⟨hcells, hbel, hown, hkj, hgk, hgr⟩ := hrel
    have HCELLS := Lib.hid hcells
    have HBEL := Lib.hid hbel
    have HOWN := Lib.hid hown
    have HKL := Lib.hid hkl
    have HGK := Lib.hid hgk
    have HGR := Lib.hid hgr
    rw [hkl] at hkj
    clear hcells hbel hown hkl hgk hgr
    by_cases hlt : j < len
    · have hlt' : j < es.length := by rw [HL.out]; exact hlt
      obtain ⟨b, o, rfl, hbl, h1, h2⟩ := HE.out j (by simp [toI]; exact hlt')
      rw [toI_get es j hlt'] at h1 h2
      obtain ⟨x, y, hxy⟩ : ∃ x y, es[j] = (x, y) := ⟨_, _, rfl⟩
      rw [hxy] at h1 h2
      have g1 : wo'.cell? ⟨b, o + j * 2, none⟩ = some (.int .i64 (x : Nat)) := (HBEL.out.cell (p := ⟨b, _, none⟩) hbl).trans h1
      have g2 : wo'.cell? ⟨b, o + j * 2 + 1, none⟩ = some (.int .i64 (y : Nat)) := (HBEL.out.cell (p := ⟨b, _, none⟩) hbl).trans h2
      have hgood : Good n (kept ++ [(x, y)]) := fun e he => by
        rcases List.mem_append.1 he with he | he
        · exact HGK.out e he
        · rw [List.mem_singleton.1 he, ← hxy]; exact HGD.out _ (List.getElem_mem hlt')
      have hdr : es.drop j = (x, y) :: es.drop (j + 1) := by rw [← hxy]; exact List.drop_eq_getElem_cons hlt'
      have hgr := HGR.out
      rw [hdr] at hgr
      have HST := Lib.hid (free_step hgr)
      have HGOOD := Lib.hid hgood
      have HQL := Lib.hid HCELLS.out.lt
      clear h1 h2 hxy hgood hdr hgr
      by_cases hwo : (j : Int) = wo
      · have hwb : ((j : Int) == wo) = true := by rw [beq_iff_eq]; exact hwo
        obtain ⟨e1, e2⟩ := HST.out.1 hwo
        have HR : Hid (FofRel n wo es w (j + 1) kept A' c' (wo'.alloc (.cells #[.int .i64 (x : Nat), .int .i64 (y : Nat)] 34))) :=
          ⟨cells_no (HCELLS.out.alloc _) e1, belowAlloc HBEL.out _, HOWN.out.alloc _, by rw [HKL.out]; omega, HGK.out, e2⟩
        clear e1 e2 hwo
        go_wp2
        go_roundw
        case rel => exact ⟨j + 1, kl, kept, A', c', by omega, by go_num, rfl, HKL.out, HR.out⟩
        case measure => simp [intOf]; omega
      · have hwb : ((j : Int) == wo) = false := by rw [beq_eq_false_iff_ne]; exact hwo
        go_upto_region 7 with (fail)
        have hnew := heap_alloc_new wo' (.cells #[.int .i64 (x : Nat), .int .i64 (y : Nat)] 34)
        have HCELLS2 := Lib.hid ((HCELLS.out.alloc (.cells #[.int .i64 (x : Nat), .int .i64 (y : Nat)] 34)).drew)
        have HBEL2 := Lib.hid ((belowAlloc HBEL.out (.cells #[.int .i64 (x : Nat), .int .i64 (y : Nat)] 34)).drew)
        have HOWN2 := Lib.hid (show OwnsE (wo'.alloc (.cells #[.int .i64 (x : Nat), .int .i64 (y : Nat)] 34)).drew (w.heap.size + 1) A' c' (toI kept) from HOWN.out.alloc _)
        have HTL := Lib.hid (show (toI kept).length = kl by rw [← HKL.out]; simp [toI])
        have hklc : kl ≤ c' := by have := HOWN2.out.len; rw [HTL.out] at this; exact this
        have hklI : (kl : Int) ≤ (c' : Int) := by omega
        have HFULL := Lib.hid (show OwnsE (wo'.alloc (.cells #[.int .i64 (x : Nat), .int .i64 (y : Nat)] 34)).drew (w.heap.size + 1) A' kl (toI kept) from by have := HOWN2.out.full; rw [HTL.out] at this; exact this)
        have hqs : w.heap.size < (wo'.alloc (.cells #[.int .i64 (x : Nat), .int .i64 (y : Nat)] 34)).drew.heap.size := HCELLS2.out.lt
        have hgs : wo'.heap.size < (wo'.alloc (.cells #[.int .i64 (x : Nat), .int .i64 (y : Nat)] 34)).drew.heap.size := (Array.getElem?_eq_some_iff.1 hnew).1
        obtain ⟨y0', y1', _, _⟩ := two_at hnew
        have y0 : (wo'.alloc (.cells #[.int .i64 (x : Nat), .int .i64 (y : Nat)] 34)).drew.cell? ⟨wo'.heap.size, 0, none⟩ = some (.int .i64 (x : Nat)) := y0'
        have y1 : (wo'.alloc (.cells #[.int .i64 (x : Nat), .int .i64 (y : Nat)] 34)).drew.cell? ⟨wo'.heap.size, 1, none⟩ = some (.int .i64 (y : Nat)) := y1'
        clear g1 g2 hnew y0' y1' HCELLS HBEL HOWN HQL
        refine wp_region_held_drew (S := fun w' => w'.cell? ⟨wo'.heap.size, 0, none⟩ = some (.int .i64 (x : Nat)) ∧ w'.cell? ⟨wo'.heap.size, 1, none⟩ = some (.int .i64 (y : Nat))) (by kernel_rfl) ⟨y0, y1⟩ (fun hHeld => ?_)
        have Y0 := Lib.hid y0
        have Y1 := Lib.hid y1
        clear y0 y1
        generalize (wo'.alloc (.cells #[.int .i64 (x : Nat), .int .i64 (y : Nat)] 34)).drew = W7 at *
        generalize wo'.heap.size = g at *
        refine wpAnyH_take (i := 0) (oi := ⟨some 25, _, _, _, _, _⟩) (v := ?v0) rfl (by kernel_rfl) (by kernel_rfl) (by kernel_rfl) (fun _ _ _ h => h) (Or.inl ⟨by rfl, ?y0⟩) hHeld ?r0
        case y0 => (intro w hSw; (try dsimp only at hSw); go_simp; try with_reducible rfl)
        simp only [Act.put, List.setIfInBounds_toArray, List.set_cons_zero, List.set_cons_succ]
        refine wpAnyH_take (i := 1) (oi := ⟨some 26, _, _, _, _, _⟩) (v := ?v1) rfl (by kernel_rfl) (by kernel_rfl) (by kernel_rfl) (fun _ _ _ h => h) (Or.inl ⟨by rfl, ?y1⟩) hHeld ?r1
        case y1 => (intro w hSw; (try dsimp only at hSw); go_simp; try with_reducible rfl)
        simp only [Act.put, List.setIfInBounds_toArray, List.set_cons_zero, List.set_cons_succ]
        refine wpAnyH_take (i := 2) (oi := ⟨some 27, _, _, _, _, _⟩) (v := ?v2) rfl (by kernel_rfl) (by kernel_rfl) (by kernel_rfl) (fun _ _ _ h => h) (Or.inl ⟨by rfl, ?y2⟩) hHeld ?r2
        case y2 => (intro w hSw; (try dsimp only at hSw); go_simp; try with_reducible rfl)
        simp only [Act.put, List.setIfInBounds_toArray, List.set_cons_zero, List.set_cons_succ]
        refine wpAnyH_take (i := 3) (oi := ⟨some 28, _, _, _, _, _⟩) (v := ?v3) rfl (by kernel_rfl) (by kernel_rfl) (by kernel_rfl) (fun _ _ _ h => h) (Or.inl ⟨by rfl, ?y3⟩) hHeld ?r3
        case y3 => (intro w hSw; (try dsimp only at hSw); go_simp; try with_reducible rfl)
        simp only [Act.put, List.setIfInBounds_toArray, List.set_cons_zero, List.set_cons_succ]
        refine wpAnyH_take (i := 4) (oi := ⟨some 29, _, _, _, _, _⟩) (v := ?v4) rfl (by kernel_rfl) (by kernel_rfl) (by kernel_rfl) (fun _ _ _ h => h) (Or.inl ⟨by rfl, ?y4⟩) hHeld ?r4
        case y4 => (intro w hSw; (try dsimp only at hSw); go_simp; try with_reducible rfl)
        simp only [Act.put, List.setIfInBounds_toArray, List.set_cons_zero, List.set_cons_succ]
        refine wpAnyH_take (i := 5) (oi := ⟨some 30, _, _, _, _, _⟩) (v := ?v5) rfl (by kernel_rfl) (by kernel_rfl) (by kernel_rfl) (fun _ _ _ h => h) (Or.inl ⟨by rfl, ?y5⟩) hHeld ?r5
        case y5 => (intro w hSw; (try dsimp only at hSw); go_simp; try with_reducible rfl)
        simp only [Act.put, List.setIfInBounds_toArray, List.set_cons_zero, List.set_cons_succ]
        refine wpAnyH_take (i := 6) (oi := ⟨some 31, _, _, _, _, _⟩) (v := ?v6) rfl (by kernel_rfl) (by kernel_rfl) (by kernel_rfl) (fun _ _ _ h => h) (Or.inl ⟨by rfl, ?y6⟩) hHeld ?r6
        case y6 => (intro w hSw; (try dsimp only at hSw); go_simp; try with_reducible rfl)
        simp only [Act.put, List.setIfInBounds_toArray, List.set_cons_zero, List.set_cons_succ]
        refine wpAnyH_ready (rs := [7]) (by kernel_rfl) (by simp) ?_
        refine AllReadyH.cons rfl (fun K hK => ?_) AllReadyH.nil
        go_simp
        have q0 := (World.cell?_alloc_lt W7 (.cells #[.int .i64 (x : Nat), .int .i64 (y : Nat)] 34) ⟨g, 0, none⟩ hgs).trans Y0.out
        have q1 := (World.cell?_alloc_lt W7 (.cells #[.int .i64 (x : Nat), .int .i64 (y : Nat)] 34) ⟨g, 1, none⟩ hgs).trans Y1.out
        refine hK.out _ _ ⟨q0, q1⟩ (fun hHeld => ?_)
        clear hK K
        have HOW8 := Lib.hid (HOWN2.out.alloc (.cells #[.int .i64 (x : Nat), .int .i64 (y : Nat)] 34))
        have HFU8 := Lib.hid (HFULL.out.alloc (.cells #[.int .i64 (x : Nat), .int .i64 (y : Nat)] 34))
        have HBE8 := Lib.hid (belowAlloc HBEL2.out (.cells #[.int .i64 (x : Nat), .int .i64 (y : Nat)] 34))
        have HCE8 := Lib.hid (HCELLS2.out.alloc (.cells #[.int .i64 (x : Nat), .int .i64 (y : Nat)] 34))
        have HZ8 := Lib.hid (show w.heap.size + 1 ≤ (W7.alloc (.cells #[.int .i64 (x : Nat), .int .i64 (y : Nat)] 34)).heap.size from HCE8.out.lt)
        clear HOWN2 HFULL HBEL2 HCELLS2
        try simp only [Act.put, List.setIfInBounds_toArray, List.set_cons_zero, List.set_cons_succ]
        refine wpAnyH_ready (rs := [8]) (by kernel_rfl) (by simp) ?_
        refine AllReadyH.cons rfl (fun K hK => ?_) AllReadyH.nil
        refine step_append27_new (by rfl) _ _ (by rfl) (w.heap.size + 1) A' (toI kept) kl (by rfl) HTL.out HFU8.out ⟨W7.heap.size, 0, none⟩ 1 1 [((x : Int), (y : Int))] (by rfl) rfl (by decide) (news27 W7 _ _ rfl) (by rw [HTL.out]; omega) HZ8.out ?_
        intro c9 w9 hown9 hg9
        refine hK.out _ _ ⟨hg9.cell q0 (by simp), hg9.cell q1 (by simp)⟩ (fun hHeld => ?_)
        clear hK K q0 q1
        have HOW9 := Lib.hid (show OwnsE w9 (w.heap.size + 1) A' c' (toI kept) from HOW8.out.keep (fun k e => hg9.block k (HOW8.out.lt e).2 (by simp)))
        rw [← toI_snoc] at hown9
        have HNX9 := Lib.hid hown9
        have HBE9 := Lib.hid (HBE8.out.grown hg9 (Nat.le_of_succ_le HZ8.out) (fun k e => by cases e))
        have HCE9 := Lib.hid (HCE8.out.grown hg9 (by simp))
        clear hown9 hg9 HOW8 HFU8 HBE8 HCE8
        generalize (W7.alloc (.cells #[.int .i64 (x : Nat), .int .i64 (y : Nat)] 34)).heap.size = q9 at *
        try simp only [Act.put, List.setIfInBounds_toArray, List.set_cons_zero, List.set_cons_succ]
        refine wpAnyH_take (i := 9) (oi := ⟨some 11, _, _, _, _, _⟩) (v := ?v9) rfl (by kernel_rfl) (by kernel_rfl) (by kernel_rfl) (fun _ _ _ h => h) (Or.inl ⟨by rfl, ?y9⟩) hHeld ?r9
        case y9 => (intro w hSw; (try dsimp only at hSw); go_simp; try with_reducible rfl)
        simp only [Act.put, List.setIfInBounds_toArray, List.set_cons_zero, List.set_cons_succ]
        refine wpAnyH_done (by kernel_rfl) ?_ _
        go_wp2_with fail
        have c10 := Together_walk n (some ⟨q9, 0, none⟩) c9 (kept ++ [(x, y)]) w9 hn1 hn (by rw [List.length_append, HKL.out]; simp; omega) HGOOD.out HNX9.out.edges
        rw [show (kept ++ [(x, y)]).length = kl + 1 by rw [List.length_append, HKL.out]; rfl] at c10
        refine c10.mono ?_
        clear c10
        rintro e w10 ⟨tg, rfl, htg, hb10⟩
        have HCE := Lib.hid (HCE9.out.keep (hb10.block _ HCE9.out.lt))
        have HBE := Lib.hid (HBE9.out.trans (hb10.mono HBE9.out.size))
        have HOW := Lib.hid (HOW9.out.below hb10)
        have HNX := Lib.hid (HNX9.out.below hb10)
        have hqs10 := HCE.out.lt
        clear hb10 HCE9 HBE9 HOW9 HNX9
        cases tg
        · have hsp : Sparse n (kept ++ [(x, y)]) := Classical.byContradiction fun h => by have := htg.2 h; cases this
          obtain ⟨e1, e2⟩ := HST.out.2.1 hwo hsp
          have hce := HCE.out
          rw [HQ.out, HL.out] at hce
          have d1 : w10.cell? ⟨q, j, none⟩ = some (.bool (decide (j < j) && (greedy n wo 0 [] es).getD j false)) := hce.cell hlt
          have d2 : w10.frozen? ⟨q, j, none⟩ = false := hce.frozen _
          have HR : Hid (FofRel n wo es w (j + 1) (kept ++ [(x, y)]) (some ⟨q9, 0, none⟩) c9 (w10.setCell ⟨q, j, none⟩ (.bool true))) := by
            have hne : ∀ k, blk (some (⟨q9, 0, none⟩ : Addr)) = some k → (w10.setCell ⟨q, j, none⟩ (.bool true)).heap[k]? = w10.heap[k]? := fun k e => by
              have h1 := (HNX.out.lt e).1
              exact Below.heap_setCell _ _ _ _ (by rw [HQ.out] at h1; show k ≠ q; omega)
            refine ⟨?_, HBE.out.setCell (by show w.heap.size ≤ q; rw [HQ.out]; exact Nat.le_refl _) _, HNX.out.keep hne, by rw [List.length_append, HKL.out]; simp; omega, HGOOD.out, e2⟩
            rw [HQ.out, HL.out]
            exact cells_yes hlt hce e1
          clear hsp e1 e2 hce htg
          go_wp2
          go_roundw
          case rel => exact ⟨j + 1, kl + 1, kept ++ [(x, y)], some ⟨q9, 0, none⟩, c9, by omega, by go_num, rfl, by rw [List.length_append, HKL.out]; rfl, HR.out⟩
          case measure => simp [intOf]; omega
        · have hsp : ¬ Sparse n (kept ++ [(x, y)]) := htg.1 rfl
          obtain ⟨e1, e2⟩ := HST.out.2.2 hwo hsp
          have HR : Hid (FofRel n wo es w (j + 1) kept A' c' w10) :=
            ⟨cells_no HCE.out e1, HBE.out, HOW.out, by rw [HKL.out]; omega, HGK.out, e2⟩
          clear hsp e1 e2 htg
          go_wp2
          go_roundw
          case rel => exact ⟨j + 1, kl, kept, A', c', by omega, by go_num, rfl, HKL.out, HR.out⟩
          case measure => simp [intOf]; omega
    · obtain rfl : len = j := by omega
      have HC : Hid (Cells wo' q 4 len (boolsV fun i => (greedy n wo 0 [] es).getD i false)) := by
        have := HCELLS.out
        rw [HQ.out, HL.out] at this
        refine this.congr fun i hi => ?_
        unfold boolsV
        dsimp only
        rw [decide_eq_true hi, Bool.true_and]
      clear hlt
      go_wp2
      go_ret
      exact ⟨q, rfl, by rw [HQ.out]; exact Nat.le_refl _, HC.out, HBEL.out⟩
end Go.Proofs.Ytdbhpiofbkhbeaa
