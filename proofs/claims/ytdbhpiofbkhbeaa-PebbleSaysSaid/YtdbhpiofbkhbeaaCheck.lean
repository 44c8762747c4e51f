/- The contract of 'pebble.Check': what it answers, as a plain function. No condition but that the edges read. -/
import Derived.Test.YtdbhpiofbkhbeaaMap
import Derived.BigQuiet
import Derived.BigRegion
import Derived.Deep.QuietTactic
import Derived.Lib.Hide
namespace Go.Proofs.Ytdbhpiofbkhbeaa
open Go.RowKit
set_option linter.unusedSimpArgs false
set_option linter.unusedVariables false

/-- The edges that a slice value's address leads to. -/
def Edges (w : World) (A : Option Addr) (es : List (Int × Int)) : Prop :=
  ∀ i, (h : i < es.length) → ∃ b o, A = some ⟨b, o, none⟩ ∧ b < w.heap.size ∧ w.cell? ⟨b, o + i * 2, none⟩ = some (.int .i64 es[i].1) ∧ w.cell? ⟨b, o + i * 2 + 1, none⟩ = some (.int .i64 es[i].2)

theorem Edges.below {w w' : World} {A : Option Addr} {es : List (Int × Int)} (h : Edges w A es) (hb : Below w.heap.size w w') : Edges w' A es := by
  intro i hi
  obtain ⟨b, o, hA, hlt, h1, h2⟩ := h i hi
  exact ⟨b, o, hA, Nat.lt_of_lt_of_le hlt hb.size, (hb.cell (p := ⟨b, _, none⟩) hlt).trans h1, (hb.cell (p := ⟨b, _, none⟩) hlt).trans h2⟩

def norm (e : Int × Int) : Int × Int := (min e.1 e.2, max e.1 e.2)
def badEdge (n : Int) (e : Int × Int) : Bool := decide (min e.1 e.2 < 0 ∨ n ≤ max e.1 e.2 ∨ e.1 = e.2)

def scanE (n : Int) : List (Int × Int) → Nat → List (Int × Int) → Int × Int
  | _, _, [] => (0, 0)
  | seen, i, e :: es => if badEdge n e = true then (4, i) else if norm e ∈ seen then (7, i) else scanE n (seen ++ [norm e]) (i + 1) es

def checkE (n : Int) (es : List (Int × Int)) : Int × Int := if n < 1 ∨ 10 < n ∨ 45 < es.length then (2, 0) else scanE n [] 0 es

def faultV (p : Int × Int) : Value := .agg #[.int .i64 p.1, .int .i64 p.2]

theorem SetAt.lt {w : World} {b : Nat} {l : List (Int × Int)} (h : SetAt w b l) : b < w.heap.size := by
  obtain ⟨es, clock, hb, _⟩ := h
  exact (Array.getElem?_eq_some_iff.1 hb).1

theorem SetAt.kept {w w' : World} {b : Nat} {l : List (Int × Int)} {row : Option Nat} (h : SetAt w b l) (hg : w.grownBy w' row) (hne : some b ≠ row) : SetAt w' b l := by
  have hlt := h.lt
  obtain ⟨es, clock, hb, h1, h2⟩ := h
  exact ⟨es, clock, (hg.block b hlt hne).trans hb, h1, h2⟩
theorem SetAt.alloc {w : World} {b : Nat} {l : List (Int × Int)} (h : SetAt w b l) (o : Obj) : SetAt (w.alloc o) b l := h.kept (World.grownBy_alloc w o none) (by simp)
theorem SetAt.drewN {w : World} {b : Nat} {l : List (Int × Int)} (h : SetAt w b l) (n : Nat) : SetAt (w.drewN n) b l := h

theorem drop_cons (es : List (Int × Int)) (j : Nat) (h : j < es.length) : es.drop j = es[j] :: es.drop (j + 1) := (List.drop_eq_getElem_cons h)

/-- The round's end: one edge more stands in the map. -/
theorem check_rel {n : Int} {es : List (Int × Int)} {j len nq : Nat} {w wr w1 : World} {p q : Int} {o : Obj}
    (HT : Hid ((es.take (j + 1)).map norm = (es.take j).map norm ++ [(p, q)]))
    (HF : Hid (checkE n es = scanE n ((es.take (j + 1)).map norm) (j + 1) (es.drop (j + 1))))
    (HS1 : Hid (SetAt w1 (w.heap.size + 1) ((es.take j).map norm ++ [(p, q)])))
    (HG1 : Hid (((wr.alloc o).drewN nq).grownBy w1 (some (w.heap.size + 1))))
    (HR : Hid (wr.heap[w.heap.size]? = some (.cells #[.int .i64 0, .int .i64 0] 30 (0, 0)))) (hb : Below w.heap.size w wr) (hsz : w.heap.size + 1 < wr.heap.size) (hlt : j < len) :
    ∃ j' : Nat, j' ≤ len ∧ Value.int .i64 ((j : Int) + 1) = .int .i64 j' ∧ Below w.heap.size w w1 ∧ SetAt w1 (w.heap.size + 1) ((es.take j').map norm) ∧
      w1.heap[w.heap.size]? = some (.cells #[.int .i64 0, .int .i64 0] 30 (0, 0)) ∧ scanE n ((es.take j').map norm) j' (es.drop j') = checkE n es := by
  refine ⟨j + 1, by omega, by simp, ?_, by rw [HT.out]; exact HS1.out, ?_, HF.out.symm⟩
  · refine (below_drewN (hb.alloc (by omega) o) nq).grown HG1.out (by simp; omega) ?_
    intro k hk
    injection hk with hk
    omega
  · rw [HG1.out.block w.heap.size (by simp; omega) (by simp)]
    simp only [World.heap_drewN]
    rw [Below.heap_alloc _ _ _ (by omega)]
    exact HR.out

theorem belowAlloc {a w : World} (h : Below a.heap.size a w) (o : Obj) : Below a.heap.size a (w.alloc o) := h.alloc h.size o
theorem check_start2 (w : World) : ((w.alloc (.cells #[.int .i64 0, .int .i64 0] 30)).alloc (.map #[] 0)).heap[w.heap.size]? = some (.cells #[.int .i64 0, .int .i64 0] 30 (0, 0)) := by
  rw [Below.heap_alloc _ _ _ (by simp)]
  exact heap_alloc_new _ _
theorem check_start (w : World) : SetAt ((w.alloc (.cells #[.int .i64 0, .int .i64 0] 30)).alloc (.map #[] 0)) (w.heap.size + 1) [] :=
  ⟨#[], 0, by rw [← World.size_alloc w (.cells #[.int .i64 0, .int .i64 0] 30)]; exact heap_alloc_new _ _, rfl, rfl⟩

set_option maxHeartbeats 1000000 in
theorem check_walk (n : Int) (A : Option Addr) (cap : Nat) (es : List (Int × Int)) (w : World) (hn0 : 1 ≤ n) (hn1 : n ≤ 10) (hl : es.length ≤ 45) (he : Edges w A es) :
    Calls Try.prog 17 #[.int .i64 n, .slice A es.length cap] w fun e w' => e = .returned (faultV (checkE n es)) ∧ Below w.heap.size w w' := by
  have HE : Hid (Edges w A es) := he
  clear he
  generalize hlen : es.length = len at *
  have HL : Hid (es.length = len) := hlen
  clear hlen
  have hmm := @run_makeMap Try.prog
  go_enter Try.func17, Try.ntmps17
  go_wp2
  go_loopw [25] (fun i wr => ∃ j : Nat, j ≤ len ∧ i = .int .i64 j ∧ Below w.heap.size w wr ∧ SetAt wr (w.heap.size + 1) ((es.take j).map norm) ∧
      wr.heap[w.heap.size]? = some (.cells #[.int .i64 0, .int .i64 0] 30 (0, 0)) ∧ scanE n ((es.take j).map norm) j (es.drop j) = checkE n es) (fun i _ => len - (intOf i).toNat)
  case atStart => exact ⟨0, by omega, rfl, belowAlloc (belowAlloc (Below.refl _ _) _) _, check_start w, check_start2 w, by rw [checkE, if_neg (by rw [HL.out]; omega)]; rfl⟩
  case round =>
    obtain ⟨j, hj, rfl, hb, hset, hres, hsc⟩ := hrel
    by_cases hlt : j < len
    · have hlt' : j < es.length := by rw [HL.out]; exact hlt
      obtain ⟨b, o, rfl, hbl, h1, h2⟩ := HE.out j hlt'
      have g1 : wr.cell? ⟨b, o + j * 2, none⟩ = _ := (hb.cell (p := ⟨b, _, none⟩) hbl).trans h1
      have g2 : wr.cell? ⟨b, o + j * 2 + 1, none⟩ = _ := (hb.cell (p := ⟨b, _, none⟩) hbl).trans h2
      have HS := Lib.hid hset
      have HR := Lib.hid hres
      have HC := Lib.hid hsc
      clear h1 h2 hset hres hsc
      have hx : ∃ x y, es[j] = (x, y) := ⟨_, _, rfl⟩
      obtain ⟨x, y, hxy⟩ := hx
      rw [hxy] at g1 g2
      have hsz : w.heap.size + 1 < wr.heap.size := HS.out.lt
      have hr0 : (wr.alloc (.cells #[.int .i64 x, .int .i64 y] 34)).cell? ⟨w.heap.size, 0, none⟩ = some (.int .i64 0) := by
        rw [World.cell?_alloc_lt _ _ _ (by simp; omega)]; simp [World.cell?, HR.out]
      have hr1 : (wr.alloc (.cells #[.int .i64 x, .int .i64 y] 34)).cell? ⟨w.heap.size, 1, none⟩ = some (.int .i64 0) := by
        rw [World.cell?_alloc_lt _ _ _ (by simp; omega)]; simp [World.cell?, HR.out]
      have hf0 : (wr.alloc (.cells #[.int .i64 x, .int .i64 y] 34)).frozen? ⟨w.heap.size, 0, none⟩ = false := by
        rw [frozen?_alloc_cells]; simp [World.frozen?, HR.out]
      have hf1 : (wr.alloc (.cells #[.int .i64 x, .int .i64 y] 34)).frozen? ⟨w.heap.size, 1, none⟩ = false := by
        rw [frozen?_alloc_cells]; simp [World.frozen?, HR.out]
      have hdrop := drop_cons es j hlt'
      rw [hxy] at hdrop
      have htake : (es.take (j + 1)).map norm = (es.take j).map norm ++ [norm (x, y)] := by
        rw [List.take_succ_eq_append_getElem hlt', hxy]; simp
      have hstep : checkE n es = if badEdge n (x, y) = true then (4, (j : Int)) else if norm (x, y) ∈ (es.take j).map norm then (7, (j : Int)) else scanE n ((es.take (j + 1)).map norm) (j + 1) (es.drop (j + 1)) := by
        rw [htake, ← HC.out, hdrop, scanE]
      clear hdrop hxy HC
      have HT := Lib.hid htake
      clear htake
      have hlin : 0 ≤ (j : Int) := by omega
      rcases Int.lt_trichotomy y x with hyx | hyx | hyx
      · have hne : (y == x) = false := by simp; omega
        have hmm1 : norm (x, y) = (y, x) := by simp only [norm, Prod.mk.injEq]; omega
        have hbd : badEdge n (x, y) = true ↔ (y < 0 ∨ n ≤ x) := by
          unfold badEdge; rw [decide_eq_true_iff]; dsimp only; omega
        by_cases c : y < 0 ∨ n ≤ x
        · have HF : Hid (checkE n es = (4, (j : Int))) := by rw [hstep, if_pos (hbd.2 c)]; rfl
          clear hstep hmm1 hbd
          by_cases c1 : y < 0
          · skip
            clear c
            go_wp2
            go_quiet (fail)
            go_wp2
            refine bodyPost_ret (v := .agg #[.int .i64 4, .int .i64 j]) (by simp [results, Try.results17, go_sem, hr0, hr1]) rfl ⟨by rw [HF.out]; rfl, ?_⟩
            exact ((below_drewN (hb.alloc (by omega) _) _).setCell (Nat.le_refl _) _).setCell (Nat.le_refl _) _
          · have c2 : n ≤ x := by omega
            clear c
            go_wp2
            go_quiet (fail)
            go_wp2
            refine bodyPost_ret (v := .agg #[.int .i64 4, .int .i64 j]) (by simp [results, Try.results17, go_sem, hr0, hr1]) rfl ⟨by rw [HF.out]; rfl, ?_⟩
            exact ((below_drewN (hb.alloc (by omega) _) _).setCell (Nat.le_refl _) _).setCell (Nat.le_refl _) _
        · have hstep2 := hstep
          rw [if_neg (fun h => c (hbd.1 h)), hmm1] at hstep2
          clear hstep hbd
          have c1 : ¬ y < 0 := by omega
          have c2 : x < n := by omega
          by_cases hm : (y, x) ∈ (es.take j).map norm
          · have HF : Hid (checkE n es = (7, (j : Int))) := by rw [hstep2, if_pos hm]; rfl
            have HM := Lib.hid hm
            clear hstep2 hm c hmm1
            have hset2 := ((HS.out).alloc (.cells #[.int .i64 x, .int .i64 y] 34))
            have HS2 := Lib.hid hset2
            clear hset2
            go_wp2
            go_quiet (fail)
            go_wp2_with (at_lookup; refine wpList_lookup50 _ rfl _ _ rfl (w.heap.size + 1) _ rfl (HS2.out.drewN _) y x rfl ?_; rw [decide_eq_true HM.out])
            refine bodyPost_ret (v := .agg #[.int .i64 7, .int .i64 j]) (by simp [results, Try.results17, go_sem, hr0, hr1]) rfl ⟨by rw [HF.out]; rfl, ?_⟩
            exact ((below_drewN (hb.alloc (by omega) _) _).setCell (Nat.le_refl _) _).setCell (Nat.le_refl _) _
          · rw [if_neg hm] at hstep2
            have HF := Lib.hid hstep2
            have HM := Lib.hid hm
            rw [hmm1] at HT
            clear hstep2 hm c hmm1
            have hset2 := ((HS.out).alloc (.cells #[.int .i64 x, .int .i64 y] 34))
            have HS2 := Lib.hid hset2
            clear hset2
            go_wp2
            go_quiet (fail)
            go_wp2_with (first
              | (at_lookup; refine wpList_lookup50 _ rfl _ _ rfl (w.heap.size + 1) _ rfl (HS2.out.drewN _) y x rfl ?_; rw [decide_eq_false HM.out])
              | (at_mapUpdate; refine wpList_update50 _ rfl _ _ _ rfl (w.heap.size + 1) _ rfl (HS2.out.drewN _) y x rfl rfl HM.out ?_; intro w1 hs1 hg1; have HS1 := Lib.hid hs1; have HG1 := Lib.hid hg1; clear hs1 hg1))
            go_roundw
            case rel => exact check_rel HT HF HS1 HG1 HR hb hsz hlt
            case measure => simp [intOf]; omega
      · subst hyx
        have hbd : badEdge n (y, y) = true := by
          unfold badEdge; rw [decide_eq_true_iff]; dsimp only; omega
        have HF : Hid (checkE n es = (4, (j : Int))) := by rw [hstep, if_pos hbd]; rfl
        have c : True := trivial
        have c3 : (y == y) = true := by simp
        clear hstep hbd
        by_cases c1 : y < 0
        · skip
          clear c
          go_wp2
          go_quiet (fail)
          go_wp2
          refine bodyPost_ret (v := .agg #[.int .i64 4, .int .i64 j]) (by simp [results, Try.results17, go_sem, hr0, hr1]) rfl ⟨by rw [HF.out]; rfl, ?_⟩
          exact ((below_drewN (hb.alloc (by omega) _) _).setCell (Nat.le_refl _) _).setCell (Nat.le_refl _) _
        · by_cases c2 : n ≤ y
          · skip
            clear c
            go_wp2
            go_quiet (fail)
            go_wp2
            refine bodyPost_ret (v := .agg #[.int .i64 4, .int .i64 j]) (by simp [results, Try.results17, go_sem, hr0, hr1]) rfl ⟨by rw [HF.out]; rfl, ?_⟩
            exact ((below_drewN (hb.alloc (by omega) _) _).setCell (Nat.le_refl _) _).setCell (Nat.le_refl _) _
          · skip
            clear c
            go_wp2
            go_quiet (fail)
            go_wp2
            refine bodyPost_ret (v := .agg #[.int .i64 4, .int .i64 j]) (by simp [results, Try.results17, go_sem, hr0, hr1]) rfl ⟨by rw [HF.out]; rfl, ?_⟩
            exact ((below_drewN (hb.alloc (by omega) _) _).setCell (Nat.le_refl _) _).setCell (Nat.le_refl _) _
      · have hne : (x == y) = false := by simp; omega
        have hmm1 : norm (x, y) = (x, y) := by simp only [norm, Prod.mk.injEq]; omega
        have hbd : badEdge n (x, y) = true ↔ (x < 0 ∨ n ≤ y) := by
          unfold badEdge; rw [decide_eq_true_iff]; dsimp only; omega
        by_cases c : x < 0 ∨ n ≤ y
        · have HF : Hid (checkE n es = (4, (j : Int))) := by rw [hstep, if_pos (hbd.2 c)]; rfl
          clear hstep hmm1 hbd
          by_cases c1 : x < 0
          · skip
            clear c
            go_wp2
            go_quiet (fail)
            go_wp2
            refine bodyPost_ret (v := .agg #[.int .i64 4, .int .i64 j]) (by simp [results, Try.results17, go_sem, hr0, hr1]) rfl ⟨by rw [HF.out]; rfl, ?_⟩
            exact ((below_drewN (hb.alloc (by omega) _) _).setCell (Nat.le_refl _) _).setCell (Nat.le_refl _) _
          · have c2 : n ≤ y := by omega
            clear c
            go_wp2
            go_quiet (fail)
            go_wp2
            refine bodyPost_ret (v := .agg #[.int .i64 4, .int .i64 j]) (by simp [results, Try.results17, go_sem, hr0, hr1]) rfl ⟨by rw [HF.out]; rfl, ?_⟩
            exact ((below_drewN (hb.alloc (by omega) _) _).setCell (Nat.le_refl _) _).setCell (Nat.le_refl _) _
        · have hstep2 := hstep
          rw [if_neg (fun h => c (hbd.1 h)), hmm1] at hstep2
          clear hstep hbd
          have c1 : ¬ x < 0 := by omega
          have c2 : y < n := by omega
          by_cases hm : (x, y) ∈ (es.take j).map norm
          · have HF : Hid (checkE n es = (7, (j : Int))) := by rw [hstep2, if_pos hm]; rfl
            have HM := Lib.hid hm
            clear hstep2 hm c hmm1
            have hset2 := ((HS.out).alloc (.cells #[.int .i64 x, .int .i64 y] 34))
            have HS2 := Lib.hid hset2
            clear hset2
            go_wp2
            go_quiet (fail)
            go_wp2_with (at_lookup; refine wpList_lookup50 _ rfl _ _ rfl (w.heap.size + 1) _ rfl (HS2.out.drewN _) x y rfl ?_; rw [decide_eq_true HM.out])
            refine bodyPost_ret (v := .agg #[.int .i64 7, .int .i64 j]) (by simp [results, Try.results17, go_sem, hr0, hr1]) rfl ⟨by rw [HF.out]; rfl, ?_⟩
            exact ((below_drewN (hb.alloc (by omega) _) _).setCell (Nat.le_refl _) _).setCell (Nat.le_refl _) _
          · rw [if_neg hm] at hstep2
            have HF := Lib.hid hstep2
            have HM := Lib.hid hm
            rw [hmm1] at HT
            clear hstep2 hm c hmm1
            have hset2 := ((HS.out).alloc (.cells #[.int .i64 x, .int .i64 y] 34))
            have HS2 := Lib.hid hset2
            clear hset2
            go_wp2
            go_quiet (fail)
            go_wp2_with (first
              | (at_lookup; refine wpList_lookup50 _ rfl _ _ rfl (w.heap.size + 1) _ rfl (HS2.out.drewN _) x y rfl ?_; rw [decide_eq_false HM.out])
              | (at_mapUpdate; refine wpList_update50 _ rfl _ _ _ rfl (w.heap.size + 1) _ rfl (HS2.out.drewN _) x y rfl rfl HM.out ?_; intro w1 hs1 hg1; have HS1 := Lib.hid hs1; have HG1 := Lib.hid hg1; clear hs1 hg1))
            go_roundw
            case rel => exact check_rel HT HF HS1 HG1 HR hb hsz hlt
            case measure => simp [intOf]; omega
    · have hj : j = len := by omega
      subst hj
      have HF : Hid (checkE n es = (0, 0)) := by
        rw [← hsc, ← HL.out, List.drop_length]; rfl
      have HR := Lib.hid hres
      have hr0 : wr.cell? ⟨w.heap.size, 0, none⟩ = some (.int .i64 0) := by simp [World.cell?, HR.out]
      have hr1 : wr.cell? ⟨w.heap.size, 1, none⟩ = some (.int .i64 0) := by simp [World.cell?, HR.out]
      have hf0 : wr.frozen? ⟨w.heap.size, 0, none⟩ = false := by simp [World.frozen?, HR.out]
      have hf1 : wr.frozen? ⟨w.heap.size, 1, none⟩ = false := by simp [World.frozen?, HR.out]
      clear hset hres hsc
      go_wp2
      refine bodyPost_ret (v := .agg #[.int .i64 0, .int .i64 0]) (by simp [results, Try.results17, go_sem, hr0, hr1]) rfl ⟨by rw [HF.out]; rfl, ?_⟩
      exact (hb.setCell (Nat.le_refl _) _).setCell (Nat.le_refl _) _
end Go.Proofs.Ytdbhpiofbkhbeaa
