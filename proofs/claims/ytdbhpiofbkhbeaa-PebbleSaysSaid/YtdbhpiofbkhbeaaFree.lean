/- The contract of 'pebble.free', given that of '(*game).gather': it is the greedy rule. Conditions: a graph of at most 10 points and 45 edges. -/
import Derived.Test.YtdbhpiofbkhbeaaGather
import Derived.Test.YtdbhpiofbkhbeaaCheck
namespace Go.Proofs.Ytdbhpiofbkhbeaa
open Go.RowKit
set_option linter.unusedSimpArgs false
set_option linter.unusedVariables false

def GatherSaid : Prop := ∀ (base : Nat → Prop) (g p o n : Nat), n ≤ 10 → ∀ (w : World) (peb : Nat → Nat) (out : Nat → List Nat) (A : Nat → Option Addr) (C : Nat → Nat) (kept : Es) (a b : Nat),
    Game w base g p o n peb out A C → Board n peb out kept → a < n → b < n → a ≠ b → New base w →
    Calls Try.prog 25 #[.pointer (some ⟨g, 0, none⟩), .int .i64 (a : Nat), .int .i64 (b : Nat)] w (GatherPost base g p o n kept a b w)

/-- Edges of points. -/
def toI (es : Es) : List (Int × Int) := es.map fun e => ((e.1 : Int), (e.2 : Int))

theorem toI_get (es : Es) (j : Nat) (h : j < es.length) : (toI es)[j]'(by simpa [toI] using h) = (((es[j].1 : Nat) : Int), ((es[j].2 : Nat) : Int)) := by simp [toI]

/-- A list of bools in memory of the call's own. -/
def BoolsAt (base : Nat) (w : World) (v : Value) (l : List Bool) : Prop := ∃ b, v = .slice (some ⟨b, 0, none⟩) l.length l.length ∧ base ≤ b ∧ Cells w b 4 l.length (boolsV fun i => l.getD i false)

theorem info24 : (Try.prog.info? 24).map (fun i => (i.zero, i.size, i.bytes)) = some (some (.slice none 0 0), 1, 24) := by kernel_rfl

theorem make24 (n : Nat) (hn : n ≤ 100) (w : World) : (Instr.makeSlice 24 (.int .i64 (n : Nat)) (.int .i64 (n : Nat))).run Try.prog w = .ok (.slice (some ⟨w.heap.size, 0, none⟩) n n) (w.alloc (blank (.int .i64 0) 3 n)) := by
  obtain ⟨i0, hi0, hz0, hz1, hz2⟩ := info_parts info3
  have h := run_make (P := Try.prog) w 24 3 i0 (.int .i64 0) Try.underlying24 hi0 hz0 .i64 .i64 (n : Int) (n : Int) (by omega) (Int.le_refl _) (by rw [hz2]; omega) (by omega)
  rw [h, hz1]
  simp [blank, Value.cells]

theorem make52 (n : Nat) (hn : n ≤ 100) (w : World) : (Instr.makeSlice 52 (.int .i64 (n : Nat)) (.int .i64 (n : Nat))).run Try.prog w = .ok (.slice (some ⟨w.heap.size, 0, none⟩) n n) (w.alloc (blank (.slice none 0 0) 24 n)) := by
  obtain ⟨i0, hi0, hz0, hz1, hz2⟩ := info_parts info24
  have h := run_make (P := Try.prog) w 52 24 i0 (.slice none 0 0) Try.underlying52 hi0 hz0 .i64 .i64 (n : Int) (n : Int) (by omega) (Int.le_refl _) (by rw [hz2]; omega) (by omega)
  rw [h, hz1]
  simp [blank, Value.cells]

/-- The blocks of the game, as 'free' makes them. -/
structure Laid (w : World) (g p o n : Nat) (w1 : World) : Prop where
  hg : Cells w1 g 54 2 (fun i => if i = 0 then .slice (some ⟨p, 0, none⟩) n n else .slice (some ⟨o, 0, none⟩) n n)
  hp : Cells w1 p 3 n (fun _ => .int .i64 0)
  ho : Cells w1 o 24 n (fun _ => .slice none 0 0)
  below : Below w.heap.size w w1
  size : w1.heap.size = w.heap.size + 3
  g3 : w.heap.size ≤ g ∧ g < w.heap.size + 3
  p3 : w.heap.size ≤ p ∧ p < w.heap.size + 3
  o3 : w.heap.size ≤ o ∧ o < w.heap.size + 3
  gp : g ≠ p
  go : g ≠ o
  po : p ≠ o

theorem pair_cells (w : World) (x y : Value) : Cells (w.alloc (.cells #[x, y] 54)) w.heap.size 54 2 (fun i => if i = 0 then x else y) :=
  ⟨_, heap_alloc_new w _, rfl, fun i hi => by
    match i, hi with
    | 0, _ => rfl
    | 1, _ => rfl⟩

theorem laid_one (w : World) (n : Nat) : Laid w (w.heap.size + 1 + 1) w.heap.size (w.heap.size + 1) n
    ((((w.alloc (blank (.int .i64 0) 3 n)).alloc (blank (.slice none 0 0) 24 n)).alloc (.cells #[.slice (some ⟨w.heap.size, 0, none⟩) n n, .slice (some ⟨w.heap.size + 1, 0, none⟩) n n] 54)).drew) where
  hg := by
    have h := pair_cells ((w.alloc (blank (.int .i64 0) 3 n)).alloc (blank (.slice none 0 0) 24 n)) (.slice (some ⟨w.heap.size, 0, none⟩) n n) (.slice (some ⟨w.heap.size + 1, 0, none⟩) n n)
    simp only [World.size_alloc] at h
    exact h.drew
  hp := (((blank_cells w (.int .i64 0) 3 n).alloc _).alloc _).drew
  ho := by
    have h := blank_cells (w.alloc (blank (.int .i64 0) 3 n)) (.slice none 0 0) 24 n
    simp only [World.size_alloc] at h
    exact (h.alloc _).drew
  below := (belowAlloc (belowAlloc (belowAlloc (Below.refl _ _) _) _) _).drew
  size := by
    have h : ∀ x : World, x.drew.heap.size = x.heap.size := fun _ => rfl
    rw [h]
    simp only [World.size_alloc]
  g3 := by omega
  p3 := by omega
  o3 := by omega
  gp := by omega
  go := by omega
  po := by omega

theorem laid_two (w : World) (n : Nat) : Laid w (w.heap.size + 1 + 1) (w.heap.size + 1) w.heap.size n
    ((((w.alloc (blank (.slice none 0 0) 24 n)).alloc (blank (.int .i64 0) 3 n)).alloc (.cells #[.slice (some ⟨w.heap.size + 1, 0, none⟩) n n, .slice (some ⟨w.heap.size, 0, none⟩) n n] 54)).drew) where
  hg := by
    have h := pair_cells ((w.alloc (blank (.slice none 0 0) 24 n)).alloc (blank (.int .i64 0) 3 n)) (.slice (some ⟨w.heap.size + 1, 0, none⟩) n n) (.slice (some ⟨w.heap.size, 0, none⟩) n n)
    simp only [World.size_alloc] at h
    exact h.drew
  ho := (((blank_cells w (.slice none 0 0) 24 n).alloc _).alloc _).drew
  hp := by
    have h := blank_cells (w.alloc (blank (.slice none 0 0) 24 n)) (.int .i64 0) 3 n
    simp only [World.size_alloc] at h
    exact (h.alloc _).drew
  below := (belowAlloc (belowAlloc (belowAlloc (Below.refl _ _) _) _) _).drew
  size := by
    have h : ∀ x : World, x.drew.heap.size = x.heap.size := fun _ => rfl
    rw [h]
    simp only [World.size_alloc]
  g3 := by omega
  p3 := by omega
  o3 := by omega
  gp := by omega
  go := by omega
  po := by omega

/-- What is made behind the three blocks and the answer's block. -/
def Own4 (w : World) : Nat → Prop := fun k => w.heap.size + 4 ≤ k

theorem Laid.game {w w1 : World} {g p o n : Nat} (h : Laid w g p o n w1) : Game w1 (Own4 w) g p o n (fun i => if i < 0 then 2 else 0) (fun _ => []) (fun _ => none) (fun _ => 0) where
  hg := h.hg
  hp := h.hp.congr fun i hi => by simp
  ho := h.ho
  own i hi := .inl ⟨rfl, rfl, rfl⟩
  apart i j k _ _ _ e := by cases e
  lg := fun e => by have := h.g3; have : w.heap.size + 4 ≤ g := e; omega
  lp := fun e => by have := h.p3; have : w.heap.size + 4 ≤ p := e; omega
  lo := fun e => by have := h.o3; have : w.heap.size + 4 ≤ o := e; omega
  gp := h.gp
  go := h.go
  po := h.po

theorem Game.rebase {w : World} {base base' : Nat → Prop} {g p o n : Nat} {peb : Nat → Nat} {out : Nat → List Nat} {A : Nat → Option Addr} {C : Nat → Nat} (h : Game w base g p o n peb out A C)
    (h1 : ∀ i, i < n → ∀ k, blk (A i) = some k → base' k) (lg : ¬ base' g) (lp : ¬ base' p) (lo : ¬ base' o) : Game w base' g p o n peb out A C where
  hg := h.hg
  hp := h.hp
  ho := h.ho
  own i hi := by
    rcases h.own i hi with hh | ⟨b, cur, e, hb, r⟩
    · exact .inl hh
    · exact .inr ⟨b, cur, e, h1 i hi b (by rw [e]; rfl), r⟩
  apart := h.apart
  lg := lg
  lp := lp
  lo := lo
  gp := h.gp
  go := h.go
  po := h.po

/-- Behind j edges. -/
def FreeRel (n : Nat) (wo : Int) (es : Es) (G : List Bool) (g p o q len : Nat) (w : World) (j : Nat) (wr : World) : Prop :=
  ∃ (kept : Es) (peb : Nat → Nat) (out : Nat → List Nat) (A : Nat → Option Addr) (C : Nat → Nat), Game wr (Own4 w) g p o n peb out A C ∧ Board n peb out kept ∧ Sparse n kept ∧
    greedy n wo j kept (es.drop j) = G.drop j ∧ Cells wr q 4 len (boolsV fun i => decide (i < j) && G.getD i false) ∧ Below w.heap.size w wr ∧ w.heap.size + 4 ≤ wr.heap.size

set_option maxHeartbeats 4000000 in
set_option maxRecDepth 100000 in
theorem free_walk (hGa : GatherSaid) (n : Nat) (A : Option Addr) (cap : Nat) (es : Es) (wo : Int) (w : World) (hn1 : 1 ≤ n) (hn : n ≤ 10) (hl : es.length ≤ 45) (hg : Good n es) (he : Edges w A (toI es)) :
    Calls Try.prog 22 #[.int .i64 (n : Nat), .slice A es.length cap, .int .i64 wo] w fun e w' => ∃ v, e = .returned v ∧ BoolsAt w.heap.size w' v (greedy n wo 0 [] es) ∧ Below w.heap.size w w' := by
  have HGA := Lib.hid hGa
  have HE := Lib.hid he
  have HGD := Lib.hid hg
  clear hGa he hg
  have hmk1 := make24 n (by omega)
  have hmk2 := make52 n (by omega)
  generalize hlen : es.length = len at *
  have HL := Lib.hid hlen
  clear hlen
  go_enter Try.func22, Try.ntmps22
  go_upto_region 1 with (fail)
  go_cut [7] (fun s7 w1 => ∃ g p o, s7 = .pointer (some ⟨g, 0, none⟩) ∧ Laid w g p o n w1)
  case first =>
    go_region
    all_goals go_wp2_with fail
    all_goals go_meet
    · exact ⟨_, _, _, rfl, laid_one w n⟩
    · exact ⟨_, _, _, rfl, laid_two w n⟩
  case rest =>
    obtain ⟨g, p, o, rfl, hL⟩ := hcut
    clear hmk1 hmk2
    have hG := hL.game
    have hgs := hL.g3
    have hps := hL.p3
    have hos := hL.o3
    have c0 : wc.cell? ⟨g, 0, none⟩ = some (.slice (some ⟨p, 0, none⟩) n n) := hG.hg.cell (i := 0) (by omega)
    have HLB := Lib.hid hL.below
    have HLS := Lib.hid hL.size
    have HG := Lib.hid hG
    clear hL hG
    go_wp2
    go_loopw [23] (fun i wr => ∃ j : Nat, j ≤ n ∧ i = .int .i64 j ∧ Game wr (Own4 w) g p o n (fun i => if i < j then 2 else 0) (fun _ => []) (fun _ => none) (fun _ => 0) ∧ Below w.heap.size w wr ∧ wr.heap.size = w.heap.size + 3) (fun i _ => n - (intOf i).toNat)
    case atStart => exact ⟨0, by omega, rfl, HG.out, HLB.out, HLS.out⟩
    case round =>
      obtain ⟨j, hj, rfl, hG, hb, hsz⟩ := hrel
      clear c0
      have HG1 := Lib.hid hG
      have HB1 := Lib.hid hb
      have HSZ := Lib.hid hsz
      clear hG hb hsz
      by_cases hlt : j < n
      · have hj' : (j : Int) < (n : Int) := by omega
        have c0 : wr.cell? ⟨g, 0, none⟩ = some (.slice (some ⟨p, 0, none⟩) n n) := HG1.out.hg.cell (i := 0) (by omega)
        have c1 : wr.cell? ⟨p, j, none⟩ = some (.int .i64 0) := by have := HG1.out.hp.cell hlt; simpa using this
        have c2 : wr.frozen? ⟨p, j, none⟩ = false := HG1.out.hp.frozen _
        have hG2 := HG1.out.setPeb hlt 2
        have hb2 := HB1.out.setCell (p := ⟨p, j, none⟩) hps.1 (.int .i64 ((2 : Nat) : Int))
        have hsz2 : (wr.setCell ⟨p, j, none⟩ (.int .i64 ((2 : Nat) : Int))).heap.size = w.heap.size + 3 := by rw [← HSZ.out]; simp [World.setCell]
        have HX : Hid (Game (wr.setCell ⟨p, j, none⟩ (.int .i64 2)) (Own4 w) g p o n (fun i => if i < j + 1 then 2 else 0) (fun _ => []) (fun _ => none) (fun _ => 0) ∧ Below w.heap.size w (wr.setCell ⟨p, j, none⟩ (.int .i64 2)) ∧ (wr.setCell ⟨p, j, none⟩ (.int .i64 2)).heap.size = w.heap.size + 3) := by
          refine ⟨hG2.congr (fun i hi => ?_) (fun _ _ => rfl), hb2, hsz2⟩
          unfold upd
          dsimp only
          by_cases e : i = j
          · subst e; simp
          · rw [if_neg e]; by_cases e2 : i < j
            · rw [if_pos e2, if_pos (by omega)]
            · rw [if_neg e2, if_neg (by omega)]
        clear hG2 hb2 hsz2
        go_wp2
        go_roundw
        case rel => exact ⟨j + 1, by omega, by go_num, HX.out.1, HX.out.2.1, HX.out.2.2⟩
        case measure => simp [intOf]; omega
      · obtain rfl : n = j := by omega
        have hG3 : Game wr (Own4 w) g p o n (fun _ => 2) (fun _ => []) (fun _ => none) (fun _ => 0) := HG1.out.congr (fun i hi => by rw [if_pos hi]) (fun _ _ => rfl)
        have HG3 := Lib.hid hG3
        clear hG3 hj
        have hmk3 := make28 len (by omega)
        go_upto_region 8 with (fail)
        have hq0 := blank_cells wr (.bool false) 4 len
        have hG4 := HG3.out.alloc (blank (.bool false) 4 len)
        have hb4 := HB1.out.alloc (by have := HSZ.out; omega) (blank (.bool false) 4 len)
        have hs4 : (wr.alloc (blank (.bool false) 4 len)).heap.size = w.heap.size + 4 := by rw [World.size_alloc, HSZ.out]
        clear hmk3
        generalize wr.alloc (blank (.bool false) 4 len) = W4 at *
        generalize hqd : wr.heap.size = q at *
        have HQ : Hid (q = w.heap.size + 3) := HSZ.out
        obtain ⟨G, hGr⟩ : ∃ G, greedy n wo 0 [] es = G := ⟨_, rfl⟩
        have HGL : Hid (G.length = len) := by show G.length = len; rw [← hGr, greedy_length, HL.out]
        have HGR := Lib.hid hGr
        have hrel0 : FreeRel n wo es G g p o q len w 0 W4 := ⟨[], _, _, _, _, hG4, Board.start n, Sparse.nil n, hGr, hq0.congr fun i hi => by simp [boolsV], hb4, by omega⟩
        have HREL0 := Lib.hid hrel0
        clear hrel0 hq0 hG4 hb4 hs4 hGr HG1 HG3 hlt hqd
        go_wp2
        go_loopw [38] (fun i wr => ∃ j : Nat, j ≤ len ∧ i = .int .i64 j ∧ FreeRel n wo es G g p o q len w j wr) (fun i _ => len - (intOf i).toNat)
        case atStart => exact ⟨0, by omega, rfl, HREL0.out⟩
        case round =>
          clear HREL0
          obtain ⟨j, hj, rfl, kept, peb, out, AT, CT, hG, hB, hSp, hgr, hq, hb, hsz⟩ := hrel
          by_cases hlt : j < len
          · have hjl : j < es.length := by rw [HL.out]; exact hlt
            obtain ⟨eb0, eo, rfl, hebl, e1, e2⟩ := HE.out j (by simp [toI]; exact hjl)
            rw [toI_get es j hjl] at e1 e2
            obtain ⟨a, b, hab⟩ : ∃ a b, es[j] = (a, b) := ⟨_, _, rfl⟩
            rw [hab] at e1 e2
            have g1 : wr.cell? ⟨eb0, eo + j * 2, none⟩ = some (.int .i64 (a : Nat)) := (hb.cell (p := ⟨eb0, _, none⟩) hebl).trans e1
            have g2 : wr.cell? ⟨eb0, eo + j * 2 + 1, none⟩ = some (.int .i64 (b : Nat)) := (hb.cell (p := ⟨eb0, _, none⟩) hebl).trans e2
            obtain ⟨han, hbn, hne⟩ : a < n ∧ b < n ∧ a ≠ b := by have := HGD.out _ (List.getElem_mem hjl); rwa [hab] at this
            have hdrop : es.drop j = (a, b) :: es.drop (j + 1) := by rw [← hab]; exact List.drop_eq_getElem_cons hjl
            rw [hdrop] at hgr
            have HG := Lib.hid hG
            have HBD := Lib.hid hB
            have HSP := Lib.hid hSp
            have HGR2 := Lib.hid hgr
            have HCQ := Lib.hid hq
            have HB2 := Lib.hid hb
            have hj0 : (0 : Int) ≤ (j : Int) := by omega
            clear hG hB hSp hgr hq hb e1 e2 hab hdrop
            go_upto_region 11 with (fail)
            have hrow : (wr.alloc (.cells #[.int .i64 (a : Nat), .int .i64 (b : Nat)] 34)).heap[wr.heap.size]? = some (.cells #[.int .i64 (a : Nat), .int .i64 (b : Nat)] 34 (0, 0)) := heap_alloc_new wr _
            have hG1 := HG.out.alloc (.cells #[.int .i64 (a : Nat), .int .i64 (b : Nat)] 34)
            have hq1 := HCQ.out.alloc (.cells #[.int .i64 (a : Nat), .int .i64 (b : Nat)] 34)
            have hb1 := belowAlloc HB2.out (.cells #[.int .i64 (a : Nat), .int .i64 (b : Nat)] 34)
            have hs1 : (wr.alloc (.cells #[.int .i64 (a : Nat), .int .i64 (b : Nat)] 34)).heap.size = wr.heap.size + 1 := World.size_alloc ..
            have hown : ∀ i, i < n → ∀ k, blk (AT i) = some k → Own4 w k ∧ k ≠ wr.heap.size := fun i hi k e => ⟨((HG.out.own i hi).lt e).1, by have := ((HG.out.own i hi).lt e).2; omega⟩
            clear g1 g2
            generalize wr.alloc (.cells #[.int .i64 (a : Nat), .int .i64 (b : Nat)] 34) = W1 at *
            generalize wr.heap.size = eb at *
            have hnG : ¬ (Own4 w g ∧ g ≠ eb) := fun h => by have : w.heap.size + 4 ≤ g := h.1; omega
            have hnP : ¬ (Own4 w p ∧ p ≠ eb) := fun h => by have : w.heap.size + 4 ≤ p := h.1; omega
            have hnO : ¬ (Own4 w o ∧ o ≠ eb) := fun h => by have : w.heap.size + 4 ≤ o := h.1; omega
            have hnQ : ¬ (Own4 w q ∧ q ≠ eb) := fun h => by have : w.heap.size + 4 ≤ q := h.1; have := HQ.out; omega
            have hGj : Game W1 (fun k => Own4 w k ∧ k ≠ eb) g p o n peb out AT CT := hG1.rebase hown hnG hnP hnO
            have hNew : New (fun k => Own4 w k ∧ k ≠ eb) W1 := fun k hk => ⟨by show w.heap.size + 4 ≤ k; omega, by omega⟩
            have k0 : W1.cell? ⟨eb, 0, none⟩ = some (.int .i64 (a : Nat)) := by simp [World.cell?, hrow]
            have k1 : W1.cell? ⟨eb, 1, none⟩ = some (.int .i64 (b : Nat)) := by simp [World.cell?, hrow]
            have HROW := Lib.hid hrow
            have HQ1 := Lib.hid hq1
            have HB1' := Lib.hid hb1
            have HS1 := Lib.hid hs1
            have HGJ := Lib.hid hGj
            have HNEW := Lib.hid hNew
            have HG1' := Lib.hid hG1
            clear hrow hG1 hq1 hb1 hs1 hown hGj hNew
            have hcells : ∀ w', Cells w' q 4 len (boolsV fun i => decide (i < j) && G.getD i false) → G.getD j false = false → Cells w' q 4 len (boolsV fun i => decide (i < j + 1) && G.getD i false) := by
              intro w' h hf
              refine h.congr fun i hi => ?_
              unfold boolsV
              dsimp only
              by_cases e : i = j
              · subst e; rw [hf]; simp
              · have : decide (i < j) = decide (i < j + 1) := by congr 1; exact propext ⟨fun h => by omega, fun h => by omega⟩
                rw [this]
            have hstep : ∀ (x : Bool) (t : List Bool), x :: t = G.drop j → G.getD j false = x ∧ t = G.drop (j + 1) := by
              intro x t h
              have hjG : j < G.length := by rw [HGL.out]; exact hlt
              rw [List.drop_eq_getElem_cons hjG] at h
              injection h with h1 h2
              exact ⟨by rw [List.getD_eq_getElem?_getD, List.getElem?_eq_getElem hjG, h1]; rfl, h2⟩
            have HCELLS := Lib.hid hcells
            have HSTEP := Lib.hid hstep
            clear hcells hstep
            by_cases hw : (j : Int) = wo
            · have hwb : ((j : Int) == wo) = true := by simpa using hw
              have hX : FreeRel n wo es G g p o q len w (j + 1) W1 := by
                have h1 := HGR2.out
                unfold greedy at h1
                rw [if_pos hw] at h1
                obtain ⟨h2, h3⟩ := HSTEP.out _ _ h1
                exact ⟨kept, peb, out, AT, CT, HG1'.out, HBD.out, HSP.out, h3, HCELLS.out _ HQ1.out h2, HB1'.out, by have := HS1.out; omega⟩
              have HX := Lib.hid hX
              clear hX hw
              go_wp2
              go_roundw
              case rel => exact ⟨j + 1, by omega, by go_num, HX.out⟩
              case measure => simp [intOf]; omega
            · have hwb : ((j : Int) == wo) = false := by simpa using hw
              have HW := Lib.hid hw
              clear hw
              go_wp2_with (fail)
              refine (HGA.out (fun k => Own4 w k ∧ k ≠ eb) g p o n hn W1 peb out AT CT kept a b HGJ.out HBD.out han hbn hne HNEW.out).mono ?_
              rintro e w2 ⟨r, peb2, out2, A2, C2, rfl, hg2, hbd2, hfr, hyes, hno⟩
              have hq2 := HQ1.out.keep (hfr.block q hnQ (by have := HQ.out; omega) (by have := HQ.out; omega))
              have hb2 : Below w.heap.size w w2 := ⟨hfr.os.trans HB1'.out.os, hfr.tape.trans HB1'.out.tape, hfr.output.trans HB1'.out.output, Nat.le_trans HB1'.out.size hfr.size, fun k hk => (hfr.block k (fun h => by have : w.heap.size + 4 ≤ k := h.1; omega) (by omega) (by omega)).trans (HB1'.out.block k hk)⟩
              have hg3 : Game w2 (Own4 w) g p o n peb2 out2 A2 C2 := hg2.rebase (fun i hi k e => ((hg2.own i hi).lt e).1.1) HG1'.out.lg HG1'.out.lp HG1'.out.lo
              have hsz2 : w.heap.size + 4 ≤ w2.heap.size := by have := hfr.size; have := HS1.out; omega
              have hrow2 := (hfr.block eb (fun h => h.2 rfl) (by omega) (by omega)).trans HROW.out
              cases r with
              | false =>
                have hX : FreeRel n wo es G g p o q len w (j + 1) w2 := by
                  have h1 := HGR2.out
                  unfold greedy at h1
                  rw [if_neg HW.out, if_neg (hno rfl)] at h1
                  obtain ⟨h2, h3⟩ := HSTEP.out _ _ h1
                  exact ⟨kept, peb2, out2, A2, C2, hg3, hbd2, HSP.out, h3, HCELLS.out _ hq2 h2, hb2, hsz2⟩
                have HX := Lib.hid hX
                clear hX hg2 hbd2 hfr hyes hno hq2 hb2 hg3 hsz2 hrow2 k0 k1
                go_wp2
                go_roundw
                case rel => exact ⟨j + 1, by omega, by go_num, HX.out⟩
                case measure => simp [intOf]; omega
              | true =>
                have h4 := hyes rfl
                have hpa : peb2 a = 2 := by have := (hbd2.1 a han).1; have := (hbd2.1 b hbn).1; omega
                have hsp2 := gather_yes hbd2 HSP.out han hbn hne h4
                have hgr3 : G.getD j false = true ∧ greedy n wo (j + 1) (kept ++ [(a, b)]) (es.drop (j + 1)) = G.drop (j + 1) := by
                  have h1 := HGR2.out
                  unfold greedy at h1
                  rw [if_neg HW.out, if_pos hsp2] at h1
                  exact HSTEP.out _ _ h1
                have hbd3 := hbd2.keep han hbn (by omega)
                have hjl' : (j : Int) < (len : Int) := by omega
                have HNE2 : Hid (∀ i, i < n → ∀ k, blk (A2 i) = some k → k ≠ eb) := fun i hi k e => ((hg2.own i hi).lt e).1.2
                have m1 : w2.cell? ⟨q, j, none⟩ = some (.bool (decide (j < j) && G.getD j false)) := hq2.cell hlt
                have m2 : w2.frozen? ⟨q, j, none⟩ = false := hq2.frozen _
                have HG3' := Lib.hid hg3
                have HQ2 := Lib.hid hq2
                have HB3 := Lib.hid hb2
                have HS3 := Lib.hid hsz2
                have HROW2 := Lib.hid hrow2
                have HBD3 := Lib.hid hbd3
                have HSP2 := Lib.hid hsp2
                have HGR3 := Lib.hid hgr3
                have HPA := Lib.hid hpa
                clear hg2 hbd2 hfr hyes hno hq2 hb2 hg3 hsz2 hrow2 k0 k1 h4 hpa hsp2 hgr3 hbd3
                go_upto_region 13 with (fail)
                clear m1 m2
                have hq3 : Cells (w2.setCell ⟨q, j, none⟩ (.bool true)) q 4 len (boolsV fun i => decide (i < j + 1) && G.getD i false) := (HQ2.out.set hlt _).congr fun i hi => by
                  unfold boolsV upd
                  dsimp only
                  by_cases e : i = j
                  · subst e; rw [HGR3.out.1]; simp
                  · have : decide (i < j) = decide (i < j + 1) := by congr 1; exact propext ⟨fun h => by omega, fun h => by omega⟩
                    rw [if_neg e, this]
                have hg4 := HG3'.out.keep (w' := w2.setCell ⟨q, j, none⟩ (.bool true)) fun k hk => Below.heap_setCell _ _ _ _ (by
                  have hQ := HQ.out
                  show k ≠ q
                  rcases hk with e | e | e | ⟨i, hi, e⟩
                  · omega
                  · omega
                  · omega
                  · have h9 : w.heap.size + 4 ≤ k := ((HG3'.out.own i hi).lt e).1
                    omega)
                have hb4 := HB3.out.setCell (p := ⟨q, j, none⟩) (by have := HQ.out; simp; omega) (.bool true)
                have hs4 : w.heap.size + 4 ≤ (w2.setCell ⟨q, j, none⟩ (.bool true)).heap.size := by have := HS3.out; simpa [World.setCell] using this
                have hrow4 : (w2.setCell ⟨q, j, none⟩ (.bool true)).heap[eb]? = _ := (Below.heap_setCell _ _ _ _ (by have := HQ.out; simp; omega)).trans HROW2.out
                generalize w2.setCell ⟨q, j, none⟩ (.bool true) = W3 at *
                have c0 : W3.cell? ⟨g, 0, none⟩ = some (.slice (some ⟨p, 0, none⟩) n n) := hg4.hg.cell (i := 0) (by omega)
                have c1 : W3.cell? ⟨p, a, none⟩ = some (.int .i64 2) := by rw [hg4.hp.cell han, HPA.out]; rfl
                have c2 : W3.frozen? ⟨p, a, none⟩ = false := hg4.hp.frozen _
                have k0 : W3.cell? ⟨eb, 0, none⟩ = some (.int .i64 (a : Nat)) := by simp [World.cell?, hrow4]
                have ha' : (a : Int) < (n : Int) := by omega
                have ha0 : (0 : Int) ≤ (a : Int) := by omega
                have hg5 := hg4.setPeb han 1
                have hq5 := hq3.setOther (a := ⟨p, a, none⟩) (by have := HQ.out; simp; omega) (.int .i64 ((1 : Nat) : Int))
                have hb5 := hb4.setCell (p := ⟨p, a, none⟩) hps.1 (.int .i64 ((1 : Nat) : Int))
                have hs5 : w.heap.size + 4 ≤ (W3.setCell ⟨p, a, none⟩ (.int .i64 ((1 : Nat) : Int))).heap.size := by simpa [World.setCell] using hs4
                have hrow5 : (W3.setCell ⟨p, a, none⟩ (.int .i64 ((1 : Nat) : Int))).heap[eb]? = _ := (Below.heap_setCell _ _ _ _ (by simp; omega)).trans hrow4
                have HG5 : Hid (Game ((W3.setCell ⟨p, a, none⟩ (.int .i64 1)).drew) (Own4 w) g p o n (upd peb2 a 1) out2 A2 C2) := hg5.drewN 1
                have HQ5 : Hid (Cells ((W3.setCell ⟨p, a, none⟩ (.int .i64 1)).drew) q 4 len (boolsV fun i => decide (i < j + 1) && G.getD i false)) := hq5.drew
                have HB5 : Hid (Below w.heap.size w ((W3.setCell ⟨p, a, none⟩ (.int .i64 1)).drew)) := hb5.drew
                have HS5 : Hid (w.heap.size + 4 ≤ ((W3.setCell ⟨p, a, none⟩ (.int .i64 1)).drew).heap.size) := hs5
                have HROW5 : Hid (((W3.setCell ⟨p, a, none⟩ (.int .i64 1)).drew).heap[eb]? = some (.cells #[.int .i64 (a : Nat), .int .i64 (b : Nat)] 34 (0, 0))) := hrow5
                clear hg4 hq3 hb4 hs4 hrow4 hg5 hq5 hb5 hs5 hrow5
                go_cut [] (fun wx => wx = (W3.setCell ⟨p, a, none⟩ (.int .i64 1)).drew)
                case first =>
                  go_region
                  all_goals go_wp2_with fail
                  all_goals go_meet
                  all_goals rfl
                case rest =>
                  subst hcut
                  clear c0 c1 c2 k0
                  go_upto_region 14 with (fail)
                  generalize (W3.setCell ⟨p, a, none⟩ (.int .i64 1)).drew = W5 at *
                  have hown : Owns W5 (Own4 w) (A2 a) (C2 a) (out2 a) := HG5.out.own a han
                  obtain ⟨At, hAt⟩ : ∃ x, A2 a = x := ⟨_, rfl⟩
                  obtain ⟨Ct, hCt⟩ : ∃ x, C2 a = x := ⟨_, rfl⟩
                  obtain ⟨lt, hlt9⟩ : ∃ x, (out2 a).length = x := ⟨_, rfl⟩
                  rw [hAt, hCt] at hown
                  have r1 : W5.cell? ⟨g, 1, none⟩ = some (.slice (some ⟨o, 0, none⟩) n n) := HG5.out.hg.cell (i := 1) (by omega)
                  have r2 : W5.cell? ⟨o, a, none⟩ = some (.slice At lt Ct) := by rw [← hAt, ← hCt, ← hlt9]; exact HG5.out.ho.cell han
                  have r3 : W5.frozen? ⟨o, a, none⟩ = false := HG5.out.ho.frozen _
                  have k0 : W5.cell? ⟨eb, 0, none⟩ = some (.int .i64 (a : Nat)) := by simp [World.cell?, HROW5.out]
                  have k1 : W5.cell? ⟨eb, 1, none⟩ = some (.int .i64 (b : Nat)) := by simp [World.cell?, HROW5.out]
                  have hNW : New (Own4 w) W5 := fun k hk => by have := HS5.out; show w.heap.size + 4 ≤ k; omega
                  have hlt2 : lt ≤ 2 := by have h := (HBD3.out.1 a han).1; rw [upd_same, upd_same] at h; simp at h; omega
                  have hgb : some g ≠ blk At := fun e => HG5.out.lg (hown.lt e.symm).1
                  have hob : some o ≠ blk At := fun e => HG5.out.lo (hown.lt e.symm).1
                  have r1' : ((W5.alloc (.cells #[.int .i64 (b : Nat)] 3)).drew).cell? ⟨g, 1, none⟩ = some (.slice (some ⟨o, 0, none⟩) n n) := (HG5.out.hg.alloc _).cell (i := 1) (by omega)
                  have r2' : ((W5.alloc (.cells #[.int .i64 (b : Nat)] 3)).drew).cell? ⟨o, a, none⟩ = some (.slice At lt Ct) := by rw [← hAt, ← hCt, ← hlt9]; exact (HG5.out.ho.alloc _).cell han
                  have hebl5 : eb < W5.heap.size := (Array.getElem?_eq_some_iff.1 HROW5.out).1
                  have hrow6 : ((W5.alloc (.cells #[.int .i64 (b : Nat)] 3)).drew).heap[eb]? = some (.cells #[.int .i64 (a : Nat), .int .i64 (b : Nat)] 34 (0, 0)) := (Below.heap_alloc W5 _ eb hebl5).trans HROW5.out
                  have k0' : ((W5.alloc (.cells #[.int .i64 (b : Nat)] 3)).drew).cell? ⟨eb, 0, none⟩ = some (.int .i64 (a : Nat)) := by simp only [World.cell?]; rw [hrow6]; rfl
                  have k1' : ((W5.alloc (.cells #[.int .i64 (b : Nat)] 3)).drew).cell? ⟨eb, 1, none⟩ = some (.int .i64 (b : Nat)) := by simp only [World.cell?]; rw [hrow6]; rfl
                  have hebb : some eb ≠ blk At := fun e => HNE2.out a han eb (by rw [hAt]; exact e.symm) rfl
                  have HROW6 := Lib.hid hrow6
                  have HOW := Lib.hid hown
                  have HAt := Lib.hid hAt
                  have HCt := Lib.hid hCt
                  have HLt := Lib.hid hlt9
                  have HGB := Lib.hid hgb
                  have HOB := Lib.hid hob
                  have HEBB := Lib.hid hebb
                  have HNW := Lib.hid hNW
                  have R1 := Lib.hid r1'
                  have R2 := Lib.hid r2'
                  have K0 := Lib.hid k0'
                  have K1 := Lib.hid k1'
                  clear hown hAt hCt hlt9 hgb hob r1' r2' k0' k1' hrow6 hNW hebb
                  have hgo' : g ≠ o := HG5.out.go
                  have hebo : eb ≠ o := by omega
                  have HNX : Hid (Own4 w ((W5.alloc (.cells #[.int .i64 (b : Nat)] 3)).drew).heap.size) := HNW.out _ (by show W5.heap.size ≤ (W5.heap.push _).size; simp)
                  have Z3 : Hid (∀ w9, ((W5.alloc (.cells #[.int .i64 (b : Nat)] 3)).drew).grownBy w9 (blk At) → w9.frozen? ⟨o, a, none⟩ = false) := fun w9 hg9 => ((HG5.out.ho.alloc _).drew.grown hg9 HOB.out).frozen _
                  have HFIN : Hid (∀ A9 c9 w9, Owns w9 (Own4 w) A9 c9 (out2 a ++ [b]) → ((W5.alloc (.cells #[.int .i64 (b : Nat)] 3)).drew).grownBy w9 (blk At) → (A9 = At ∨ A9 = some ⟨((W5.alloc (.cells #[.int .i64 (b : Nat)] 3)).drew).heap.size, 0, none⟩) →
                      FreeRel n wo es G g p o q len w (j + 1) (w9.setCell ⟨o, a, none⟩ (.slice A9 (out2 a ++ [b]).length c9))) := by
                    intro A9 c9 w9 hown9 hgrow hA9
                    have hG9 := ((HG5.out.alloc (.cells #[.int .i64 (b : Nat)] 3)).drewN 1).setOut han HAt.out.symm hown9 hgrow (hA9.imp id fun h => ⟨_, h, Nat.le_refl _⟩) (HNW.out.mono (by show W5.heap.size ≤ (W5.heap.push _).size; simp))
                    have hQ := HQ.out
                    have hqA : some q ≠ blk At := fun e => by have h9 : w.heap.size + 4 ≤ q := (HOW.out.lt e.symm).1; omega
                    have hS9 := ((((HQ5.out.alloc (.cells #[.int .i64 (b : Nat)] 3)).drew).grown hgrow hqA).setOther (a := ⟨o, a, none⟩) (by simp; omega) (.slice A9 (out2 a ++ [b]).length c9))
                    have hb9 := ((((belowAlloc HB5.out (.cells #[.int .i64 (b : Nat)] 3)).drew).grown hgrow (Below.size (belowAlloc HB5.out (.cells #[.int .i64 (b : Nat)] 3)).drew) (fun k hk => by have h9 : w.heap.size + 4 ≤ k := (HOW.out.lt hk).1; omega)).setCell (p := ⟨o, a, none⟩) hos.1 (.slice A9 (out2 a ++ [b]).length c9))
                    refine ⟨kept ++ [(a, b)], upd peb2 a 1, upd out2 a (out2 a ++ [b]), _, _, hG9, ?_, HSP2.out, HGR3.out.2, hS9, hb9, ?_⟩
                    · have := HBD3.out
                      rw [HPA.out] at this
                      exact this
                    · have h1 := hgrow.size
                      have h2 := HS5.out
                      have h3 : ((W5.alloc (.cells #[.int .i64 (b : Nat)] 3)).drew).heap.size = W5.heap.size + 1 := World.size_alloc W5 _
                      simp only [World.setCell, Array.size_modify]
                      omega
                  refine wp_region_held_drew (S := fun w' => w'.cell? ⟨g, 1, none⟩ = some (.slice (some ⟨o, 0, none⟩) n n) ∧ w'.cell? ⟨eb, 0, none⟩ = some (.int .i64 (a : Nat)) ∧ w'.cell? ⟨eb, 1, none⟩ = some (.int .i64 (b : Nat))) (by kernel_rfl) ⟨r1, k0, k1⟩ (fun hHeld => ?_)
                  refine wpAnyH_take (i := 0) (v := ?v0) rfl (by kernel_rfl) (by kernel_rfl) (by kernel_rfl) (fun _ _ _ h => h) (Or.inl ⟨by rfl, ?y0⟩) hHeld ?r0
                  case y0 => (intro w hSw; (try dsimp only at hSw); go_simp; try with_reducible rfl)
                  try simp only [Act.put, List.setIfInBounds_toArray, List.set_cons_zero, List.set_cons_succ]
                  refine wpAnyH_take (i := 1) (v := ?v1) rfl (by kernel_rfl) (by kernel_rfl) (by kernel_rfl) (fun _ _ _ h => h) (Or.inl ⟨by rfl, ?y1⟩) hHeld ?r1
                  case y1 => (intro w hSw; (try dsimp only at hSw); go_simp; try with_reducible rfl)
                  try simp only [Act.put, List.setIfInBounds_toArray, List.set_cons_zero, List.set_cons_succ]
                  refine wpAnyH_take (i := 2) (v := ?v2) rfl (by kernel_rfl) (by kernel_rfl) (by kernel_rfl) (fun _ _ _ h => h) (Or.inl ⟨by rfl, ?y2⟩) hHeld ?r2
                  case y2 => (intro w hSw; (try dsimp only at hSw); go_simp; try with_reducible rfl)
                  try simp only [Act.put, List.setIfInBounds_toArray, List.set_cons_zero, List.set_cons_succ]
                  refine wpAnyH_take (i := 3) (v := ?v3) rfl (by kernel_rfl) (by kernel_rfl) (by kernel_rfl) (fun _ _ _ h => h) (Or.inl ⟨by rfl, ?y3⟩) hHeld ?r3
                  case y3 => (intro w hSw; (try dsimp only at hSw); go_simp; try with_reducible rfl)
                  try simp only [Act.put, List.setIfInBounds_toArray, List.set_cons_zero, List.set_cons_succ]
                  refine wpAnyH_take (i := 4) (v := ?v4) rfl (by kernel_rfl) (by kernel_rfl) (by kernel_rfl) (fun _ _ _ h => h) (Or.inl ⟨by rfl, ?y4⟩) hHeld ?r4
                  case y4 => (intro w hSw; (try dsimp only at hSw); go_simp; try with_reducible rfl)
                  try simp only [Act.put, List.setIfInBounds_toArray, List.set_cons_zero, List.set_cons_succ]
                  refine wpAnyH_take (i := 5) (v := ?v5) rfl (by kernel_rfl) (by kernel_rfl) (by kernel_rfl) (fun _ _ _ h => h) (Or.inl ⟨by rfl, ?y5⟩) hHeld ?r5
                  case y5 => (intro w hSw; (try dsimp only at hSw); go_simp; try with_reducible rfl)
                  try simp only [Act.put, List.setIfInBounds_toArray, List.set_cons_zero, List.set_cons_succ]
                  refine wpAnyH_take (i := 6) (v := ?v6) rfl (by kernel_rfl) (by kernel_rfl) (by kernel_rfl) (fun _ _ _ h => h) (Or.inl ⟨by rfl, ?y6⟩) hHeld ?r6
                  case y6 => (intro w hSw; (try dsimp only at hSw); go_simp; try with_reducible rfl)
                  try simp only [Act.put, List.setIfInBounds_toArray, List.set_cons_zero, List.set_cons_succ]
                  refine wpAnyH_take (i := 7) (v := ?v7) rfl (by kernel_rfl) (by kernel_rfl) (by kernel_rfl) (fun _ _ _ h => h) (Or.inl ⟨by rfl, ?y7⟩) hHeld ?r7
                  case y7 => (intro w hSw; (try dsimp only at hSw); go_simp; try with_reducible rfl)
                  try simp only [Act.put, List.setIfInBounds_toArray, List.set_cons_zero, List.set_cons_succ]
                  refine wpAnyH_take (i := 8) (v := ?v8) rfl (by kernel_rfl) (by kernel_rfl) (by kernel_rfl) (fun _ _ _ h => h) (Or.inl ⟨by rfl, ?y8⟩) hHeld ?r8
                  case y8 => (intro w hSw; (try dsimp only at hSw); go_simp; try with_reducible rfl)
                  try simp only [Act.put, List.setIfInBounds_toArray, List.set_cons_zero, List.set_cons_succ]
                  refine wpAnyH_take (i := 9) (v := ?v9) rfl (by kernel_rfl) (by kernel_rfl) (by kernel_rfl) (fun _ _ _ h => h) (Or.inl ⟨by rfl, ?y9⟩) hHeld ?r9
                  case y9 => (intro w hSw; (try dsimp only at hSw); go_simp; try with_reducible rfl)
                  try simp only [Act.put, List.setIfInBounds_toArray, List.set_cons_zero, List.set_cons_succ]
                  refine wpAnyH_take (i := 10) (v := ?v10) rfl (by kernel_rfl) (by kernel_rfl) (by kernel_rfl) (fun _ _ _ h => h) (Or.inl ⟨by rfl, ?y10⟩) hHeld ?r10
                  case y10 => (intro w hSw; (try dsimp only at hSw); go_simp; try with_reducible rfl)
                  try simp only [Act.put, List.setIfInBounds_toArray, List.set_cons_zero, List.set_cons_succ]
                  refine wpAnyH_take (i := 11) (v := ?v11) rfl (by kernel_rfl) (by kernel_rfl) (by kernel_rfl) (fun _ _ _ h => h) (Or.inl ⟨by rfl, ?y11⟩) hHeld ?r11
                  case y11 => (intro w hSw; (try dsimp only at hSw); go_simp; try with_reducible rfl)
                  try simp only [Act.put, List.setIfInBounds_toArray, List.set_cons_zero, List.set_cons_succ]
                  refine wpAnyH_take (i := 12) (v := ?v12) rfl (by kernel_rfl) (by kernel_rfl) (by kernel_rfl) (fun _ _ _ h => h) (Or.inl ⟨by rfl, ?y12⟩) hHeld ?r12
                  case y12 => (intro w hSw; (try dsimp only at hSw); go_simp; try with_reducible rfl)
                  try simp only [Act.put, List.setIfInBounds_toArray, List.set_cons_zero, List.set_cons_succ]
                  refine wpAnyH_take (i := 14) (v := ?v14) rfl (by kernel_rfl) (by kernel_rfl) (by kernel_rfl) (fun _ _ _ h => h) (Or.inl ⟨by rfl, ?y14⟩) hHeld ?r14
                  case y14 => (intro w hSw; (try dsimp only at hSw); go_simp; try with_reducible rfl)
                  try simp only [Act.put, List.setIfInBounds_toArray, List.set_cons_zero, List.set_cons_succ]
                  refine wpAnyH_take (i := 15) (v := ?v15) rfl (by kernel_rfl) (by kernel_rfl) (by kernel_rfl) (fun _ _ _ h => h) (Or.inl ⟨by rfl, ?y15⟩) hHeld ?r15
                  case y15 => (intro w hSw; (try dsimp only at hSw); go_simp; try with_reducible rfl)
                  try simp only [Act.put, List.setIfInBounds_toArray, List.set_cons_zero, List.set_cons_succ]
                  refine wpAnyH_ready (rs := [13, 16]) (by kernel_rfl) (by simp) ?_
                  refine AllReadyH.cons rfl (fun K hK => ?_) (AllReadyH.cons rfl (fun K hK => ?_) AllReadyH.nil)
                  · go_simp
                    refine hK.out _ _ ⟨r1, k0, k1⟩ (fun hHeld => ?_)
                    clear hK K
                    try simp only [Act.put, List.setIfInBounds_toArray, List.set_cons_zero, List.set_cons_succ]
                    refine wpAnyH_ready (rs := [16]) (by kernel_rfl) (by simp) ?_
                    refine AllReadyH.cons rfl (fun K hK => ?_) AllReadyH.nil
                    go_simp
                    refine hK.out _ _ ⟨R1.out, K0.out, K1.out⟩ (fun hHeld => ?_)
                    clear hK K
                    try simp only [Act.put, List.setIfInBounds_toArray, List.set_cons_zero, List.set_cons_succ]
                    refine wpAnyH_ready (rs := [17]) (by kernel_rfl) (by simp) ?_
                    refine AllReadyH.cons rfl (fun K hK => ?_) AllReadyH.nil
                    refine step_append24 (by rfl) _ _ (by rfl) (Own4 w) At Ct _ lt (by rfl) HLt.out ((HOW.out.alloc _).drew) (some ⟨W5.heap.size, 0, none⟩) 1 1 [b] (by rfl) rfl (news1 W5 b) (by rw [HLt.out]; omega) HNX.out ?_
                    intro A9 c9 w9 hown9 hgrow hA9
                    refine hK.out _ _ ⟨hgrow.cell R1.out HGB.out, hgrow.cell K0.out HEBB.out, hgrow.cell K1.out HEBB.out⟩ (fun hHeld => ?_)
                    clear hK K
                    have z2 := hgrow.cell (a := ⟨o, a, none⟩) R2.out HOB.out
                    have z3 := Z3.out w9 hgrow
                    try simp only [Act.put, List.setIfInBounds_toArray, List.set_cons_zero, List.set_cons_succ]
                    refine wpAnyH_take (i := 18) (v := ?v18) rfl (by kernel_rfl) (by kernel_rfl) (by kernel_rfl) (fun _ _ _ h => h) (Or.inl ⟨by rfl, ?y18⟩) hHeld ?r18
                    case y18 => (intro w hSw; (try dsimp only at hSw); go_simp; try with_reducible rfl)
                    try simp only [Act.put, List.setIfInBounds_toArray, List.set_cons_zero, List.set_cons_succ]
                    have HOWN9 := Lib.hid hown9
                    have HGROW9 := Lib.hid hgrow
                    have HA9 := Lib.hid hA9
                    clear hown9 hgrow hA9
                    refine wpAnyH_ready (rs := [19]) (by kernel_rfl) (by simp) ?_
                    refine AllReadyH.cons rfl (fun K hK => ?_) AllReadyH.nil
                    go_simp
                    refine hK.out _ _ ⟨?_, ?_, ?_⟩ (fun hHeld2 => ?_)
                    · rw [World.cell?_setCell_other _ _ _ _ (fun e => hgo' (congrArg Addr.block e).symm)]; exact hHeld.1
                    · rw [World.cell?_setCell_other _ _ _ _ (fun e => hebo (congrArg Addr.block e).symm)]; exact hHeld.2.1
                    · rw [World.cell?_setCell_other _ _ _ _ (fun e => hebo (congrArg Addr.block e).symm)]; exact hHeld.2.2
                    clear hK K
                    try simp only [Act.put, List.setIfInBounds_toArray, List.set_cons_zero, List.set_cons_succ]
                    refine wpAnyH_done (by kernel_rfl) ?_ _
                    go_wp2_with fail
                    have HX := HFIN.out A9 c9 w9 HOWN9.out HGROW9.out HA9.out
                    go_roundw
                    case rel => exact ⟨j + 1, by omega, by go_num, by simpa using HX⟩
                    case measure => simp [intOf]; omega
                  · go_simp
                    refine hK.out _ _ ⟨R1.out, K0.out, K1.out⟩ (fun hHeld => ?_)
                    clear hK K
                    have r2b := R2.out
                    try simp only [Act.put, List.setIfInBounds_toArray, List.set_cons_zero, List.set_cons_succ]
                    refine wpAnyH_ready (rs := [13]) (by kernel_rfl) (by simp) ?_
                    refine AllReadyH.cons rfl (fun K hK => ?_) AllReadyH.nil
                    go_simp
                    refine hK.out _ _ ⟨R1.out, K0.out, K1.out⟩ (fun hHeld => ?_)
                    clear hK K
                    try simp only [Act.put, List.setIfInBounds_toArray, List.set_cons_zero, List.set_cons_succ]
                    refine wpAnyH_ready (rs := [17]) (by kernel_rfl) (by simp) ?_
                    refine AllReadyH.cons rfl (fun K hK => ?_) AllReadyH.nil
                    refine step_append24 (by rfl) _ _ (by rfl) (Own4 w) At Ct _ lt (by rfl) HLt.out ((HOW.out.alloc _).drew) (some ⟨W5.heap.size, 0, none⟩) 1 1 [b] (by rfl) rfl (news1 W5 b) (by rw [HLt.out]; omega) HNX.out ?_
                    intro A9 c9 w9 hown9 hgrow hA9
                    refine hK.out _ _ ⟨hgrow.cell R1.out HGB.out, hgrow.cell K0.out HEBB.out, hgrow.cell K1.out HEBB.out⟩ (fun hHeld => ?_)
                    clear hK K
                    have z2 := hgrow.cell (a := ⟨o, a, none⟩) R2.out HOB.out
                    have z3 := Z3.out w9 hgrow
                    try simp only [Act.put, List.setIfInBounds_toArray, List.set_cons_zero, List.set_cons_succ]
                    refine wpAnyH_take (i := 18) (v := ?v18b) rfl (by kernel_rfl) (by kernel_rfl) (by kernel_rfl) (fun _ _ _ h => h) (Or.inl ⟨by rfl, ?y18b⟩) hHeld ?r18b
                    case y18b => (intro w hSw; (try dsimp only at hSw); go_simp; try with_reducible rfl)
                    try simp only [Act.put, List.setIfInBounds_toArray, List.set_cons_zero, List.set_cons_succ]
                    have HOWN9 := Lib.hid hown9
                    have HGROW9 := Lib.hid hgrow
                    have HA9 := Lib.hid hA9
                    clear hown9 hgrow hA9
                    refine wpAnyH_ready (rs := [19]) (by kernel_rfl) (by simp) ?_
                    refine AllReadyH.cons rfl (fun K hK => ?_) AllReadyH.nil
                    go_simp
                    refine hK.out _ _ ⟨?_, ?_, ?_⟩ (fun hHeld2 => ?_)
                    · rw [World.cell?_setCell_other _ _ _ _ (fun e => hgo' (congrArg Addr.block e).symm)]; exact hHeld.1
                    · rw [World.cell?_setCell_other _ _ _ _ (fun e => hebo (congrArg Addr.block e).symm)]; exact hHeld.2.1
                    · rw [World.cell?_setCell_other _ _ _ _ (fun e => hebo (congrArg Addr.block e).symm)]; exact hHeld.2.2
                    clear hK K
                    try simp only [Act.put, List.setIfInBounds_toArray, List.set_cons_zero, List.set_cons_succ]
                    refine wpAnyH_done (by kernel_rfl) ?_ _
                    go_wp2_with fail
                    have HX := HFIN.out A9 c9 w9 HOWN9.out HGROW9.out HA9.out
                    go_roundw
                    case rel => exact ⟨j + 1, by omega, by go_num, by simpa using HX⟩
                    case measure => simp [intOf]; omega
          · obtain rfl : len = j := by omega
            have HCQ := Lib.hid hq
            have HB2 := Lib.hid hb
            clear hG hB hSp hgr hq hb
            go_wp2
            go_ret
            refine ⟨.slice (some ⟨q, 0, none⟩) len len, rfl, ⟨q, ?_, by have := HQ.out; omega, ?_⟩, HB2.out⟩
            · rw [HGR.out, HGL.out]
            · rw [HGR.out, HGL.out]
              refine HCQ.out.congr fun i hi => ?_
              unfold boolsV
              dsimp only
              rw [decide_eq_true hi, Bool.true_and]
end Go.Proofs.Ytdbhpiofbkhbeaa
