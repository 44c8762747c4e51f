/- The contract of '(*game).gather', given that of '(*game).fetch'. Conditions: the game lies in memory as 'Game' says, at most 10 points. -/
import Derived.Test.YtdbhpiofbkhbeaaFdef
import Derived.Laws.MakeOwn
namespace Go.Proofs.Ytdbhpiofbkhbeaa
open Go.RowKit
set_option linter.unusedSimpArgs false
set_option linter.unusedVariables false

theorem info4 : (Try.prog.info? 4).map (fun i => (i.zero, i.size, i.bytes)) = some (some (.bool false), 1, 1) := by kernel_rfl

/-- n noughts of a type of one cell. -/
def blank (z : Value) (t : TypeId) (n : Nat) : Obj := .cells (madeCells #[z] n) t

theorem blank_cells (w : World) (z : Value) (t : TypeId) (n : Nat) : Cells (w.alloc (blank z t n)) w.heap.size t n (fun _ => z) := by
  refine ⟨_, heap_alloc_new w _, size_madeCells _ _, fun i hi => ?_⟩
  have : i % 1 = 0 := by omega
  simp [madeCells, hi, this]

theorem make28 (n : Nat) (hn : n ≤ 100) (w : World) : (Instr.makeSlice 28 (.int .i64 (n : Nat)) (.int .i64 (n : Nat))).run Try.prog w = .ok (.slice (some ⟨w.heap.size, 0, none⟩) n n) (w.alloc (blank (.bool false) 4 n)) := by
  obtain ⟨i0, hi0, hz0, hz1, hz2⟩ := info_parts info4
  have h := run_make (P := Try.prog) w 28 4 i0 (.bool false) Try.underlying28 hi0 hz0 .i64 .i64 (n : Int) (n : Int) (by omega) (Int.le_refl _) (by rw [hz2]; omega) (by omega)
  rw [h, hz1]
  simp [blank, Value.cells]

theorem clear28 (ty : TypeId) {w : World} {s n : Nat} {f : Nat → Value} (h : Cells w s 4 n f) :
    ∃ w', (Builtin.clear_ #[28] ty #[.slice (some ⟨s, 0, none⟩) n n]).run Try.prog w = .ok (.tuple #[]) w' ∧ Cells w' s 4 n (fun _ => .bool false) ∧ Only s w w' := by
  obtain ⟨i0, hi0, hz0, hz1, hz2⟩ := info_parts info4
  by_cases hn : n = 0
  · subst hn
    refine ⟨w, ?_, ?_, Only.refl s w⟩
    · simp [Builtin.clear_, run_underlying Try.underlying28]
    · obtain ⟨cs, h1, h2, _⟩ := h
      exact ⟨cs, h1, h2, fun i hi => absurd hi (by omega)⟩
  · obtain ⟨cs, h1, h2, h3⟩ := h
    have hz : (Builtin.zeroCells (Value.bool false).cells n).toList = List.replicate n (.bool false) := by
      refine List.ext_getElem (by simp [size_zeroCells, Value.cells]) fun i h1 h2 => ?_
      have : i % 1 = 0 := by omega
      simp [Builtin.zeroCells, Value.cells, this]
    have hst := run_storeCells_at Try.prog s 0 4 (List.replicate n (.bool false)) 0 cs w h1 (by simp [h2]) (by
      intro u hu
      rw [List.eq_of_mem_replicate hu]
      rfl)
    simp only [Nat.add_zero, Nat.zero_add] at hst
    have hR : ∃ R, (List.take 0 cs.toList ++ List.replicate n (Value.bool false) ++ List.drop (List.replicate n (Value.bool false)).length cs.toList).toArray = R := ⟨_, rfl⟩
    obtain ⟨R, hR⟩ := hR
    rw [hR] at hst
    refine ⟨w.setRow s R, ?_, ⟨R, setRow_heap w s cs R 4 _ h1, ?_, fun i hi => ?_⟩, ⟨rfl, rfl, rfl, by simp, fun k hk => setRow_other w s k _ hk⟩⟩
    · have hn' : n ≠ 0 := hn
      simp [Builtin.clear_, run_underlying Try.underlying28, zeroValue, typeInfo, hi0, hz0, hz, hst, hn']
    · rw [← hR]; simp [h2]
    · rw [← hR]; simp; rw [List.getElem?_append_left (by simpa using hi)]; simp [hi]

def GatherPost (base : Nat → Prop) (g p o n : Nat) (kept : Es) (a b : Nat) (w : World) (e : Ending) (w' : World) : Prop :=
  ∃ (r : Bool) (peb' : Nat → Nat) (out' : Nat → List Nat) (A' : Nat → Option Addr) (C' : Nat → Nat), e = .returned (.bool r) ∧ Game w' base g p o n peb' out' A' C' ∧ Board n peb' out' kept ∧ Frame base p o w w' ∧
    (r = true → 4 ≤ peb' a + peb' b) ∧ (r = false → ¬ Sparse n (kept ++ [(a, b)]))

/-- The state between two rounds. -/
def Gathering (base : Nat → Prop) (g p o n : Nat) (kept : Es) (a b : Nat) (w : World) (k : Nat) (wr : World) : Prop :=
  ∃ (peb : Nat → Nat) (out : Nat → List Nat) (A : Nat → Option Addr) (C : Nat → Nat), Game wr base g p o n peb out A C ∧ Board n peb out kept ∧ Frame base p o w wr ∧ k = 4 - (peb a + peb b)

/-- Behind one of the two searches. -/
def Searched (base : Nat → Prop) (g p o n s : Nat) (kept : Es) (peb : Nat → Nat) (out : Nat → List Nat) (A : Nat → Option Addr) (C : Nat → Nat) (a b c : Nat) (w w3 : World) (v : Value) (wx : World) : Prop :=
  (v = .bool true ∧ ∃ k, k < 4 - (peb a + peb b) ∧ Gathering base g p o n kept a b w k wx) ∨
  (v = .bool false ∧ (peb c < 2 → ∃ sn, Fetchless n peb out (two a b) c sn) ∧ (∃ f, Cells wx s 4 n f) ∧ Only s w3 wx)

theorem two_cells {w : World} {s n : Nat} {f : Nat → Value} {a b : Nat} (h : Cells w s 4 n f) (hf : ∀ i, f i = .bool false) (ha : a < n) (hb : b < n) : Cells ((w.setCell ⟨s, a, none⟩ (.bool true)).setCell ⟨s, b, none⟩ (.bool true)) s 4 n (boolsV (two a b)) :=
  ((h.set ha _).set hb _).congr fun i hi => by
    unfold boolsV two upd
    by_cases h1 : i = b
    · simp [h1]
    · by_cases h2 : i = a
      · simp [h1, h2]
      · simp [h1, h2, hf]

set_option maxHeartbeats 4000000 in
set_option maxRecDepth 100000 in
theorem gather_walk (base : Nat → Prop) (g p o n : Nat) (hn : n ≤ 10) (hF : ∀ s, base s → ∀ k, FetchSaid base g p o n s k) (w : World) (peb : Nat → Nat) (out : Nat → List Nat) (A : Nat → Option Addr) (C : Nat → Nat) (kept : Es) (a b : Nat)
    (hG : Game w base g p o n peb out A C) (hB : Board n peb out kept) (ha : a < n) (hb : b < n) (hne : a ≠ b) (hbs : New base w) :
    Calls Try.prog 25 #[.pointer (some ⟨g, 0, none⟩), .int .i64 (a : Nat), .int .i64 (b : Nat)] w (GatherPost base g p o n kept a b w) := by
  have HF := Lib.hid hF
  have HG0 := Lib.hid hG
  have HB0 := Lib.hid hB
  clear hF hG hB
  have ha' : (a : Int) < (n : Int) := by omega
  have hb' : (b : Int) < (n : Int) := by omega
  have ha0 : (0 : Int) ≤ (a : Int) := by omega
  have hb0 : (0 : Int) ≤ (b : Int) := by omega
  go_enter Try.func25, Try.ntmps25
  go_wp2
  go_loopg [7] (4 - (peb a + peb b)) (fun k s7 wr => Gathering base g p o n kept a b w k wr)
  case atStart => exact ⟨peb, out, A, C, HG0.out, HB0.out, Frame.refl .., rfl⟩
  case round =>
    obtain ⟨pebr, outr, Ar, Cr, hG, hB, hFr, hk⟩ := hrel
    have HG := Lib.hid hG
    have HB := Lib.hid hB
    have HFR := Lib.hid hFr
    have HK := Lib.hid hk
    have hwr : New base wr := hbs.mono hFr.size
    clear hG hB hFr hk
    obtain ⟨pa, hpa⟩ : ∃ x, pebr a = x := ⟨_, rfl⟩
    obtain ⟨pb, hpb⟩ : ∃ x, pebr b = x := ⟨_, rfl⟩
    have hpa2 : pa ≤ 2 := by have := (HB.out.1 a ha).1; omega
    have hpb2 : pb ≤ 2 := by have := (HB.out.1 b hb).1; omega
    have c0 : wr.cell? ⟨g, 0, none⟩ = some (.slice (some ⟨p, 0, none⟩) n n) := HG.out.hg.cell (i := 0) (by omega)
    have c1 : wr.cell? ⟨p, a, none⟩ = some (.int .i64 (pa : Nat)) := by rw [← hpa]; exact HG.out.hp.cell ha
    have c2 : wr.cell? ⟨p, b, none⟩ = some (.int .i64 (pb : Nat)) := by rw [← hpb]; exact HG.out.hp.cell hb
    have HPA := Lib.hid hpa
    have HPB := Lib.hid hpb
    clear hpa hpb
    have e1 : IntKind.i64.wrap ((pa : Int) + (pb : Int)) = (pa : Int) + (pb : Int) := IntWalk.i64_in _ (by omega)
    by_cases hlt : pa + pb < 4
    · go_wp2
      go_quiet (fail)
      go_upto_region 2 with (fail)
      have hG1 := HG.out.drewN nq
      have hF1 := HFR.out.drewN nq
      have hw1' : New base (wr.drewN nq) := hwr
      clear c0 c1 c2 e1
      generalize wr.drewN nq = W1 at *
      have c0 : W1.cell? ⟨g, 0, none⟩ = some (.slice (some ⟨p, 0, none⟩) n n) := hG1.hg.cell (i := 0) (by omega)
      have hmk := make28 n (by omega)
      have HG1 := Lib.hid hG1
      have HF1 := Lib.hid hF1
      clear hG1 hF1
      go_upto_region 3 with (fail)
      have hS2 := blank_cells W1 (.bool false) 4 n
      have hG2 := HG1.out.alloc (blank (.bool false) 4 n)
      have hw1 : base W1.heap.size := hw1'.here
      have hF2 := HF1.out.alloc hw1' (blank (.bool false) 4 n)
      have hA2 : ∀ i, i < n → blk (Ar i) ≠ some W1.heap.size := fun i hi e => by have := ((HG1.out.own i hi).lt e).2; omega
      have hw2 : New base (W1.alloc (blank (.bool false) 4 n)) := hw1'.mono (by simp)
      clear hmk c0
      generalize W1.alloc (blank (.bool false) 4 n) = W2 at *
      generalize hsz : W1.heap.size = s at *
      clear hsz hw1'
      have d1 : W2.cell? ⟨s, a, none⟩ = some (.bool false) := hS2.cell ha
      have d2 : W2.cell? ⟨s, b, none⟩ = some (.bool false) := hS2.cell hb
      have d3 : W2.frozen? ⟨s, a, none⟩ = false := hS2.frozen _
      have d4 : W2.frozen? ⟨s, b, none⟩ = false := hS2.frozen _
      have hne' : ¬ b = a := fun e => hne e.symm
      have HS2 := Lib.hid hS2
      have HG2 := Lib.hid hG2
      have HF2 := Lib.hid hF2
      have HA2 := Lib.hid hA2
      clear hS2 hG2 hF2 hA2
      go_upto_region 4 with (fail)
      have hS3 := two_cells HS2.out (fun _ => rfl) ha hb
      have hO3 : Only s W2 ((W2.setCell ⟨s, a, none⟩ (.bool true)).setCell ⟨s, b, none⟩ (.bool true)) := ((Only.refl s W2).setCell a _).setCell b _
      clear d1 d2 d3 d4
      generalize (W2.setCell ⟨s, a, none⟩ (.bool true)).setCell ⟨s, b, none⟩ (.bool true) = W3 at *
      have hG3 := HG2.out.only hw1 HA2.out hO3
      have hF3 := HF2.out.trans (hO3.frame hw1)
      have c0 : W3.cell? ⟨g, 0, none⟩ = some (.slice (some ⟨p, 0, none⟩) n n) := hG3.hg.cell (i := 0) (by omega)
      have c1 : W3.cell? ⟨p, a, none⟩ = some (.int .i64 (pa : Nat)) := by rw [← HPA.out]; exact hG3.hp.cell ha
      have HG3 := Lib.hid hG3
      have HF3 := Lib.hid hF3
      have HS3 := Lib.hid hS3
      have HN3 : W2.heap.size ≤ W3.heap.size := Nat.le_of_eq hO3.size.symm
      clear hG3 hF3 hS3 hO3
      have hprog : ∀ (c : Nat) (W W' : World) (peb' : Nat → Nat) (out' : Nat → List Nat) (A' : Nat → Option Addr) (C' : Nat → Nat), (c = a ∨ c = b) → Frame base p o w W → Fetched n pebr outr (two a b) c peb' out' → Game W' base g p o n peb' out' A' C' → Frame base p o W W' → ∃ k, k < 4 - (pebr a + pebr b) ∧ Gathering base g p o n kept a b w k W' := by
        intro c W W' peb' out' A' C' hc hfr hf hg hfr'
        obtain ⟨x, hx, hsx, hxc, hpx, hall⟩ := hf.peb
        have hxa : x ≠ a := fun e => by subst e; rw [two_left] at hsx; cases hsx
        have hxb : x ≠ b := fun e => by subst e; rw [two_right] at hsx; cases hsx
        have ha9 := hall a
        have hb9 := hall b
        have := HPA.out
        have := HPB.out
        refine ⟨4 - (peb' a + peb' b), ?_, peb', out', A', C', hg, HB.out.fetched hf, hfr.trans hfr', rfl⟩
        rcases hc with rfl | rfl
        · rw [if_pos rfl] at ha9
          rw [if_neg hne', if_neg (Ne.symm hxb)] at hb9
          omega
        · rw [if_pos rfl] at hb9
          rw [if_neg hne, if_neg (Ne.symm hxa)] at ha9
          omega
      have HPROG := Lib.hid hprog
      clear hprog
      go_cut [49] (Searched base g p o n s kept pebr outr Ar Cr a b a w W3)
      case first =>
        by_cases h2 : pa < 2
        · go_wp2_with (fail)
          refine (HF.out s hw1 (n + 1) W3 pebr outr Ar Cr (two a b) a (by have := unseen_le n (two a b) a; omega) HG3.out HS3.out HA2.out HB.out.1 ha (hw2.mono HN3)).mono ?_
          rintro e w4 (⟨rfl, seen2, hf, hs2, ho2⟩ | ⟨rfl, peb1, out1, A1, C1, seen2, hf, hg1, hs2, ha1, hfr⟩)
          · have HX : Hid (Searched base g p o n s kept pebr outr Ar Cr a b a w W3 (.bool false) w4) := .inr ⟨rfl, fun _ => ⟨seen2, hf⟩, ⟨_, hs2⟩, ho2⟩
            clear hf hs2 ho2
            go_wp2
            go_meet
            exact HX.out
          · have HX : Hid (Searched base g p o n s kept pebr outr Ar Cr a b a w W3 (.bool true) w4) := .inl ⟨rfl, HPROG.out a W3 w4 peb1 out1 A1 C1 (.inl rfl) HF3.out hf hg1 hfr⟩
            clear hf hg1 hs2 ha1 hfr
            go_wp2
            go_meet
            exact HX.out
        · have HX : Hid (Searched base g p o n s kept pebr outr Ar Cr a b a w W3 (.bool false) W3) := .inr ⟨rfl, fun h => absurd h (by have := HPA.out; omega), ⟨_, HS3.out⟩, Only.refl s W3⟩
          go_wp2
          go_meet
          exact HX.out
      case rest =>
        clear c0 c1
        rcases hcut with ⟨rfl, k, hk, hgt⟩ | ⟨rfl, hfa, ⟨f, hs4⟩, ho4⟩
        · have HGT := Lib.hid hgt
          have hk' : k < gk := by have := HK.out; omega
          clear hgt hk
          go_wp2
          go_roundg k
          case measure => exact hk'
          case rel => exact HGT.out
        · obtain ⟨W5, hcl, hs5, ho5⟩ := clear28 0 hs4
          have hO5 := ho4.trans ho5
          have HFA := Lib.hid hfa
          have HS5 := Lib.hid hs5
          have HO5 := Lib.hid hO5
          clear hfa hs4 ho4 hs5 ho5 hO5
          go_upto_region 6 with (fail)
          clear hcl
          have d1 : W5.cell? ⟨s, a, none⟩ = some (.bool false) := HS5.out.cell ha
          have d2 : W5.cell? ⟨s, b, none⟩ = some (.bool false) := HS5.out.cell hb
          have d3 : W5.frozen? ⟨s, a, none⟩ = false := HS5.out.frozen _
          have d4 : W5.frozen? ⟨s, b, none⟩ = false := HS5.out.frozen _
          go_upto_region 7 with (fail)
          have hS6 := two_cells HS5.out (fun _ => rfl) ha hb
          have hO6 : Only s W3 ((W5.setCell ⟨s, a, none⟩ (.bool true)).setCell ⟨s, b, none⟩ (.bool true)) := (HO5.out.setCell a _).setCell b _
          clear d1 d2 d3 d4
          generalize (W5.setCell ⟨s, a, none⟩ (.bool true)).setCell ⟨s, b, none⟩ (.bool true) = W6 at *
          have hG6 := HG3.out.only hw1 HA2.out hO6
          have hF6 := HF3.out.trans (hO6.frame hw1)
          have c0 : W6.cell? ⟨g, 0, none⟩ = some (.slice (some ⟨p, 0, none⟩) n n) := hG6.hg.cell (i := 0) (by omega)
          have c2 : W6.cell? ⟨p, b, none⟩ = some (.int .i64 (pb : Nat)) := by rw [← HPB.out]; exact hG6.hp.cell hb
          have HG6 := Lib.hid hG6
          have HF6 := Lib.hid hF6
          have HS6 := Lib.hid hS6
          have HN6 : W2.heap.size ≤ W6.heap.size := by rw [hO6.size]; exact HN3
          clear hG6 hF6 hS6 hO6
          have hstuck : (pebr b < 2 → ∃ sn, Fetchless n pebr outr (two a b) b sn) → ¬ Sparse n (kept ++ [(a, b)]) := fun h => gather_stuck HB.out ha hb hne (by rw [HPA.out, HPB.out]; exact hlt) HFA.out h
          have HSTUCK := Lib.hid hstuck
          clear hstuck
          by_cases h2 : pb < 2
          · go_wp2_with (fail)
            refine (HF.out s hw1 (n + 1) W6 pebr outr Ar Cr (two a b) b (by have := unseen_le n (two a b) b; omega) HG6.out HS6.out HA2.out HB.out.1 hb (hw2.mono HN6)).mono ?_
            rintro e w7 (⟨rfl, seen2, hf, hs2, ho2⟩ | ⟨rfl, peb1, out1, A1, C1, seen2, hf, hg1, hs2, ha1, hfr⟩)
            · have HX : Hid (GatherPost base g p o n kept a b w (.returned (.bool false)) w7) := ⟨false, pebr, outr, Ar, Cr, rfl, HG6.out.only hw1 HA2.out ho2, HB.out, HF6.out.trans (ho2.frame hw1), (fun h => by cases h), fun _ => HSTUCK.out fun _ => ⟨seen2, hf⟩⟩
              clear hf hs2 ho2
              go_wp2
              go_ret
              exact HX.out
            · obtain ⟨k, hk, hgt⟩ := HPROG.out b W6 w7 peb1 out1 A1 C1 (.inr rfl) HF6.out hf hg1 hfr
              have HGT := Lib.hid hgt
              have hk' : k < gk := by have := HK.out; omega
              clear hgt hk hf hg1 hs2 ha1 hfr
              go_wp2
              go_roundg k
              case measure => exact hk'
              case rel => exact HGT.out
          · have HX : Hid (GatherPost base g p o n kept a b w (.returned (.bool false)) W6) := ⟨false, pebr, outr, Ar, Cr, rfl, HG6.out, HB.out, HF6.out, (fun h => by cases h), fun _ => HSTUCK.out fun h => absurd h (by have := HPB.out; omega)⟩
            go_wp2
            go_ret
            exact HX.out
    · go_wp2
      go_quiet (fail)
      go_wp2
      go_ret
      refine ⟨true, pebr, outr, Ar, Cr, rfl, HG.out.drewN nq, HB.out, HFR.out.drewN nq, fun _ => ?_, fun h => by cases h⟩
      rw [HPA.out, HPB.out]
      omega
end Go.Proofs.Ytdbhpiofbkhbeaa
