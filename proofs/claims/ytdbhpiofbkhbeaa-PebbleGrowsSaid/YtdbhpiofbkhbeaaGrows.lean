/- The contract of 'rafterlaw.PebbleGrows': true, given the contract of 'free'. -/
import Derived.Test.YtdbhpiofbkhbeaaPlays
import Derived.Test.YtdbhpiofbkhbeaaTurns
import Derived.Test.YtdbhpiofbkhbeaaPick
import Derived.Test.YtdbhpiofbkhbeaaGrown
import Derived.BigQuiet
import Derived.Deep.RegionWith
import Derived.Deep.DeepCutAuto
namespace Go.Proofs.Ytdbhpiofbkhbeaa
open Go.RowKit
set_option linter.unusedSimpArgs false
set_option linter.unusedVariables false

set_option maxRecDepth 100000 in
set_option maxHeartbeats 4000000 in
theorem Grows_walk (hF : FreeSaid) (B : Option Addr) (m cap : Nat) (w : World) (hm : m ≤ 9223372036854775807) (hB : Fours w B m) :
    Calls Try.prog 6 #[.slice B m cap] w fun e w' => e = .returned (.bool true) ∧ Below w.heap.size w w' := by
  have HF := Lib.hid hF
  have HBS := Lib.hid hB
  clear hF hB
  go_enter Try.func6, Try.ntmps6
  go_wp2_with fail
  refine (plays_walk HF.out w).mono ?_
  rintro e w1 ⟨rfl, hb1⟩
  have hown0 : OwnsE (w1.alloc (.cells #[.int .i64 0, .int .i64 1] 34)) w.heap.size (some ⟨w1.heap.size, 0, none⟩) 1 (toI [(0, 1)]) :=
    .inr ⟨_, _, rfl, hb1.size, heap_alloc_new w1 _, by decide, by decide, rfl⟩
  have HG0 := Lib.hid (show Grown w 2 (some ⟨w1.heap.size, 0, none⟩) 1 [(0, 1)] (w1.alloc (.cells #[.int .i64 0, .int .i64 1] 34)) from
    ⟨by decide, by decide, rfl, by unfold Good; decide, sparse_one, hown0, belowAlloc hb1 _⟩)
  clear hown0 hb1
  go_upto_region 5 with (fail)
  generalize w1.alloc (.cells #[.int .i64 0, .int .i64 1] 34) = W1 at *
  generalize w1.heap.size = b1 at *
  go_wp2_with fail
  go_loopw [3, 4, 24] (fun nv v i wr => ∃ (j n : Nat) (A : Option Addr) (c : Nat) (es : Es), j ≤ m ∧ i = .int .i64 j ∧ nv = .int .i64 (n : Nat) ∧ v = .slice A es.length c ∧ Grown w n A c es wr) (fun _ _ i _ => m - (intOf i).toNat)
  case atStart => exact ⟨0, 2, _, 1, [(0, 1)], by omega, rfl, rfl, rfl, HG0.out⟩
  case round =>
    clear HG0
    obtain ⟨j, n, A, c, es, hj, rfl, rfl, rfl, hrel⟩ := hrel
    have hlo := hrel.lo
    have hhi := hrel.hi
    have hlen := hrel.len
    have HG := Lib.hid hrel
    clear hrel
    obtain ⟨l, hl⟩ : ∃ l, es.length = l := ⟨_, rfl⟩
    rw [hl] at hlen ⊢
    have HL := Lib.hid hl
    clear hl
    by_cases hex : j < m ∧ ¬ n = 10
    · obtain ⟨hlt, hn10⟩ := hex
      have hn9 : n ≤ 9 := by omega
      obtain ⟨fb, fo, rfl, hfb, hz⟩ := HBS.out j hlt
      obtain ⟨z0, hz0, hw0⟩ := hz 0 (by decide)
      obtain ⟨z1, hz1, hw1⟩ := hz 1 (by decide)
      obtain ⟨z2, hz2, hw2⟩ := hz 2 (by decide)
      obtain ⟨z3, hz3, hw3⟩ := hz 3 (by decide)
      have k0 := (HG.out.below.cell (p := ⟨fb, _, none⟩) hfb).trans hz0
      have k1 := (HG.out.below.cell (p := ⟨fb, _, none⟩) hfb).trans hz1
      have k2 := (HG.out.below.cell (p := ⟨fb, _, none⟩) hfb).trans hz2
      have k3 := (HG.out.below.cell (p := ⟨fb, _, none⟩) hfb).trans hz3
      simp only [Nat.add_zero] at k0
      have HG' := Lib.hid (HG.out.alloc (.cells #[.int .i64 z0, .int .i64 z1, .int .i64 z2, .int .i64 z3] 47))
      have hn4 := heap_alloc_new wr (.cells #[.int .i64 z0, .int .i64 z1, .int .i64 z2, .int .i64 z3] 47)
      have hfq := HG.out.below.size
      clear hz hz0 hz1 hz2 hz3 HG
      have HG := HG'
      clear HG'
      go_upto_region 9 with (fail)
      clear k0 k1 k2 k3
      generalize wr.alloc (.cells #[.int .i64 z0, .int .i64 z1, .int .i64 z2, .int .i64 z3] 47) = W2 at *
      generalize wr.heap.size = fq at *
      have s0 : W2.cell? ⟨fq, 0, none⟩ = some (.int .i64 z0) := by simp [World.cell?, hn4]
      have s1 : W2.cell? ⟨fq, 1, none⟩ = some (.int .i64 z1) := by simp [World.cell?, hn4]
      have s2 : W2.cell? ⟨fq, 2, none⟩ = some (.int .i64 z2) := by simp [World.cell?, hn4]
      have s3 : W2.cell? ⟨fq, 3, none⟩ = some (.int .i64 z3) := by simp [World.cell?, hn4]
      have hpa := pick_lt z1 (m := n) (by omega)
      have hpb := pick_lt z2 (m := n) (by omega)
      clear hn4
      go_quiet (first | (go_at_call_of 21 z1; refine Calls.quiet_of_same (pick_walk z1 n _ (by omega) (by omega) hw1)) | (go_at_call_of 21 z2; refine Calls.quiet_of_same (pick_walk z2 n _ (by omega) (by omega) hw2)))
      generalize pick z1 n = pa at *
      generalize pick z2 n = pb at *
      have HG' := Lib.hid (HG.out.drewN nq)
      have s0' : (W2.drewN nq).cell? ⟨fq, 0, none⟩ = some (.int .i64 z0) := s0
      have s3' : (W2.drewN nq).cell? ⟨fq, 3, none⟩ = some (.int .i64 z3) := s3
      clear HG s0 s1 s2 s3
      have HG := HG'
      clear HG'
      generalize W2.drewN nq = W3 at *
      go_upto_region 10 with (fail)
      go_cut [48] (fun v wc => ∃ bb : Bool, v = .bool bb ∧ (bb = false → 3 ≤ n) ∧ wc = W3)
      case first =>
        go_wp2_with fail
        refine (pick_walk z0 2 W3 (by decide) (by decide) hw0).mono ?_
        rintro e w4 ⟨rfl, rfl⟩
        have hpt := pick_lt z0 (m := 2) (by decide)
        generalize pick z0 2 = pt at *
        by_cases h0 : pt = 0
        · subst h0
          go_wp2_with fail
          go_meet
          exact ⟨true, rfl, (fun h => by cases h), rfl⟩
        · have h1 : ((pt : Int) == 0) = false := by rw [beq_eq_false_iff_ne]; omega
          go_wp2_with fail
          go_meet
          exact ⟨decide ((n : Int) < 3), rfl, (fun h => by have := of_decide_eq_false h; omega), rfl⟩
      case rest =>
        obtain ⟨bb, rfl, hbb, rfl⟩ := hcut
        cases bb
        · have hn3 := hbb rfl
          go_upto_region 14 with (fail)
          go_wp2_with fail
          refine (pick_walk z3 l wc (by omega) (by omega) hw3).mono ?_
          rintro e w5 ⟨rfl, rfl⟩
          have hk := pick_lt z3 (m := l) (by omega)
          generalize pick z3 l = k at *
          have hkes : k < es.length := by rw [HL.out]; exact hk
          obtain ⟨b, o, hAo, hbl, g1, g2⟩ := HG.out.own.edges k (by simp [toI]; exact hkes)
          have ho : o = 0 := by
            rcases HG.out.own with ⟨h, _⟩ | ⟨b', cur, h, _⟩
            · rw [h] at hAo; cases hAo
            · rw [h] at hAo; cases hAo; rfl
          subst ho
          subst hAo
          rw [toI_get es k hkes] at g1 g2
          obtain ⟨x, y, hxy⟩ : ∃ x y, es[k] = (x, y) := ⟨_, _, rfl⟩
          obtain ⟨hxn, hyn, hxyn⟩ := HG.out.good _ (List.getElem_mem hkes)
          rw [hxy] at g1 g2 hxn hyn hxyn
          dsimp only at hxn hyn hxyn
          simp only [Nat.zero_add] at g1 g2
          have HXY := Lib.hid hxy
          have HG' := Lib.hid (HG.out.alloc (.cells #[.int .i64 (x : Nat), .int .i64 (y : Nat)] 34))
          have hn4 := heap_alloc_new w5 (.cells #[.int .i64 (x : Nat), .int .i64 (y : Nat)] 34)
          have hgq := HG.out.below.size
          have hbgq : b < w5.heap.size := hbl
          clear HG hbb hxy
          have HG := HG'
          clear HG' s0' s3'
          go_wp2_with fail
          clear g1 g2
          generalize w5.alloc (.cells #[.int .i64 (x : Nat), .int .i64 (y : Nat)] 34) = W6 at *
          generalize w5.heap.size = gq at *
          obtain ⟨y0, y1, _, _⟩ := two_at hn4
          have hn0 : ¬ n = 0 := by omega
          have hne0 : ¬ x = y := hxyn
          go_loop [8] (fun v => ∃ a : Nat, a < n ∧ v = .int .i64 (a : Nat)) (fun v => hop n x y (intOf v).toNat)
          case atStart => exact ⟨pa, hpa, rfl⟩
          case round =>
            obtain ⟨a, ha, rfl⟩ := hrel
            have hrem : ((a : Int) + 1) % (n : Int) = (((a + 1) % n : Nat) : Int) := rfl
            have hml : (a + 1) % n < n := Nat.mod_lt _ (by omega)
            by_cases hax : a = x
            · have hh := hop_lt hn3 hxn hyn hxyn ha (.inl hax)
              subst hax
              go_wp2
              go_round
              case rel => exact ⟨(a + 1) % n, hml, rfl⟩
              case measure => simp only [intOf]; rw [hrem]; exact hh
            · by_cases hay : a = y
              · have hh := hop_lt hn3 hxn hyn hxyn ha (.inr hay)
                subst hay
                go_wp2
                go_round
                case rel => exact ⟨(a + 1) % n, hml, rfl⟩
                case measure => simp only [intOf]; rw [hrem]; exact hh
              · clear hrem hml
                have hbx : ((a : Int) == (x : Int)) = false := by rw [beq_eq_false_iff_ne]; omega
                have hby : ((a : Int) == (y : Int)) = false := by rw [beq_eq_false_iff_ne]; omega
                go_upto_region 18 with (fail)
                have hkl : (k : Int) ≤ (l : Int) := by omega
                have hk1l : ((k + 1 : Nat) : Int) ≤ (l : Int) := by omega
                have hk1l' : k + 1 ≤ l := by omega
                have hk10 : (0 : Int) ≤ ((k + 1 : Nat) : Int) := by omega
                have hwk : IntKind.i64.wrap ((k : Int) + 1) = ((k + 1 : Nat) : Int) := by rw [IntKind.wrap_i64]; omega
                obtain ⟨X, hX⟩ : ∃ X : Addr, (if c = k + 1 then some (⟨b, 0, none⟩ : Addr) else some ⟨b, (k + 1) * 2, none⟩) = some X := by
                  split <;> exact ⟨_, rfl⟩
                have hTL : (toI es).length = l := by rw [← HL.out]; simp [toI]
                have HG7 := Lib.hid HG.out.drew
                have hlc : l ≤ c := by have h9 := HG7.out.own.len; rw [hTL] at h9; exact h9
                have hkc : (k : Int) ≤ (c : Int) := by omega
                have HOC := Lib.hid (HG7.out.own.cut k (by rw [hTL]; omega))
                have LK := Lib.hid (show ((toI es).take k).length = k by rw [List.length_take, hTL]; omega)
                have LD := Lib.hid (show ((toI es).drop (k + 1)).length = l - (k + 1) by rw [List.length_drop, hTL])
                have LKD := Lib.hid (show ((toI es).take k ++ (toI es).drop (k + 1)).length = k + (l - (k + 1)) by rw [List.length_append, LK.out, LD.out])
                have HXS := Lib.hid (src_drop HG7.out.own.edges (by rw [hTL]; exact hk1l') (by rw [hTL]; exact hlc) hX)
                have hbne : some gq ≠ blk (some (⟨b, 0, none⟩ : Addr)) := fun e => by simp [blk] at e; omega
                have HBNE := Lib.hid hbne
                have hbb : w.heap.size ≤ b := (HG7.out.own.lt (k := b) rfl).1
                have hb7 : b < W6.drew.heap.size := (HG7.out.own.lt (k := b) rfl).2
                have hW7 : w.heap.size ≤ W6.drew.heap.size := HG7.out.below.size
                have hg7 : gq < W6.drew.heap.size := (Array.getElem?_eq_some_iff.1 hn4).1
                have Y0 := Lib.hid (show W6.drew.cell? ⟨gq, 0, none⟩ = some (.int .i64 (x : Nat)) from y0)
                have Y1 := Lib.hid (show W6.drew.cell? ⟨gq, 1, none⟩ = some (.int .i64 (y : Nat)) from y1)
                have HFIN := Lib.hid (fun (A9 : Option Addr) (c9 : Nat) (w9 : World) ho hb => grown_step2 (w9 := w9) (A9 := A9) (c9 := c9) (b := 0) HG7.out hkes HXY.out ha hax hay hn9 ho hb)
                have HB7 := Lib.hid HG7.out.below
                clear hbne hTL HG hn4 HG7
                refine wp_region_held_drew (S := fun w' => w'.cell? ⟨gq, 0, none⟩ = some (.int .i64 (x : Nat)) ∧ w'.cell? ⟨gq, 1, none⟩ = some (.int .i64 (y : Nat))) (by kernel_rfl) ⟨y0, y1⟩ (fun hHeld => ?_)
                clear y0 y1
                generalize W6.drew = W7 at *
                refine wpAnyH_take (i := 0) (oi := ⟨some 89, _, _, _, _, _⟩) (v := ?v0) rfl (by kernel_rfl) (by kernel_rfl) (by kernel_rfl) (fun _ _ _ h => h) (Or.inl ⟨by rfl, ?y0⟩) hHeld ?r0
                case y0 => (intro w hSw; (try dsimp only at hSw); go_simp; try with_reducible rfl)
                simp only [Act.put, List.setIfInBounds_toArray, List.set_cons_zero, List.set_cons_succ]
                refine wpAnyH_take (i := 1) (oi := ⟨some 90, _, _, _, _, _⟩) (v := ?v1) rfl (by kernel_rfl) (by kernel_rfl) (by kernel_rfl) (fun _ _ _ h => h) (Or.inl ⟨by rfl, ?y1⟩) hHeld ?r1
                case y1 => (intro w hSw; (try dsimp only at hSw); go_simp; try with_reducible rfl)
                simp only [Act.put, List.setIfInBounds_toArray, List.set_cons_zero, List.set_cons_succ]
                refine wpAnyH_take (i := 2) (oi := ⟨some 91, _, _, _, _, _⟩) (v := ?v2) rfl (by kernel_rfl) (by kernel_rfl) (by kernel_rfl) (fun _ _ _ h => h) (Or.inl ⟨by rfl, ?y2⟩) hHeld ?r2
                case y2 => (intro w hSw; (try dsimp only at hSw); go_simp; try with_reducible rfl)
                simp only [Act.put, List.setIfInBounds_toArray, List.set_cons_zero, List.set_cons_succ]
                refine wpAnyH_take (i := 3) (oi := ⟨some 92, _, _, _, _, _⟩) (v := ?v3) rfl (by kernel_rfl) (by kernel_rfl) (by kernel_rfl) (fun _ _ _ h => h) (Or.inl ⟨by rfl, ?y3⟩) hHeld ?r3
                case y3 => (intro w hSw; (try dsimp only at hSw); go_simp; try with_reducible rfl)
                simp only [Act.put, List.setIfInBounds_toArray, List.set_cons_zero, List.set_cons_succ]
                refine wpAnyH_take (i := 4) (oi := ⟨some 93, _, _, _, _, _⟩) (v := ?v4) rfl (by kernel_rfl) (by kernel_rfl) (by kernel_rfl) (fun _ _ _ h => h) (Or.inl ⟨by rfl, ?y4⟩) hHeld ?r4
                case y4 => (intro w hSw; (try dsimp only at hSw); go_simp; try with_reducible rfl)
                simp only [Act.put, List.setIfInBounds_toArray, List.set_cons_zero, List.set_cons_succ]
                refine wpAnyH_take (i := 5) (oi := ⟨some 94, _, _, _, _, _⟩) (v := ?v5) rfl (by kernel_rfl) (by kernel_rfl) (by kernel_rfl) (fun _ _ _ h => h) (Or.inl ⟨by rfl, ?y5⟩) hHeld ?r5
                case y5 => (intro w hSw; (try dsimp only at hSw); go_simp; try with_reducible rfl)
                simp only [Act.put, List.setIfInBounds_toArray, List.set_cons_zero, List.set_cons_succ]
                refine wpAnyH_take (i := 6) (oi := ⟨some 95, _, _, _, _, _⟩) (v := .int .i64 ((k + 1 : Nat) : Int)) rfl (by kernel_rfl) (by kernel_rfl) (by kernel_rfl) (fun _ _ _ h => h) (Or.inl ⟨by rfl, ?y6⟩) hHeld ?r6
                case y6 => (intro w hSw; (try dsimp only at hSw); go_simp; try rw [hwk])
                simp only [Act.put, List.setIfInBounds_toArray, List.set_cons_zero, List.set_cons_succ]
                refine wpAnyH_take (i := 7) (oi := ⟨some 96, _, _, _, _, _⟩) (v := .slice (some X) (l - (k + 1)) (c - (k + 1))) rfl (by kernel_rfl) (by kernel_rfl) (by kernel_rfl) (fun _ _ _ h => h) (Or.inl ⟨by rfl, ?y7⟩) hHeld ?r7
                case y7 => (intro w hSw; (try dsimp only at hSw); go_simp; try simp only [Int.toNat_natCast, hk1l, hk10, and_self, if_true, hX]); try (intro h; exact absurd (h (by omega)) (by omega))
                simp only [Act.put, List.setIfInBounds_toArray, List.set_cons_zero, List.set_cons_succ]
                refine wpAnyH_take (i := 9) (oi := ⟨some 98, _, _, _, _, _⟩) (v := ?v9) rfl (by kernel_rfl) (by kernel_rfl) (by kernel_rfl) (fun _ _ _ h => h) (Or.inl ⟨by rfl, ?y9⟩) hHeld ?r9
                case y9 => (intro w hSw; (try dsimp only at hSw); go_simp; try with_reducible rfl)
                simp only [Act.put, List.setIfInBounds_toArray, List.set_cons_zero, List.set_cons_succ]
                refine wpAnyH_take (i := 10) (oi := ⟨some 99, _, _, _, _, _⟩) (v := ?v10) rfl (by kernel_rfl) (by kernel_rfl) (by kernel_rfl) (fun _ _ _ h => h) (Or.inl ⟨by rfl, ?y10⟩) hHeld ?r10
                case y10 => (intro w hSw; (try dsimp only at hSw); go_simp; try with_reducible rfl)
                simp only [Act.put, List.setIfInBounds_toArray, List.set_cons_zero, List.set_cons_succ]
                refine wpAnyH_take (i := 11) (oi := ⟨some 100, _, _, _, _, _⟩) (v := ?v11) rfl (by kernel_rfl) (by kernel_rfl) (by kernel_rfl) (fun _ _ _ h => h) (Or.inl ⟨by rfl, ?y11⟩) hHeld ?r11
                case y11 => (intro w hSw; (try dsimp only at hSw); go_simp; try with_reducible rfl)
                simp only [Act.put, List.setIfInBounds_toArray, List.set_cons_zero, List.set_cons_succ]
                refine wpAnyH_take (i := 12) (oi := ⟨some 101, _, _, _, _, _⟩) (v := ?v12) rfl (by kernel_rfl) (by kernel_rfl) (by kernel_rfl) (fun _ _ _ h => h) (Or.inl ⟨by rfl, ?y12⟩) hHeld ?r12
                case y12 => (intro w hSw; (try dsimp only at hSw); go_simp; try with_reducible rfl)
                simp only [Act.put, List.setIfInBounds_toArray, List.set_cons_zero, List.set_cons_succ]
                refine wpAnyH_take (i := 13) (oi := ⟨some 102, _, _, _, _, _⟩) (v := ?v13) rfl (by kernel_rfl) (by kernel_rfl) (by kernel_rfl) (fun _ _ _ h => h) (Or.inl ⟨by rfl, ?y13⟩) hHeld ?r13
                case y13 => (intro w hSw; (try dsimp only at hSw); go_simp; try with_reducible rfl)
                simp only [Act.put, List.setIfInBounds_toArray, List.set_cons_zero, List.set_cons_succ]
                refine wpAnyH_take (i := 14) (oi := ⟨some 103, _, _, _, _, _⟩) (v := ?v14) rfl (by kernel_rfl) (by kernel_rfl) (by kernel_rfl) (fun _ _ _ h => h) (Or.inl ⟨by rfl, ?y14⟩) hHeld ?r14
                case y14 => (intro w hSw; (try dsimp only at hSw); go_simp; try with_reducible rfl)
                simp only [Act.put, List.setIfInBounds_toArray, List.set_cons_zero, List.set_cons_succ]
                refine wpAnyH_take (i := 15) (oi := ⟨some 104, _, _, _, _, _⟩) (v := ?v15) rfl (by kernel_rfl) (by kernel_rfl) (by kernel_rfl) (fun _ _ _ h => h) (Or.inl ⟨by rfl, ?y15⟩) hHeld ?r15
                case y15 => (intro w hSw; (try dsimp only at hSw); go_simp; try with_reducible rfl)
                simp only [Act.put, List.setIfInBounds_toArray, List.set_cons_zero, List.set_cons_succ]
                refine wpAnyH_take (i := 16) (oi := ⟨some 105, _, _, _, _, _⟩) (v := ?v16) rfl (by kernel_rfl) (by kernel_rfl) (by kernel_rfl) (fun _ _ _ h => h) (Or.inl ⟨by rfl, ?y16⟩) hHeld ?r16
                case y16 => (intro w hSw; (try dsimp only at hSw); go_simp; try with_reducible rfl)
                simp only [Act.put, List.setIfInBounds_toArray, List.set_cons_zero, List.set_cons_succ]
                refine wpAnyH_take (i := 17) (oi := ⟨some 106, _, _, _, _, _⟩) (v := ?v17) rfl (by kernel_rfl) (by kernel_rfl) (by kernel_rfl) (fun _ _ _ h => h) (Or.inl ⟨by rfl, ?y17⟩) hHeld ?r17
                case y17 => (intro w hSw; (try dsimp only at hSw); go_simp; try with_reducible rfl)
                simp only [Act.put, List.setIfInBounds_toArray, List.set_cons_zero, List.set_cons_succ]
                refine wpAnyH_take (i := 18) (oi := ⟨some 107, _, _, _, _, _⟩) (v := ?v18) rfl (by kernel_rfl) (by kernel_rfl) (by kernel_rfl) (fun _ _ _ h => h) (Or.inl ⟨by rfl, ?y18⟩) hHeld ?r18
                case y18 => (intro w hSw; (try dsimp only at hSw); go_simp; try with_reducible rfl)
                simp only [Act.put, List.setIfInBounds_toArray, List.set_cons_zero, List.set_cons_succ]
                refine wpAnyH_take (i := 19) (oi := ⟨some 108, _, _, _, _, _⟩) (v := ?v19) rfl (by kernel_rfl) (by kernel_rfl) (by kernel_rfl) (fun _ _ _ h => h) (Or.inl ⟨by rfl, ?y19⟩) hHeld ?r19
                case y19 => (intro w hSw; (try dsimp only at hSw); go_simp; try with_reducible rfl)
                simp only [Act.put, List.setIfInBounds_toArray, List.set_cons_zero, List.set_cons_succ]
                refine wpAnyH_ready (rs := [8, 20]) (by kernel_rfl) (by simp) ?_
                refine AllReadyH.cons rfl (fun K hK => ?_) (AllReadyH.cons rfl (fun K hK => ?_) AllReadyH.nil)
                · refine step_append27 (by rfl) _ _ (by rfl) w.heap.size (some ⟨b, 0, none⟩) k _ k (by rfl) LK.out HOC.out X (l - (k + 1)) (c - (k + 1)) _ (by rfl) LD.out HXS.out (by rw [LK.out]; omega) hW7 ?_
                  intro A7 c7 w8 hown7 hg8 hA7
                  have q0 := hg8.cell Y0.out HBNE.out
                  have q1 := hg8.cell Y1.out HBNE.out
                  have HO7 := Lib.hid (hown7.alloc (.cells #[.int .i64 (x : Nat), .int .i64 (n : Nat), .int .i64 (n : Nat), .int .i64 (y : Nat), .int .i64 (a : Nat), .int .i64 (n : Nat)] 34))
                  have HB8 := Lib.hid (belowAlloc (HB7.out.grown hg8 hW7 (fun k e => by cases e; exact hbb)) (.cells #[.int .i64 (x : Nat), .int .i64 (n : Nat), .int .i64 (n : Nat), .int .i64 (y : Nat), .int .i64 (a : Nat), .int .i64 (n : Nat)] 34))
                  have HZ8 := Lib.hid (show w.heap.size ≤ (w8.alloc (.cells #[.int .i64 (x : Nat), .int .i64 (n : Nat), .int .i64 (n : Nat), .int .i64 (y : Nat), .int .i64 (a : Nat), .int .i64 (n : Nat)] 34)).heap.size from HB8.out.size)
                  have HR8 := Lib.hid (fun k (e : blk A7 = some k) => (hown7.lt e).1)
                  have HNE9 := Lib.hid (show some gq ≠ blk A7 by rcases hA7 with rfl | rfl <;> intro e <;> simp [blk] at e <;> omega)
                  have hz8 : gq < w8.heap.size := Nat.lt_of_lt_of_le hg7 hg8.size
                  clear hown7 hg8 hA7
                  refine hK.out _ _ ⟨q0, q1⟩ (fun hHeld => ?_)
                  clear hK K
                  try simp only [Act.put, List.setIfInBounds_toArray, List.set_cons_zero, List.set_cons_succ]
                  refine wpAnyH_ready (rs := [20]) (by kernel_rfl) (by simp) ?_
                  refine AllReadyH.cons rfl (fun K hK => ?_) AllReadyH.nil
                  go_simp
                  have q0 := (World.cell?_alloc_lt w8 (.cells #[.int .i64 (x : Nat), .int .i64 (n : Nat), .int .i64 (n : Nat), .int .i64 (y : Nat), .int .i64 (a : Nat), .int .i64 (n : Nat)] 34) ⟨gq, 0, none⟩ hz8).trans q0
                  have q1 := (World.cell?_alloc_lt w8 (.cells #[.int .i64 (x : Nat), .int .i64 (n : Nat), .int .i64 (n : Nat), .int .i64 (y : Nat), .int .i64 (a : Nat), .int .i64 (n : Nat)] 34) ⟨gq, 1, none⟩ hz8).trans q1
                  refine hK.out _ _ ⟨q0, q1⟩ (fun hHeld => ?_)
                  clear hK K
                  try simp only [Act.put, List.setIfInBounds_toArray, List.set_cons_zero, List.set_cons_succ]
                  refine wpAnyH_ready (rs := [21]) (by kernel_rfl) (by simp) ?_
                  refine AllReadyH.cons rfl (fun K hK => ?_) AllReadyH.nil
                  refine step_append27 (by rfl) _ _ (by rfl) w.heap.size A7 c7 _ (k + (l - (k + 1))) (by rfl) LKD.out HO7.out ⟨w8.heap.size, 0, none⟩ 3 3 [((x : Int), (n : Int)), ((n : Int), (y : Int)), ((a : Int), (n : Int))] (by rfl) rfl (news27 w8 _ _ rfl) (by rw [LKD.out]; omega) HZ8.out ?_
                  intro A9 c9 w9 hown9 hg9 hA9
                  refine hK.out _ _ ⟨hg9.cell q0 HNE9.out, hg9.cell q1 HNE9.out⟩ (fun hHeld => ?_)
                  clear hK K q0 q1
                  have HO9 := Lib.hid hown9
                  have HBB := Lib.hid (HB8.out.grown hg9 HZ8.out HR8.out)
                  clear hown9 hg9 hA9
                  try simp only [Act.put, List.setIfInBounds_toArray, List.set_cons_zero, List.set_cons_succ]
                  refine wpAnyH_take (i := 22) (oi := ⟨some 4, _, _, _, _, _⟩) (v := ?v22a) rfl (by kernel_rfl) (by kernel_rfl) (by kernel_rfl) (fun _ _ _ h => h) (Or.inl ⟨by rfl, ?y22a⟩) hHeld ?r22a
                  case y22a => (intro w hSw; (try dsimp only at hSw); go_simp; try with_reducible rfl)
                  try simp only [Act.put, List.setIfInBounds_toArray, List.set_cons_zero, List.set_cons_succ]
                  refine wpAnyH_done (by kernel_rfl) ?_ _
                  obtain ⟨es', hl', hG'⟩ := HFIN.out A9 c9 w9 HO9.out HBB.out
                  have HG9 := Lib.hid hG'
                  have HL9 := Lib.hid (show k + (l - (k + 1)) + 3 = es'.length by rw [hl', HL.out]; omega)
                  clear hG' hl'
                  go_wp2_with fail
                  go_roundw
                  case rel => exact ⟨j + 1, n + 1, A9, c9, es', by omega, by go_num, by go_num, by rw [HL9.out], HG9.out⟩
                  case measure => simp [intOf]; omega
                · go_simp
                  have q0 := (World.cell?_alloc_lt W7 (.cells #[.int .i64 (x : Nat), .int .i64 (n : Nat), .int .i64 (n : Nat), .int .i64 (y : Nat), .int .i64 (a : Nat), .int .i64 (n : Nat)] 34) ⟨gq, 0, none⟩ hg7).trans Y0.out
                  have q1 := (World.cell?_alloc_lt W7 (.cells #[.int .i64 (x : Nat), .int .i64 (n : Nat), .int .i64 (n : Nat), .int .i64 (y : Nat), .int .i64 (a : Nat), .int .i64 (n : Nat)] 34) ⟨gq, 1, none⟩ hg7).trans Y1.out
                  have HOC2 := Lib.hid (HOC.out.alloc (.cells #[.int .i64 (x : Nat), .int .i64 (n : Nat), .int .i64 (n : Nat), .int .i64 (y : Nat), .int .i64 (a : Nat), .int .i64 (n : Nat)] 34))
                  have HXS2 := Lib.hid (show ∀ (j : Nat) (u : Value), (flat ((toI es).drop (k + 1)))[j]? = some u → (W7.alloc (.cells #[.int .i64 (x : Nat), .int .i64 (n : Nat), .int .i64 (n : Nat), .int .i64 (y : Nat), .int .i64 (a : Nat), .int .i64 (n : Nat)] 34)).cell? (X.add j) = some u from
                    fun j u hu => (World.cell?_alloc_lt W7 _ _ (World.block_lt_of_cell? W7 _ (HXS.out j u hu))).trans (HXS.out j u hu))
                  have HBA := Lib.hid (belowAlloc HB7.out (.cells #[.int .i64 (x : Nat), .int .i64 (n : Nat), .int .i64 (n : Nat), .int .i64 (y : Nat), .int .i64 (a : Nat), .int .i64 (n : Nat)] 34))
                  have HWA := Lib.hid (show w.heap.size ≤ (W7.alloc (.cells #[.int .i64 (x : Nat), .int .i64 (n : Nat), .int .i64 (n : Nat), .int .i64 (y : Nat), .int .i64 (a : Nat), .int .i64 (n : Nat)] 34)).heap.size from HBA.out.size)
                  refine hK.out _ _ ⟨q0, q1⟩ (fun hHeld => ?_)
                  clear hK K
                  try simp only [Act.put, List.setIfInBounds_toArray, List.set_cons_zero, List.set_cons_succ]
                  refine wpAnyH_ready (rs := [8]) (by kernel_rfl) (by simp) ?_
                  refine AllReadyH.cons rfl (fun K hK => ?_) AllReadyH.nil
                  refine step_append27 (by rfl) _ _ (by rfl) w.heap.size (some ⟨b, 0, none⟩) k _ k (by rfl) LK.out HOC2.out X (l - (k + 1)) (c - (k + 1)) _ (by rfl) LD.out HXS2.out (by rw [LK.out]; omega) HWA.out ?_
                  intro A7 c7 w8 hown7 hg8 hA7
                  have q0 := hg8.cell q0 HBNE.out
                  have q1 := hg8.cell q1 HBNE.out
                  have HO7 := Lib.hid hown7
                  have HB8 := Lib.hid (HBA.out.grown hg8 HWA.out (fun k e => by cases e; exact hbb))
                  have HZ8 := Lib.hid (show w.heap.size ≤ w8.heap.size from HB8.out.size)
                  have HR8 := Lib.hid (fun k (e : blk A7 = some k) => (hown7.lt e).1)
                  have HNE9 := Lib.hid (show some gq ≠ blk A7 by rcases hA7 with rfl | rfl <;> intro e <;> simp [blk] at e <;> omega)
                  have HNW := Lib.hid (news27_kept (js := [((x : Int), (n : Int)), ((n : Int), (y : Int)), ((a : Int), (n : Int))]) rfl hg8 (by intro e; simp [blk] at e; omega))
                  clear hown7 hg8 hA7
                  refine hK.out _ _ ⟨q0, q1⟩ (fun hHeld => ?_)
                  clear hK K
                  try simp only [Act.put, List.setIfInBounds_toArray, List.set_cons_zero, List.set_cons_succ]
                  refine wpAnyH_ready (rs := [21]) (by kernel_rfl) (by simp) ?_
                  refine AllReadyH.cons rfl (fun K hK => ?_) AllReadyH.nil
                  refine step_append27 (by rfl) _ _ (by rfl) w.heap.size A7 c7 _ (k + (l - (k + 1))) (by rfl) LKD.out HO7.out ⟨W7.heap.size, 0, none⟩ 3 3 [((x : Int), (n : Int)), ((n : Int), (y : Int)), ((a : Int), (n : Int))] (by rfl) rfl HNW.out (by rw [LKD.out]; omega) HZ8.out ?_
                  intro A9 c9 w9 hown9 hg9 hA9
                  refine hK.out _ _ ⟨hg9.cell q0 HNE9.out, hg9.cell q1 HNE9.out⟩ (fun hHeld => ?_)
                  clear hK K q0 q1
                  have HO9 := Lib.hid hown9
                  have HBB := Lib.hid (HB8.out.grown hg9 HZ8.out HR8.out)
                  clear hown9 hg9 hA9
                  try simp only [Act.put, List.setIfInBounds_toArray, List.set_cons_zero, List.set_cons_succ]
                  refine wpAnyH_take (i := 22) (oi := ⟨some 4, _, _, _, _, _⟩) (v := ?v22b) rfl (by kernel_rfl) (by kernel_rfl) (by kernel_rfl) (fun _ _ _ h => h) (Or.inl ⟨by rfl, ?y22b⟩) hHeld ?r22b
                  case y22b => (intro w hSw; (try dsimp only at hSw); go_simp; try with_reducible rfl)
                  try simp only [Act.put, List.setIfInBounds_toArray, List.set_cons_zero, List.set_cons_succ]
                  refine wpAnyH_done (by kernel_rfl) ?_ _
                  obtain ⟨es', hl', hG'⟩ := HFIN.out A9 c9 w9 HO9.out HBB.out
                  have HG9 := Lib.hid hG'
                  have HL9 := Lib.hid (show k + (l - (k + 1)) + 3 = es'.length by rw [hl', HL.out]; omega)
                  clear hG' hl'
                  go_wp2_with fail
                  go_roundw
                  case rel => exact ⟨j + 1, n + 1, A9, c9, es', by omega, by go_num, by go_num, by rw [HL9.out], HG9.out⟩
                  case measure => simp [intOf]; omega
        · clear hbb
          have hn0 : ¬ n = 0 := by omega
          by_cases hab : pa = pb
          · subst hab
            obtain ⟨pc, hpc⟩ : ∃ pc, (pa + 1) % n = pc := ⟨_, rfl⟩
            have hpb2 : pc < n := by rw [← hpc]; exact Nat.mod_lt _ (by omega)
            have hne2 : pa ≠ pc := by
              intro h
              by_cases h1 : pa + 1 < n
              · rw [Nat.mod_eq_of_lt h1] at hpc; omega
              · have h2 : pa + 1 = n := by omega
                rw [h2, Nat.mod_self] at hpc; omega
            have hrem : ((pa : Int) + 1) % (n : Int) = (pc : Int) := by rw [← hpc]; rfl
            clear hpc
            go_upto_region 13 with (fail)
            have HLI := Lib.hid (show (toI es).length = l by rw [← HL.out]; simp [toI])
            have hsz := HG.out.below.size
            go_wp2_with (at_builtin; refine wpList_append27 _ rfl _ _ rfl w.heap.size A c (toI es) l rfl HLI.out (HG.out.own.alloc _) ⟨wc.heap.size, 0, none⟩ 2 2 (toI [(n, pa), (pc, n)]) rfl rfl (by decide) (news27 wc (toI [(n, pa), (pc, n)]) _ rfl) (by rw [HLI.out]; omega) (by simp; omega) ?_; intro A1 c1 w5 hown5 hg5 hA5)
            have hrel1 : Grown w (n + 1) A1 c1 (es ++ [(n, pa), (pc, n)]) w5 :=
              ⟨by omega, by omega, by rw [List.length_append, HL.out]; simp; omega, good_step1 HG.out.good hpa hpb2, sparse_step1 HG.out.sparse HG.out.good hpa hpb2 hne2, by rw [toI_append]; exact hown5,
                (belowAlloc HG.out.below _).grown hg5 (by simp; omega) (fun k e => (HG.out.own.lt e).1)⟩
            have HREL1 := Lib.hid hrel1
            clear hrel1 hg5 hA5 hown5
            go_wp2
            go_roundw
            case rel => exact ⟨j + 1, n + 1, A1, c1, es ++ [(n, pa), (pc, n)], by omega, by go_num, by go_num, by rw [List.length_append, HL.out]; rfl, HREL1.out⟩
            case measure => simp [intOf]; omega
          · go_upto_region 13 with (fail)
            have HLI := Lib.hid (show (toI es).length = l by rw [← HL.out]; simp [toI])
            have hsz := HG.out.below.size
            go_wp2_with (at_builtin; refine wpList_append27 _ rfl _ _ rfl w.heap.size A c (toI es) l rfl HLI.out (HG.out.own.alloc _) ⟨wc.heap.size, 0, none⟩ 2 2 (toI [(n, pa), (pb, n)]) rfl rfl (by decide) (news27 wc (toI [(n, pa), (pb, n)]) _ rfl) (by rw [HLI.out]; omega) (by simp; omega) ?_; intro A1 c1 w5 hown5 hg5 hA5)
            have hrel1 : Grown w (n + 1) A1 c1 (es ++ [(n, pa), (pb, n)]) w5 :=
              ⟨by omega, by omega, by rw [List.length_append, HL.out]; simp; omega, good_step1 HG.out.good hpa hpb, sparse_step1 HG.out.sparse HG.out.good hpa hpb hab, by rw [toI_append]; exact hown5,
                (belowAlloc HG.out.below _).grown hg5 (by simp; omega) (fun k e => (HG.out.own.lt e).1)⟩
            have HREL1 := Lib.hid hrel1
            clear hrel1 hg5 hA5 hown5
            go_wp2
            go_roundw
            case rel => exact ⟨j + 1, n + 1, A1, c1, es ++ [(n, pa), (pb, n)], by omega, by go_num, by go_num, by rw [List.length_append, HL.out]; rfl, HREL1.out⟩
            case measure => simp [intOf]; omega
    · by_cases hlt : j < m
      · have hn10 : n = 10 := Classical.byContradiction fun h => hex ⟨hlt, h⟩
        subst hn10
        obtain ⟨fb, fo, rfl, hfb, hz⟩ := HBS.out j hlt
        obtain ⟨z0, hz0, hw0⟩ := hz 0 (by decide)
        obtain ⟨z1, hz1, hw1⟩ := hz 1 (by decide)
        obtain ⟨z2, hz2, hw2⟩ := hz 2 (by decide)
        obtain ⟨z3, hz3, hw3⟩ := hz 3 (by decide)
        have k0 := (HG.out.below.cell (p := ⟨fb, _, none⟩) hfb).trans hz0
        have k1 := (HG.out.below.cell (p := ⟨fb, _, none⟩) hfb).trans hz1
        have k2 := (HG.out.below.cell (p := ⟨fb, _, none⟩) hfb).trans hz2
        have k3 := (HG.out.below.cell (p := ⟨fb, _, none⟩) hfb).trans hz3
        clear hz hz0 hz1 hz2 hz3 hex
        simp only [Nat.add_zero] at k0
        have HG' := Lib.hid (HG.out.alloc (.cells #[.int .i64 z0, .int .i64 z1, .int .i64 z2, .int .i64 z3] 47))
        clear HG
        have HG := HG'
        clear HG'
        go_upto_region 21 with (fail)
        generalize wr.alloc (.cells #[.int .i64 z0, .int .i64 z1, .int .i64 z2, .int .i64 z3] 47) = wx at *
        clear k0 k1 k2 k3
        have hchk := sparse_check (n := 10) (by omega) (by omega) (by rw [HL.out]; omega) HG.out.good HG.out.sparse
        have hfr := sparse_frees (n := 10) HG.out.sparse
        have hov := sparse_overs (n := 10) HG.out.sparse
        have hli : (toI es).length = l := by rw [← HL.out]; simp [toI]
        rw [HL.out] at hfr
        have CHK := Lib.hid hchk
        have FR := Lib.hid hfr
        have OV := Lib.hid hov
        have LI := Lib.hid hli
        have hE := HG.out.own.edges
        have HE := Lib.hid hE
        have HB := Lib.hid HG.out.below
        clear hchk hfr hov hli hE
        go_wp2_with fail
        have c1 := Rigid_yes HF.out ((10 : Nat) : Int) A c (toI es) wx HE.out (by rw [LI.out]; omega) CHK.out
        rw [LI.out, FR.out] at c1
        refine c1.mono ?_
        clear c1
        rintro e w2 ⟨rfl, hb2⟩
        have HE2 := Lib.hid ((HE.out.below hb2).below (belowAlloc (Below.refl _ _) (.cells #[.int .i64 0, .int .i64 0] 30)))
        have HB2 := Lib.hid (belowAlloc (HB.out.trans (hb2.mono HB.out.size)) (.cells #[.int .i64 0, .int .i64 0] 30))
        have K2 := Lib.hid (heap_alloc_new w2 (.cells #[.int .i64 0, .int .i64 0] 30))
        clear hb2
        have hr1 : ((l : Int) == max (2 * ((10 : Nat) : Int) - 3) 0) = true := by rw [beq_iff_eq]; omega
        rw [hr1]
        simp only [faultV]
        go_upto_region 22 with (fail)
        generalize w2.alloc (.cells #[.int .i64 0, .int .i64 0] 30) = W2 at *
        generalize w2.heap.size = q2 at *
        go_wp2_with fail
        have c3 := Free_yes HF.out ((10 : Nat) : Int) A c (toI es) W2 HE2.out (by rw [LI.out]; omega) CHK.out
        rw [LI.out] at c3
        refine c3.mono ?_
        clear c3
        rintro e w3 ⟨b3, rfl, hb3ge, hc3, hb3⟩
        have HE4 := Lib.hid ((HE2.out.below hb3).below (belowAlloc (Below.refl _ _) (.cells #[.int .i64 0, .int .i64 0] 30)))
        have HB4 := Lib.hid (belowAlloc (HB2.out.trans (hb3.mono HB2.out.size)) (.cells #[.int .i64 0, .int .i64 0] 30))
        have hq2 : q2 < W2.heap.size := (Array.getElem?_eq_some_iff.1 K2.out).1
        have k3 := (hb3.block q2 hq2).trans K2.out
        have hq3 : q2 < w3.heap.size := (Array.getElem?_eq_some_iff.1 k3).1
        have K4 := Lib.hid ((Below.heap_alloc w3 (.cells #[.int .i64 0, .int .i64 0] 30) _ hq3).trans k3)
        have K4' := Lib.hid (heap_alloc_new w3 (.cells #[.int .i64 0, .int .i64 0] 30))
        have HC4 := Lib.hid (hc3.alloc (.cells #[.int .i64 0, .int .i64 0] 30))
        clear hb3 hq2 k3 hq3 hc3 hb3ge
        simp only [faultV]
        go_upto_region 23 with (fail)
        generalize w3.alloc (.cells #[.int .i64 0, .int .i64 0] 30) = W4 at *
        generalize w3.heap.size = q3 at *
        go_wp2_with fail
        have c5 := Over_yes HF.out ((10 : Nat) : Int) A c (toI es) W4 HE4.out (by rw [LI.out]; omega) CHK.out
        rw [LI.out] at c5
        refine c5.mono ?_
        clear c5
        rintro e w5 ⟨b5, rfl, hb5ge, hc5, hb5⟩
        have HB6 := Lib.hid (belowAlloc (HB4.out.trans (hb5.mono HB4.out.size)) (.cells #[.int .i64 0, .int .i64 0] 30))
        have hq2 : q2 < W4.heap.size := (Array.getElem?_eq_some_iff.1 K4.out).1
        have hq3 : q3 < W4.heap.size := (Array.getElem?_eq_some_iff.1 K4'.out).1
        have k5 := (hb5.block q2 hq2).trans K4.out
        have k5' := (hb5.block q3 hq3).trans K4'.out
        have hq2' : q2 < w5.heap.size := (Array.getElem?_eq_some_iff.1 k5).1
        have hq3' : q3 < w5.heap.size := (Array.getElem?_eq_some_iff.1 k5').1
        have K6 := Lib.hid ((Below.heap_alloc w5 (.cells #[.int .i64 0, .int .i64 0] 30) _ hq2').trans k5)
        have K6' := Lib.hid ((Below.heap_alloc w5 (.cells #[.int .i64 0, .int .i64 0] 30) _ hq3').trans k5')
        have K6'' := Lib.hid (heap_alloc_new w5 (.cells #[.int .i64 0, .int .i64 0] 30))
        have HC6 := Lib.hid ((HC4.out.keep (hb5.block _ HC4.out.lt)).alloc (.cells #[.int .i64 0, .int .i64 0] 30))
        have HD6 := Lib.hid (hc5.alloc (.cells #[.int .i64 0, .int .i64 0] 30))
        clear hb5 hq2 hq3 hq2' hq3' k5 k5' hc5 hb5ge
        simp only [faultV]
        go_upto_region 24 with (fail)
        generalize w5.alloc (.cells #[.int .i64 0, .int .i64 0] 30) = W6 at *
        generalize w5.heap.size = q5 at *
        obtain ⟨m1, _, _, _⟩ := two_at K6.out
        obtain ⟨m2, _, _, _⟩ := two_at K6'.out
        obtain ⟨m3, _, _, _⟩ := two_at K6''.out
        go_wp2_with fail
        refine (Many_cells (frees ((10 : Nat) : Int) (toI es) (-1)) l b3 _ _ ((frees_length ..).trans LI.out) (by omega) HC6.out).mono ?_
        rintro e w7 ⟨rfl, rfl⟩
        rw [FR.out]
        go_wp2_with fail
        refine (Many_cells (overs ((10 : Nat) : Int) (toI es)) l b5 _ _ ((overs_length ..).trans LI.out) (by omega) HD6.out).mono ?_
        rintro e w8 ⟨rfl, rfl⟩
        rw [OV.out]
        go_wp2_with fail
        go_ret
        exact ⟨rfl, HB6.out⟩
      · obtain rfl : m = j := by omega
        clear hlt hj hex
        obtain ⟨wx, rfl⟩ : ∃ wx : World, wx = wr := ⟨_, rfl⟩
        go_upto_region 21 with (fail)
        have hchk := sparse_check (n := n) (by omega) (by omega) (by rw [HL.out]; omega) HG.out.good HG.out.sparse
        have hfr := sparse_frees (n := n) HG.out.sparse
        have hov := sparse_overs (n := n) HG.out.sparse
        have hli : (toI es).length = l := by rw [← HL.out]; simp [toI]
        rw [HL.out] at hfr
        have CHK := Lib.hid hchk
        have FR := Lib.hid hfr
        have OV := Lib.hid hov
        have LI := Lib.hid hli
        have hE := HG.out.own.edges
        have HE := Lib.hid hE
        have HB := Lib.hid HG.out.below
        clear hchk hfr hov hli hE
        go_wp2_with fail
        have c1 := Rigid_yes HF.out ((n : Nat) : Int) A c (toI es) wx HE.out (by rw [LI.out]; omega) CHK.out
        rw [LI.out, FR.out] at c1
        refine c1.mono ?_
        clear c1
        rintro e w2 ⟨rfl, hb2⟩
        have HE2 := Lib.hid ((HE.out.below hb2).below (belowAlloc (Below.refl _ _) (.cells #[.int .i64 0, .int .i64 0] 30)))
        have HB2 := Lib.hid (belowAlloc (HB.out.trans (hb2.mono HB.out.size)) (.cells #[.int .i64 0, .int .i64 0] 30))
        have K2 := Lib.hid (heap_alloc_new w2 (.cells #[.int .i64 0, .int .i64 0] 30))
        clear hb2
        have hr1 : ((l : Int) == max (2 * ((n : Nat) : Int) - 3) 0) = true := by rw [beq_iff_eq]; omega
        rw [hr1]
        simp only [faultV]
        go_upto_region 22 with (fail)
        generalize w2.alloc (.cells #[.int .i64 0, .int .i64 0] 30) = W2 at *
        generalize w2.heap.size = q2 at *
        go_wp2_with fail
        have c3 := Free_yes HF.out ((n : Nat) : Int) A c (toI es) W2 HE2.out (by rw [LI.out]; omega) CHK.out
        rw [LI.out] at c3
        refine c3.mono ?_
        clear c3
        rintro e w3 ⟨b3, rfl, hb3ge, hc3, hb3⟩
        have HE4 := Lib.hid ((HE2.out.below hb3).below (belowAlloc (Below.refl _ _) (.cells #[.int .i64 0, .int .i64 0] 30)))
        have HB4 := Lib.hid (belowAlloc (HB2.out.trans (hb3.mono HB2.out.size)) (.cells #[.int .i64 0, .int .i64 0] 30))
        have hq2 : q2 < W2.heap.size := (Array.getElem?_eq_some_iff.1 K2.out).1
        have k3 := (hb3.block q2 hq2).trans K2.out
        have hq3 : q2 < w3.heap.size := (Array.getElem?_eq_some_iff.1 k3).1
        have K4 := Lib.hid ((Below.heap_alloc w3 (.cells #[.int .i64 0, .int .i64 0] 30) _ hq3).trans k3)
        have K4' := Lib.hid (heap_alloc_new w3 (.cells #[.int .i64 0, .int .i64 0] 30))
        have HC4 := Lib.hid (hc3.alloc (.cells #[.int .i64 0, .int .i64 0] 30))
        clear hb3 hq2 k3 hq3 hc3 hb3ge
        simp only [faultV]
        go_upto_region 23 with (fail)
        generalize w3.alloc (.cells #[.int .i64 0, .int .i64 0] 30) = W4 at *
        generalize w3.heap.size = q3 at *
        go_wp2_with fail
        have c5 := Over_yes HF.out ((n : Nat) : Int) A c (toI es) W4 HE4.out (by rw [LI.out]; omega) CHK.out
        rw [LI.out] at c5
        refine c5.mono ?_
        clear c5
        rintro e w5 ⟨b5, rfl, hb5ge, hc5, hb5⟩
        have HB6 := Lib.hid (belowAlloc (HB4.out.trans (hb5.mono HB4.out.size)) (.cells #[.int .i64 0, .int .i64 0] 30))
        have hq2 : q2 < W4.heap.size := (Array.getElem?_eq_some_iff.1 K4.out).1
        have hq3 : q3 < W4.heap.size := (Array.getElem?_eq_some_iff.1 K4'.out).1
        have k5 := (hb5.block q2 hq2).trans K4.out
        have k5' := (hb5.block q3 hq3).trans K4'.out
        have hq2' : q2 < w5.heap.size := (Array.getElem?_eq_some_iff.1 k5).1
        have hq3' : q3 < w5.heap.size := (Array.getElem?_eq_some_iff.1 k5').1
        have K6 := Lib.hid ((Below.heap_alloc w5 (.cells #[.int .i64 0, .int .i64 0] 30) _ hq2').trans k5)
        have K6' := Lib.hid ((Below.heap_alloc w5 (.cells #[.int .i64 0, .int .i64 0] 30) _ hq3').trans k5')
        have K6'' := Lib.hid (heap_alloc_new w5 (.cells #[.int .i64 0, .int .i64 0] 30))
        have HC6 := Lib.hid ((HC4.out.keep (hb5.block _ HC4.out.lt)).alloc (.cells #[.int .i64 0, .int .i64 0] 30))
        have HD6 := Lib.hid (hc5.alloc (.cells #[.int .i64 0, .int .i64 0] 30))
        clear hb5 hq2 hq3 hq2' hq3' k5 k5' hc5 hb5ge
        simp only [faultV]
        go_upto_region 24 with (fail)
        generalize w5.alloc (.cells #[.int .i64 0, .int .i64 0] 30) = W6 at *
        generalize w5.heap.size = q5 at *
        obtain ⟨m1, _, _, _⟩ := two_at K6.out
        obtain ⟨m2, _, _, _⟩ := two_at K6'.out
        obtain ⟨m3, _, _, _⟩ := two_at K6''.out
        go_wp2_with fail
        refine (Many_cells (frees ((n : Nat) : Int) (toI es) (-1)) l b3 _ _ ((frees_length ..).trans LI.out) (by omega) HC6.out).mono ?_
        rintro e w7 ⟨rfl, rfl⟩
        rw [FR.out]
        go_wp2_with fail
        refine (Many_cells (overs ((n : Nat) : Int) (toI es)) l b5 _ _ ((overs_length ..).trans LI.out) (by omega) HD6.out).mono ?_
        rintro e w8 ⟨rfl, rfl⟩
        rw [OV.out]
        go_wp2_with fail
        go_ret
        exact ⟨rfl, HB6.out⟩
end Go.Proofs.Ytdbhpiofbkhbeaa
