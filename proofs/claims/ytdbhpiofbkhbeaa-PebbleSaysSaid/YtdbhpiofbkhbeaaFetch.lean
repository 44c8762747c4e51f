/- The contract of '(*game).fetch': the search for a pebble. Conditions: the game lies in memory as 'Game' says, at most 10 points. -/
import Derived.Test.YtdbhpiofbkhbeaaFdef
import Derived.Deep.RegionHeld3
namespace Go.Proofs.Ytdbhpiofbkhbeaa
open Go.RowKit
set_option linter.unusedSimpArgs false
set_option linter.unusedVariables false

set_option maxHeartbeats 16000000 in
set_option maxRecDepth 100000 in
theorem fetch_walk (base : Nat → Prop) (g p o n s : Nat) (hn : n ≤ 10) (hs : base s) : ∀ k, FetchSaid base g p o n s k := by
  intro k
  induction k with
  | zero => intro w peb out A C seen at_ hk; exact absurd hk (by omega)
  | succ k ih =>
    have IH := Lib.hid ih
    clear ih
    intro w peb out A C seen at_ hk hG hS hA hV hat hNW
    have HNW := Lib.hid hNW
    clear hNW
    have hat' : (at_ : Int) < (n : Int) := by omega
    have hat0 : (0 : Int) ≤ (at_ : Int) := by omega
    have c1 : w.cell? ⟨s, at_, none⟩ = some (.bool (seen at_)) := hS.cell hat
    have c2 : w.frozen? ⟨s, at_, none⟩ = false := hS.frozen _
    have hS1 : Cells (w.setCell ⟨s, at_, none⟩ (.bool true)) s 4 n (boolsV (upd seen at_ true)) := (hS.set hat _).congr fun i hi => by unfold boolsV upd; split <;> rfl
    have hO1 : Only s w (w.setCell ⟨s, at_, none⟩ (.bool true)) := (Only.refl s w).setCell _ _
    have hG1 := hG.only hs hA hO1
    have HS1 := Lib.hid hS1
    have HO1 := Lib.hid hO1
    have HG1 := Lib.hid hG1
    have HA := Lib.hid hA
    have HV := Lib.hid hV
    have HK := Lib.hid hk
    clear hS1 hO1 hG1 hA hV hk hS hG
    go_enter Try.func26, Try.ntmps26
    go_upto_region 2 with (fail)
    clear c1 c2
    generalize hW : w.setCell ⟨s, at_, none⟩ (.bool true) = W1 at *
    clear hW
    have c1 : W1.cell? ⟨g, 1, none⟩ = some (.slice (some ⟨o, 0, none⟩) n n) := HG1.out.hg.cell (i := 1) (by omega)
    have c2 : W1.cell? ⟨o, at_, none⟩ = some (.slice (A at_) (out at_).length (C at_)) := HG1.out.ho.cell hat
    generalize hAa : A at_ = Aa at c2
    generalize hCa : C at_ = Ca at c2
    have HAa := Lib.hid hAa
    have HCa := Lib.hid hCa
    clear hAa hCa
    generalize hl : (out at_).length = len at *
    have HL := Lib.hid hl
    clear hl
    have hlen : len ≤ 2 := by have := (HV.out at_ hat).1; have := HL.out; omega
    go_wp2
    go_loopw [20] (fun i wr => ∃ (j : Nat) (sj : Nat → Bool), j ≤ len ∧ i = .int .i64 j ∧ Seeking n peb out seen at_ j sj ∧ Cells wr s 4 n (boolsV sj) ∧ Only s w wr ∧ Game wr base g p o n peb out A C) (fun i _ => len - (intOf i).toNat)
    case atStart => exact ⟨0, _, by omega, rfl, Seeking.start, HS1.out, HO1.out, HG1.out⟩
    case round =>
      obtain ⟨j, sj, hj, rfl, hk, hS, hO, hG⟩ := hrel
      clear c1 c2
      have HKS := Lib.hid hk
      have HS := Lib.hid hS
      have HO := Lib.hid hO
      have HG := Lib.hid hG
      clear hk hS hO hG
      by_cases hlt : j < len
      · have hjl : j < (out at_).length := by rw [HL.out]; exact hlt
        obtain ⟨b, hb, hcell⟩ := (HG.out.own at_ hat).at_ hjl
        obtain rfl : Aa = some ⟨b, 0, none⟩ := HAa.out.symm.trans hb
        obtain ⟨to_, hto⟩ : ∃ t, (out at_)[j] = t := ⟨_, rfl⟩
        rw [hto] at hcell
        have htn : to_ < n := by rw [← hto]; exact (HV.out at_ hat).2 _ (List.getElem_mem _)
        have HTO : Hid ((out at_)[j]? = some to_) := by rw [← hto]; exact List.getElem?_eq_getElem hjl
        clear hto hb
        have htn' : (to_ : Int) < (n : Int) := by omega
        have htn0 : (0 : Int) ≤ (to_ : Int) := by omega
        have hgc0 : wr.cell? ⟨g, 0, none⟩ = some (.slice (some ⟨p, 0, none⟩) n n) := HG.out.hg.cell (i := 0) (by omega)
        have hgc1 : wr.cell? ⟨g, 1, none⟩ = some (.slice (some ⟨o, 0, none⟩) n n) := HG.out.hg.cell (i := 1) (by omega)
        have hpc : wr.cell? ⟨p, to_, none⟩ = some (.int .i64 (peb to_ : Nat)) := HG.out.hp.cell htn
        have hsc : wr.cell? ⟨s, to_, none⟩ = some (.bool (sj to_)) := HS.out.cell htn
        have hsf : wr.frozen? ⟨s, to_, none⟩ = false := HS.out.frozen _
        by_cases hseen : sj to_ = true
        · rw [hseen] at hsc
          have HSE := Lib.hid hseen
          clear hseen
          go_wp2
          go_roundw
          case rel => exact ⟨j + 1, sj, by omega, by go_num, HKS.out.skip HTO.out HSE.out, HS.out, HO.out, HG.out⟩
          case measure => simp [intOf]; omega
        · rw [Bool.not_eq_true] at hseen
          rw [hseen] at hsc
          have HSE := Lib.hid hseen
          clear hseen
          have hne : to_ ≠ at_ := fun e => by have h := HKS.out.self; rw [← e, HSE.out] at h; cases h
          have hseen0 : seen to_ = false := by
            cases h : seen to_
            · rfl
            · have := HKS.out.more _ h; rw [HSE.out] at this; cases this
          go_upto_region 6 with (fail)
          go_cut [43] (Tested base g p o n s peb out seen sj at_ j to_ w wr)
          case first =>
            by_cases hz : peb to_ = 0
            · rw [hz] at hpc
              have HZ := Lib.hid hz
              clear hz
              go_wp2_with (fail)
              refine (IH.out wr peb out A C sj to_ (by have := unseen_lt HKS.out htn HSE.out; have := HK.out; omega) HG.out HS.out HA.out HV.out htn (HNW.out.mono (Nat.le_of_eq HO.out.size.symm))).mono ?_
              rintro e w1 (⟨rfl, seen2, hf, hs2, ho2⟩ | ⟨rfl, peb1, out1, A1, C1, seen2, hf, hg1, hs2, ha1, hfr⟩)
              · have HX : Hid (Tested base g p o n s peb out seen sj at_ j to_ w wr (.bool true) w1) := .inl ⟨rfl, HZ.out, seen2, hf, hs2, ho2⟩
                clear hf hs2 ho2
                go_wp2
                go_meet
                exact HX.out
              · have hthere := Fetched.there HV.out hat HTO.out HKS.out HSE.out HZ.out hf
                have HX : Hid (Tested base g p o n s peb out seen sj at_ j to_ w wr (.bool false) w1) := .inr ⟨rfl, peb1, out1, A1, C1, seen2, hg1, hs2, ha1, (HO.out.frame (p := p) (o := o) hs).trans hfr, hthere.2.1, hthere.2.2, hf.valid, hthere.1⟩
                clear hf hg1 hs2 ha1 hfr hthere
                go_wp2
                go_meet
                exact HX.out
            · have hzb : ((peb to_ : Int) == 0) = false := by simp; omega
              have HX : Hid (Tested base g p o n s peb out seen sj at_ j to_ w wr (.bool false) wr) := .inr ⟨rfl, peb, out, A, C, sj, HG.out, HS.out, HA.out, HO.out.frame hs, rfl, by omega, HV.out, Fetched.here HV.out hat HTO.out hseen0 hne (by omega)⟩
              clear hz
              go_wp2
              go_meet
              exact HX.out
          case rest =>
            clear hgc0 hgc1 hpc hsc hsf hcell
            rcases hcut with ⟨rfl, hz, seen2, hf, hs2, ho2⟩ | ⟨rfl, P, O, AT, CT, SN, hR⟩
            · have hsc2 : wc.cell? ⟨s, to_, none⟩ = some (.bool (seen2 to_)) := hs2.cell htn
              have hsf2 : wc.frozen? ⟨s, to_, none⟩ = false := hs2.frozen _
              have HN := Lib.hid (HKS.out.next HTO.out hz hf)
              have HS2 : Hid (Cells (wc.setCell ⟨s, to_, none⟩ (.bool true)) s 4 n (boolsV (upd seen2 to_ true))) := (hs2.set htn _).congr fun i hi => by unfold boolsV upd; split <;> rfl
              have HO2 := Lib.hid ((HO.out.trans ho2).setCell to_ (.bool true))
              have HG2 := Lib.hid (HG.out.only hs HA.out (ho2.setCell to_ (.bool true)))
              clear hf hs2 ho2 hz
              go_wp2
              go_roundw
              case rel => exact ⟨j + 1, _, by omega, by go_num, HN.out, HS2.out, HO2.out, HG2.out⟩
              case measure => simp [intOf]; omega
            · have HR := Lib.hid hR
              clear hR
              have t1 : wc.cell? ⟨g, 0, none⟩ = some (.slice (some ⟨p, 0, none⟩) n n) := HR.out.game.hg.cell (i := 0) (by omega)
              obtain ⟨pt, hpt⟩ : ∃ pt, P to_ = pt := ⟨_, rfl⟩
              have t2 : wc.cell? ⟨p, to_, none⟩ = some (.int .i64 (pt : Nat)) := by rw [← hpt]; exact HR.out.game.hp.cell htn
              have t3 : wc.frozen? ⟨p, to_, none⟩ = false := HR.out.game.hp.frozen _
              have hp1 : 1 ≤ (pt : Int) := by have := HR.out.one; omega
              have hp2 : (pt : Int) ≤ 2 := by have := (HR.out.valid to_ htn).1; omega
              have HPT := Lib.hid hpt
              clear hpt
              go_upto_region 9 with (fail)
              clear t1 t2 t3
              have hG8 : Game (wc.setCell ⟨p, to_, none⟩ (.int .i64 ((pt : Int) - 1))) base g p o n (upd P to_ (pt - 1)) O AT CT := by
                have := HR.out.game.setPeb htn (pt - 1)
                rwa [show ((pt - 1 : Nat) : Int) = (pt : Int) - 1 from by omega] at this
              have hS8 := HR.out.cells.setOther (a := ⟨p, to_, none⟩) (fun (e : p = s) => HR.out.game.lp (e ▸ hs)) (.int .i64 ((pt : Int) - 1))
              have hF8 := HR.out.frame.setCell (a := ⟨p, to_, none⟩) (.inl rfl) (.int .i64 ((pt : Int) - 1))
              generalize wc.setCell ⟨p, to_, none⟩ (.int .i64 ((pt : Int) - 1)) = W8 at *
              have HG8 := Lib.hid hG8
              have HS8 := Lib.hid hS8
              have HF8 := Lib.hid hF8
              clear hG8 hS8 hF8
              have r1 : W8.cell? ⟨g, 1, none⟩ = some (.slice (some ⟨o, 0, none⟩) n n) := HG8.out.hg.cell (i := 1) (by omega)
              obtain ⟨At, hAt⟩ : ∃ x, AT to_ = x := ⟨_, rfl⟩
              obtain ⟨Ct, hCt⟩ : ∃ x, CT to_ = x := ⟨_, rfl⟩
              obtain ⟨lt, hlt9⟩ : ∃ x, (O to_).length = x := ⟨_, rfl⟩
              have r2 : W8.cell? ⟨o, to_, none⟩ = some (.slice At lt Ct) := by rw [← hAt, ← hCt, ← hlt9]; exact HG8.out.ho.cell htn
              have r3 : W8.frozen? ⟨o, to_, none⟩ = false := HG8.out.ho.frozen _
              have hbs : New base W8 := HNW.out.mono HF8.out.size
              have hgl : g < W8.heap.size := HG8.out.hg.lt
              have hol : o < W8.heap.size := HG8.out.ho.lt
              have hlt2 : lt ≤ 2 := by have := (HR.out.valid to_ htn).1; omega
              have hown : Owns W8 base At Ct (O to_) := by rw [← hAt, ← hCt]; exact HG8.out.own to_ htn
              have hgb : some g ≠ blk At := fun e => HG8.out.lg (hown.lt e.symm).1
              have hob : some o ≠ blk At := fun e => HG8.out.lo (hown.lt e.symm).1
              have r1' : ((W8.alloc (.cells #[.int .i64 (at_ : Nat)] 3)).drew).cell? ⟨g, 1, none⟩ = some (.slice (some ⟨o, 0, none⟩) n n) := (HG8.out.hg.alloc _).cell (i := 1) (by omega)
              have r2' : ((W8.alloc (.cells #[.int .i64 (at_ : Nat)] 3)).drew).cell? ⟨o, to_, none⟩ = some (.slice At lt Ct) := by rw [← hAt, ← hCt, ← hlt9]; exact (HG8.out.ho.alloc _).cell htn
              have z3' : ∀ w9, ((W8.alloc (.cells #[.int .i64 (at_ : Nat)] 3)).drew).grownBy w9 (blk At) → w9.frozen? ⟨o, to_, none⟩ = false := fun w9 hg9 => ((HG8.out.ho.alloc _).drew.grown hg9 hob).frozen _
              have HOW := Lib.hid hown
              have HAt := Lib.hid hAt
              have HCt := Lib.hid hCt
              have HLt := Lib.hid hlt9
              have HGB := Lib.hid hgb
              have HOB := Lib.hid hob
              have R1 := Lib.hid r1'
              have R2 := Lib.hid r2'
              have Z3 := Lib.hid z3'
              have HNX : Hid (base ((W8.alloc (.cells #[.int .i64 (at_ : Nat)] 3)).drew).heap.size) := hbs _ (by show W8.heap.size ≤ (W8.heap.push _).size; simp)
              clear hown hAt hCt hlt9 hgb hob r1' r2' z3'
              have HGO := Lib.hid HG8.out.go
              go_cut [] (fun wx => ∃ A9 c9 w9, Owns w9 base A9 c9 (O to_ ++ [at_]) ∧ ((W8.alloc (.cells #[.int .i64 (at_ : Nat)] 3)).drew).grownBy w9 (blk At) ∧ (A9 = At ∨ A9 = some ⟨(W8.alloc (.cells #[.int .i64 (at_ : Nat)] 3)).drew.heap.size, 0, none⟩) ∧ wx = w9.setCell ⟨o, to_, none⟩ (.slice A9 (O to_ ++ [at_]).length c9))
              case first =>
                refine wp_region_held_drew (S := fun w' => w'.cell? ⟨g, 1, none⟩ = some (.slice (some ⟨o, 0, none⟩) n n)) (by kernel_rfl) r1 (fun hHeld => ?_)
                refine wpAnyH_take (i := 0) (oi := ⟨some 56, _, _, _, _, _⟩) (v := ?v0p) rfl (by kernel_rfl) (by kernel_rfl) (by kernel_rfl) (fun _ _ _ h => h) (Or.inl ⟨by rfl, ?y0p⟩) hHeld ?r0p
                case y0p => (intro w hSw; (try dsimp only at hSw); go_simp; try with_reducible rfl)
                try simp only [Act.put, List.setIfInBounds_toArray, List.set_cons_zero, List.set_cons_succ]
                refine wpAnyH_take (i := 1) (oi := ⟨some 57, _, _, _, _, _⟩) (v := ?v1p) rfl (by kernel_rfl) (by kernel_rfl) (by kernel_rfl) (fun _ _ _ h => h) (Or.inl ⟨by rfl, ?y1p⟩) hHeld ?r1p
                case y1p => (intro w hSw; (try dsimp only at hSw); go_simp; try with_reducible rfl)
                try simp only [Act.put, List.setIfInBounds_toArray, List.set_cons_zero, List.set_cons_succ]
                refine wpAnyH_take (i := 2) (oi := ⟨some 58, _, _, _, _, _⟩) (v := ?v2p) rfl (by kernel_rfl) (by kernel_rfl) (by kernel_rfl) (fun _ _ _ h => h) (Or.inl ⟨by rfl, ?y2p⟩) hHeld ?r2p
                case y2p => (intro w hSw; (try dsimp only at hSw); go_simp; try with_reducible rfl)
                try simp only [Act.put, List.setIfInBounds_toArray, List.set_cons_zero, List.set_cons_succ]
                refine wpAnyH_take (i := 3) (oi := ⟨some 59, _, _, _, _, _⟩) (v := ?v3p) rfl (by kernel_rfl) (by kernel_rfl) (by kernel_rfl) (fun _ _ _ h => h) (Or.inl ⟨by rfl, ?y3p⟩) hHeld ?r3p
                case y3p => (intro w hSw; (try dsimp only at hSw); go_simp; try with_reducible rfl)
                try simp only [Act.put, List.setIfInBounds_toArray, List.set_cons_zero, List.set_cons_succ]
                refine wpAnyH_take (i := 4) (oi := ⟨some 60, _, _, _, _, _⟩) (v := ?v4p) rfl (by kernel_rfl) (by kernel_rfl) (by kernel_rfl) (fun _ _ _ h => h) (Or.inl ⟨by rfl, ?y4p⟩) hHeld ?r4p
                case y4p => (intro w hSw; (try dsimp only at hSw); go_simp; try with_reducible rfl)
                try simp only [Act.put, List.setIfInBounds_toArray, List.set_cons_zero, List.set_cons_succ]
                refine wpAnyH_take (i := 5) (oi := ⟨some 61, _, _, _, _, _⟩) (v := ?v5p) rfl (by kernel_rfl) (by kernel_rfl) (by kernel_rfl) (fun _ _ _ h => h) (Or.inl ⟨by rfl, ?y5p⟩) hHeld ?r5p
                case y5p => (intro w hSw; (try dsimp only at hSw); go_simp; try with_reducible rfl)
                try simp only [Act.put, List.setIfInBounds_toArray, List.set_cons_zero, List.set_cons_succ]
                refine wpAnyH_take (i := 6) (oi := ⟨some 62, _, _, _, _, _⟩) (v := ?v6p) rfl (by kernel_rfl) (by kernel_rfl) (by kernel_rfl) (fun _ _ _ h => h) (Or.inl ⟨by rfl, ?y6p⟩) hHeld ?r6p
                case y6p => (intro w hSw; (try dsimp only at hSw); go_simp; try with_reducible rfl)
                try simp only [Act.put, List.setIfInBounds_toArray, List.set_cons_zero, List.set_cons_succ]
                refine wpAnyH_take (i := 7) (oi := ⟨some 63, _, _, _, _, _⟩) (v := ?v7p) rfl (by kernel_rfl) (by kernel_rfl) (by kernel_rfl) (fun _ _ _ h => h) (Or.inl ⟨by rfl, ?y7p⟩) hHeld ?r7p
                case y7p => (intro w hSw; (try dsimp only at hSw); go_simp; try with_reducible rfl)
                try simp only [Act.put, List.setIfInBounds_toArray, List.set_cons_zero, List.set_cons_succ]
                refine wpAnyH_take (i := 8) (oi := ⟨some 64, _, _, _, _, _⟩) (v := ?v8p) rfl (by kernel_rfl) (by kernel_rfl) (by kernel_rfl) (fun _ _ _ h => h) (Or.inl ⟨by rfl, ?y8p⟩) hHeld ?r8p
                case y8p => (intro w hSw; (try dsimp only at hSw); go_simp; try with_reducible rfl)
                try simp only [Act.put, List.setIfInBounds_toArray, List.set_cons_zero, List.set_cons_succ]
                refine wpAnyH_take (i := 9) (oi := ⟨some 65, _, _, _, _, _⟩) (v := ?v9p) rfl (by kernel_rfl) (by kernel_rfl) (by kernel_rfl) (fun _ _ _ h => h) (Or.inl ⟨by rfl, ?y9p⟩) hHeld ?r9p
                case y9p => (intro w hSw; (try dsimp only at hSw); go_simp; try with_reducible rfl)
                try simp only [Act.put, List.setIfInBounds_toArray, List.set_cons_zero, List.set_cons_succ]
                refine wpAnyH_take (i := 10) (oi := ⟨some 66, _, _, _, _, _⟩) (v := ?v10p) rfl (by kernel_rfl) (by kernel_rfl) (by kernel_rfl) (fun _ _ _ h => h) (Or.inl ⟨by rfl, ?y10p⟩) hHeld ?r10p
                case y10p => (intro w hSw; (try dsimp only at hSw); go_simp; try with_reducible rfl)
                try simp only [Act.put, List.setIfInBounds_toArray, List.set_cons_zero, List.set_cons_succ]
                refine wpAnyH_take (i := 12) (oi := ⟨some 68, _, _, _, _, _⟩) (v := ?v12p) rfl (by kernel_rfl) (by kernel_rfl) (by kernel_rfl) (fun _ _ _ h => h) (Or.inl ⟨by rfl, ?y12p⟩) hHeld ?r12p
                case y12p => (intro w hSw; (try dsimp only at hSw); go_simp; try with_reducible rfl)
                try simp only [Act.put, List.setIfInBounds_toArray, List.set_cons_zero, List.set_cons_succ]
                refine wpAnyH_ready (rs := [11, 13]) (by kernel_rfl) (by simp) ?_
                refine AllReadyH.cons rfl (fun K hK => ?_) (AllReadyH.cons rfl (fun K hK => ?_) AllReadyH.nil)
                · go_simp
                  refine hK.out _ _ r1 (fun hHeld => ?_)
                  clear hK K
                  try simp only [Act.put, List.setIfInBounds_toArray, List.set_cons_zero, List.set_cons_succ]
                  refine wpAnyH_ready (rs := [13]) (by kernel_rfl) (by simp) ?_
                  refine AllReadyH.cons rfl (fun K hK => ?_) AllReadyH.nil
                  go_simp
                  refine hK.out _ _ R1.out (fun hHeld => ?_)
                  clear hK K
                  try simp only [Act.put, List.setIfInBounds_toArray, List.set_cons_zero, List.set_cons_succ]
                  refine wpAnyH_ready (rs := [14]) (by kernel_rfl) (by simp) ?_
                  refine AllReadyH.cons rfl (fun K hK => ?_) AllReadyH.nil
                  refine step_append24 (by rfl) _ _ (by rfl) base At Ct _ lt (by rfl) HLt.out ((HOW.out.alloc _).drew) (some ⟨W8.heap.size, 0, none⟩) 1 1 [at_] (by rfl) rfl (news1 W8 at_) (by simp [HLt.out]; omega) (HNX.out) ?_
                  intro A9 c9 w9 hown9 hgrow hA9
                  have z1 := hgrow.cell (a := ⟨g, 1, none⟩) R1.out HGB.out
                  have z2 := hgrow.cell (a := ⟨o, to_, none⟩) R2.out HOB.out
                  have z3 := Z3.out w9 hgrow
                  have HOWN9 := Lib.hid hown9
                  have HGROW9 := Lib.hid hgrow
                  have HA9 := Lib.hid hA9
                  clear hown9 hgrow hA9
                  refine hK.out _ _ z1 (fun hHeld => ?_)
                  clear hK K
                  try simp only [Act.put, List.setIfInBounds_toArray, List.set_cons_zero, List.set_cons_succ]
                  refine wpAnyH_take (i := 15) (oi := ⟨some 71, _, _, _, _, _⟩) (v := ?v15q) rfl (by kernel_rfl) (by kernel_rfl) (by kernel_rfl) (fun _ _ _ h => h) (Or.inl ⟨by rfl, ?y15q⟩) hHeld ?r15q
                  case y15q => (intro w hSw; (try dsimp only at hSw); go_simp; try with_reducible rfl)
                  try simp only [Act.put, List.setIfInBounds_toArray, List.set_cons_zero, List.set_cons_succ]
                  refine wpAnyH_ready (rs := [16]) (by kernel_rfl) (by simp) ?_
                  refine AllReadyH.cons rfl (fun K hK => ?_) AllReadyH.nil
                  go_simp
                  refine hK.out _ _ ?_ (fun hHeld2 => ?_)
                  · rw [World.cell?_setCell_other _ _ _ _ (fun e => HGO.out (congrArg Addr.block e).symm)]; exact hHeld
                  clear hK K
                  try simp only [Act.put, List.setIfInBounds_toArray, List.set_cons_zero, List.set_cons_succ]
                  refine wpAnyH_done (by kernel_rfl) ?_ _
                  go_wp2_with fail
                  go_meet
                  exact ⟨A9, c9, w9, HOWN9.out, HGROW9.out, HA9.out, by simp⟩
                · go_simp
                  refine hK.out _ _ R1.out (fun hHeld => ?_)
                  have r2b := R2.out
                  clear hK K
                  try simp only [Act.put, List.setIfInBounds_toArray, List.set_cons_zero, List.set_cons_succ]
                  refine wpAnyH_ready (rs := [11]) (by kernel_rfl) (by simp) ?_
                  refine AllReadyH.cons rfl (fun K hK => ?_) AllReadyH.nil
                  go_simp
                  refine hK.out _ _ R1.out (fun hHeld => ?_)
                  clear hK K
                  try simp only [Act.put, List.setIfInBounds_toArray, List.set_cons_zero, List.set_cons_succ]
                  refine wpAnyH_ready (rs := [14]) (by kernel_rfl) (by simp) ?_
                  refine AllReadyH.cons rfl (fun K hK => ?_) AllReadyH.nil
                  refine step_append24 (by rfl) _ _ (by rfl) base At Ct _ lt (by rfl) HLt.out ((HOW.out.alloc _).drew) (some ⟨W8.heap.size, 0, none⟩) 1 1 [at_] (by rfl) rfl (news1 W8 at_) (by simp [HLt.out]; omega) (HNX.out) ?_
                  intro A9 c9 w9 hown9 hgrow hA9
                  have z1 := hgrow.cell (a := ⟨g, 1, none⟩) R1.out HGB.out
                  have z2 := hgrow.cell (a := ⟨o, to_, none⟩) R2.out HOB.out
                  have z3 := Z3.out w9 hgrow
                  have HOWN9 := Lib.hid hown9
                  have HGROW9 := Lib.hid hgrow
                  have HA9 := Lib.hid hA9
                  clear hown9 hgrow hA9
                  refine hK.out _ _ z1 (fun hHeld => ?_)
                  clear hK K
                  try simp only [Act.put, List.setIfInBounds_toArray, List.set_cons_zero, List.set_cons_succ]
                  refine wpAnyH_take (i := 15) (oi := ⟨some 71, _, _, _, _, _⟩) (v := ?v15r) rfl (by kernel_rfl) (by kernel_rfl) (by kernel_rfl) (fun _ _ _ h => h) (Or.inl ⟨by rfl, ?y15r⟩) hHeld ?r15r
                  case y15r => (intro w hSw; (try dsimp only at hSw); go_simp; try with_reducible rfl)
                  try simp only [Act.put, List.setIfInBounds_toArray, List.set_cons_zero, List.set_cons_succ]
                  refine wpAnyH_ready (rs := [16]) (by kernel_rfl) (by simp) ?_
                  refine AllReadyH.cons rfl (fun K hK => ?_) AllReadyH.nil
                  go_simp
                  refine hK.out _ _ ?_ (fun hHeld2 => ?_)
                  · rw [World.cell?_setCell_other _ _ _ _ (fun e => HGO.out (congrArg Addr.block e).symm)]; exact hHeld
                  clear hK K
                  try simp only [Act.put, List.setIfInBounds_toArray, List.set_cons_zero, List.set_cons_succ]
                  refine wpAnyH_done (by kernel_rfl) ?_ _
                  go_wp2_with fail
                  go_meet
                  exact ⟨A9, c9, w9, HOWN9.out, HGROW9.out, HA9.out, by simp⟩
              case rest =>
                obtain ⟨A9, c9, w9, hown9, hgrow, hA9, rfl⟩ := hcut
                have hG9 := (HG8.out.alloc (.cells #[.int .i64 (at_ : Nat)] 3)).drewN 1 |>.setOut htn HAt.out.symm hown9 hgrow (hA9.imp id fun h => ⟨_, h, Nat.le_refl _⟩) (hbs.mono (by show W8.heap.size ≤ (W8.heap.push _).size; simp))
                have hS9 := ((((HS8.out.alloc (.cells #[.int .i64 (at_ : Nat)] 3)).drew).grown hgrow (by rw [← HAt.out]; exact (HR.out.apart to_ htn).symm)).setOther (a := ⟨o, to_, none⟩) (fun (e : o = s) => HG8.out.lo (e ▸ hs)) (.slice A9 (O to_ ++ [at_]).length c9))
                have hA10 : ∀ i, i < n → blk (upd AT to_ A9 i) ≠ some s := by
                  intro i hi
                  unfold upd
                  split
                  · rcases hA9 with rfl | rfl
                    · rw [← HAt.out]; exact HR.out.apart to_ htn
                    · have := HS8.out.lt
                      simp [blk, World.drew]; omega
                  · exact HR.out.apart i hi
                have hF9 := (((HF8.out.alloc hbs (.cells #[.int .i64 (at_ : Nat)] 3)).drew.grown hgrow (hbs.mono (by show W8.heap.size ≤ (W8.heap.push _).size; simp)) (fun k hk => (HOW.out.lt hk).1)).setCell (a := ⟨o, to_, none⟩) (.inr (.inl rfl)) (.slice A9 (O to_ ++ [at_]).length c9))
                clear hown9 hgrow hA9 r1 r2 r3 hbs hgl hol
                generalize w9.setCell ⟨o, to_, none⟩ (.slice A9 (O to_ ++ [at_]).length c9) = W9 at *
                have hO1 : upd O to_ (O to_ ++ [at_]) at_ = out at_ := by rw [upd_other _ _ (Ne.symm hne), HR.out.arc]
                have hownA := hG9.own at_ hat
                rw [hO1] at hownA
                obtain ⟨Cb, hCb⟩ : ∃ x, upd CT to_ c9 at_ = x := ⟨_, rfl⟩
                obtain ⟨Ab, hAb⟩ : ∃ x, upd AT to_ A9 at_ = x := ⟨_, rfl⟩
                rw [hAb, hCb] at hownA
                obtain ⟨b2, hb2, _⟩ := hownA.at_ hjl
                subst hb2
                have r1 : W9.cell? ⟨g, 1, none⟩ = some (.slice (some ⟨o, 0, none⟩) n n) := hG9.hg.cell (i := 1) (by omega)
                have r2 : W9.cell? ⟨o, at_, none⟩ = some (.slice (some ⟨b2, 0, none⟩) len Cb) := by rw [← hAb, ← hCb, ← HL.out, ← hO1]; exact hG9.ho.cell hat
                have r3 : W9.frozen? ⟨o, at_, none⟩ = false := hG9.ho.frozen _
                have hlc : len ≤ Cb := by have := hownA.len; rw [HL.out] at this; exact this
                have hbs : New base W9 := HNW.out.mono hF9.size
                have hgb : some g ≠ blk (some ⟨b2, 0, none⟩) := fun e => hG9.lg (hownA.lt e.symm).1
                have hob : some o ≠ blk (some ⟨b2, 0, none⟩) := fun e => hG9.lo (hownA.lt e.symm).1
                have z3' : ∀ w10, (W9.drew).grownBy w10 (blk (some ⟨b2, 0, none⟩)) → w10.frozen? ⟨o, at_, none⟩ = false := fun w10 hg => (hG9.ho.drew.grown hg hob).frozen _
                have HG9 := Lib.hid hG9
                have HS9 := Lib.hid hS9
                have HA10 := Lib.hid hA10
                have HF9 := Lib.hid hF9
                have HO1 := Lib.hid hO1
                have HOW9 := Lib.hid hownA
                have HCb := Lib.hid hCb
                have HAb := Lib.hid hAb
                have HGB9 := Lib.hid hgb
                have HOB9 := Lib.hid hob
                have Z39 := Lib.hid z3'
                have R19 := Lib.hid r1
                have R29 := Lib.hid r2
                have HNX9 : Hid (base W9.drew.heap.size) := hbs.here
                clear hG9 hS9 hA10 hF9 hO1 hownA hCb hAb hgb hob z3'
                go_upto_region 10 with (fail)
                obtain ⟨X, hX⟩ : ∃ X, (if Cb = j + 1 then some (⟨b2, 0, none⟩ : Addr) else some ⟨b2, j + 1, none⟩) = X := ⟨_, rfl⟩
                have HX := Lib.hid hX
                have hjc : j ≤ Cb := by omega
                have hjc1 : j + 1 ≤ len := by omega
                have hjc2 : j + 1 ≤ Cb := by omega
                have hjc3 : (j : Int) + 1 ≤ (len : Int) := by omega
                have hjc4 : (0 : Int) ≤ (j : Int) + 1 := by omega
                have hjc5 : ((j : Int) + 1).toNat = j + 1 := by omega
                have e1 : IntKind.i64.wrap ((j : Int) + 1) = (j : Int) + 1 := IntWalk.i64_in _ (by omega)
                have HTK : Hid (((out at_).take j).length = j) := by show ((out at_).take j).length = j; rw [List.length_take, HL.out]; omega
                have HTOWN : Hid (Owns W9.drew base (some ⟨b2, 0, none⟩) j ((out at_).take j)) := HOW9.out.drew.take (by rw [HL.out]; omega)
                have HDL : Hid (((out at_).drop (j + 1)).length = len - (j + 1)) := by show ((out at_).drop (j + 1)).length = _; rw [List.length_drop, HL.out]
                have HXX : Hid (∀ q, (hq : q < ((out at_).drop (j + 1)).length) → ∃ ad, X = some ad ∧ W9.drew.cell? (ad.add q) = some (.int .i64 (((out at_).drop (j + 1))[q] : Nat))) := by
                  intro q hq
                  have hq2 : j + 1 + q < (out at_).length := by rw [List.length_drop] at hq; omega
                  rw [← HX.out, if_neg (by rw [HL.out] at hq2; omega)]
                  refine ⟨_, rfl, ?_⟩
                  obtain ⟨b3, e3, hc3⟩ := HOW9.out.at_ hq2
                  have e4 : b2 = b3 := by injection e3 with e3; injection e3
                  subst e4
                  rw [add_at, List.getElem_drop]
                  exact hc3
                go_cut [] (fun wx => ∃ A9' c9' w10, Owns w10 base A9' c9' ((out at_).take j ++ (out at_).drop (j + 1)) ∧ (W9.drew).grownBy w10 (blk (some ⟨b2, 0, none⟩)) ∧ (A9' = some ⟨b2, 0, none⟩ ∨ A9' = some ⟨W9.drew.heap.size, 0, none⟩) ∧ wx = w10.setCell ⟨o, at_, none⟩ (.slice A9' ((out at_).take j ++ (out at_).drop (j + 1)).length c9'))
                case first =>
                  refine wp_region_held_drew (S := fun w' => w'.cell? ⟨g, 1, none⟩ = some (.slice (some ⟨o, 0, none⟩) n n)) (by kernel_rfl) r1 (fun hHeld => ?_)
                  refine wpAnyH_take (i := 0) (oi := ⟨some 72, _, _, _, _, _⟩) (v := ?v0s) rfl (by kernel_rfl) (by kernel_rfl) (by kernel_rfl) (fun _ _ _ h => h) (Or.inl ⟨by rfl, ?y0s⟩) hHeld ?r0s
                  case y0s => (intro w hSw; (try dsimp only at hSw); go_simp; try with_reducible rfl)
                  try simp only [Act.put, List.setIfInBounds_toArray, List.set_cons_zero, List.set_cons_succ]
                  refine wpAnyH_take (i := 1) (oi := ⟨some 73, _, _, _, _, _⟩) (v := ?v1s) rfl (by kernel_rfl) (by kernel_rfl) (by kernel_rfl) (fun _ _ _ h => h) (Or.inl ⟨by rfl, ?y1s⟩) hHeld ?r1s
                  case y1s => (intro w hSw; (try dsimp only at hSw); go_simp; try with_reducible rfl)
                  try simp only [Act.put, List.setIfInBounds_toArray, List.set_cons_zero, List.set_cons_succ]
                  refine wpAnyH_take (i := 2) (oi := ⟨some 74, _, _, _, _, _⟩) (v := ?v2s) rfl (by kernel_rfl) (by kernel_rfl) (by kernel_rfl) (fun _ _ _ h => h) (Or.inl ⟨by rfl, ?y2s⟩) hHeld ?r2s
                  case y2s => (intro w hSw; (try dsimp only at hSw); go_simp; try with_reducible rfl)
                  try simp only [Act.put, List.setIfInBounds_toArray, List.set_cons_zero, List.set_cons_succ]
                  refine wpAnyH_take (i := 3) (oi := ⟨some 75, _, _, _, _, _⟩) (v := ?v3s) rfl (by kernel_rfl) (by kernel_rfl) (by kernel_rfl) (fun _ _ _ h => h) (Or.inl ⟨by rfl, ?y3s⟩) hHeld ?r3s
                  case y3s => (intro w hSw; (try dsimp only at hSw); go_simp; try with_reducible rfl)
                  try simp only [Act.put, List.setIfInBounds_toArray, List.set_cons_zero, List.set_cons_succ]
                  refine wpAnyH_take (i := 4) (oi := ⟨some 76, _, _, _, _, _⟩) (v := ?v4s) rfl (by kernel_rfl) (by kernel_rfl) (by kernel_rfl) (fun _ _ _ h => h) (Or.inl ⟨by rfl, ?y4s⟩) hHeld ?r4s
                  case y4s => (intro w hSw; (try dsimp only at hSw); go_simp; try with_reducible rfl)
                  try simp only [Act.put, List.setIfInBounds_toArray, List.set_cons_zero, List.set_cons_succ]
                  refine wpAnyH_take (i := 5) (oi := ⟨some 77, _, _, _, _, _⟩) (v := ?v5s) rfl (by kernel_rfl) (by kernel_rfl) (by kernel_rfl) (fun _ _ _ h => h) (Or.inl ⟨by rfl, ?y5s⟩) hHeld ?r5s
                  case y5s => (intro w hSw; (try dsimp only at hSw); go_simp; try with_reducible rfl)
                  try simp only [Act.put, List.setIfInBounds_toArray, List.set_cons_zero, List.set_cons_succ]
                  refine wpAnyH_take (i := 6) (oi := ⟨some 78, _, _, _, _, _⟩) (v := ?v6s) rfl (by kernel_rfl) (by kernel_rfl) (by kernel_rfl) (fun _ _ _ h => h) (Or.inl ⟨by rfl, ?y6s⟩) hHeld ?r6s
                  case y6s => (intro w hSw; (try dsimp only at hSw); go_simp; try with_reducible rfl)
                  try simp only [Act.put, List.setIfInBounds_toArray, List.set_cons_zero, List.set_cons_succ]
                  refine wpAnyH_take (i := 7) (oi := ⟨some 79, _, _, _, _, _⟩) (v := ?v7s) rfl (by kernel_rfl) (by kernel_rfl) (by kernel_rfl) (fun _ _ _ h => h) (Or.inl ⟨by rfl, ?y7s⟩) hHeld ?r7s
                  case y7s => (intro w hSw; (try dsimp only at hSw); go_simp; try with_reducible rfl)
                  try simp only [Act.put, List.setIfInBounds_toArray, List.set_cons_zero, List.set_cons_succ]
                  refine wpAnyH_take (i := 8) (oi := ⟨some 80, _, _, _, _, _⟩) (v := ?v8s) rfl (by kernel_rfl) (by kernel_rfl) (by kernel_rfl) (fun _ _ _ h => h) (Or.inl ⟨by rfl, ?y8s⟩) hHeld ?r8s
                  case y8s => (intro w hSw; (try dsimp only at hSw); go_simp; try with_reducible rfl)
                  try simp only [Act.put, List.setIfInBounds_toArray, List.set_cons_zero, List.set_cons_succ]
                  refine wpAnyH_take (i := 9) (oi := ⟨some 81, _, _, _, _, _⟩) (v := ?v9s) rfl (by kernel_rfl) (by kernel_rfl) (by kernel_rfl) (fun _ _ _ h => h) (Or.inl ⟨by rfl, ?y9s⟩) hHeld ?r9s
                  case y9s => (intro w hSw; (try dsimp only at hSw); go_simp; try with_reducible rfl)
                  try simp only [Act.put, List.setIfInBounds_toArray, List.set_cons_zero, List.set_cons_succ]
                  refine wpAnyH_take (i := 10) (oi := ⟨some 82, _, _, _, _, _⟩) (v := ?v10s) rfl (by kernel_rfl) (by kernel_rfl) (by kernel_rfl) (fun _ _ _ h => h) (Or.inl ⟨by rfl, ?y10s⟩) hHeld ?r10s
                  case y10s => (intro w hSw; (try dsimp only at hSw); go_simp; try with_reducible rfl)
                  try simp only [Act.put, List.setIfInBounds_toArray, List.set_cons_zero, List.set_cons_succ]
                  refine wpAnyH_take (i := 12) (oi := ⟨some 84, _, _, _, _, _⟩) (v := ?v12s) rfl (by kernel_rfl) (by kernel_rfl) (by kernel_rfl) (fun _ _ _ h => h) (Or.inl ⟨by rfl, ?y12s⟩) hHeld ?r12s
                  case y12s => (intro w hSw; (try dsimp only at hSw); go_simp; try with_reducible rfl)
                  try simp only [Act.put, List.setIfInBounds_toArray, List.set_cons_zero, List.set_cons_succ]
                  refine wpAnyH_take (i := 13) (oi := ⟨some 85, _, _, _, _, _⟩) (v := ?v13s) rfl (by kernel_rfl) (by kernel_rfl) (by kernel_rfl) (fun _ _ _ h => h) (Or.inl ⟨by rfl, ?y13s⟩) hHeld ?r13s
                  case y13s => (intro w hSw; (try dsimp only at hSw); go_simp; try with_reducible rfl)
                  try simp only [Act.put, List.setIfInBounds_toArray, List.set_cons_zero, List.set_cons_succ]
                  refine wpAnyH_take (i := 15) (oi := ⟨some 87, _, _, _, _, _⟩) (v := ?v15s) rfl (by kernel_rfl) (by kernel_rfl) (by kernel_rfl) (fun _ _ _ h => h) (Or.inl ⟨by rfl, ?y15s⟩) hHeld ?r15s
                  case y15s => (intro w hSw; (try dsimp only at hSw); go_simp; try with_reducible rfl)
                  try simp only [Act.put, List.setIfInBounds_toArray, List.set_cons_zero, List.set_cons_succ]
                  refine wpAnyH_take (i := 16) (oi := ⟨some 88, _, _, _, _, _⟩) (v := ?v16s) rfl (by kernel_rfl) (by kernel_rfl) (by kernel_rfl) (fun _ _ _ h => h) (Or.inl ⟨by rfl, ?y16s⟩) hHeld ?r16s
                  case y16s => (intro w hSw; (try dsimp only at hSw); go_simp; try with_reducible rfl)
                  try simp only [Act.put, List.setIfInBounds_toArray, List.set_cons_zero, List.set_cons_succ]
                  refine wpAnyH_take (i := 17) (oi := ⟨some 89, _, _, _, _, _⟩) (v := ?v17s) rfl (by kernel_rfl) (by kernel_rfl) (by kernel_rfl) (fun _ _ _ h => h) (Or.inl ⟨by rfl, ?y17s⟩) hHeld ?r17s
                  case y17s => (intro w hSw; (try dsimp only at hSw); go_simp; try with_reducible rfl)
                  try simp only [Act.put, List.setIfInBounds_toArray, List.set_cons_zero, List.set_cons_succ]
                  refine wpAnyH_take (i := 18) (oi := ⟨some 90, _, _, _, _, _⟩) (v := ?v18s) rfl (by kernel_rfl) (by kernel_rfl) (by kernel_rfl) (fun _ _ _ h => h) (Or.inl ⟨by rfl, ?y18s⟩) hHeld ?r18s
                  case y18s => (intro w hSw; (try dsimp only at hSw); go_simp; try with_reducible rfl)
                  try simp only [Act.put, List.setIfInBounds_toArray, List.set_cons_zero, List.set_cons_succ]
                  refine wpAnyH_take (i := 19) (oi := ⟨some 91, _, _, _, _, _⟩) (v := ?v19s) rfl (by kernel_rfl) (by kernel_rfl) (by kernel_rfl) (fun _ _ _ h => h) (Or.inl ⟨by rfl, ?y19s⟩) hHeld ?r19s
                  case y19s => (intro w hSw; (try dsimp only at hSw); go_simp; try with_reducible rfl)
                  try simp only [Act.put, List.setIfInBounds_toArray, List.set_cons_zero, List.set_cons_succ]
                  refine wpAnyH_take (i := 20) (oi := ⟨some 92, _, _, _, _, _⟩) (v := ?v20s) rfl (by kernel_rfl) (by kernel_rfl) (by kernel_rfl) (fun _ _ _ h => h) (Or.inl ⟨by rfl, ?y20s⟩) hHeld ?r20s
                  case y20s => (intro w hSw; (try dsimp only at hSw); go_simp; try with_reducible rfl)
                  try simp only [Act.put, List.setIfInBounds_toArray, List.set_cons_zero, List.set_cons_succ]
                  refine wpAnyH_take (i := 22) (oi := ⟨some 94, _, _, _, _, _⟩) (v := ?v22s) rfl (by kernel_rfl) (by kernel_rfl) (by kernel_rfl) (fun _ _ _ h => h) (Or.inl ⟨by rfl, ?y22s⟩) hHeld ?r22s
                  case y22s => (intro w hSw; (try dsimp only at hSw); go_simp; try with_reducible rfl)
                  try simp only [Act.put, List.setIfInBounds_toArray, List.set_cons_zero, List.set_cons_succ]
                  refine wpAnyH_take (i := 23) (oi := ⟨some 95, _, _, _, _, _⟩) (v := .int .i64 ((j : Int) + 1)) rfl (by kernel_rfl) (by kernel_rfl) (by kernel_rfl) (fun _ _ _ h => h) (Or.inl ⟨by rfl, ?y23s⟩) hHeld ?r23s
                  case y23s => (intro w hSw; (try dsimp only at hSw); go_simp; try with_reducible rfl)
                  try simp only [Act.put, List.setIfInBounds_toArray, List.set_cons_zero, List.set_cons_succ]
                  refine wpAnyH_ready (rs := [11, 21]) (by kernel_rfl) (by simp) ?_
                  refine AllReadyH.cons rfl (fun K hK => ?_) (AllReadyH.cons rfl (fun K hK => ?_) AllReadyH.nil)
                  · go_simp
                    refine hK.out _ _ r1 (fun hHeld => ?_)
                    clear hK K
                    try simp only [Act.put, List.setIfInBounds_toArray, List.set_cons_zero, List.set_cons_succ]
                    refine wpAnyH_take (i := 14) (oi := ⟨some 86, _, _, _, _, _⟩) (v := ?v14ta) rfl (by kernel_rfl) (by kernel_rfl) (by kernel_rfl) (fun _ _ _ h => h) (Or.inl ⟨by rfl, ?y14ta⟩) hHeld ?r14ta
                    case y14ta => (intro w hSw; (try dsimp only at hSw); go_simp; try with_reducible rfl)
                    try simp only [Act.put, List.setIfInBounds_toArray, List.set_cons_zero, List.set_cons_succ]
                    refine wpAnyH_ready (rs := [21]) (by kernel_rfl) (by simp) ?_
                    refine AllReadyH.cons rfl (fun K hK => ?_) AllReadyH.nil
                    go_simp
                    refine hK.out _ _ r1 (fun hHeld => ?_)
                    clear hK K
                    try simp only [Act.put, List.setIfInBounds_toArray, List.set_cons_zero, List.set_cons_succ]
                    refine wpAnyH_take (i := 24) (oi := ⟨some 96, _, _, _, _, _⟩) (v := .slice X (len - (j + 1)) (Cb - (j + 1))) rfl (by kernel_rfl) (by kernel_rfl) (by kernel_rfl) (fun _ _ _ h => h) (Or.inl ⟨by rfl, ?y24tb⟩) hHeld ?r24tb
                    case y24tb => (intro w hSw; (try dsimp only at hSw); go_simp; try simp only [hjc3, hjc4, hjc5, and_self, if_true, hX])
                    try simp only [Act.put, List.setIfInBounds_toArray, List.set_cons_zero, List.set_cons_succ]
                    refine wpAnyH_ready (rs := [25]) (by kernel_rfl) (by simp) ?_
                    refine AllReadyH.cons rfl (fun K hK => ?_) AllReadyH.nil
                    refine step_append24 (by rfl) _ _ (by rfl) base (some ⟨b2, 0, none⟩) j ((out at_).take j) j (by rfl) HTK.out HTOWN.out X (len - (j + 1)) (Cb - (j + 1)) ((out at_).drop (j + 1)) (by rfl) HDL.out HXX.out (by rw [HTK.out]; omega) HNX9.out ?_
                    intro A9' c9' w10 hown9 hgrow hA9
                    have z1 := hgrow.cell (a := ⟨g, 1, none⟩) R19.out HGB9.out
                    have z2 := hgrow.cell (a := ⟨o, at_, none⟩) R29.out HOB9.out
                    have z3 := Z39.out w10 hgrow
                    have HOWN9 := Lib.hid hown9
                    have HGROW9 := Lib.hid hgrow
                    have HA9 := Lib.hid hA9
                    clear hown9 hgrow hA9
                    refine hK.out _ _ z1 (fun hHeld => ?_)
                    clear hK K
                    try simp only [Act.put, List.setIfInBounds_toArray, List.set_cons_zero, List.set_cons_succ]
                    refine wpAnyH_take (i := 26) (oi := ⟨some 98, _, _, _, _, _⟩) (v := ?v26tc) rfl (by kernel_rfl) (by kernel_rfl) (by kernel_rfl) (fun _ _ _ h => h) (Or.inl ⟨by rfl, ?y26tc⟩) hHeld ?r26tc
                    case y26tc => (intro w hSw; (try dsimp only at hSw); go_simp; try with_reducible rfl)
                    try simp only [Act.put, List.setIfInBounds_toArray, List.set_cons_zero, List.set_cons_succ]
                    refine wpAnyH_ready (rs := [27]) (by kernel_rfl) (by simp) ?_
                    refine AllReadyH.cons rfl (fun K hK => ?_) AllReadyH.nil
                    go_simp
                    refine hK.out _ _ ?_ (fun hHeld2 => ?_)
                    · rw [World.cell?_setCell_other _ _ _ _ (fun e => HGO.out (congrArg Addr.block e).symm)]; exact hHeld
                    clear hK K
                    try simp only [Act.put, List.setIfInBounds_toArray, List.set_cons_zero, List.set_cons_succ]
                    refine wpAnyH_done (by kernel_rfl) ?_ _
                    go_wp2_with fail
                    go_meet
                    exact ⟨A9', c9', w10, HOWN9.out, HGROW9.out, HA9.out, by first | rfl | simp⟩
                  · go_simp
                    refine hK.out _ _ r1 (fun hHeld => ?_)
                    clear hK K
                    try simp only [Act.put, List.setIfInBounds_toArray, List.set_cons_zero, List.set_cons_succ]
                    refine wpAnyH_take (i := 24) (oi := ⟨some 96, _, _, _, _, _⟩) (v := .slice X (len - (j + 1)) (Cb - (j + 1))) rfl (by kernel_rfl) (by kernel_rfl) (by kernel_rfl) (fun _ _ _ h => h) (Or.inl ⟨by rfl, ?y24ua⟩) hHeld ?r24ua
                    case y24ua => (intro w hSw; (try dsimp only at hSw); go_simp; try simp only [hjc3, hjc4, hjc5, and_self, if_true, hX])
                    try simp only [Act.put, List.setIfInBounds_toArray, List.set_cons_zero, List.set_cons_succ]
                    refine wpAnyH_ready (rs := [11]) (by kernel_rfl) (by simp) ?_
                    refine AllReadyH.cons rfl (fun K hK => ?_) AllReadyH.nil
                    go_simp
                    refine hK.out _ _ r1 (fun hHeld => ?_)
                    clear hK K
                    try simp only [Act.put, List.setIfInBounds_toArray, List.set_cons_zero, List.set_cons_succ]
                    refine wpAnyH_take (i := 14) (oi := ⟨some 86, _, _, _, _, _⟩) (v := ?v14ub) rfl (by kernel_rfl) (by kernel_rfl) (by kernel_rfl) (fun _ _ _ h => h) (Or.inl ⟨by rfl, ?y14ub⟩) hHeld ?r14ub
                    case y14ub => (intro w hSw; (try dsimp only at hSw); go_simp; try with_reducible rfl)
                    try simp only [Act.put, List.setIfInBounds_toArray, List.set_cons_zero, List.set_cons_succ]
                    refine wpAnyH_ready (rs := [25]) (by kernel_rfl) (by simp) ?_
                    refine AllReadyH.cons rfl (fun K hK => ?_) AllReadyH.nil
                    refine step_append24 (by rfl) _ _ (by rfl) base (some ⟨b2, 0, none⟩) j ((out at_).take j) j (by rfl) HTK.out HTOWN.out X (len - (j + 1)) (Cb - (j + 1)) ((out at_).drop (j + 1)) (by rfl) HDL.out HXX.out (by rw [HTK.out]; omega) HNX9.out ?_
                    intro A9' c9' w10 hown9 hgrow hA9
                    have z1 := hgrow.cell (a := ⟨g, 1, none⟩) R19.out HGB9.out
                    have z2 := hgrow.cell (a := ⟨o, at_, none⟩) R29.out HOB9.out
                    have z3 := Z39.out w10 hgrow
                    have HOWN9 := Lib.hid hown9
                    have HGROW9 := Lib.hid hgrow
                    have HA9 := Lib.hid hA9
                    clear hown9 hgrow hA9
                    refine hK.out _ _ z1 (fun hHeld => ?_)
                    clear hK K
                    try simp only [Act.put, List.setIfInBounds_toArray, List.set_cons_zero, List.set_cons_succ]
                    refine wpAnyH_take (i := 26) (oi := ⟨some 98, _, _, _, _, _⟩) (v := ?v26uc) rfl (by kernel_rfl) (by kernel_rfl) (by kernel_rfl) (fun _ _ _ h => h) (Or.inl ⟨by rfl, ?y26uc⟩) hHeld ?r26uc
                    case y26uc => (intro w hSw; (try dsimp only at hSw); go_simp; try with_reducible rfl)
                    try simp only [Act.put, List.setIfInBounds_toArray, List.set_cons_zero, List.set_cons_succ]
                    refine wpAnyH_ready (rs := [27]) (by kernel_rfl) (by simp) ?_
                    refine AllReadyH.cons rfl (fun K hK => ?_) AllReadyH.nil
                    go_simp
                    refine hK.out _ _ ?_ (fun hHeld2 => ?_)
                    · rw [World.cell?_setCell_other _ _ _ _ (fun e => HGO.out (congrArg Addr.block e).symm)]; exact hHeld
                    clear hK K
                    try simp only [Act.put, List.setIfInBounds_toArray, List.set_cons_zero, List.set_cons_succ]
                    refine wpAnyH_done (by kernel_rfl) ?_ _
                    go_wp2_with fail
                    go_meet
                    exact ⟨A9', c9', w10, HOWN9.out, HGROW9.out, HA9.out, by first | rfl | simp⟩
                case rest =>
                  obtain ⟨A10, c10, w10, hown10, hgrow10, hA10', rfl⟩ := hcut
                  have hG10 := (HG9.out.drewN 1).setOut hat HAb.out.symm hown10 hgrow10 (hA10'.imp id fun h => ⟨_, h, Nat.le_refl _⟩) hbs
                  have hSb : blk (some (⟨b2, 0, none⟩ : Addr)) ≠ some s := by rw [← HAb.out]; exact HA10.out at_ hat
                  have hS10 := ((HS9.out.drew.grown hgrow10 hSb.symm).setOther (a := ⟨o, at_, none⟩) (fun (e : o = s) => HG9.out.lo (e ▸ hs)) (.slice A10 ((out at_).take j ++ (out at_).drop (j + 1)).length c10))
                  have hA11 : ∀ i, i < n → blk (upd (upd AT to_ A9) at_ A10 i) ≠ some s := by
                    intro i hi
                    by_cases e : i = at_
                    · subst e
                      rw [upd_same]
                      rcases hA10' with rfl | rfl
                      · exact hSb
                      · have := HS9.out.lt
                        intro e
                        have e2 : some W9.heap.size = some s := e
                        injection e2 with e2
                        omega
                    · rw [upd_other _ _ e]; exact HA10.out i hi
                  have hF10 := ((HF9.out.drew.grown hgrow10 hbs (fun k hk => (HOW9.out.lt hk).1)).setCell (a := ⟨o, at_, none⟩) (.inr (.inl rfl)) (.slice A10 ((out at_).take j ++ (out at_).drop (j + 1)).length c10))
                  clear hown10 hgrow10 hA10' r1 r2 r3 hbs hX e1 hjc5 hSb
                  generalize w10.setCell ⟨o, at_, none⟩ (.slice A10 ((out at_).take j ++ (out at_).drop (j + 1)).length c10) = W10 at *
                  obtain ⟨pa, hpa⟩ : ∃ x, P at_ = x := ⟨_, rfl⟩
                  have hpa2 : pa ≤ 2 := by have := (HR.out.valid at_ hat).1; omega
                  have q1 : W10.cell? ⟨g, 0, none⟩ = some (.slice (some ⟨p, 0, none⟩) n n) := hG10.hg.cell (i := 0) (by omega)
                  have q2 : W10.cell? ⟨p, at_, none⟩ = some (.int .i64 (pa : Nat)) := by
                    rw [hG10.hp.cell hat, upd_other _ _ (Ne.symm hne), hpa]
                  have q3 : W10.frozen? ⟨p, at_, none⟩ = false := hG10.hp.frozen _
                  have hG11 := hG10.setPeb hat (pa + 1)
                  have hS11 := hS10.setOther (a := ⟨p, at_, none⟩) (fun (e : p = s) => HG9.out.lp (e ▸ hs)) (.int .i64 ((pa + 1 : Nat) : Int))
                  have hF11 := hF10.setCell (a := ⟨p, at_, none⟩) (.inl rfl) (.int .i64 ((pa + 1 : Nat) : Int))
                  rw [show ((pa + 1 : Nat) : Int) = (pa : Int) + 1 from by omega] at hG11 hS11 hF11
                  have hend : FetchPost base g p o n s peb out seen at_ w (.returned (.bool true)) (W10.setCell ⟨p, at_, none⟩ (.int .i64 ((pa : Int) + 1))) := by
                    refine .inr ⟨rfl, movedPeb P at_ to_, movedOut O at_ j to_, _, _, SN, HR.out.fetched, hG11.congr (fun i hi => ?_) (fun i hi => ?_), hS11, hA11, hF11⟩
                    · unfold movedPeb; rw [HPT.out, hpa]
                    · unfold movedOut; rw [HR.out.arc]
                  have HEND := Lib.hid hend
                  clear hG10 hS10 hF10 hG11 hS11 hF11 hA11 hend hpa
                  go_wp2
                  go_ret
                  exact HEND.out
      · go_wp2
        go_ret
        obtain rfl : j = len := by omega
        refine .inl ⟨rfl, sj, ?_, HS.out, HO.out⟩
        have := HKS.out
        rw [← HL.out] at this
        exact this.done hat
end Go.Proofs.Ytdbhpiofbkhbeaa
