/- The contract of 'rafterlaw.PebbleTurns': true, given the contract of 'free'. -/
import Derived.Test.YtdbhpiofbkhbeaaPlays
import Derived.Test.YtdbhpiofbkhbeaaClone
import Derived.Test.YtdbhpiofbkhbeaaTog
import Derived.Test.YtdbhpiofbkhbeaaPerm
import Derived.BigRegion
namespace Go.Proofs.Ytdbhpiofbkhbeaa
open Go.RowKit
set_option linter.unusedSimpArgs false
set_option linter.unusedVariables false

def Ints (w : World) (B : Option Addr) (m : Nat) : Prop := ∀ i, i < m → ∃ b o x, B = some ⟨b, o, none⟩ ∧ b < w.heap.size ∧ w.cell? ⟨b, o + i, none⟩ = some (.int .i64 x)

/-- slices.Clone, nil or not. -/
theorem Clone_walk (A : Option Addr) (cap : Nat) (is : List (Int × Int)) (w : World) (he : Edges w A is) (hlen : is.length ≤ 1000) :
    Calls Try.prog 10 #[.slice A is.length cap] w fun e w' => ∃ A' c', e = .returned (.slice A' is.length c') ∧ OwnsE w' w.heap.size A' c' is ∧ Below w.heap.size w w' := by
  rcases A with _ | X
  · refine (Clone_nil cap is w he).mono ?_
    rintro e w' ⟨rfl, rfl, rfl⟩
    exact ⟨none, 0, rfl, .inl ⟨rfl, rfl, rfl⟩, Below.refl _ _⟩
  · exact Clone_some X cap is w he hlen

theorem OwnsE.base {w : World} {base base' c : Nat} {A : Option Addr} {is : List (Int × Int)} (h : OwnsE w base' A c is) (hb : base ≤ base') : OwnsE w base A c is := by
  rcases h with h | ⟨b, cur, rfl, hbb, r⟩
  · exact .inl h
  · exact .inr ⟨b, cur, rfl, Nat.le_trans hb hbb, r⟩

theorem Many_cells (l : List Bool) (n b c : Nat) (w : World) (hn : l.length = n) (hl : n ≤ 45) (h : Cells w b 4 n (boolsV fun i => l.getD i false)) :
    Calls Try.prog 11 #[.slice (some ⟨b, 0, none⟩) n c] w fun e w' => e = .returned (.int .i64 (many l : Nat)) ∧ w = w' := by
  subst hn
  exact Many_walk l b c w hl h

structure KeptRel (w : World) (is : List (Int × Int)) (bs : List Bool) (ba : Nat) (X : Option Addr) (l c j : Nat) (wr : World) : Prop where
  own : OwnsE wr w.heap.size X c (toI (keptBy (bs.take j) ((toN is).take j)))
  len : (toI (keptBy (bs.take j) ((toN is).take j))).length = l
  below : Below w.heap.size w wr
  bools : Cells wr ba 4 is.length (boolsV fun i => bs.getD i false)
  ne : ∀ k, blk X = some k → k ≠ ba

theorem toI_append (a b : Es) : toI (a ++ b) = toI a ++ toI b := by simp [toI]

structure TurnRel (w : World) (is : List (Int × Int)) (A' : Option Addr) (c' : Nat) (bs : List Bool) (ba q : Nat) (wr : World) : Prop where
  own : ∃ js, js.Perm is ∧ OwnsE wr w.heap.size A' c' js
  below : Below w.heap.size w wr
  bools : Cells wr ba 4 is.length (boolsV fun i => bs.getD i false)
  fault : wr.heap[q]? = some (.cells #[.int .i64 0, .int .i64 0] 30 (0, 0))
  ne1 : ∀ k, blk A' = some k → k ≠ ba ∧ k ≠ q

theorem TurnRel.drew {w wr : World} {is : List (Int × Int)} {A' : Option Addr} {c' : Nat} {bs : List Bool} {ba q : Nat} (h : TurnRel w is A' c' bs ba q wr) : TurnRel w is A' c' bs ba q wr.drew :=
  ⟨h.own, h.below.drew, h.bools, h.fault, h.ne1⟩

set_option maxHeartbeats 4000000 in
theorem Turns_walk (hF : FreeSaid) (n : Int) (A : Option Addr) (cap : Nat) (is : List (Int × Int)) (B : Option Addr) (m tcap : Nat) (w : World) (he : Edges w A is) (hlen : is.length ≤ 9223372036854775807) (ht : Ints w B m) (hm : m ≤ 9223372036854775807) :
    Calls Try.prog 4 #[.int .i64 n, .slice A is.length cap, .slice B m tcap] w fun e w' => e = .returned (.bool true) ∧ Below w.heap.size w w' := by
  have HF := Lib.hid hF
  have HE := Lib.hid he
  have HT := Lib.hid ht
  clear hF he ht
  go_enter Try.func4, Try.ntmps4
  go_wp2_with fail
  refine (plays_walk HF.out w).mono ?_
  rintro e w1 ⟨rfl, hb1⟩
  have HE1 := Lib.hid (HE.out.below hb1)
  by_cases hc : checkE n is = (0, 0)
  · have HC := Lib.hid hc
    obtain ⟨hn1, hn2, hl45, hti, hgd⟩ := check_ok hc
    have HTI := Lib.hid hti
    have HGD := Lib.hid hgd
    clear hc hti hgd
    go_wp2_with fail
    refine (Free_yes HF.out n A cap is w1 HE1.out hlen HC.out).mono ?_
    rintro e w2 ⟨ba, rfl, hba, hcells, hb2⟩
    have hwba : w.heap.size ≤ ba := Nat.le_trans hb1.size hba
    have hbw2 := hb1.trans (hb2.mono hb1.size)
    have HB2 := Lib.hid hbw2
    have HCELLS := Lib.hid hcells
    clear hb2 hbw2 hcells hb1
    simp only [faultV]
    go_upto_region 4 with (fail)
    have hq := heap_alloc_new w2 (.cells #[.int .i64 0, .int .i64 0] 30)
    have hwq0 : w.heap.size ≤ w2.heap.size := HB2.out.size
    have hba1 : ba < w2.heap.size := HCELLS.out.lt
    have HC3 := Lib.hid (HCELLS.out.alloc (.cells #[.int .i64 0, .int .i64 0] 30))
    have HQ3 := Lib.hid hq
    have HB3 := Lib.hid (belowAlloc HB2.out (.cells #[.int .i64 0, .int .i64 0] 30))
    have hqne : w2.heap.size < (w2.alloc (.cells #[.int .i64 0, .int .i64 0] 30)).heap.size := by simp
    obtain ⟨q1, _, _, _⟩ := two_at hq
    clear hq
    generalize w2.alloc (.cells #[.int .i64 0, .int .i64 0] 30) = W3 at *
    generalize w2.heap.size = q at *
    go_wp2_with fail
    refine (Clone_walk A cap is W3 (HE.out.below HB3.out) (by omega)).mono ?_
    rintro e w4 ⟨A', c', rfl, hown, hb4⟩
    have hrel0 : TurnRel w is A' c' (frees n is (-1)) ba q w4 := by
      refine ⟨⟨is, List.Perm.refl _, ?_⟩, HB3.out.trans (hb4.mono HB3.out.size), HC3.out.keep (hb4.block _ HC3.out.lt), (hb4.block _ hqne).trans HQ3.out, fun k hk => ?_⟩
      · exact hown.base HB3.out.size
      · have := (hown.lt hk).1
        constructor <;> omega
    have HREL0 := Lib.hid hrel0
    clear hrel0 hown hb4 q1
    go_wp2_with fail
    go_loopw [34] (fun i wr => ∃ j : Nat, j ≤ m ∧ i = .int .i64 j ∧ TurnRel w is A' c' (frees n is (-1)) ba q wr) (fun i _ => m - (intOf i).toNat)
    case atStart => exact ⟨0, by omega, rfl, HREL0.out⟩
    case round =>
      clear HREL0
      obtain ⟨j, hj, rfl, hrel⟩ := hrel
      have HREL := Lib.hid hrel
      clear hrel
      by_cases hlt : j < m
      · obtain ⟨tb, tof, x, rfl, htb, htx⟩ := HT.out j hlt
        have k1 : wr.cell? ⟨tb, tof + j, none⟩ = some (.int .i64 x) := (HREL.out.below.cell (p := ⟨tb, _, none⟩) htb).trans htx
        by_cases hx : 0 ≤ x ∧ x < is.length
        · obtain ⟨x, rfl⟩ := Int.eq_ofNat_of_zero_le hx.1
          obtain ⟨js, hperm, hown⟩ := HREL.out.own
          have hjl : js.length = is.length := hperm.length_eq
          have hx2 : x < is.length := by omega
          obtain ⟨lb, rfl⟩ : ∃ lb, A' = some ⟨lb, 0, none⟩ := by
            rcases hown with ⟨_, _, rfl⟩ | ⟨b, cur, rfl, _⟩
            · simp at hjl; omega
            · exact ⟨b, rfl⟩
          generalize hL : is.length = L at *
          have HL := Lib.hid hL
          clear hL
          have hr : j % L < L := Nat.mod_lt _ (by omega)
          obtain ⟨r, hrd⟩ : ∃ r, j % L = r := ⟨_, rfl⟩
          rw [hrd] at hr
          have hrem : Int.tmod (j : Int) (L : Int) = (r : Int) := by rw [← hrd]; rfl
          obtain ⟨b0, o0, e0, _, c1, c2⟩ := hown.edges x (by omega)
          obtain ⟨b1, o1, e1, _, c3, c4⟩ := hown.edges r (by omega)
          cases e0; cases e1
          simp only [Nat.zero_add] at c1 c2 c3 c4
          have z1 := hown.frozen (x * 2)
          have z2 := hown.frozen (x * 2 + 1)
          have z3 := hown.frozen (r * 2)
          have z4 := hown.frozen (r * 2 + 1)
          have HSWAP := Lib.hid (swap_perm js r x (by omega) (by omega))
          obtain ⟨x1, x2, hxv⟩ : ∃ x1 x2, js[x]'(by omega) = (x1, x2) := ⟨_, _, rfl⟩
          obtain ⟨y1, y2, hyv⟩ : ∃ y1 y2, js[r]'(by omega) = (y1, y2) := ⟨_, _, rfl⟩
          rw [hxv] at c1 c2 HSWAP
          rw [hyv] at c3 c4 HSWAP
          have HP := Lib.hid hperm
          have HO := Lib.hid hown
          have HJ := Lib.hid hjl
          clear hperm hown hjl hrd hxv hyv
          have hL0 : ¬ L = 0 := by omega
          obtain ⟨d1, hd1⟩ := cell?_setCell_some (p := ⟨lb, r * 2, none⟩) (x := .int .i64 x1) c1
          obtain ⟨d2, hd2⟩ := cell?_setCell_some (p := ⟨lb, r * 2 + 1, none⟩) (x := .int .i64 x2) hd1
          obtain ⟨d3, hd3⟩ := cell?_setCell_some (p := ⟨lb, r * 2 + 1, none⟩) (x := .int .i64 x2) c2
          obtain ⟨d4, hd4⟩ := cell?_setCell_some (p := ⟨lb, r * 2, none⟩) (x := .int .i64 x1) c2
          obtain ⟨d5, hd5⟩ := cell?_setCell_some (p := ⟨lb, r * 2 + 1, none⟩) (x := .int .i64 x2) hd4
          go_upto_region 11 with (fail)
          have hrel1 : TurnRel w is (some ⟨lb, 0, none⟩) c' (frees n is (-1)) ba q ((((wr.setCell ⟨lb, r * 2, none⟩ (.int .i64 x1)).setCell ⟨lb, r * 2 + 1, none⟩ (.int .i64 x2)).setCell ⟨lb, x * 2, none⟩ (.int .i64 y1)).setCell ⟨lb, x * 2 + 1, none⟩ (.int .i64 y2)) := by
            obtain ⟨hn1, hn2⟩ := HREL.out.ne1 lb rfl
            have hlb : w.heap.size ≤ lb := (HO.out.lt rfl).1
            exact ⟨⟨_, HSWAP.out.trans HP.out, (HO.out.set r x1 x2).set x y1 y2⟩, (((HREL.out.below.setCell (p := ⟨lb, _, none⟩) hlb _).setCell (p := ⟨lb, _, none⟩) hlb _).setCell (p := ⟨lb, _, none⟩) hlb _).setCell (p := ⟨lb, _, none⟩) hlb _,
              (((HREL.out.bools.setOther (a := ⟨lb, _, none⟩) hn1 _).setOther (a := ⟨lb, _, none⟩) hn1 _).setOther (a := ⟨lb, _, none⟩) hn1 _).setOther (a := ⟨lb, _, none⟩) hn1 _,
              by rw [Below.heap_setCell _ _ _ _ (Ne.symm hn2), Below.heap_setCell _ _ _ _ (Ne.symm hn2), Below.heap_setCell _ _ _ _ (Ne.symm hn2), Below.heap_setCell _ _ _ _ (Ne.symm hn2)]; exact HREL.out.fault, HREL.out.ne1⟩
          have HREL1 := Lib.hid hrel1
          clear hrel1
          go_region
          go_wp2
          go_roundw
          case rel => exact ⟨j + 1, by omega, by go_num, HREL1.out.drew⟩
          case measure => simp [intOf]; omega
        · by_cases hx0 : 0 ≤ x
          · have hx1 : ¬ x < is.length := by omega
            clear hx
            go_wp2
            go_roundw
            case rel => exact ⟨j + 1, by omega, by go_num, HREL.out⟩
            case measure => simp [intOf]; omega
          · clear hx
            go_wp2
            go_roundw
            case rel => exact ⟨j + 1, by omega, by go_num, HREL.out⟩
            case measure => simp [intOf]; omega
      · obtain rfl : m = j := by omega
        clear hlt hj
        obtain ⟨js, hperm, hown⟩ := HREL.out.own
        have hjl : js.length = is.length := hperm.length_eq
        have HC' := Lib.hid (checkE_perm hperm HC.out)
        have HMANY := Lib.hid (frees_perm hperm HC.out)
        have HP := Lib.hid hperm
        have HO := Lib.hid hown
        clear hperm hown
        go_wp2_with fail
        rw [← hjl]
        refine (Free_yes HF.out n A' c' js wr HO.out.edges (by omega) HC'.out).mono ?_
        rintro e w5 ⟨b5, rfl, hb5, hcells5, hbel5⟩
        rw [hjl] at hcells5 ⊢
        have hq5 := (hbel5.block q (Array.getElem?_eq_some_iff.1 HREL.out.fault).1).trans HREL.out.fault
        obtain ⟨f1, f2, f3, f4⟩ := two_at hq5
        have hq6 := two_set (u := .int .i64 0) (v := .int .i64 0) hq5
        have hcA := HREL.out.bools.keep (hbel5.block _ HREL.out.bools.lt)
        have hqA : q ≠ ba := by omega
        have hqB : q ≠ b5 := by have := (Array.getElem?_eq_some_iff.1 HREL.out.fault).1; omega
        have hwq : w.heap.size ≤ q := hwq0
        have HCA := Lib.hid ((hcA.setOther (a := ⟨q, 0, none⟩) hqA (.int .i64 0)).setOther (a := ⟨q, 1, none⟩) hqA (.int .i64 0))
        have HCB := Lib.hid ((hcells5.setOther (a := ⟨q, 0, none⟩) hqB (.int .i64 0)).setOther (a := ⟨q, 1, none⟩) hqB (.int .i64 0))
        have HB6 := Lib.hid (((HREL.out.below.trans (hbel5.mono HREL.out.below.size)).setCell (p := ⟨q, 0, none⟩) hwq (.int .i64 0)).setCell (p := ⟨q, 1, none⟩) hwq (.int .i64 0))
        clear hcells5 hbel5 hcA hq5
        simp only [faultV]
        go_upto_region 14 with (fail)
        obtain ⟨g1, _, _, _⟩ := two_at hq6
        clear f1 f2 f3 f4 hq6
        generalize (w5.setCell ⟨q, 0, none⟩ (.int .i64 0)).setCell ⟨q, 1, none⟩ (.int .i64 0) = W6 at *
        go_wp2_with fail
        refine (Many_cells (frees n is (-1)) is.length ba _ _ (frees_length ..) hl45 HCA.out).mono ?_
        rintro e w7 ⟨rfl, rfl⟩
        go_wp2_with fail
        refine (Many_cells (frees n js (-1)) is.length b5 _ _ ((frees_length ..).trans hjl) hl45 HCB.out).mono ?_
        rintro e w8 ⟨rfl, rfl⟩
        rw [← HMANY.out]
        obtain ⟨mm, hmm⟩ : ∃ mm, many (frees n is (-1)) = mm := ⟨_, rfl⟩
        rw [hmm]
        go_wp2_with fail
        have hk0 : KeptRel w is (frees n is (-1)) ba none 0 0 0 W6 := ⟨.inl ⟨rfl, rfl, rfl⟩, rfl, HB6.out, HCA.out, fun k e => by cases e⟩
        have HK0 := Lib.hid hk0
        clear hk0
        go_loopw [13, 98] (fun v i wr => ∃ (j : Nat) (X : Option Addr) (l c : Nat), j ≤ is.length ∧ i = .int .i64 j ∧ v = .slice X l c ∧ KeptRel w is (frees n is (-1)) ba X l c j wr) (fun _ i _ => is.length - (intOf i).toNat)
        case atStart => exact ⟨0, none, 0, 0, by omega, rfl, rfl, HK0.out⟩
        case round =>
          clear HK0
          obtain ⟨j, X, l, c, hj, rfl, rfl, hrel⟩ := hrel
          have HK := Lib.hid hrel
          clear hrel
          by_cases hlt : j < is.length
          · obtain ⟨eb, eo, rfl, hebl, g1, g2⟩ := HE.out j hlt
            have k1 := (HK.out.below.cell (p := ⟨eb, _, none⟩) hebl).trans g1
            have k2 := (HK.out.below.cell (p := ⟨eb, _, none⟩) hebl).trans g2
            obtain ⟨x, y, hxy⟩ : ∃ x y, is[j] = (x, y) := ⟨_, _, rfl⟩
            rw [hxy] at k1 k2
            have hbit := HK.out.bools.cell hlt
            obtain ⟨t, ht⟩ : ∃ t, (frees n is (-1)).getD j false = t := ⟨_, rfl⟩
            have hstep : toI (keptBy ((frees n is (-1)).take (j + 1)) ((toN is).take (j + 1))) = toI (keptBy ((frees n is (-1)).take j) ((toN is).take j)) ++ (if t then [(x, y)] else []) := by
              have hjN : j < (toN is).length := by rw [toN_length]; exact hlt
              rw [keptBy_take _ _ (by rw [frees_length, toN_length]) j hjN, ht, toI_append]
              congr 1
              have e1 := toI_get (toN is) j hjN
              have e2 : (toI (toN is))[j]'(by simpa [toI] using hjN) = is[j] := by simp only [HTI.out]
              rw [e2, hxy] at e1
              cases t
              · rfl
              · simp only [if_true]
                rw [e1]
                rfl
            have HSTEP := Lib.hid hstep
            have hkl : l ≤ 45 := by
              have h1 := keptBy_length ((frees n is (-1)).take j) ((toN is).take j)
              have h2 := HK.out.len
              simp [toI, toN_length] at h1 h2
              omega
            have HO9 := Lib.hid (HK.out.own.alloc (.cells #[.int .i64 x, .int .i64 y] 34))
            have HB9 := Lib.hid (belowAlloc HK.out.below (.cells #[.int .i64 x, .int .i64 y] 34))
            have HC9 := Lib.hid (HK.out.bools.alloc (.cells #[.int .i64 x, .int .i64 y] 34))
            have hbit' := HC9.out.cell hlt
            have hp9 := heap_alloc_new wr (.cells #[.int .i64 x, .int .i64 y] 34)
            have hlen9 := HK.out.len
            have hba9 : ba < wr.heap.size := HK.out.bools.lt
            have hsz9 : wr.heap.size < (wr.alloc (.cells #[.int .i64 x, .int .i64 y] 34)).heap.size := by simp
            simp only [boolsV, ht] at hbit'
            clear hbit ht hstep hxy g1 g2
            go_upto_region 20 with (fail)
            obtain ⟨p1, p2, _, _⟩ := two_at hp9
            clear hp9 k1 k2
            have hws9 : w.heap.size ≤ (wr.alloc (.cells #[.int .i64 x, .int .i64 y] 34)).heap.size := HB9.out.size
            generalize wr.alloc (.cells #[.int .i64 x, .int .i64 y] 34) = W9 at *
            generalize wr.heap.size = p9 at *
            cases t
            · go_wp2
              go_roundw
              case rel => exact ⟨j + 1, X, l, c, by omega, by go_num, rfl, by rw [HSTEP.out]; simpa using HO9.out, by rw [HSTEP.out]; simpa using hlen9, HB9.out, HC9.out, HK.out.ne⟩
              case measure => simp [intOf]; omega
            · go_wp2_with (at_builtin; refine wpList_append27 _ rfl _ _ rfl w.heap.size X c _ l rfl hlen9 (HO9.out.alloc _) ⟨W9.heap.size, 0, none⟩ 1 1 [(x, y)] rfl rfl (by decide) (news27 W9 [(x, y)] _ rfl) (by omega) (by simp; omega) ?_; intro X1 c1 w10 hown10 hg10 hX10)
              have hrel1 : KeptRel w is (frees n is (-1)) ba X1 (l + 1) c1 (j + 1) w10 := by
                have hne : some ba ≠ blk X := fun e => HK.out.ne ba e.symm rfl
                refine ⟨by rw [HSTEP.out]; exact hown10, by rw [HSTEP.out, List.length_append, hlen9]; rfl, (belowAlloc HB9.out _).grown hg10 (by simp; omega) (fun k e => (HK.out.own.lt e).1), (HC9.out.alloc _).grown hg10 hne, fun k e => ?_⟩
                rcases hX10 with ⟨rfl, _⟩ | ⟨rfl, _⟩
                · exact HK.out.ne k e
                · simp [blk] at e; omega
              have HREL1 := Lib.hid hrel1
              clear hrel1
              go_wp2
              go_roundw
              case rel => exact ⟨j + 1, X1, l + 1, c1, by omega, by go_num, rfl, HREL1.out⟩
              case measure => simp [intOf]; omega
          · obtain rfl : is.length = j := by omega
            clear hlt hj
            have hown := HK.out.own
            have hlen9 := HK.out.len
            rw [List.take_of_length_le (by rw [frees_length]; exact Nat.le_refl _), List.take_of_length_le (by rw [toN_length]; exact Nat.le_refl _)] at hown hlen9
            have HO := Lib.hid hown
            have hlen10 : (keptBy (frees n is (-1)) (toN is)).length = l := by simpa [toI] using hlen9
            have hl10 : l ≤ 45 := by
              have h1 := keptBy_length (frees n is (-1)) (toN is)
              rw [toN_length] at h1
              omega
            have hnN : ((n.toNat : Nat) : Int) = n := by omega
            go_wp2_with fail
            have htog := Together_walk n.toNat X c (keptBy (frees n is (-1)) (toN is)) wr (by omega) (by omega) (by omega) (fun e he => HGD.out e (keptBy_sub _ _ e he)) HO.out.edges
            rw [hnN, hlen10] at htog
            refine htog.mono ?_
            rintro e w11 ⟨b, rfl, hb, hb11⟩
            have hbf : b = false := by
              have hs := greedy_sparse n.toNat (-1) (toN is)
              cases b
              · rfl
              · exact absurd hs (hb.1 rfl)
            subst hbf
            have HB11 := Lib.hid (HK.out.below.trans (hb11.mono HK.out.below.size))
            clear htog hb hb11 hown
            go_wp2_with fail
            go_ret
            exact ⟨rfl, HB11.out⟩
  · have HC := Lib.hid hc
    clear hc
    go_wp2_with fail
    refine (Free_no n A cap is w1 HE1.out hlen HC.out).mono ?_
    rintro e w2 ⟨rfl, hb2⟩
    have hc1 : (checkE n is).1 ≠ 0 := (check_code n is).resolve_left HC.out
    obtain ⟨cx, cy, hcxy⟩ : ∃ cx cy, checkE n is = (cx, cy) := ⟨_, _, rfl⟩
    rw [hcxy] at hc1 ⊢
    have hc2 : (cx == 0) = false := by simpa using hc1
    have hq := heap_alloc_new w2 (.cells #[.int .i64 cx, .int .i64 cy] 30)
    have HB3 := Lib.hid (belowAlloc (hb1.trans (hb2.mono hb1.size)) (.cells #[.int .i64 cx, .int .i64 cy] 30))
    obtain ⟨g1, _, _, _⟩ := two_at hq
    clear hb2 hb1 hq
    simp only [faultV]
    go_upto_region 4 with (fail)
    generalize w2.alloc (.cells #[.int .i64 cx, .int .i64 cy] 30) = W3 at *
    go_wp2
    go_ret
    exact ⟨rfl, HB3.out⟩
end Go.Proofs.Ytdbhpiofbkhbeaa
