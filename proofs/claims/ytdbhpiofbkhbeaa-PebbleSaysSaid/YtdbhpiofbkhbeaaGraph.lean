/- The contract of 'rafterref.CheckGraph': it answers what 'pebble.Check' answers. Condition: the edges read; their slice is no longer than its room. -/
import Derived.Test.YtdbhpiofbkhbeaaSame
namespace Go.Proofs.Ytdbhpiofbkhbeaa
open Go.RowKit
set_option linter.unusedSimpArgs false
set_option linter.unusedVariables false

/-- Two edges are one. -/
def sameB (a b c d : Int) : Bool := decide ((a, b) = (c, d))
theorem eqs34 (a b c d : Int) (w : World) : (binOp .eql 34 (.agg #[.int .i64 a, .int .i64 b]) (.agg #[.int .i64 c, .int .i64 d])).run Try.prog w = .ok (.bool (sameB a b c d)) w := eql34 a b c d w
theorem sameB_yes {a b c d : Int} (h : sameB a b c d = true) : a = c ∧ b = d := by
  unfold sameB at h; simpa using h

theorem norm_iff (u v x y : Int) : norm (u, v) = norm (x, y) ↔ (u = x ∧ v = y) ∨ (u = y ∧ v = x) := by
  simp only [norm, Prod.mk.injEq]
  omega

set_option maxHeartbeats 1000000 in
theorem graph_many (n : Int) (A : Option Addr) (len cap : Nat) (w : World) (h : n < 1 ∨ 10 < n ∨ 45 < len) (hlen : len ≤ 9223372036854775807) :
    Calls Try.prog 14 #[.int .i64 n, .slice A len cap] w fun e w' => e = .returned (faultV (2, 0)) ∧ Below w.heap.size w w' := by
  have key : ∀ w1 : World, Below (w.alloc (.cells #[.int .i64 0, .int .i64 0] 30)).heap.size (w.alloc (.cells #[.int .i64 0, .int .i64 0] 30)) w1 → Below w.heap.size w w1 :=
    fun w1 hb => (belowAlloc (Below.refl _ _) _).trans (hb.mono (by simp))
  have KEY := Lib.hid key
  clear key
  by_cases h1 : n < 1
  · clear h
    go_enter Try.func14, Try.ntmps14
    go_wp2_with fail
    refine (F_walk 2 0 _).mono ?_
    rintro e w1 ⟨rfl, hb1⟩
    obtain ⟨r0, r1, f0, f1⟩ := two_at (row_later hb1)
    have HB := Lib.hid (KEY.out w1 hb1)
    clear hb1
    simp only [faultV]
    go_wp2
    refine bodyPost_ret (v := .agg #[.int .i64 2, .int .i64 0]) (by simp [results, Try.results14, go_sem, r0, r1]) rfl ⟨rfl, ?_⟩
    exact (HB.out.setCell (Nat.le_refl _) _).setCell (Nat.le_refl _) _
  · by_cases h2 : 10 < n
    · clear h
      go_enter Try.func14, Try.ntmps14
      go_wp2_with fail
      refine (F_walk 2 0 _).mono ?_
      rintro e w1 ⟨rfl, hb1⟩
      obtain ⟨r0, r1, f0, f1⟩ := two_at (row_later hb1)
      have HB := Lib.hid (KEY.out w1 hb1)
      clear hb1
      simp only [faultV]
      go_wp2
      refine bodyPost_ret (v := .agg #[.int .i64 2, .int .i64 0]) (by simp [results, Try.results14, go_sem, r0, r1]) rfl ⟨rfl, ?_⟩
      exact (HB.out.setCell (Nat.le_refl _) _).setCell (Nat.le_refl _) _
    · have h3 : (45 : Int) < (len : Int) := by omega
      clear h
      go_enter Try.func14, Try.ntmps14
      go_wp2_with fail
      refine (F_walk 2 0 _).mono ?_
      rintro e w1 ⟨rfl, hb1⟩
      obtain ⟨r0, r1, f0, f1⟩ := two_at (row_later hb1)
      have HB := Lib.hid (KEY.out w1 hb1)
      clear hb1
      simp only [faultV]
      go_wp2
      refine bodyPost_ret (v := .agg #[.int .i64 2, .int .i64 0]) (by simp [results, Try.results14, go_sem, r0, r1]) rfl ⟨rfl, ?_⟩
      exact (HB.out.setCell (Nat.le_refl _) _).setCell (Nat.le_refl _) _

set_option maxHeartbeats 4000000 in
theorem graph_walk (n : Int) (A : Option Addr) (cap : Nat) (es : List (Int × Int)) (w : World) (hn0 : 1 ≤ n) (hn1 : n ≤ 10) (hl : es.length ≤ 45) (hcap : es.length ≤ cap) (he : Edges w A es) :
    Calls Try.prog 14 #[.int .i64 n, .slice A es.length cap] w fun e w' => e = .returned (faultV (checkE n es)) ∧ Below w.heap.size w w' := by
  have HE := Lib.hid he
  clear he
  generalize hlen : es.length = len at *
  have HL := Lib.hid hlen
  clear hlen
  have q34 := eqs34
  go_enter Try.func14, Try.ntmps14
  go_wp2_with fail
  go_loopw [23] (fun i wr => ∃ j : Nat, j ≤ len ∧ i = .int .i64 j ∧ Below w.heap.size w wr ∧
      wr.heap[w.heap.size]? = some (.cells #[.int .i64 0, .int .i64 0] 30 (0, 0)) ∧ scanE n ((es.take j).map norm) j (es.drop j) = checkE n es) (fun i _ => len - (intOf i).toNat)
  case atStart => exact ⟨0, by omega, rfl, belowAlloc (Below.refl _ _) _, heap_alloc_new w _, by rw [checkE, if_neg (by rw [HL.out]; omega)]; rfl⟩
  case round =>
    obtain ⟨j, hj, rfl, hb, hres, hsc⟩ := hrel
    obtain ⟨wo, rfl⟩ : ∃ wo : World, wo = wr := ⟨_, rfl⟩
    by_cases hlt : j < len
    · have hlt' : j < es.length := by rw [HL.out]; exact hlt
      obtain ⟨b, o, rfl, hbl, h1, h2⟩ := HE.out j hlt'
      have g1 : wo.cell? ⟨b, o + j * 2, none⟩ = _ := (hb.cell (p := ⟨b, _, none⟩) hbl).trans h1
      have g2 : wo.cell? ⟨b, o + j * 2 + 1, none⟩ = _ := (hb.cell (p := ⟨b, _, none⟩) hbl).trans h2
      obtain ⟨x, y, hxy⟩ : ∃ x y, es[j] = (x, y) := ⟨_, _, rfl⟩
      rw [hxy] at g1 g2
      have hsz : w.heap.size < wo.heap.size := (Array.getElem?_eq_some_iff.1 hres).1
      have hres2 := (Below.heap_alloc wo (.cells #[.int .i64 x, .int .i64 y] 34) _ hsz).trans hres
      have hnew := heap_alloc_new wo (.cells #[.int .i64 x, .int .i64 y] 34)
      have hb2 := belowAlloc hb (.cells #[.int .i64 x, .int .i64 y] 34)
      have hdrop := drop_cons es j hlt'
      rw [hxy] at hdrop
      have htake : (es.take (j + 1)).map norm = (es.take j).map norm ++ [norm (x, y)] := by
        rw [List.take_succ_eq_append_getElem hlt', hxy]; simp
      rw [hdrop, scanE] at hsc
      have HSC := Lib.hid hsc
      have HT := Lib.hid htake
      have HRES := Lib.hid hres2
      have HNEW := Lib.hid hnew
      have HB := Lib.hid hb2
      have hsz2 : w.heap.size < (wo.alloc (.cells #[.int .i64 x, .int .i64 y] 34)).heap.size := Nat.lt_of_lt_of_le hsz (by simp)
      have hqsz : wo.heap.size < (wo.alloc (.cells #[.int .i64 x, .int .i64 y] 34)).heap.size := by simp
      have HXY := Lib.hid hxy
      clear h1 h2 hsc htake hres hres2 hb hb2 hdrop hxy hnew
      dsimp only at g1 g2
      go_upto_region 6 with (fail)
      clear g1 g2
      generalize wo.alloc (.cells #[.int .i64 x, .int .i64 y] 34) = W1 at *
      generalize wo.heap.size = q at *
      obtain ⟨p0, p1, _, _⟩ := two_at HNEW.out
      by_cases hbad : badEdge n (x, y) = true
      · have HF : Hid (checkE n es = (4, (j : Int))) := by rw [← HSC.out, if_pos hbad]; rfl
        have hall : (x < 0) ∨ (¬ x < 0 ∧ y < 0) ∨ (¬ x < 0 ∧ ¬ y < 0 ∧ n ≤ x) ∨ (¬ x < 0 ∧ ¬ y < 0 ∧ x < n ∧ n ≤ y) ∨ (¬ x < 0 ∧ ¬ y < 0 ∧ x < n ∧ y < n ∧ (x == y) = true) := by
          unfold badEdge at hbad
          rw [decide_eq_true_iff] at hbad
          dsimp only at hbad
          rw [beq_iff_eq]
          omega
        have SZ2 := Lib.hid hsz2
        clear hbad hsz2 hqsz hsz
        rcases hall with c1 | ⟨c1, c2⟩ | ⟨c1, c2, c3⟩ | ⟨c1, c2, c3, c4⟩ | ⟨c1, c2, c3, c4, c5⟩
        · go_wp2_with fail
          refine (F_walk 4 j _).mono ?_
          rintro e w3 ⟨rfl, hb3⟩
          obtain ⟨r0, r1, f0, f1⟩ := two_at ((hb3.block _ SZ2.out).trans HRES.out)
          have HB3 := Lib.hid (HB.out.trans (hb3.mono (Nat.le_of_lt SZ2.out)))
          clear hb3
          simp only [faultV]
          go_wp2
          refine bodyPost_ret (v := .agg #[.int .i64 4, .int .i64 j]) (by simp [results, Try.results14, go_sem, r0, r1]) rfl ⟨by rw [HF.out]; rfl, ?_⟩
          exact (HB3.out.setCell (Nat.le_refl _) _).setCell (Nat.le_refl _) _
        · go_wp2_with fail
          refine (F_walk 4 j _).mono ?_
          rintro e w3 ⟨rfl, hb3⟩
          obtain ⟨r0, r1, f0, f1⟩ := two_at ((hb3.block _ SZ2.out).trans HRES.out)
          have HB3 := Lib.hid (HB.out.trans (hb3.mono (Nat.le_of_lt SZ2.out)))
          clear hb3
          simp only [faultV]
          go_wp2
          refine bodyPost_ret (v := .agg #[.int .i64 4, .int .i64 j]) (by simp [results, Try.results14, go_sem, r0, r1]) rfl ⟨by rw [HF.out]; rfl, ?_⟩
          exact (HB3.out.setCell (Nat.le_refl _) _).setCell (Nat.le_refl _) _
        · go_wp2_with fail
          refine (F_walk 4 j _).mono ?_
          rintro e w3 ⟨rfl, hb3⟩
          obtain ⟨r0, r1, f0, f1⟩ := two_at ((hb3.block _ SZ2.out).trans HRES.out)
          have HB3 := Lib.hid (HB.out.trans (hb3.mono (Nat.le_of_lt SZ2.out)))
          clear hb3
          simp only [faultV]
          go_wp2
          refine bodyPost_ret (v := .agg #[.int .i64 4, .int .i64 j]) (by simp [results, Try.results14, go_sem, r0, r1]) rfl ⟨by rw [HF.out]; rfl, ?_⟩
          exact (HB3.out.setCell (Nat.le_refl _) _).setCell (Nat.le_refl _) _
        · go_wp2_with fail
          refine (F_walk 4 j _).mono ?_
          rintro e w3 ⟨rfl, hb3⟩
          obtain ⟨r0, r1, f0, f1⟩ := two_at ((hb3.block _ SZ2.out).trans HRES.out)
          have HB3 := Lib.hid (HB.out.trans (hb3.mono (Nat.le_of_lt SZ2.out)))
          clear hb3
          simp only [faultV]
          go_wp2
          refine bodyPost_ret (v := .agg #[.int .i64 4, .int .i64 j]) (by simp [results, Try.results14, go_sem, r0, r1]) rfl ⟨by rw [HF.out]; rfl, ?_⟩
          exact (HB3.out.setCell (Nat.le_refl _) _).setCell (Nat.le_refl _) _
        · go_wp2_with fail
          refine (F_walk 4 j _).mono ?_
          rintro e w3 ⟨rfl, hb3⟩
          obtain ⟨r0, r1, f0, f1⟩ := two_at ((hb3.block _ SZ2.out).trans HRES.out)
          have HB3 := Lib.hid (HB.out.trans (hb3.mono (Nat.le_of_lt SZ2.out)))
          clear hb3
          simp only [faultV]
          go_wp2
          refine bodyPost_ret (v := .agg #[.int .i64 4, .int .i64 j]) (by simp [results, Try.results14, go_sem, r0, r1]) rfl ⟨by rw [HF.out]; rfl, ?_⟩
          exact (HB3.out.setCell (Nat.le_refl _) _).setCell (Nat.le_refl _) _
      · have hgood : ¬ x < 0 ∧ ¬ y < 0 ∧ x < n ∧ y < n ∧ (x == y) = false := by
          unfold badEdge at hbad
          rw [decide_eq_true_iff] at hbad
          dsimp only at hbad
          rw [beq_eq_false_iff_ne]
          omega
        obtain ⟨c1, c2, c3, c4, c5⟩ := hgood
        have hsc := HSC.out
        rw [if_neg hbad] at hsc
        have HSC2 := Lib.hid hsc
        have hjc : (j : Int) ≤ (cap : Int) := by omega
        clear hsc HSC hbad
        go_wp2_with fail
        go_loopw [61] (fun i wi => ∃ k : Nat, k ≤ j ∧ i = .int .i64 k ∧ Below w.heap.size w wi ∧ wi.heap[w.heap.size]? = some (.cells #[.int .i64 0, .int .i64 0] 30 (0, 0)) ∧
            wi.heap[q]? = some (.cells #[.int .i64 x, .int .i64 y] 34 (0, 0)) ∧ norm (x, y) ∉ (es.take k).map norm) (fun i _ => j - (intOf i).toNat)
        case atStart => exact ⟨0, by omega, rfl, HB.out, HRES.out, HNEW.out, by simp⟩
        case round =>
          clear HRES HNEW HB p0 p1 hsz2 hqsz
          obtain ⟨k, hk, rfl, hbi, hri, hqi, hni⟩ := hrel
          obtain ⟨wi, rfl⟩ : ∃ wi : World, wi = wr := ⟨_, rfl⟩
          by_cases hkj : k < j
          · have hkl : k < es.length := by rw [HL.out]; omega
            obtain ⟨b', o', hA', _, h1, h2⟩ := HE.out k hkl
            cases hA'
            have g1 : wi.cell? ⟨b, o + k * 2, none⟩ = _ := (hbi.cell (p := ⟨b, _, none⟩) hbl).trans h1
            have g2 : wi.cell? ⟨b, o + k * 2 + 1, none⟩ = _ := (hbi.cell (p := ⟨b, _, none⟩) hbl).trans h2
            obtain ⟨u, v, huv⟩ : ∃ u v, es[k] = (u, v) := ⟨_, _, rfl⟩
            rw [huv] at g1 g2
            dsimp only at g1 g2
            have htk : (es.take (k + 1)).map norm = (es.take k).map norm ++ [norm (u, v)] := by
              rw [List.take_succ_eq_append_getElem hkl, huv]; simp
            have hmem : norm (u, v) ∈ (es.take j).map norm := by
              rw [← huv]
              refine List.mem_map.2 ⟨es[k], ?_, rfl⟩
              rw [List.mem_take_iff_getElem]
              exact ⟨k, by omega, rfl⟩
            have HTK := Lib.hid htk
            have HMEM := Lib.hid hmem
            have HNI := Lib.hid hni
            have hs0 := (Array.getElem?_eq_some_iff.1 hri).1
            have hs1 := (Array.getElem?_eq_some_iff.1 hqi).1
            have HRES := Lib.hid ((Below.heap_alloc wi (.cells #[.int .i64 u, .int .i64 v] 34) _ hs0).trans hri)
            have hq2 := (Below.heap_alloc wi (.cells #[.int .i64 u, .int .i64 v] 34) _ hs1).trans hqi
            have hnew := heap_alloc_new wi (.cells #[.int .i64 u, .int .i64 v] 34)
            have HB := Lib.hid (belowAlloc hbi (.cells #[.int .i64 u, .int .i64 v] 34))
            have hsz2 : w.heap.size < (wi.alloc (.cells #[.int .i64 u, .int .i64 v] 34)).heap.size := Nat.lt_of_lt_of_le hs0 (by simp)
            clear h1 h2 htk hmem hni huv hbi hri hqi hs0 hs1
            go_upto_region 11 with (fail)
            clear g1 g2
            generalize wi.alloc (.cells #[.int .i64 u, .int .i64 v] 34) = W2 at *
            generalize wi.heap.size = q2 at *
            obtain ⟨p0, p1, _, _⟩ := two_at hq2
            obtain ⟨s0, s1, _, _⟩ := two_at hnew
            have HQ2 := Lib.hid hq2
            have SZ2 := Lib.hid hsz2
            clear hq2 hnew hsz2
            by_cases hnn : norm (u, v) = norm (x, y)
            · have HF : Hid (checkE n es = (7, (j : Int))) := by rw [← HSC2.out, if_pos (hnn ▸ HMEM.out)]; rfl
              by_cases hs : sameB u v x y = true
              · clear hnn
                go_wp2_with fail
                refine (F_walk 7 j _).mono ?_
                rintro e w3 ⟨rfl, hb3⟩
                obtain ⟨r0, r1, f0, f1⟩ := two_at ((hb3.block _ SZ2.out).trans HRES.out)
                have HB3 := Lib.hid (HB.out.trans (hb3.mono (Nat.le_of_lt SZ2.out)))
                clear hb3
                simp only [faultV]
                go_wp2
                refine bodyPost_ret (v := .agg #[.int .i64 7, .int .i64 j]) (by simp [results, Try.results14, go_sem, r0, r1]) rfl ⟨by rw [HF.out]; rfl, ?_⟩
                exact (HB3.out.setCell (Nat.le_refl _) _).setCell (Nat.le_refl _) _
              · have hs' : sameB u v x y = false := by simpa using hs
                have hsw : u = y ∧ v = x := by
                  rcases (norm_iff u v x y).1 hnn with h | h
                  · exact absurd (by unfold sameB; simp [h.1, h.2]) hs
                  · exact h
                obtain ⟨rfl, rfl⟩ := hsw
                clear hnn hs HSC2 HMEM
                have hu : (u == u) = true := by simp
                have hv : (v == v) = true := by simp
                go_wp2_with fail
                refine (F_walk 7 j _).mono ?_
                rintro e w3 ⟨rfl, hb3⟩
                obtain ⟨r0, r1, f0, f1⟩ := two_at ((hb3.block _ SZ2.out).trans HRES.out)
                have HB3 := Lib.hid (HB.out.trans (hb3.mono (Nat.le_of_lt SZ2.out)))
                clear hb3
                simp only [faultV]
                go_wp2
                refine bodyPost_ret (v := .agg #[.int .i64 7, .int .i64 j]) (by simp [results, Try.results14, go_sem, r0, r1]) rfl ⟨by rw [HF.out]; rfl, ?_⟩
                exact (HB3.out.setCell (Nat.le_refl _) _).setCell (Nat.le_refl _) _
            · have HN2 : Hid (norm (x, y) ∉ (es.take (k + 1)).map norm) := by
                rw [HTK.out]
                intro h
                rcases List.mem_append.1 h with h | h
                · exact HNI.out h
                · exact hnn (List.mem_singleton.1 h).symm
              have hs' : sameB u v x y = false := by
                unfold sameB
                rw [decide_eq_false_iff_not]
                intro h
                exact hnn (by rw [h])
              by_cases huy : u = y
              · have hvx : (v == x) = false := by
                  rw [beq_eq_false_iff_ne]
                  intro h
                  exact hnn ((norm_iff u v x y).2 (.inr ⟨huy, h⟩))
                subst huy
                have hu : (u == u) = true := by simp
                clear hnn HTK HNI HMEM
                go_wp2
                go_roundw
                case rel => exact ⟨k + 1, by omega, by go_num, HB.out, HRES.out, HQ2.out, HN2.out⟩
                case measure => simp [intOf]; omega
              · have hu : (u == y) = false := by rw [beq_eq_false_iff_ne]; exact huy
                clear hnn HTK HNI HMEM huy
                go_wp2
                go_roundw
                case rel => exact ⟨k + 1, by omega, by go_num, HB.out, HRES.out, HQ2.out, HN2.out⟩
                case measure => simp [intOf]; omega
          · obtain rfl : j = k := by omega
            have hsc := HSC2.out
            rw [if_neg hni] at hsc
            have HSC := Lib.hid hsc
            have HRES := Lib.hid hri
            have HBI := Lib.hid hbi
            clear hsc hni hri hqi hkj hbi
            go_wp2
            go_roundw
            case rel => exact ⟨j + 1, by omega, by go_num, HBI.out, HRES.out, by rw [HT.out]; exact HSC.out⟩
            case measure => simp [intOf]; omega
    · have hj : j = len := by omega
      subst hj
      have HF : Hid (checkE n es = (0, 0)) := by
        rw [← hsc, ← HL.out, List.drop_length]; rfl
      obtain ⟨r0, r1, f0, f1⟩ := two_at hres
      clear hres hsc
      go_wp2
      refine bodyPost_ret (v := .agg #[.int .i64 0, .int .i64 0]) (by simp [results, Try.results14, go_sem, r0, r1]) rfl ⟨by rw [HF.out]; rfl, ?_⟩
      exact (hb.setCell (Nat.le_refl _) _).setCell (Nat.le_refl _) _
end Go.Proofs.Ytdbhpiofbkhbeaa
