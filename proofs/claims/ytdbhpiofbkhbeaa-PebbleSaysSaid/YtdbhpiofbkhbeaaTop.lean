/- The contracts of 'pebble.Check' at every input, 'count', 'Many', 'Free', 'Rigid', 'Over', given that of 'free'. -/
import Derived.Test.YtdbhpiofbkhbeaaFree
namespace Go.Proofs.Ytdbhpiofbkhbeaa
open Go.RowKit
set_option linter.unusedSimpArgs false
set_option linter.unusedVariables false

/-! ### How many are true -/

theorem many_take (l : List Bool) (k : Nat) (h : k < l.length) : many (l.take (k + 1)) = many (l.take k) + (l.getD k false).toNat := by
  rw [List.take_succ_eq_append_getElem h, many_append, many_cons, many_nil]
  simp [List.getD_eq_getElem?_getD, h]

set_option maxHeartbeats 1000000 in
theorem count_walk (l : List Bool) (b c : Nat) (w : World) (hl : l.length ≤ 45) (h : Cells w b 4 l.length (boolsV fun i => l.getD i false)) :
    Calls Try.prog 24 #[.slice (some ⟨b, 0, none⟩) l.length c] w fun e w' => e = .returned (.int .i64 (many l : Nat)) ∧ w = w' := by
  have H := Lib.hid h
  clear h
  generalize hn : l.length = n at *
  have HN := Lib.hid hn
  clear hn
  go_enter Try.func24, Try.ntmps24
  go_wp2
  go_loop [3, 8] (fun s i => ∃ k m : Nat, k ≤ n ∧ m ≤ k ∧ i = .int .i64 k ∧ s = .int .i64 (m : Nat) ∧ m = many (l.take k)) (fun _ i => n - (intOf i).toNat)
  case atStart => exact ⟨0, 0, by omega, by omega, rfl, rfl, rfl⟩
  case round =>
    obtain ⟨k, m, hk, hm, rfl, rfl, hmk⟩ := hrel
    have HM := Lib.hid hmk
    clear hmk
    by_cases hlt : k < n
    · have hc : w.cell? ⟨b, k, none⟩ = some (.bool (l.getD k false)) := H.out.cell hlt
      have HT := Lib.hid (many_take l k (by rw [HN.out]; exact hlt))
      cases hb : l.getD k false
      · rw [hb] at hc
        have HB := Lib.hid hb
        clear hb
        go_wp2
        go_round
        case rel => exact ⟨k + 1, m, by omega, by omega, by go_num, rfl, by rw [HT.out, HB.out, ← HM.out]; rfl⟩
        case measure => simp [intOf]; omega
      · rw [hb] at hc
        have HB := Lib.hid hb
        clear hb
        go_wp2
        go_round
        case rel => exact ⟨k + 1, m + 1, by omega, by omega, by go_num, by go_num, by rw [HT.out, HB.out, ← HM.out]; rfl⟩
        case measure => simp [intOf]; omega
    · obtain rfl : n = k := by omega
      go_wp2
      go_ret
      refine ⟨?_, rfl⟩
      rw [HM.out, ← HN.out, List.take_length]
      rfl

set_option maxHeartbeats 1000000 in
theorem Many_walk (l : List Bool) (b c : Nat) (w : World) (hl : l.length ≤ 45) (h : Cells w b 4 l.length (boolsV fun i => l.getD i false)) :
    Calls Try.prog 11 #[.slice (some ⟨b, 0, none⟩) l.length c] w fun e w' => e = .returned (.int .i64 (many l : Nat)) ∧ w = w' := by
  have H := Lib.hid h
  clear h
  generalize hn : l.length = n at *
  have HN := Lib.hid hn
  clear hn
  go_enter Try.func11, Try.ntmps11
  go_wp2
  go_loop [3, 8] (fun s i => ∃ k m : Nat, k ≤ n ∧ m ≤ k ∧ i = .int .i64 k ∧ s = .int .i64 (m : Nat) ∧ m = many (l.take k)) (fun _ i => n - (intOf i).toNat)
  case atStart => exact ⟨0, 0, by omega, by omega, rfl, rfl, rfl⟩
  case round =>
    obtain ⟨k, m, hk, hm, rfl, rfl, hmk⟩ := hrel
    have HM := Lib.hid hmk
    clear hmk
    by_cases hlt : k < n
    · have hc : w.cell? ⟨b, k, none⟩ = some (.bool (l.getD k false)) := H.out.cell hlt
      have HT := Lib.hid (many_take l k (by rw [HN.out]; exact hlt))
      cases hb : l.getD k false
      · rw [hb] at hc
        have HB := Lib.hid hb
        clear hb
        go_wp2
        go_round
        case rel => exact ⟨k + 1, m, by omega, by omega, by go_num, rfl, by rw [HT.out, HB.out, ← HM.out]; rfl⟩
        case measure => simp [intOf]; omega
      · rw [hb] at hc
        have HB := Lib.hid hb
        clear hb
        go_wp2
        go_round
        case rel => exact ⟨k + 1, m + 1, by omega, by omega, by go_num, by go_num, by rw [HT.out, HB.out, ← HM.out]; rfl⟩
        case measure => simp [intOf]; omega
    · obtain rfl : n = k := by omega
      go_wp2
      go_ret
      refine ⟨?_, rfl⟩
      rw [HM.out, ← HN.out, List.take_length]
      rfl

/-! ### Check at every input -/

set_option maxHeartbeats 1000000 in
theorem check_many (n : Int) (A : Option Addr) (len cap : Nat) (w : World) (h : n < 1 ∨ 10 < n ∨ 45 < len) (hlen : len ≤ 9223372036854775807) :
    Calls Try.prog 17 #[.int .i64 n, .slice A len cap] w fun e w' => e = .returned (faultV (2, 0)) ∧ Below w.heap.size w w' := by
  by_cases h1 : n < 1
  · clear h
    go_enter Try.func17, Try.ntmps17
    go_wp2
    refine bodyPost_ret (v := .agg #[.int .i64 2, .int .i64 0]) (by simp [results, Try.results17, go_sem]) rfl ⟨rfl, ?_⟩
    exact belowAlloc (Below.refl _ _) _
  · by_cases h2 : 10 < n
    · clear h
      go_enter Try.func17, Try.ntmps17
      go_wp2
      refine bodyPost_ret (v := .agg #[.int .i64 2, .int .i64 0]) (by simp [results, Try.results17, go_sem]) rfl ⟨rfl, ?_⟩
      exact belowAlloc (Below.refl _ _) _
    · have h3 : (45 : Int) < (len : Int) := by omega
      clear h
      go_enter Try.func17, Try.ntmps17
      go_wp2
      refine bodyPost_ret (v := .agg #[.int .i64 2, .int .i64 0]) (by simp [results, Try.results17, go_sem]) rfl ⟨rfl, ?_⟩
      exact belowAlloc (Below.refl _ _) _

theorem check_any (n : Int) (A : Option Addr) (cap : Nat) (es : List (Int × Int)) (w : World) (he : Edges w A es) (hlen : es.length ≤ 9223372036854775807) :
    Calls Try.prog 17 #[.int .i64 n, .slice A es.length cap] w fun e w' => e = .returned (faultV (checkE n es)) ∧ Below w.heap.size w w' := by
  by_cases h : n < 1 ∨ 10 < n ∨ 45 < es.length
  · have e : checkE n es = (2, 0) := by unfold checkE; rw [if_pos h]
    rw [e]
    exact check_many n A es.length cap w h hlen
  · exact check_walk n A cap es w (by omega) (by omega) (by omega) he

/-! ### Graphs that are graphs -/

def toN (is : List (Int × Int)) : Es := is.map fun e => (e.1.toNat, e.2.toNat)

theorem scanE_ok (n : Int) : ∀ (is seen : List (Int × Int)) (i : Nat), scanE n seen i is = (0, 0) → ∀ e ∈ is, badEdge n e = false
  | [], _, _, _ => by simp
  | e :: is, seen, i, h => by
    unfold scanE at h
    split at h
    · cases h
    · split at h
      · cases h
      · rename_i h1 h2
        intro x hx
        rcases List.mem_cons.1 hx with rfl | hx
        · simpa using h1
        · exact scanE_ok n is _ _ h x hx

theorem check_ok {n : Int} {is : List (Int × Int)} (h : checkE n is = (0, 0)) : 1 ≤ n ∧ n ≤ 10 ∧ is.length ≤ 45 ∧ toI (toN is) = is ∧ Good n.toNat (toN is) := by
  unfold checkE at h
  split at h
  · cases h
  · rename_i hc
    have hb := scanE_ok n is [] 0 h
    have hbad : ∀ e ∈ is, 0 ≤ e.1 ∧ 0 ≤ e.2 ∧ e.1 < n ∧ e.2 < n ∧ e.1 ≠ e.2 := fun e he => by
      have h1 := hb e he
      unfold badEdge at h1
      rw [decide_eq_false_iff_not] at h1
      omega
    refine ⟨by omega, by omega, by omega, ?_, ?_⟩
    · unfold toI toN
      rw [List.map_map]
      conv => rhs; rw [← List.map_id is]
      refine List.map_congr_left fun e he => ?_
      obtain ⟨h1, h2, _⟩ := hbad e he
      obtain ⟨x, y⟩ := e
      simp only [Function.comp, id, Prod.mk.injEq]
      simp only at h1 h2
      omega
    · intro e he
      unfold toN at he
      obtain ⟨x, hx, rfl⟩ := List.mem_map.1 he
      have := hbad x hx
      refine ⟨?_, ?_, ?_⟩ <;> dsimp only <;> omega

theorem toN_length (is : List (Int × Int)) : (toN is).length = is.length := by simp [toN]

/-- What 'free' answers. -/
noncomputable def frees (n : Int) (is : List (Int × Int)) (wo : Int) : List Bool := greedy n.toNat wo 0 [] (toN is)

def FreeSaid : Prop := ∀ (n : Nat) (A : Option Addr) (cap : Nat) (es : Es) (wo : Int) (w : World), 1 ≤ n → n ≤ 10 → es.length ≤ 45 → Good n es → Edges w A (toI es) →
    Calls Try.prog 22 #[.int .i64 (n : Nat), .slice A es.length cap, .int .i64 wo] w fun e w' => ∃ v, e = .returned v ∧ BoolsAt w.heap.size w' v (greedy n wo 0 [] es) ∧ Below w.heap.size w w'

theorem free_ints (hF : FreeSaid) (n : Int) (A : Option Addr) (cap : Nat) (is : List (Int × Int)) (wo : Int) (w : World) (hc : checkE n is = (0, 0)) (he : Edges w A is) :
    Calls Try.prog 22 #[.int .i64 n, .slice A is.length cap, .int .i64 wo] w fun e w' => ∃ b, e = .returned (.slice (some ⟨b, 0, none⟩) is.length is.length) ∧ w.heap.size ≤ b ∧ Cells w' b 4 is.length (boolsV fun i => (frees n is wo).getD i false) ∧ Below w.heap.size w w' := by
  obtain ⟨h1, h2, h3, h4, h5⟩ := check_ok hc
  have h := hF n.toNat A cap (toN is) wo w (by omega) (by omega) (by rw [toN_length]; exact h3) h5 (by rw [h4]; exact he)
  rw [toN_length, show ((n.toNat : Nat) : Int) = n from by omega] at h
  refine h.mono fun e w' hh => ?_
  obtain ⟨v, rfl, ⟨b, rfl, hb, hcells⟩, hbl⟩ := hh
  have hlen : (greedy n.toNat wo 0 [] (toN is)).length = is.length := by rw [greedy_length, toN_length]
  rw [hlen] at hcells ⊢
  exact ⟨b, rfl, hb, hcells, hbl⟩

theorem frees_length (n : Int) (is : List (Int × Int)) (wo : Int) : (frees n is wo).length = is.length := by unfold frees; rw [greedy_length, toN_length]

theorem count_cells (l : List Bool) (n b c : Nat) (w : World) (hn : l.length = n) (hl : n ≤ 45) (h : Cells w b 4 n (boolsV fun i => l.getD i false)) :
    Calls Try.prog 24 #[.slice (some ⟨b, 0, none⟩) n c] w fun e w' => e = .returned (.int .i64 (many l : Nat)) ∧ w = w' := by
  subst hn
  exact count_walk l b c w hl h

/-- The cell of a fault. -/
theorem two_at {w : World} {b : Nat} {x y : Value} {t : TypeId} (h : w.heap[b]? = some (.cells #[x, y] t (0, 0))) :
    w.cell? ⟨b, 0, none⟩ = some x ∧ w.cell? ⟨b, 1, none⟩ = some y ∧ w.frozen? ⟨b, 0, none⟩ = false ∧ w.frozen? ⟨b, 1, none⟩ = false := by
  refine ⟨?_, ?_, ?_, ?_⟩ <;> simp [World.cell?, World.frozen?, h]

theorem two_set {w : World} {b : Nat} {x y u v : Value} {t : TypeId} (h : w.heap[b]? = some (.cells #[x, y] t (0, 0))) : ((w.setCell ⟨b, 0, none⟩ u).setCell ⟨b, 1, none⟩ v).heap[b]? = some (.cells #[u, v] t (0, 0)) := by
  simp [World.setCell, Array.getElem?_modify, h]

theorem check_code (n : Int) (is : List (Int × Int)) : checkE n is = (0, 0) ∨ (checkE n is).1 ≠ 0 := by
  have key : ∀ (l seen : List (Int × Int)) (i : Nat), scanE n seen i l = (0, 0) ∨ (scanE n seen i l).1 ≠ 0 := by
    intro l
    induction l with
    | nil => intro seen i; exact .inl rfl
    | cons e l ih =>
      intro seen i
      unfold scanE
      split
      · exact .inr (by simp)
      · split
        · exact .inr (by simp)
        · exact ih _ _
  unfold checkE
  split
  · exact .inr (by decide)
  · exact key _ _ _

/-- A block that was made stands behind what comes. -/
theorem row_later {w w1 : World} {o : Obj} (hb : Below (w.alloc o).heap.size (w.alloc o) w1) : w1.heap[w.heap.size]? = some o :=
  (hb.block _ (by simp)).trans (heap_alloc_new w o)

set_option maxHeartbeats 1000000 in
theorem Free_no (n : Int) (A : Option Addr) (cap : Nat) (is : List (Int × Int)) (w : World) (he : Edges w A is) (hlen : is.length ≤ 9223372036854775807) (hc : checkE n is ≠ (0, 0)) :
    Calls Try.prog 9 #[.int .i64 n, .slice A is.length cap] w fun e w' => e = .returned (.tuple #[.slice none 0 0, faultV (checkE n is)]) ∧ Below w.heap.size w w' := by
  have HE := Lib.hid he
  clear he
  go_enter Try.func9, Try.ntmps9
  go_wp2_with fail
  refine (check_any n A cap is _ (HE.out.below (belowAlloc (Below.refl _ _) _)) hlen).mono ?_
  rintro e w1 ⟨rfl, hb1⟩
  have hrow := row_later hb1
  have hbw : Below w.heap.size w w1 := (belowAlloc (Below.refl _ _) _).trans (hb1.mono (by simp))
  have hlt := (Array.getElem?_eq_some_iff.1 hrow).1
  obtain ⟨c, at_, hca⟩ : ∃ c at_, checkE n is = (c, at_) := ⟨_, _, rfl⟩
  have hc0 : c ≠ 0 := by
    have := check_code n is
    rw [hca] at this
    exact this.resolve_left (by rw [hca] at hc; exact hc)
  have hcb : (c != 0) = true := by simpa using hc0
  have HRES := Lib.hid hrow
  have hrow2 : (w1.alloc (.cells #[.int .i64 c, .int .i64 at_] 30)).heap[w.heap.size]? = some (.cells #[.int .i64 0, .int .i64 0] 30 (0, 0)) := (Below.heap_alloc _ _ _ hlt).trans HRES.out
  obtain ⟨r0, r1, f0, f1⟩ := two_at hrow2
  obtain ⟨q0, q1, g0, g1⟩ := two_at hrow
  obtain ⟨p0, p1, _, _⟩ := two_at ((Below.heap_alloc ((w1.setCell ⟨w.heap.size, 0, none⟩ (.int .i64 c)).setCell ⟨w.heap.size, 1, none⟩ (.int .i64 at_)) (.cells #[.int .i64 c, .int .i64 at_] 30) _ (by simpa [World.setCell] using hlt)).trans (two_set (u := .int .i64 c) (v := .int .i64 at_) hrow))
  have HB := Lib.hid hbw
  rw [hca]
  have HCA := Lib.hid hca
  clear hrow hrow2 hb1 hbw hca hc hc0
  simp only [faultV]
  go_wp2
  go_region
  all_goals go_wp2
  all_goals refine bodyPost_ret (v := .tuple #[.slice none 0 0, .agg #[.int .i64 c, .int .i64 at_]]) (by simp [results, Try.results9, go_sem, p0, p1]) rfl ⟨by rw [HCA.out]; rfl, ?_⟩
  all_goals exact (belowAlloc ((HB.out.setCell (p := ⟨w.heap.size, 0, none⟩) (Nat.le_refl _) _).setCell (p := ⟨w.heap.size, 1, none⟩) (Nat.le_refl _) _) _).drew

set_option maxHeartbeats 1000000 in
theorem Rigid_no (n : Int) (A : Option Addr) (cap : Nat) (is : List (Int × Int)) (w : World) (he : Edges w A is) (hlen : is.length ≤ 9223372036854775807) (hc : checkE n is ≠ (0, 0)) :
    Calls Try.prog 15 #[.int .i64 n, .slice A is.length cap] w fun e w' => e = .returned (.tuple #[.bool false, faultV (checkE n is)]) ∧ Below w.heap.size w w' := by
  have HE := Lib.hid he
  clear he
  go_enter Try.func15, Try.ntmps15
  go_wp2_with fail
  refine (check_any n A cap is _ (HE.out.below (belowAlloc (Below.refl _ _) _)) hlen).mono ?_
  rintro e w1 ⟨rfl, hb1⟩
  have hrow := row_later hb1
  have hbw : Below w.heap.size w w1 := (belowAlloc (Below.refl _ _) _).trans (hb1.mono (by simp))
  have hlt := (Array.getElem?_eq_some_iff.1 hrow).1
  obtain ⟨c, at_, hca⟩ : ∃ c at_, checkE n is = (c, at_) := ⟨_, _, rfl⟩
  have hc0 : c ≠ 0 := by
    have := check_code n is
    rw [hca] at this
    exact this.resolve_left (by rw [hca] at hc; exact hc)
  have hcb : (c != 0) = true := by simpa using hc0
  have HRES := Lib.hid hrow
  have hrow2 : (w1.alloc (.cells #[.int .i64 c, .int .i64 at_] 30)).heap[w.heap.size]? = some (.cells #[.int .i64 0, .int .i64 0] 30 (0, 0)) := (Below.heap_alloc _ _ _ hlt).trans HRES.out
  obtain ⟨r0, r1, f0, f1⟩ := two_at hrow2
  obtain ⟨q0, q1, g0, g1⟩ := two_at hrow
  obtain ⟨p0, p1, _, _⟩ := two_at ((Below.heap_alloc ((w1.setCell ⟨w.heap.size, 0, none⟩ (.int .i64 c)).setCell ⟨w.heap.size, 1, none⟩ (.int .i64 at_)) (.cells #[.int .i64 c, .int .i64 at_] 30) _ (by simpa [World.setCell] using hlt)).trans (two_set (u := .int .i64 c) (v := .int .i64 at_) hrow))
  have HB := Lib.hid hbw
  rw [hca]
  have HCA := Lib.hid hca
  clear hrow hrow2 hb1 hbw hca hc hc0
  simp only [faultV]
  go_wp2
  go_region
  all_goals go_wp2
  all_goals refine bodyPost_ret (v := .tuple #[.bool false, .agg #[.int .i64 c, .int .i64 at_]]) (by simp [results, Try.results15, go_sem, p0, p1]) rfl ⟨by rw [HCA.out]; rfl, ?_⟩
  all_goals exact (belowAlloc ((HB.out.setCell (p := ⟨w.heap.size, 0, none⟩) (Nat.le_refl _) _).setCell (p := ⟨w.heap.size, 1, none⟩) (Nat.le_refl _) _) _).drew

set_option maxHeartbeats 1000000 in
theorem Over_no (n : Int) (A : Option Addr) (cap : Nat) (is : List (Int × Int)) (w : World) (he : Edges w A is) (hlen : is.length ≤ 9223372036854775807) (hc : checkE n is ≠ (0, 0)) :
    Calls Try.prog 16 #[.int .i64 n, .slice A is.length cap] w fun e w' => e = .returned (.tuple #[.slice none 0 0, faultV (checkE n is)]) ∧ Below w.heap.size w w' := by
  have HE := Lib.hid he
  clear he
  go_enter Try.func16, Try.ntmps16
  go_wp2_with fail
  refine (check_any n A cap is _ (HE.out.below (belowAlloc (Below.refl _ _) _)) hlen).mono ?_
  rintro e w1 ⟨rfl, hb1⟩
  have hrow := row_later hb1
  have hbw : Below w.heap.size w w1 := (belowAlloc (Below.refl _ _) _).trans (hb1.mono (by simp))
  have hlt := (Array.getElem?_eq_some_iff.1 hrow).1
  obtain ⟨c, at_, hca⟩ : ∃ c at_, checkE n is = (c, at_) := ⟨_, _, rfl⟩
  have hc0 : c ≠ 0 := by
    have := check_code n is
    rw [hca] at this
    exact this.resolve_left (by rw [hca] at hc; exact hc)
  have hcb : (c != 0) = true := by simpa using hc0
  have HRES := Lib.hid hrow
  have hrow2 : (w1.alloc (.cells #[.int .i64 c, .int .i64 at_] 30)).heap[w.heap.size]? = some (.cells #[.int .i64 0, .int .i64 0] 30 (0, 0)) := (Below.heap_alloc _ _ _ hlt).trans HRES.out
  obtain ⟨r0, r1, f0, f1⟩ := two_at hrow2
  obtain ⟨q0, q1, g0, g1⟩ := two_at hrow
  obtain ⟨p0, p1, _, _⟩ := two_at ((Below.heap_alloc ((w1.setCell ⟨w.heap.size, 0, none⟩ (.int .i64 c)).setCell ⟨w.heap.size, 1, none⟩ (.int .i64 at_)) (.cells #[.int .i64 c, .int .i64 at_] 30) _ (by simpa [World.setCell] using hlt)).trans (two_set (u := .int .i64 c) (v := .int .i64 at_) hrow))
  have HB := Lib.hid hbw
  rw [hca]
  have HCA := Lib.hid hca
  clear hrow hrow2 hb1 hbw hca hc hc0
  simp only [faultV]
  go_wp2
  go_region
  all_goals go_wp2
  all_goals refine bodyPost_ret (v := .tuple #[.slice none 0 0, .agg #[.int .i64 c, .int .i64 at_]]) (by simp [results, Try.results16, go_sem, p0, p1]) rfl ⟨by rw [HCA.out]; rfl, ?_⟩
  all_goals exact (belowAlloc ((HB.out.setCell (p := ⟨w.heap.size, 0, none⟩) (Nat.le_refl _) _).setCell (p := ⟨w.heap.size, 1, none⟩) (Nat.le_refl _) _) _).drew

set_option maxHeartbeats 1000000 in
theorem Free_yes (hF : FreeSaid) (n : Int) (A : Option Addr) (cap : Nat) (is : List (Int × Int)) (w : World) (he : Edges w A is) (hlen : is.length ≤ 9223372036854775807) (hc : checkE n is = (0, 0)) :
    Calls Try.prog 9 #[.int .i64 n, .slice A is.length cap] w fun e w' => ∃ b, e = .returned (.tuple #[.slice (some ⟨b, 0, none⟩) is.length is.length, faultV (0, 0)]) ∧ w.heap.size ≤ b ∧ Cells w' b 4 is.length (boolsV fun i => (frees n is (-1)).getD i false) ∧ Below w.heap.size w w' := by
  have HF := Lib.hid hF
  clear hF
  have HE := Lib.hid he
  clear he
  go_enter Try.func9, Try.ntmps9
  go_wp2_with fail
  refine (check_any n A cap is _ (HE.out.below (belowAlloc (Below.refl _ _) _)) hlen).mono ?_
  rintro e w1 ⟨rfl, hb1⟩
  have hrow := row_later hb1
  have hbw : Below w.heap.size w w1 := (belowAlloc (Below.refl _ _) _).trans (hb1.mono (by simp))
  have hlt := (Array.getElem?_eq_some_iff.1 hrow).1
  rw [hc]
  have HRES := Lib.hid hrow
  have hrow2 : (w1.alloc (.cells #[.int .i64 0, .int .i64 0] 30)).heap[w.heap.size]? = some (.cells #[.int .i64 0, .int .i64 0] 30 (0, 0)) := (Below.heap_alloc _ _ _ hlt).trans HRES.out
  have hbw2 := belowAlloc hbw (.cells #[.int .i64 0, .int .i64 0] 30)
  have HROW2 := Lib.hid hrow2
  have HB2 := Lib.hid hbw2
  have HC := Lib.hid hc
  clear hrow hrow2 hb1 hbw hbw2 hc
  simp only [faultV]
  go_wp2_with fail
  refine (free_ints HF.out n A cap is (-1) _ HC.out (HE.out.below HB2.out)).mono ?_
  rintro e w3 ⟨b, rfl, hbge, hcells, hb3⟩
  have hsz : w.heap.size < (w1.alloc (.cells #[.int .i64 0, .int .i64 0] 30)).heap.size := (Array.getElem?_eq_some_iff.1 HROW2.out).1
  have hrow3 := (hb3.block _ hsz).trans HROW2.out
  obtain ⟨r0, r1, f0, f1⟩ := two_at hrow3
  have HB3 := Lib.hid (HB2.out.trans (hb3.mono (Nat.le_of_lt hsz)))
  have HCELLS := Lib.hid hcells
  have hbne : w.heap.size < b := Nat.lt_of_lt_of_le hsz hbge
  clear hcells hb3 hrow3 hbge
  go_wp2
  refine bodyPost_ret (v := .tuple #[.slice (some ⟨b, 0, none⟩) is.length is.length, .agg #[.int .i64 0, .int .i64 0]]) (by simp [results, Try.results9, go_sem, r0, r1]) rfl ⟨b, rfl, Nat.le_of_lt hbne, ?_, ?_⟩
  · exact (HCELLS.out.setOther (by simp; omega) _).setOther (by simp; omega) _
  · exact (HB3.out.setCell (Nat.le_refl _) _).setCell (Nat.le_refl _) _

set_option maxHeartbeats 1000000 in
theorem Rigid_yes (hF : FreeSaid) (n : Int) (A : Option Addr) (cap : Nat) (is : List (Int × Int)) (w : World) (he : Edges w A is) (hlen : is.length ≤ 9223372036854775807) (hc : checkE n is = (0, 0)) :
    Calls Try.prog 15 #[.int .i64 n, .slice A is.length cap] w fun e w' => e = .returned (.tuple #[.bool (((many (frees n is (-1)) : Nat) : Int) == max (2 * n - 3) 0), faultV (0, 0)]) ∧ Below w.heap.size w w' := by
  have HF := Lib.hid hF
  clear hF
  have HE := Lib.hid he
  clear he
  go_enter Try.func15, Try.ntmps15
  go_wp2_with fail
  refine (check_any n A cap is _ (HE.out.below (belowAlloc (Below.refl _ _) _)) hlen).mono ?_
  rintro e w1 ⟨rfl, hb1⟩
  have hrow := row_later hb1
  have hbw : Below w.heap.size w w1 := (belowAlloc (Below.refl _ _) _).trans (hb1.mono (by simp))
  have hlt := (Array.getElem?_eq_some_iff.1 hrow).1
  rw [hc]
  have HRES := Lib.hid hrow
  have hrow2 : (w1.alloc (.cells #[.int .i64 0, .int .i64 0] 30)).heap[w.heap.size]? = some (.cells #[.int .i64 0, .int .i64 0] 30 (0, 0)) := (Below.heap_alloc _ _ _ hlt).trans HRES.out
  have hbw2 := belowAlloc hbw (.cells #[.int .i64 0, .int .i64 0] 30)
  have HROW2 := Lib.hid hrow2
  have HB2 := Lib.hid hbw2
  have HC := Lib.hid hc
  clear hrow hrow2 hb1 hbw hbw2 hc
  simp only [faultV]
  go_wp2_with fail
  refine (free_ints HF.out n A cap is (-1) _ HC.out (HE.out.below HB2.out)).mono ?_
  rintro e w3 ⟨b, rfl, hbge, hcells, hb3⟩
  have hsz : w.heap.size < (w1.alloc (.cells #[.int .i64 0, .int .i64 0] 30)).heap.size := (Array.getElem?_eq_some_iff.1 HROW2.out).1
  have hrow3 := (hb3.block _ hsz).trans HROW2.out
  obtain ⟨r0, r1, f0, f1⟩ := two_at hrow3
  have HB3 := Lib.hid (HB2.out.trans (hb3.mono (Nat.le_of_lt hsz)))
  have HCELLS := Lib.hid hcells
  obtain ⟨hn1, hn2, hl45, _, _⟩ := check_ok HC.out
  clear hcells hb3 hrow3 hbge
  go_wp2_with fail
  refine (count_cells (frees n is (-1)) is.length b _ _ (frees_length ..) hl45 HCELLS.out).mono ?_
  rintro e w4 ⟨rfl, rfl⟩
  obtain ⟨m, hm0⟩ : ∃ m, many (frees n is (-1)) = m := ⟨_, rfl⟩
  rw [hm0]
  have HM := Lib.hid hm0
  clear hm0
  have hbe := HB3.out
  have HBE := Lib.hid hbe
  clear hbe
  by_cases hm : 2 * n - 3 ≤ 0
  · have HMX : Hid (max (2 * n - 3) 0 = 0) := by show max (2 * n - 3) 0 = 0; omega
    go_wp2
    refine bodyPost_ret (v := .tuple #[.bool ((m : Int) == 0), .agg #[.int .i64 0, .int .i64 0]]) (by simp [results, Try.results15, go_sem, r0, r1]) rfl ⟨by rw [HMX.out, HM.out]; rfl, ?_⟩
    exact (HBE.out.setCell (Nat.le_refl _) _).setCell (Nat.le_refl _) _
  · have HMX : Hid (max (2 * n - 3) 0 = 2 * n - 3) := by show max (2 * n - 3) 0 = 2 * n - 3; omega
    go_wp2
    refine bodyPost_ret (v := .tuple #[.bool ((m : Int) == 2 * n - 3), .agg #[.int .i64 0, .int .i64 0]]) (by simp [results, Try.results15, go_sem, r0, r1]) rfl ⟨by rw [HMX.out, HM.out]; rfl, ?_⟩
    exact (HBE.out.setCell (Nat.le_refl _) _).setCell (Nat.le_refl _) _

end Go.Proofs.Ytdbhpiofbkhbeaa
