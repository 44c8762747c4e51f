/- 'rafterlaw.Names' returns true: its walk. No condition. -/
import Derived.Test.YtdbhpiofbkhbeaaRows
import Derived.WalkKit
import Derived.WalkSpells
import Derived.WalkSmall
import Derived.BigQuiet
import Derived.Deep.QuietTactic
namespace Go.Proofs.Ytdbhpiofbkhbeaa
open Go.RowKit
set_option linter.unusedSimpArgs false

/-- slices.Equal at two []int of the same cells: true. -/
theorem equalInts (a b oa ob n ca cb : Nat) (f : Nat → Int) (w : World) (hn : n ≤ 100)
    (ha : ∀ i, i < n → w.cell? ⟨a, oa + i, none⟩ = some (.int .i64 (f i))) (hb : ∀ i, i < n → w.cell? ⟨b, ob + i, none⟩ = some (.int .i64 (f i))) :
    Calls Try.prog 7 #[.slice (some ⟨a, oa, none⟩) n ca, .slice (some ⟨b, ob, none⟩) n cb] w fun e w' => e = .returned (.bool true) ∧ ∃ k, w' = w.drewN k := by
  have HA : Hid (∀ i, i < n → w.cell? ⟨a, oa + i, none⟩ = some (.int .i64 (f i))) := ha
  have HB : Hid (∀ i, i < n → w.cell? ⟨b, ob + i, none⟩ = some (.int .i64 (f i))) := hb
  clear ha hb
  go_enter Try.func7, Try.ntmps7
  go_wp2
  go_loopw [13] (fun i wr => ∃ j : Nat, j ≤ n ∧ i = .int .i64 j ∧ ∃ k, wr = w.drewN k) (fun i _ => n - (intOf i).toNat)
  case atStart => exact ⟨0, by omega, rfl, 0, rfl⟩
  case round =>
    obtain ⟨j, hj, rfl, k, rfl⟩ := hrel
    by_cases hlt : j < n
    · have h1 := HA.out j hlt
      have h2 := HB.out j hlt
      go_wp2
      go_quiet (fail)
      go_wp2
      go_roundw
      case rel => exact ⟨j + 1, by omega, by go_num, _, rfl⟩
      case measure => simp [intOf]; omega
    · go_wp2
      go_ret
      exact ⟨rfl, _, rfl⟩

theorem heapPush (w : World) (o : Obj) : (w.alloc o).heap = w.heap.push o := rfl

theorem grownDrewN {a w : World} (h : Grown a w) (n : Nat) : Grown a (w.drewN n) := h

/-- The same of two blocks of the same numbers. -/
theorem equalBlocks (zs : List Int) (a b : Nat) (n ca cb : Nat) (w : World) (hn : n ≤ 100) (hz : zs.length = n)
    (ha : w.heap[a]? = some (.cells (zs.map (Value.int .i64)).toArray 3 (0, 0))) (hb : w.heap[b]? = some (.cells (zs.map (Value.int .i64)).toArray 3 (0, 0))) :
    Calls Try.prog 7 #[.slice (some ⟨a, 0, none⟩) n ca, .slice (some ⟨b, 0, none⟩) n cb] w fun e w' => e = .returned (.bool true) ∧ ∃ k, w' = w.drewN k := by
  refine equalInts a b 0 0 n ca cb (fun i => zs.getD i 0) w hn (fun i hi => ?_) (fun i hi => ?_)
  · have : i < zs.length := by omega
    simp [World.cell?, ha, this]
  · have : i < zs.length := by omega
    simp [World.cell?, hb, this]
theorem errCells : ∀ j, (hj : j < 11) → ([.int .i64 0, .int .i64 1, .int .i64 2, .int .i64 3, .int .i64 4, .int .i64 5, .int .i64 6, .int .i64 7, .int .i64 8, .int .i64 9, .int .i64 10] : List Value)[j]'hj = .int .i64 (j : Int) := by
  intro j hj
  match j, hj with
  | 0, _ => rfl
  | 1, _ => rfl
  | 2, _ => rfl
  | 3, _ => rfl
  | 4, _ => rfl
  | 5, _ => rfl
  | 6, _ => rfl
  | 7, _ => rfl
  | 8, _ => rfl
  | 9, _ => rfl
  | 10, _ => rfl

set_option maxHeartbeats 400000 in
theorem names_walk (w : World) :
    Calls Try.prog 3 #[] w fun e w' => e = .returned (.bool true) ∧ Grown w w' := by
  go_enter Try.func3, Try.ntmps3
  go_wp2
  go_loop [9] (fun i => ∃ j : Nat, j ≤ 11 ∧ i = .int .i64 j) (fun i => 11 - (intOf i).toNat)
  case atStart => exact ⟨0, by omega, rfl⟩
  case round =>
    obtain ⟨j, hj, rfl⟩ := hrel
    by_cases hlt : j < 11
    · have h1 := errCells j hlt
      have hne : ((j : Int) != j) = false := by simp
      go_wp2
      go_round
      case rel => exact ⟨j + 1, by omega, by go_num⟩
      case measure => simp [intOf]; omega
    · have hj : j = 11 := by omega
      subst hj
      go_wp2_with fail
      refine (equalBlocks [4000, 60, 10, 24, 20, 20, 10, 45, 6, 8, 10, 60, 20] _ _ 13 _ _ _ (by omega) rfl (by simp only [heapPush, World.heap_drewN, Array.getElem?_push, Array.size_push]; simp) (by simp only [heapPush, World.heap_drewN, Array.getElem?_push, Array.size_push]; simp)).mono ?_
      rintro e w1 ⟨rfl, k1, rfl⟩
      go_wp2_with fail
      refine (equalBlocks [1, 2, 3, 1, 2, 1, 2, 3, 1, 2, 3] _ _ 11 _ _ _ (by omega) rfl (by simp only [heapPush, World.heap_drewN, Array.getElem?_push, Array.size_push]; simp) (by simp only [heapPush, World.heap_drewN, Array.getElem?_push, Array.size_push]; simp)).mono ?_
      rintro e w1 ⟨rfl, k2, rfl⟩
      go_wp2_with fail
      go_ret
      refine ⟨rfl, ?_⟩
      exact grownDrewN (Grown.alloc (grownDrewN (Grown.alloc (Grown.alloc (Grown.alloc (Grown.alloc (Grown.refl _) _ _) _ _) _ _) _ _) _) _ _) _
end Go.Proofs.Ytdbhpiofbkhbeaa
