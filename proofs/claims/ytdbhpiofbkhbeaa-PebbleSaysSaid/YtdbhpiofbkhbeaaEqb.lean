/- slices.Equal of two equal lists of bools, wherever they lie; CheckGraph and FreeOf at every graph; edges of one's own, and what lies ahead of the marks. -/
import Derived.Test.YtdbhpiofbkhbeaaStill
import Derived.Test.YtdbhpiofbkhbeaaGraph
import Derived.Test.YtdbhpiofbkhbeaaFreeOf
namespace Go.Proofs.Ytdbhpiofbkhbeaa
open Go.RowKit
set_option linter.unusedSimpArgs false
set_option linter.unusedVariables false

/-- n bools read behind an address. -/
def BRd (w : World) (X : Option Addr) (n : Nat) (l : List Bool) : Prop := ∀ i, i < n → ∃ b o, X = some ⟨b, o, none⟩ ∧ w.cell? ⟨b, o + i, none⟩ = some (.bool (l.getD i false))

theorem Cells.brd {w : World} {b n : Nat} {l : List Bool} (h : Cells w b 4 n (boolsV fun i => l.getD i false)) : BRd w (some ⟨b, 0, none⟩) n l :=
  fun i hi => ⟨b, 0, rfl, by rw [Nat.zero_add]; exact h.cell hi⟩

set_option maxHeartbeats 1000000 in
theorem equalBools2 (l : List Bool) (n ca cb : Nat) (X Y : Option Addr) (w : World) (hn : n ≤ 100) (ha : BRd w X n l) (hb : BRd w Y n l) :
    Calls Try.prog 20 #[.slice X n ca, .slice Y n cb] w fun e w' => e = .returned (.bool true) ∧ ∃ k, w' = w.drewN k := by
  have HA := Lib.hid ha
  have HB := Lib.hid hb
  clear ha hb
  go_enter Try.func20, Try.ntmps20
  go_wp2
  go_loopw [13] (fun i wr => ∃ j : Nat, j ≤ n ∧ i = .int .i64 j ∧ ∃ k, wr = w.drewN k) (fun i _ => n - (intOf i).toNat)
  case atStart => exact ⟨0, by omega, rfl, 0, rfl⟩
  case round =>
    obtain ⟨j, hj, rfl, k, rfl⟩ := hrel
    by_cases hlt : j < n
    · obtain ⟨x, hx⟩ : ∃ x, l.getD j false = x := ⟨_, rfl⟩
      obtain ⟨b1, o1, rfl, h1⟩ := HA.out j hlt
      obtain ⟨b2, o2, rfl, h2⟩ := HB.out j hlt
      rw [hx] at h1 h2
      clear hx
      go_wp2
      go_quiet (fail)
      go_wp2
      go_roundw
      case rel => exact ⟨j + 1, by omega, by go_num, _, rfl⟩
      case measure => simp [intOf]; omega
    · go_wp2
      go_ret
      exact ⟨rfl, _, rfl⟩

theorem graph_any (n : Int) (A : Option Addr) (cap : Nat) (es : List (Int × Int)) (w : World) (he : Edges w A es) (hcap : es.length ≤ cap) (hlen : es.length ≤ 9223372036854775807) :
    Calls Try.prog 14 #[.int .i64 n, .slice A es.length cap] w fun e w' => e = .returned (faultV (checkE n es)) ∧ Below w.heap.size w w' := by
  by_cases h : n < 1 ∨ 10 < n ∨ 45 < es.length
  · have e : checkE n es = (2, 0) := by unfold checkE; rw [if_pos h]
    rw [e]
    exact graph_many n A es.length cap w h hlen
  · exact graph_walk n A cap es w (by omega) (by omega) (by omega) hcap he

theorem FreeOf_ints (n : Int) (A : Option Addr) (cap : Nat) (is : List (Int × Int)) (wo : Int) (w : World) (hc : checkE n is = (0, 0)) (he : Edges w A is) :
    Calls Try.prog 19 #[.int .i64 n, .slice A is.length cap, .int .i64 wo] w fun e w' => ∃ b, e = .returned (.slice (some ⟨b, 0, none⟩) is.length is.length) ∧ w.heap.size ≤ b ∧ Cells w' b 4 is.length (boolsV fun i => (frees n is wo).getD i false) ∧ Below w.heap.size w w' := by
  obtain ⟨h1, h2, h3, h4, h5⟩ := check_ok hc
  have h := FreeOf_walk n.toNat A cap (toN is) wo w (by omega) (by omega) (by rw [toN_length]; exact h3) h5 (by rw [h4]; exact he)
  rw [toN_length, show ((n.toNat : Nat) : Int) = n from by omega] at h
  exact h

theorem Edges.headPart {w : World} {A : Option Addr} {is js : List (Int × Int)} (h : Edges w A (is ++ js)) : Edges w A is := fun i hi => by
  obtain ⟨b, o, h1, h2, h3, h4⟩ := h i (by rw [List.length_append]; omega)
  rw [List.getElem_append_left hi] at h3 h4
  exact ⟨b, o, h1, h2, h3, h4⟩
end Go.Proofs.Ytdbhpiofbkhbeaa
