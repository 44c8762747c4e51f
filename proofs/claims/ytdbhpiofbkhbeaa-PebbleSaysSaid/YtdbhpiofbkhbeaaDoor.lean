/- What a slice of pairs (or fours) of ints that came in holds. -/
import Derived.Test.YtdbhpiofbkhbeaaTurns
import Derived.OpenShut
import Derived.Deep.Slices
import Derived.ChangeOld
namespace Go.Proofs.Ytdbhpiofbkhbeaa
open Go.ChangeShapes Go.WideShapes Go.RowKit
set_option linter.unusedSimpArgs false
set_option linter.unusedVariables false

theorem cells34 : Try.prog.cellsOf 34 = 2 := by kernel_rfl
theorem cells47 : Try.prog.cellsOf 47 = 4 := by kernel_rfl
theorem cells3 : Try.prog.cellsOf 3 = 1 := by kernel_rfl

/-- An array of ints, opened. -/
theorem open_row_ints {H : Type} {enc : TypeId × Value → H} {w : World} {base fuel n : Nat} {spare : Nat → Bool} {held : Bool} {e : TypeId} {cs : List Value} {x : DataW H × List MemPlace}
    (he : Try.prog.underlying e = some (.array n 3)) (h : DataW.trod enc Try.prog w base spare held fuel e cs = some x) (hc : Try.prog.cellsOf e = n) : cs.length = n ∧ ∀ j, j < n → ∃ z : Int, cs[j]? = some (.int .i64 z) ∧ (Lit.int .i64 z).wf = true := by
  obtain ⟨xs, m, rfl, rfl, hl, hxl, hx⟩ := DataW.trod_array he h
  refine ⟨hl.trans hc, fun j hj => ?_⟩
  have h1 := hx j hj
  rw [cells3] at h1
  rw [List.getElem?_eq_getElem (by omega : j < xs.length)] at h1
  obtain ⟨z, hz, _, hw⟩ := DataW.trod_int Try.underlying3 h1
  refine ⟨z, ?_, hw⟩
  have := congrArg (fun l => l[0]?) hz
  simpa using this

/-- The cells of a slice of arrays of ints. -/
theorem open_rows {H : Type} {enc : TypeId × Value → H} {w : World} {base n : Nat} {spare : Nat → Bool} {held : Bool} {t e : TypeId} {A : Option Addr} {len cap : Nat} {d : DataW H} {p : List MemPlace}
    (ht : Try.prog.underlying t = some (.slice e)) (he : Try.prog.underlying e = some (.array n 3)) (hc : Try.prog.cellsOf e = n) (hn : 0 < n)
    (h : DataW.Trod enc Try.prog w base spare held t (.slice A len cap) d p) :
    len ≤ maxLen ∧ ∀ i, i < len → ∃ b o, A = some ⟨b, o, none⟩ ∧ b < w.heap.size ∧ ∀ j, j < n → ∃ z : Int, w.cell? ⟨b, o + i * n + j, none⟩ = some (.int .i64 z) ∧ (Lit.int .i64 z).wf = true := by
  obtain ⟨fuel, hf⟩ := h
  rcases Go.Deep.open_slice ht hf with ⟨hcs, _⟩ | ⟨a, l, c, m, n', D, Pl, hcs, hb, hlc, hmax, hm, _, hel⟩
  · simp [Value.cells] at hcs
    obtain ⟨rfl, rfl, rfl⟩ := hcs
    exact ⟨Nat.zero_le _, fun i hi => absurd hi (by omega)⟩
  · simp [Value.cells] at hcs
    obtain ⟨rfl, rfl, rfl⟩ := hcs
    have hlm : len ≤ m := by rw [hm]; split <;> omega
    refine ⟨by omega, fun i hi => ?_⟩
    obtain ⟨cs', h1, h2⟩ := hel i (by omega)
    rw [hc] at h1
    obtain ⟨h3, h4⟩ := open_row_ints he h2 hc
    have hcell := (World.cells?_some h1).2.2
    obtain ⟨h00, hl0⟩ := hel 0 (by omega)
    rw [hc] at hl0
    obtain ⟨h5, h6⟩ := open_row_ints he hl0.2 hc
    obtain ⟨z0, hz0, _⟩ := h6 0 hn
    have hc0 := (World.cells?_some hl0.1).2.2 0 hn
    rw [hz0] at hc0
    obtain ⟨b, o, s⟩ := a
    have hs : s = none := by simpa [Addr.add] using World.cell?_spot hc0
    subst hs
    have hblk := World.cells?_block h1 hn
    have hblk' : b < w.heap.size := by unfold Addr.add at hblk; split at hblk <;> exact hblk
    refine ⟨b, o, rfl, hblk', fun j hj => ?_⟩
    obtain ⟨z, hz, hw⟩ := h4 j hj
    refine ⟨z, ?_, hw⟩
    have h7 := hcell j hj
    rw [hz] at h7
    rw [← h7]
    congr 1
    unfold Addr.add
    split <;> split <;> simp_all

/-- A slice of edges that came in. -/
theorem open_edges {H : Type} {enc : TypeId × Value → H} {w : World} {base : Nat} {spare : Nat → Bool} {held : Bool} {A : Option Addr} {len cap : Nat} {d : DataW H} {p : List MemPlace}
    (h : DataW.Trod enc Try.prog w base spare held 27 (.slice A len cap) d p) : len ≤ 9223372036854775807 ∧ ∃ is : List (Int × Int), is.length = len ∧ Edges w A is := by
  obtain ⟨hm, hr⟩ := open_rows Try.underlying27 Try.underlying34 cells34 (by decide) h
  refine ⟨hm, ?_⟩
  have hp : ∀ i, i < len → ∃ e : Int × Int, ∃ b o, A = some ⟨b, o, none⟩ ∧ b < w.heap.size ∧ w.cell? ⟨b, o + i * 2, none⟩ = some (.int .i64 e.1) ∧ w.cell? ⟨b, o + i * 2 + 1, none⟩ = some (.int .i64 e.2) := fun i hi => by
    obtain ⟨b, o, hA, hb, hj⟩ := hr i hi
    obtain ⟨z0, hz0, _⟩ := hj 0 (by decide)
    obtain ⟨z1, hz1, _⟩ := hj 1 (by decide)
    exact ⟨(z0, z1), b, o, hA, hb, hz0, hz1⟩
  obtain ⟨f, hf⟩ := Go.Deep.choose_lt hp
  refine ⟨(List.range len).map f, by simp, fun i hi => ?_⟩
  have hi' : i < len := by simpa using hi
  obtain ⟨b, o, h1, h2, h3, h4⟩ := hf i hi'
  exact ⟨b, o, h1, h2, by simpa using h3, by simpa using h4⟩

/-- A slice of ints that came in. -/
theorem open_turns {H : Type} {enc : TypeId × Value → H} {w : World} {base : Nat} {spare : Nat → Bool} {held : Bool} {A : Option Addr} {len cap : Nat} {d : DataW H} {p : List MemPlace}
    (h : DataW.Trod enc Try.prog w base spare held 24 (.slice A len cap) d p) : len ≤ 9223372036854775807 ∧ Ints w A len := by
  obtain ⟨fuel, hf⟩ := h
  rcases open_ints Try.underlying24 Try.underlying3 (by kernel_rfl) hf with ⟨hcs, _⟩ | ⟨a, l, c, zs, hcs, hb, hlc, hmax, hz, _, hcell, _⟩
  · simp [Value.cells] at hcs
    obtain ⟨rfl, rfl, rfl⟩ := hcs
    exact ⟨Nat.zero_le _, fun i hi => absurd hi (by omega)⟩
  · simp [Value.cells] at hcs
    obtain ⟨rfl, rfl, rfl⟩ := hcs
    have hle : len ≤ zs.length := by rw [hz]; split <;> omega
    refine ⟨Nat.le_trans hlc hmax, fun i hi => ?_⟩
    have h0 := hcell 0 (by omega)
    have h1 := hcell i (by omega)
    obtain ⟨b, o, s⟩ := a
    have hs : s = none := by simpa [Addr.add] using World.cell?_spot h0
    subst hs
    have hadd : (⟨b, o, none⟩ : Addr).add i = ⟨b, o + i, none⟩ := by unfold Addr.add; split <;> simp_all
    rw [hadd] at h1
    refine ⟨b, o, _, rfl, ?_, h1⟩
    unfold World.cell? at h1
    split at h1
    · rename_i hb2; exact (Array.getElem?_eq_some_iff.1 hb2).1
    · cases h1
end Go.Proofs.Ytdbhpiofbkhbeaa
