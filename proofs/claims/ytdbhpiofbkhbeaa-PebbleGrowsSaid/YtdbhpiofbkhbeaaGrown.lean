/- What 'rafterlaw.PebbleGrows' keeps from round to round, and what its second step makes of it. Plain laws, no walk. -/
import Derived.Test.YtdbhpiofbkhbeaaStep
import Derived.Test.YtdbhpiofbkhbeaaPick
import Derived.Deep.RegionHeld3
namespace Go.Proofs.Ytdbhpiofbkhbeaa
open Go.RowKit
set_option linter.unusedSimpArgs false
set_option linter.unusedVariables false

/-- Fours of ints. -/
def Fours (w : World) (B : Option Addr) (m : Nat) : Prop := ∀ i, i < m → ∃ b o, B = some ⟨b, o, none⟩ ∧ b < w.heap.size ∧ ∀ j, j < 4 → ∃ z : Int, w.cell? ⟨b, o + i * 4 + j, none⟩ = some (.int .i64 z) ∧ (Lit.int .i64 z).wf = true

structure Grown (w : World) (n : Nat) (A : Option Addr) (c : Nat) (es : Es) (wr : World) : Prop where
  lo : 2 ≤ n
  hi : n ≤ 10
  len : es.length + 3 = 2 * n
  good : Good n es
  sparse : Sparse n es
  own : OwnsE wr w.heap.size A c (toI es)
  below : Below w.heap.size w wr

/-- The cells of what follows an edge. -/
theorem src_drop {w : World} {b k c : Nat} {X : Addr} {is : List (Int × Int)} (he : Edges w (some ⟨b, 0, none⟩) is) (hk : k + 1 ≤ is.length) (hc : is.length ≤ c)
    (hX : (if c = k + 1 then some (⟨b, 0, none⟩ : Addr) else some ⟨b, (k + 1) * 2, none⟩) = some X) : ∀ (j : Nat) (u : Value), (flat (is.drop (k + 1)))[j]? = some u → w.cell? (X.add j) = some u := by
  intro j u hu
  by_cases h : c = k + 1
  · rw [List.drop_eq_nil_of_le (by omega)] at hu
    simp [flat] at hu
  · rw [if_neg h] at hX
    cases hX
    have h1 := src27 he rfl ((k + 1) * 2 + j) u (by
      conv => lhs; rw [← List.take_append_drop (k + 1) is, flat_append]
      have e : (flat (is.take (k + 1))).length = (k + 1) * 2 := by rw [flat_length, List.length_take]; omega
      rw [List.getElem?_append_right (by omega), e, Nat.add_sub_cancel_left]
      exact hu)
    rw [← h1]
    congr 1
    unfold Addr.add
    split <;> split <;> simp_all

/-- How far from a point that is no end of the edge. -/
def hop (n x y a : Nat) : Nat := if a ≠ x ∧ a ≠ y then 0 else if (a + 1) % n ≠ x ∧ (a + 1) % n ≠ y then 1 else 2
theorem succ_mod {n a : Nat} (h : a < n) : (a + 1) % n = if a + 1 = n then 0 else a + 1 := by
  split
  · rename_i e; rw [e, Nat.mod_self]
  · exact Nat.mod_eq_of_lt (by omega)
theorem hop_lt {n x y a : Nat} (hn : 3 ≤ n) (hx : x < n) (hy : y < n) (hxy : x ≠ y) (ha : a < n) (h : a = x ∨ a = y) : hop n x y ((a + 1) % n) < hop n x y a := by
  have h1 := succ_mod ha
  have h2 : (a + 1) % n < n := Nat.mod_lt _ (by omega)
  have h3 := succ_mod h2
  unfold hop
  generalize (a + 1) % n = b at *
  generalize (b + 1) % n = d at *
  split at h1 <;> split at h3 <;> (repeat' split) <;> omega

theorem Grown.alloc {w wr : World} {n c : Nat} {A : Option Addr} {es : Es} (h : Grown w n A c es wr) (o : Obj) : Grown w n A c es (wr.alloc o) :=
  ⟨h.lo, h.hi, h.len, h.good, h.sparse, h.own.alloc o, belowAlloc h.below o⟩

theorem Grown.drewN {w wr : World} {n c : Nat} {A : Option Addr} {es : Es} (h : Grown w n A c es wr) (k : Nat) : Grown w n A c es (wr.drewN k) :=
  ⟨h.lo, h.hi, h.len, h.good, h.sparse, h.own.keep (fun _ _ => rfl), h.below.trans ⟨rfl, rfl, rfl, Nat.le_refl _, fun _ _ => rfl⟩⟩


theorem Grown.drew {w wr : World} {n c : Nat} {A : Option Addr} {es : Es} (h : Grown w n A c es wr) : Grown w n A c es wr.drew :=
  ⟨h.lo, h.hi, h.len, h.good, h.sparse, h.own.keep (fun _ _ => rfl), h.below.trans ⟨rfl, rfl, rfl, Nat.le_refl _, fun _ _ => rfl⟩⟩

theorem addr_add (b j : Nat) : (⟨b, 0, none⟩ : Addr).add j = ⟨b, j, none⟩ := by unfold Addr.add; split <;> simp_all

/-- What was just laid lies there still behind an append elsewhere. -/
theorem news27_kept {w w' : World} {js : List (Int × Int)} {cs : Array Value} {row : Option Nat} (h : cs = (flat js).toArray) (hg : (w.alloc (.cells cs 34)).grownBy w' row) (hne : some w.heap.size ≠ row) :
    ∀ (j : Nat) (u : Value), (flat js)[j]? = some u → w'.cell? ((⟨w.heap.size, 0, none⟩ : Addr).add j) = some u := by
  intro j u hu
  have := news27 w js cs h j u hu
  rw [addr_add] at this ⊢
  exact hg.cell this hne

theorem grown_step2 {w wr w9 : World} {n c k x y a c9 b : Nat} {A A9 : Option Addr} {es : Es} (h : Grown w n A c es wr) (hk : k < es.length) (hxy : es[k] = (x, y)) (ha : a < n) (hax : a ≠ x) (hay : a ≠ y) (hn : n ≤ 9)
    (hown : OwnsE w9 w.heap.size A9 c9 ((toI es).take k ++ (toI es).drop (k + 1) ++ [((x : Int), (n : Int)), ((n : Int), (y : Int)), ((a : Int), (n : Int))])) (hb : Below w.heap.size w w9) :
    ∃ es' : Es, es'.length = es.length + 2 ∧ Grown w (n + 1) A9 c9 es' w9 := by
  have e0 : es = es.take k ++ (x, y) :: es.drop (k + 1) := by
    conv => lhs; rw [← List.take_append_drop k es, List.drop_eq_getElem_cons hk, hxy]
  have hg := h.good
  have hs := h.sparse
  rw [e0] at hg hs
  have hl : (es.take k ++ es.drop (k + 1) ++ [(x, n), (n, y), (a, n)]).length = es.length + 2 := by
    simp only [List.length_append, List.length_take, List.length_drop, List.length_cons, List.length_nil]; omega
  have hlen := h.len
  have hlo := h.lo
  refine ⟨es.take k ++ es.drop (k + 1) ++ [(x, n), (n, y), (a, n)], hl, by omega, by omega, by omega, good_step2 hg ha, sparse_step2 hs hg ha hax hay, ?_, hb⟩
  have e1 : toI (es.take k ++ es.drop (k + 1) ++ [(x, n), (n, y), (a, n)]) = (toI es).take k ++ (toI es).drop (k + 1) ++ [((x : Int), (n : Int)), ((n : Int), (y : Int)), ((a : Int), (n : Int))] := by
    unfold toI
    rw [List.map_append, List.map_append, List.map_take, List.map_drop]
    rfl
  rw [e1]
  exact hown
end Go.Proofs.Ytdbhpiofbkhbeaa
