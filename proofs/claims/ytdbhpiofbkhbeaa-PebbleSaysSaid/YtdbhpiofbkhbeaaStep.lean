/- append of edges (none, or some) as a step of a drawn region; a slice of edges cut. -/
import Derived.Test.YtdbhpiofbkhbeaaClone
namespace Go.Proofs.Ytdbhpiofbkhbeaa
open Go.RowKit
set_option linter.unusedSimpArgs false
set_option linter.unusedVariables false

theorem OwnsE.cut {w : World} {base c : Nat} {A : Option Addr} {is : List (Int × Int)} (h : OwnsE w base A c is) (k : Nat) (hk : k ≤ is.length) : OwnsE w base A k (is.take k) := by
  rcases h with ⟨rfl, _, rfl⟩ | ⟨b, cur, rfl, hb, hh, h1, h2, h3⟩
  · have : k = 0 := by simpa using hk
    subst this
    exact .inl ⟨rfl, rfl, by simp⟩
  · refine .inr ⟨b, cur, rfl, hb, hh, by simp; omega, by omega, ?_⟩
    have e : (is.take k).length = k := by simp; omega
    rw [e]
    have h4 := congrArg (List.take (k * 2)) h3
    rw [List.take_take, Nat.min_eq_left (by omega)] at h4
    rw [h4]
    conv => lhs; rw [← List.take_append_drop k is, flat_append]
    exact List.take_left' (by rw [flat_length, e])

theorem run_append27_any {w : World} {base c : Nat} {A : Option Addr} {is : List (Int × Int)} (ty : TypeId) (h : OwnsE w base A c is) {X : Addr} {m cx : Nat} {js : List (Int × Int)} (hm : js.length = m)
    (hX : ∀ (j : Nat) (u : Value), (flat js)[j]? = some u → w.cell? (X.add j) = some u) (hlen : (is.length + m) * 16 ≤ 140737488355328) (hb : base ≤ w.heap.size) :
    ∃ A' c' w', (Builtin.append_ #[27, 27] ty #[.slice A is.length c, .slice (some X) m cx]).run Try.prog w = .ok (.slice A' (is ++ js).length c') w' ∧ OwnsE w' base A' c' (is ++ js) ∧ w.grownBy w' (blk A) ∧
      (A' = A ∨ A' = some ⟨w.heap.size, 0, none⟩) := by
  rcases Nat.eq_zero_or_pos m with h0 | h0
  · subst h0
    have hj : js = [] := List.length_eq_zero_iff.1 hm
    subst hj
    obtain ⟨i0, hi0, hz0, hz1, hz2⟩ := info_parts info34
    have hrun := run_append_nothing (P := Try.prog) w 27 27 ty 34 i0 Try.underlying27 hi0 A is.length c h.len (.slice (some X) 0 cx)
      (.ofSlice w Try.underlying27 X 0 cx [] (by simp) (by simp) (by simp))
    exact ⟨A, c, w, by simpa using hrun, by simpa using h, ⟨rfl, rfl, rfl, Nat.le_refl _, fun _ _ _ => rfl⟩, .inl rfl⟩
  · obtain ⟨A', c', w', h1, h2, h3, h4⟩ := run_append27 (cx := cx) ty h hm h0 hX hlen hb
    exact ⟨A', c', w', h1, h2, h3, h4.imp (·.1) (·.1)⟩

theorem step_append27 {ops : Array Oper} {o : Oper} {a : Act} {w : World} {K : Act → World → Prop} {Q : Exit → Act → World → Prop} {E : Prop}
    (hg : o.guard = none) (s x : Operand) (hop : o.op = Op.call { callee := Callee.builtin Builtin.append, args := #[s, x], argTypes := #[27, 27] })
    (base : Nat) (A : Option Addr) (c : Nat) (is : List (Int × Int)) (len : Nat) (hs : a.eval s = .slice A len c) (hl : is.length = len) (h : OwnsE w base A c is)
    (X : Addr) (m cx : Nat) (js : List (Int × Int)) (hx : a.eval x = .slice (some X) m cx) (hm : js.length = m)
    (hX : ∀ (j : Nat) (u : Value), (flat js)[j]? = some u → w.cell? (X.add j) = some u) (hlen : (is.length + m) * 16 ≤ 140737488355328) (hb : base ≤ w.heap.size)
    (hK : ∀ A' c' w', OwnsE w' base A' c' (is ++ js) → w.grownBy w' (blk A) → (A' = A ∨ A' = some ⟨w.heap.size, 0, none⟩) → K (a.put o.dst (.slice A' (len + m) c')) w') :
    if Region.wanted o (yielded ops a.tmps) = true then Oper.wp Try.prog o a w K Q else E := by
  have hw : Region.wanted o (yielded ops a.tmps) = true := by simp [Region.wanted, hg]
  rw [if_pos hw]
  subst hl
  obtain ⟨A', c', w', hrun, h1, h2, h3⟩ := run_append27_any (cx := cx) o.type h hm hX hlen hb
  unfold Oper.wp
  simp [execOp, hop, resolve, invoke, builtin, hs, hx, hrun, Result.andThen]
  have := hK A' c' w' h1 h2 h3
  rw [← hm] at this
  exact this
end Go.Proofs.Ytdbhpiofbkhbeaa
