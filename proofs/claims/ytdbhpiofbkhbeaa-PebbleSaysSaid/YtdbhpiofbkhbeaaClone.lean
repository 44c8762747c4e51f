/- slices.Clone of edges; a slice of edges of the call's own, an element stored. -/
import Derived.Test.YtdbhpiofbkhbeaaRowE
import Derived.Deep.Upon
import Derived.Lib.Walk
namespace Go.Proofs.Ytdbhpiofbkhbeaa
open Go.RowKit
set_option linter.unusedSimpArgs false
set_option linter.unusedVariables false

theorem src27 {w : World} {A : Option Addr} {is : List (Int × Int)} (he : Edges w A is) {X : Addr} (hX : A = some X) : ∀ (j : Nat) (u : Value), (flat is)[j]? = some u → w.cell? (X.add j) = some u := by
  intro j u hu
  have hj : j < is.length * 2 := by rw [← flat_length]; exact (List.getElem?_eq_some_iff.1 hu).1
  obtain ⟨b, o, hA, hlt, h1, h2⟩ := he (j / 2) (by omega)
  obtain ⟨f1, f2⟩ := flat_get is (j / 2) (by omega)
  rw [hX] at hA
  cases hA
  have hadd : (⟨b, o, none⟩ : Addr).add j = ⟨b, o + j, none⟩ := by unfold Addr.add; split <;> simp_all
  rw [hadd]
  by_cases hp : j % 2 = 0
  · have e : j / 2 * 2 = j := by omega
    rw [e] at h1 f1
    rw [h1, ← f1, hu]
  · have e : j / 2 * 2 + 1 = j := by omega
    have e2 : o + j / 2 * 2 + 1 = o + j := by omega
    rw [e] at f2
    rw [e2] at h2
    rw [h2, ← f2, hu]

/-- append of no edges. -/
theorem wpList_append27_none (w : World) {ops : Array Oper} {rest : List Oper} {o : Oper} {a : Act} {Q : Exit → Act → World → Prop}
    (hgd : o.guard = none) (s x : Operand) (hop : o.op = .call { callee := .builtin .append, args := #[s, x], argTypes := #[27, 27] })
    (A : Option Addr) (len c : Nat) (hs : a.eval s = .slice A len c) (hle : len ≤ c) (X : Addr) (cx : Nat) (hx : a.eval x = .slice (some X) 0 cx)
    (hK : wpList Try.prog ops Q rest (a.put o.dst (.slice A len c)) w) :
    wpList Try.prog ops Q (o :: rest) a w := by
  refine wpList_plain hgd fun K' hK' => ?_
  obtain ⟨i0, hi0, hz0, hz1, hz2⟩ := info_parts info34
  have hrun := run_append_nothing (P := Try.prog) w 27 27 o.type 34 i0 Try.underlying27 hi0 A len c hle (.slice (some X) 0 cx)
    (.ofSlice w Try.underlying27 X 0 cx [] (by simp) (by simp) (by simp))
  unfold Oper.wp
  simp [execOp, hop, resolve, invoke, builtin, hs, hx, hrun, Result.andThen]
  exact hK' _ _ hK

set_option maxHeartbeats 1000000 in
theorem Clone_nil (cap : Nat) (is : List (Int × Int)) (w : World) (he : Edges w none is) :
    Calls Try.prog 10 #[.slice none is.length cap] w fun e w' => e = .returned (.slice none 0 0) ∧ is = [] ∧ w' = w := by
  have h0 : is = [] := by
    rcases is with _ | ⟨e, is⟩
    · rfl
    · obtain ⟨b, o, h, _⟩ := he 0 (by simp); cases h
  clear he
  subst h0
  have q27 : ∀ (w : World) (a : Option Addr) (n c n' c' : Nat), (binOp .eql 27 (.slice a n c) (.slice none n' c')).run Try.prog w = .ok (.bool a.isNone) w := fun w a n c n' c' => Lib.run_eql_slice_nil w _ _ a n c n' c' Try.underlying27
  go_enter Try.func10, Try.ntmps10
  go_wp2_with fail
  go_ret
  exact ⟨rfl, by simp⟩

set_option maxHeartbeats 1000000 in
theorem Clone_some (X : Addr) (cap : Nat) (is : List (Int × Int)) (w : World) (he : Edges w (some X) is) (hlen : is.length ≤ 1000) :
    Calls Try.prog 10 #[.slice (some X) is.length cap] w fun e w' => ∃ A' c', e = .returned (.slice A' is.length c') ∧ OwnsE w' w.heap.size A' c' is ∧ Below w.heap.size w w' := by
  have HE := Lib.hid he
  clear he
  generalize hl : is.length = len at *
  have HL := Lib.hid hl
  clear hl
  have q27 : ∀ (w : World) (a : Option Addr) (n c n' c' : Nat), (binOp .eql 27 (.slice a n c) (.slice none n' c')).run Try.prog w = .ok (.bool a.isNone) w := fun w a n c n' c' => Lib.run_eql_slice_nil w _ _ a n c n' c' Try.underlying27
  go_enter Try.func10, Try.ntmps10
  have hn0 : OwnsE (w.alloc (.cells #[] 34)) w.heap.size (some ⟨w.heap.size, 0, none⟩) 0 [] := .inr ⟨_, _, rfl, Nat.le_refl _, heap_alloc_new w _, by simp, by simp, rfl⟩
  have hb0 := belowAlloc (Below.refl w.heap.size w) (.cells #[] 34)
  have HX := Lib.hid (src27 (HE.out.below hb0) rfl)
  rcases Nat.eq_zero_or_pos len with h0 | h0
  · subst h0
    have hnil : is = [] := List.length_eq_zero_iff.1 HL.out
    go_wp2_with (at_builtin; refine wpList_append27_none _ rfl _ _ rfl _ 0 0 rfl (Nat.le_refl _) X _ rfl ?_)
    go_ret
    exact ⟨_, _, rfl, hnil ▸ hn0, hb0⟩
  · go_wp2_with (at_builtin; refine wpList_append27 _ rfl _ _ rfl w.heap.size _ 0 [] 0 rfl rfl hn0 X len _ is rfl HL.out h0 HX.out (by simp; omega) (by simp) ?_; intro A2 c2 w3 hown3 hg3 hA3)
    go_ret
    simp only [List.nil_append, Nat.zero_add] at hown3 ⊢
    exact ⟨_, _, rfl, hown3, hb0.grown hg3 (by simp) (fun k e => by cases e; exact Nat.le_refl _)⟩

/-- Two cells of one block stored. -/
theorem flat_set : ∀ (is : List (Int × Int)) (i : Nat) (x y : Int), flat (is.set i (x, y)) = ((flat is).set (i * 2) (.int .i64 x)).set (i * 2 + 1) (.int .i64 y)
  | [], i, x, y => by simp [flat]
  | e :: is, 0, x, y => by simp [flat]
  | e :: is, i + 1, x, y => by
    have ih := flat_set is i x y
    have e1 : (i + 1) * 2 = i * 2 + 1 + 1 := by omega
    simp only [flat, List.set_cons_succ, List.flatMap_cons, e1] at ih ⊢
    rw [ih]
    simp

theorem set_two {w : World} {b i : Nat} {cur : Array Value} {t : TypeId} (u v : Value) (h : w.heap[b]? = some (.cells cur t (0, 0))) :
    ((w.setCell ⟨b, i, none⟩ u).setCell ⟨b, i + 1, none⟩ v).heap[b]? = some (.cells ((cur.setIfInBounds i u).setIfInBounds (i + 1) v) t (0, 0)) := by
  simp [World.setCell, Array.getElem?_modify, h]

theorem OwnsE.set {w : World} {base b c : Nat} {is : List (Int × Int)} (h : OwnsE w base (some ⟨b, 0, none⟩) c is) (i : Nat) (x y : Int) :
    OwnsE ((w.setCell ⟨b, i * 2, none⟩ (.int .i64 x)).setCell ⟨b, i * 2 + 1, none⟩ (.int .i64 y)) base (some ⟨b, 0, none⟩) c (is.set i (x, y)) := by
  rcases h with ⟨h, _⟩ | ⟨b', cur, he, hb, hh, h1, h2, h3⟩
  · cases h
  · cases he
    refine .inr ⟨b, _, rfl, hb, set_two _ _ hh, by simpa using h1, by simpa using h2, ?_⟩
    rw [List.length_set, flat_set, ← h3]
    simp [Array.toList_setIfInBounds, List.take_set]

theorem OwnsE.frozen {w : World} {base b c : Nat} {is : List (Int × Int)} (h : OwnsE w base (some ⟨b, 0, none⟩) c is) (i : Nat) : w.frozen? ⟨b, i, none⟩ = false := by
  rcases h with ⟨h, _⟩ | ⟨b', cur, he, hb, hh, h1, h2, h3⟩
  · cases h
  · cases he
    simp [World.frozen?, hh]
end Go.Proofs.Ytdbhpiofbkhbeaa
