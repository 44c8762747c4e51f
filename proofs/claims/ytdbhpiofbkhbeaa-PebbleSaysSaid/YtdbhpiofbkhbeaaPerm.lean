/- The order of the edges hangs on nothing: plain laws for 'PebbleTurns'. -/
import Derived.Test.YtdbhpiofbkhbeaaTop
namespace Go.Proofs.Ytdbhpiofbkhbeaa
set_option linter.unusedSimpArgs false
set_option linter.unusedVariables false

theorem scanE_iff (n : Int) : ∀ (is seen : List (Int × Int)) (i : Nat), scanE n seen i is = (0, 0) ↔ (∀ e ∈ is, badEdge n e = false) ∧ (∀ e ∈ is, norm e ∉ seen) ∧ (is.map norm).Nodup
  | [], _, _ => by simp [scanE]
  | e :: is, seen, i => by
    unfold scanE
    by_cases h1 : badEdge n e = true
    · rw [if_pos h1]; simp [h1]
    · rw [if_neg h1]
      by_cases h2 : norm e ∈ seen
      · rw [if_pos h2]; simp [h2]
      · rw [if_neg h2, scanE_iff n is]
        simp only [Bool.not_eq_true] at h1
        simp only [List.mem_cons, forall_eq_or_imp, h1, h2, not_false_eq_true, true_and, List.map_cons, List.nodup_cons, List.mem_append, List.mem_singleton, not_or, List.mem_map, not_exists, not_and]
        constructor
        · rintro ⟨a, b, c⟩
          exact ⟨a, fun x hx => (b x hx).1, fun x hx => (b x hx).2.1, c⟩
        · rintro ⟨a, b, c, d⟩
          exact ⟨a, fun x hx => ⟨b x hx, c x hx, by simp⟩, d⟩

theorem checkE_iff (n : Int) (is : List (Int × Int)) : checkE n is = (0, 0) ↔ 1 ≤ n ∧ n ≤ 10 ∧ is.length ≤ 45 ∧ (∀ e ∈ is, badEdge n e = false) ∧ (is.map norm).Nodup := by
  unfold checkE
  by_cases h : n < 1 ∨ 10 < n ∨ 45 < is.length
  · rw [if_pos h]
    constructor
    · intro h'; cases h'
    · rintro ⟨a, b, c, _⟩; omega
  · rw [if_neg h, scanE_iff]
    constructor
    · rintro ⟨a, _, c⟩; exact ⟨by omega, by omega, by omega, a, c⟩
    · rintro ⟨_, _, _, a, c⟩; exact ⟨a, by simp, c⟩

theorem checkE_perm {n : Int} {is js : List (Int × Int)} (hp : js.Perm is) (h : checkE n is = (0, 0)) : checkE n js = (0, 0) := by
  rw [checkE_iff] at h ⊢
  obtain ⟨a, b, c, d, e⟩ := h
  exact ⟨a, b, by rw [hp.length_eq]; exact c, fun x hx => d x (hp.mem_iff.1 hx), ((hp.map norm).nodup_iff).2 e⟩

theorem toN_perm {is js : List (Int × Int)} (hp : js.Perm is) : (toN js).Perm (toN is) := hp.map _

theorem frees_perm {n : Int} {is js : List (Int × Int)} (hp : js.Perm is) (h : checkE n is = (0, 0)) : many (frees n is (-1)) = many (frees n js (-1)) :=
  greedy_perm n.toNat (toN is) (toN js) (check_ok h).2.2.2.2 (toN_perm hp.symm)

theorem keptBy_snoc : ∀ (bs : List Bool) (es : Es) (b : Bool) (e : Nat × Nat), bs.length = es.length → keptBy (bs ++ [b]) (es ++ [e]) = keptBy bs es ++ (if b then [e] else [])
  | [], [], b, e, _ => by cases b <;> rfl
  | true :: bs, x :: es, b, e, h => by simp [keptBy, keptBy_snoc bs es b e (by simpa using h)]
  | false :: bs, x :: es, b, e, h => by simp [keptBy, keptBy_snoc bs es b e (by simpa using h)]

theorem keptBy_take (bs : List Bool) (es : Es) (h : bs.length = es.length) (j : Nat) (hj : j < es.length) :
    keptBy (bs.take (j + 1)) (es.take (j + 1)) = keptBy (bs.take j) (es.take j) ++ (if bs.getD j false then [es[j]] else []) := by
  have hj' : j < bs.length := by omega
  rw [List.take_succ_eq_append_getElem hj', List.take_succ_eq_append_getElem hj, keptBy_snoc _ _ _ _ (by simp; omega)]
  simp [List.getD, List.getElem?_eq_getElem hj']

theorem keptBy_length : ∀ (bs : List Bool) (es : Es), (keptBy bs es).length ≤ es.length
  | [], _ => by simp [keptBy]
  | _ :: _, [] => by simp [keptBy]
  | true :: bs, e :: es => by have := keptBy_length bs es; simp [keptBy]; exact this
  | false :: bs, e :: es => by have := keptBy_length bs es; simp [keptBy]; omega

theorem keptBy_sub : ∀ (bs : List Bool) (es : Es), ∀ x ∈ keptBy bs es, x ∈ es
  | [], _ => by simp [keptBy]
  | _ :: _, [] => by simp [keptBy]
  | true :: bs, e :: es => by
    intro x hx
    simp only [keptBy, List.mem_cons] at hx ⊢
    exact hx.imp_right (keptBy_sub bs es x)
  | false :: bs, e :: es => by
    intro x hx
    simp only [keptBy] at hx
    exact List.mem_cons_of_mem _ (keptBy_sub bs es x hx)

/-- A swap. -/
theorem swap_perm (is : List (Int × Int)) (i j : Nat) (hi : i < is.length) (hj : j < is.length) : ((is.set i is[j]).set j is[i]).Perm is := List.set_set_perm hi hj
end Go.Proofs.Ytdbhpiofbkhbeaa
