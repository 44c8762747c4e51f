/- Plain mathematics of graphs that are stiff: counts, sparse lists of edges, tight sets. No program. -/
namespace Go.Proofs.Ytdbhpiofbkhbeaa
set_option linter.unusedSimpArgs false
set_option linter.unusedVariables false

/-- A list of edges; a set of points. -/
abbrev Es := List (Nat × Nat)

def size (S : Nat → Bool) : Nat → Nat
  | 0 => 0
  | n + 1 => size S n + (S n).toNat

/-- How many edges join two of the set. -/
def cnt (S : Nat → Bool) (es : Es) : Nat := (es.filter fun e => S e.1 && S e.2).length

/-- No set of two or more points has too many edges. -/
def Sparse (n : Nat) (es : Es) : Prop := ∀ S : Nat → Bool, 2 ≤ size S n → cnt S es + 3 ≤ 2 * size S n

/-- Every end is a point, and no edge is a loop. -/
def Good (n : Nat) (es : Es) : Prop := ∀ e ∈ es, e.1 < n ∧ e.2 < n ∧ e.1 ≠ e.2

theorem cnt_nil (S : Nat → Bool) : cnt S [] = 0 := rfl
theorem cnt_cons (S : Nat → Bool) (e : Nat × Nat) (es : Es) : cnt S (e :: es) = cnt S es + (S e.1 && S e.2).toNat := by
  unfold cnt
  cases h : (S e.1 && S e.2) <;> simp [List.filter_cons, h]
theorem cnt_append (S : Nat → Bool) (a b : Es) : cnt S (a ++ b) = cnt S a + cnt S b := by
  unfold cnt; simp
theorem cnt_snoc (S : Nat → Bool) (es : Es) (e : Nat × Nat) : cnt S (es ++ [e]) = cnt S es + (S e.1 && S e.2).toNat := by
  rw [cnt_append, cnt_cons, cnt_nil]; omega
theorem cnt_perm (S : Nat → Bool) {a b : Es} (h : a.Perm b) : cnt S a = cnt S b := by
  unfold cnt; exact (h.filter _).length_eq
theorem cnt_le (S : Nat → Bool) (es : Es) : cnt S es ≤ es.length := List.length_filter_le _ _

def union (S T : Nat → Bool) : Nat → Bool := fun x => S x || T x
def inter (S T : Nat → Bool) : Nat → Bool := fun x => S x && T x

theorem size_union (S T : Nat → Bool) (n : Nat) : size (union S T) n + size (inter S T) n = size S n + size T n := by
  induction n with
  | zero => rfl
  | succ n ih =>
    simp only [size, union, inter] at *
    cases S n <;> cases T n <;> simp <;> omega

theorem cnt_union (S T : Nat → Bool) (es : Es) : cnt S es + cnt T es ≤ cnt (union S T) es + cnt (inter S T) es := by
  induction es with
  | nil => simp [cnt_nil]
  | cons e es ih =>
    simp only [cnt_cons, union, inter]
    cases S e.1 <;> cases S e.2 <;> cases T e.1 <;> cases T e.2 <;> simp [union, inter] at * <;> omega

theorem size_mono {S T : Nat → Bool} (h : ∀ x, S x = true → T x = true) (n : Nat) : size S n ≤ size T n := by
  induction n with
  | zero => exact Nat.le_refl _
  | succ n ih =>
    simp only [size]
    have := h n
    cases hS : S n <;> cases hT : T n <;> simp_all <;> omega

theorem size_one {S : Nat → Bool} {a : Nat} : ∀ {n : Nat}, a < n → S a = true → 1 ≤ size S n
  | 0, h, _ => absurd h (by omega)
  | n + 1, h, hs => by
    simp only [size]
    by_cases e : a = n
    · subst e; simp [hs]
    · have := size_one (S := S) (a := a) (n := n) (by omega) hs
      omega
theorem size_two {S : Nat → Bool} {a b : Nat} (hne : a ≠ b) : ∀ {n : Nat}, a < n → b < n → S a = true → S b = true → 2 ≤ size S n
  | 0, h, _, _, _ => absurd h (by omega)
  | n + 1, ha, hb, hsa, hsb => by
    simp only [size]
    by_cases e : a = n
    · subst e
      have := size_one (S := S) (a := b) (n := a) (by omega) hsb
      simp [hsa]; omega
    · by_cases e' : b = n
      · subst e'
        have := size_one (S := S) (a := a) (n := b) (by omega) hsa
        simp [hsb]; omega
      · have := size_two hne (n := n) (by omega) (by omega) hsa hsb
        omega

theorem Sparse.nil (n : Nat) : Sparse n [] := fun S h => by rw [cnt_nil]; omega

theorem Sparse.of_append {n : Nat} {a b : Es} (h : Sparse n (a ++ b)) : Sparse n a := fun S hS => by
  have := h S hS
  rw [cnt_append] at this
  omega

theorem Sparse.perm {n : Nat} {a b : Es} (h : Sparse n a) (hp : a.Perm b) : Sparse n b := fun S hS => by rw [← cnt_perm S hp]; exact h S hS

/-- The greedy rule: of each edge whether it is kept; 'skip' are those that aren't asked. -/
noncomputable def greedy (n : Nat) (without : Int) : Nat → Es → Es → List Bool
  | _, _, [] => []
  | i, kept, e :: es =>
    haveI := Classical.propDecidable (Sparse n (kept ++ [e]))
    if (i : Int) = without then false :: greedy n without (i + 1) kept es
    else if Sparse n (kept ++ [e]) then true :: greedy n without (i + 1) (kept ++ [e]) es
    else false :: greedy n without (i + 1) kept es

/-- The edges that a list of answers keeps. -/
def keptBy : List Bool → Es → Es
  | true :: bs, e :: es => e :: keptBy bs es
  | false :: bs, _ :: es => keptBy bs es
  | _, _ => []

theorem greedy_length (n : Nat) (wo : Int) : ∀ (es kept : Es) (i : Nat), (greedy n wo i kept es).length = es.length
  | [], _, _ => rfl
  | e :: es, kept, i => by
    unfold greedy
    split
    · simp [greedy_length n wo es]
    · split <;> simp [greedy_length n wo es]

/-- How many are true. -/
def many (l : List Bool) : Nat := (l.filter id).length
theorem many_nil : many [] = 0 := rfl
theorem many_cons (b : Bool) (l : List Bool) : many (b :: l) = many l + b.toNat := by cases b <;> simp [many]
theorem many_append (a b : List Bool) : many (a ++ b) = many a + many b := by simp [many]
theorem many_le (l : List Bool) : many l ≤ l.length := List.length_filter_le _ _

theorem many_kept : ∀ (bs : List Bool) (es : Es), bs.length = es.length → (keptBy bs es).length = many bs
  | [], [], _ => rfl
  | true :: bs, e :: es, h => by simp [keptBy, many_cons, many_kept bs es (by simpa using h)]
  | false :: bs, e :: es, h => by simp [keptBy, many_cons, many_kept bs es (by simpa using h)]

/-- A set that is full of edges. -/
def Tight (n : Nat) (es : Es) (S : Nat → Bool) : Prop := 2 ≤ size S n ∧ 2 * size S n ≤ cnt S es + 3

theorem tight_union {n : Nat} {es : Es} {S T : Nat → Bool} (hs : Sparse n es) (h : Tight n es S) (k : Tight n es T) (hi : 2 ≤ size (inter S T) n) : Tight n es (union S T) := by
  have h1 := size_union S T n
  have h2 := cnt_union S T es
  have h3 := hs _ hi
  have h4 := size_mono (S := S) (T := union S T) (fun x hx => by simp [union, hx]) n
  exact ⟨Nat.le_trans h.1 h4, by have := h.2; have := k.2; omega⟩

/-- What is kept is sparse; each edge that is asked and not kept lies in a tight set of what is kept. -/
theorem greedy_spec (n : Nat) (wo : Int) : ∀ (es kept : Es) (i : Nat), Sparse n kept →
    Sparse n (kept ++ keptBy (greedy n wo i kept es) es) ∧
      ∀ k (h : k < es.length), ((i + k : Nat) : Int) ≠ wo → (greedy n wo i kept es)[k]? = some false → ∃ S, S (es[k].1) = true ∧ S (es[k].2) = true ∧ Tight n (kept ++ keptBy (greedy n wo i kept es) es) S
  | [], kept, i, hk => by simpa [keptBy, greedy] using hk
  | e :: es, kept, i, hk => by
    unfold greedy
    by_cases h1 : (i : Int) = wo
    · simp only [if_pos h1, keptBy]
      obtain ⟨g1, g2⟩ := greedy_spec n wo es kept (i + 1) hk
      refine ⟨g1, fun k hkl hne hf => ?_⟩
      cases k with
      | zero => exact absurd h1 (by simpa using hne)
      | succ k => exact g2 k (by simpa using hkl) (by rw [show i + 1 + k = i + (k + 1) from by omega]; exact hne) (by simpa using hf)
    · simp only [if_neg h1]
      by_cases h2 : Sparse n (kept ++ [e])
      · simp only [if_pos h2, keptBy]
        obtain ⟨g1, g2⟩ := greedy_spec n wo es (kept ++ [e]) (i + 1) h2
        have ha : kept ++ [e] ++ keptBy (greedy n wo (i + 1) (kept ++ [e]) es) es = kept ++ e :: keptBy (greedy n wo (i + 1) (kept ++ [e]) es) es := by simp
        rw [ha] at g1 g2
        refine ⟨g1, fun k hkl hne hf => ?_⟩
        cases k with
        | zero => simp at hf
        | succ k => exact g2 k (by simpa using hkl) (by rw [show i + 1 + k = i + (k + 1) from by omega]; exact hne) (by simpa using hf)
      · simp only [if_neg h2, keptBy]
        obtain ⟨g1, g2⟩ := greedy_spec n wo es kept (i + 1) hk
        refine ⟨g1, fun k hkl hne hf => ?_⟩
        cases k with
        | zero =>
          have h3 : ∃ S : Nat → Bool, 2 ≤ size S n ∧ ¬ (cnt S (kept ++ [e]) + 3 ≤ 2 * size S n) := by
            refine Classical.byContradiction fun hc => h2 fun S hS => ?_
            refine Classical.byContradiction fun hc' => hc ⟨S, hS, hc'⟩
          obtain ⟨S, hS, hbad⟩ := h3
          have hsp := hk S hS
          rw [cnt_snoc] at hbad
          have hin : (S e.1 && S e.2) = true := by
            cases hh : (S e.1 && S e.2)
            · rw [hh] at hbad; simp at hbad; omega
            · rfl
          rw [hin] at hbad
          simp only [Bool.toNat_true] at hbad
          have hin' : S e.1 = true ∧ S e.2 = true := by simpa using hin
          refine ⟨S, by simpa using hin'.1, by simpa using hin'.2, hS, ?_⟩
          rw [cnt_append]
          omega
        | succ k => exact g2 k (by simpa using hkl) (by rw [show i + 1 + k = i + (k + 1) from by omega]; exact hne) (by simpa using hf)

/-! ### Families of tight sets that meet in one point at most -/

theorem tight_insert (n : Nat) (es : Es) (hs : Sparse n es) : ∀ (k : Nat) (F : List (Nat → Bool)) (S : Nat → Bool), F.length = k → F.Pairwise (fun S T => size (inter S T) n ≤ 1) → (∀ T ∈ F, Tight n es T) → Tight n es S →
    ∃ F' : List (Nat → Bool), F'.Pairwise (fun S T => size (inter S T) n ≤ 1) ∧ (∀ T ∈ F', Tight n es T) ∧ (∀ T ∈ F, ∃ T' ∈ F', ∀ x, T x = true → T' x = true) ∧ ∃ T' ∈ F', ∀ x, S x = true → T' x = true := by
  intro k
  induction k with
  | zero =>
    intro F S hk hp hF hS
    have : F = [] := List.eq_nil_of_length_eq_zero hk
    subst this
    exact ⟨[S], by simp, by simpa using hS, by simp, S, by simp, fun _ h => h⟩
  | succ k ih =>
    intro F S hk hp hF hS
    by_cases hc : ∃ T ∈ F, 2 ≤ size (inter S T) n
    · obtain ⟨T, hT, h2⟩ := hc
      obtain ⟨A, B, rfl⟩ := List.append_of_mem hT
      have hsub : (A ++ B).Sublist (A ++ T :: B) := by simp
      obtain ⟨F', p1, p2, p3, T', p4, p5⟩ := ih (A ++ B) (union S T) (by simp at hk ⊢; omega) (hp.sublist hsub) (fun U hU => hF U (hsub.mem hU)) (tight_union hs hS (hF T hT) h2)
      refine ⟨F', p1, p2, fun U hU => ?_, T', p4, fun x hx => p5 x (by simp [union, hx])⟩
      have : U ∈ A ++ B ∨ U = T := by
        simp only [List.mem_append, List.mem_cons] at hU ⊢
        rcases hU with h | h | h
        · exact .inl (.inl h)
        · exact .inr h
        · exact .inl (.inr h)
      rcases this with h | rfl
      · exact p3 U h
      · exact ⟨T', p4, fun x hx => p5 x (by simp [union, hx])⟩
    · refine ⟨S :: F, List.pairwise_cons.2 ⟨fun T hT => ?_, hp⟩, fun T hT => ?_, fun T hT => ⟨T, List.mem_cons_of_mem _ hT, fun _ h => h⟩, S, List.mem_cons_self, fun _ h => h⟩
      · have : ¬ 2 ≤ size (inter S T) n := fun h => hc ⟨T, hT, h⟩
        omega
      · rcases List.mem_cons.1 hT with rfl | h
        · exact hS
        · exact hF T h

/-- Edges that each lie in a tight set lie in a family of them, any two of which share one point at most. -/
theorem tight_family (n : Nat) (es : Es) (hs : Sparse n es) : ∀ (L : Es), (∀ e ∈ L, ∃ S, S e.1 = true ∧ S e.2 = true ∧ Tight n es S) →
    ∃ F : List (Nat → Bool), F.Pairwise (fun S T => size (inter S T) n ≤ 1) ∧ (∀ T ∈ F, Tight n es T) ∧ ∀ e ∈ L, ∃ T ∈ F, T e.1 = true ∧ T e.2 = true
  | [], _ => ⟨[], by simp, by simp, by simp⟩
  | e :: L, h => by
    obtain ⟨F, h1, h2, h3⟩ := tight_family n es hs L fun x hx => h x (List.mem_cons_of_mem _ hx)
    obtain ⟨S, hS1, hS2, hS⟩ := h e List.mem_cons_self
    obtain ⟨F', p1, p2, p3, T', p4, p5⟩ := tight_insert n es hs F.length F S rfl h1 h2 hS
    refine ⟨F', p1, p2, fun x hx => ?_⟩
    rcases List.mem_cons.1 hx with rfl | hx
    · exact ⟨T', p4, p5 _ hS1, p5 _ hS2⟩
    · obtain ⟨T, hT, a, b⟩ := h3 x hx
      obtain ⟨T2, hT2, hsub⟩ := p3 T hT
      exact ⟨T2, hT2, hsub _ a, hsub _ b⟩

theorem once (n : Nat) (e : Nat × Nat) (he : e.1 < n ∧ e.2 < n ∧ e.1 ≠ e.2) : ∀ F : List (Nat → Bool), F.Pairwise (fun S T => size (inter S T) n ≤ 1) → (F.map fun S => (S e.1 && S e.2).toNat).sum ≤ 1
  | [], _ => by simp
  | S :: F, h => by
    obtain ⟨h1, h2⟩ := List.pairwise_cons.1 h
    have ih := once n e he F h2
    simp only [List.map_cons, List.sum_cons]
    cases hS : (S e.1 && S e.2)
    · simpa using ih
    · have hz : (F.map fun T => (T e.1 && T e.2).toNat).sum = 0 := by
        have : ∀ G : List (Nat → Bool), (∀ T ∈ G, size (inter S T) n ≤ 1) → (G.map fun T => (T e.1 && T e.2).toNat).sum = 0 := by
          intro G
          induction G with
          | nil => simp
          | cons T G ihG =>
            intro hG
            have hT := hG T List.mem_cons_self
            simp only [List.map_cons, List.sum_cons]
            rw [ihG fun U hU => hG U (List.mem_cons_of_mem _ hU)]
            cases hTe : (T e.1 && T e.2)
            · simp
            · simp at hS hTe
              have := size_two (S := inter S T) he.2.2 he.1 he.2.1 (by simp [inter, hS, hTe]) (by simp [inter, hS, hTe])
              omega
        exact this F h1
      simp [hz]

theorem sum_add (F : List (Nat → Bool)) (f g : (Nat → Bool) → Nat) : (F.map fun S => f S + g S).sum = (F.map f).sum + (F.map g).sum := by
  induction F with
  | nil => rfl
  | cons S F ih => simp only [List.map_cons, List.sum_cons, ih]; omega

theorem sum_cnt_le (n : Nat) (F : List (Nat → Bool)) (hp : F.Pairwise (fun S T => size (inter S T) n ≤ 1)) : ∀ es : Es, Good n es → (F.map fun S => cnt S es).sum ≤ es.length
  | [], _ => by
    have : (F.map fun S => cnt S []).sum = 0 := by
      induction F with
      | nil => rfl
      | cons S F ih =>
        have := ih (List.pairwise_cons.1 hp).2
        simp only [List.map_cons, List.sum_cons]
        rw [this, cnt_nil]
    omega
  | e :: es, hg => by
    have ih := sum_cnt_le n F hp es fun x hx => hg x (List.mem_cons_of_mem _ hx)
    have h1 := once n e (hg e List.mem_cons_self) F hp
    simp only [cnt_cons, sum_add, List.length_cons]
    omega

theorem le_sum_cnt (F : List (Nat → Bool)) : ∀ J : Es, (∀ e ∈ J, ∃ T ∈ F, T e.1 = true ∧ T e.2 = true) → J.length ≤ (F.map fun S => cnt S J).sum
  | [], _ => by simp
  | e :: J, h => by
    have ih := le_sum_cnt F J fun x hx => h x (List.mem_cons_of_mem _ hx)
    obtain ⟨T, hT, a, b⟩ := h e List.mem_cons_self
    have h1 : 1 ≤ (F.map fun S => (S e.1 && S e.2).toNat).sum := by
      obtain ⟨A, B, rfl⟩ := List.append_of_mem hT
      simp [a, b]
      omega
    simp only [cnt_cons, sum_add, List.length_cons]
    omega

/-- What is sparse and lies in tight sets of what is sparse isn't longer. -/
theorem sparse_le (n : Nat) (I J : Es) (hI : Sparse n I) (hgI : Good n I) (hJ : Sparse n J) (h : ∀ e ∈ J, ∃ S, S e.1 = true ∧ S e.2 = true ∧ Tight n I S) : J.length ≤ I.length := by
  obtain ⟨F, h1, h2, h3⟩ := tight_family n I hI J h
  have a := le_sum_cnt F J h3
  have b := sum_cnt_le n F h1 I hgI
  have c : ∀ G : List (Nat → Bool), (∀ T ∈ G, Tight n I T) → (G.map fun S => cnt S J).sum ≤ (G.map fun S => cnt S I).sum := by
    intro G
    induction G with
    | nil => simp
    | cons S G ih =>
      intro hG
      have hS := hG S List.mem_cons_self
      have := ih fun T hT => hG T (List.mem_cons_of_mem _ hT)
      have := hJ S hS.1
      have := hS.2
      simp only [List.map_cons, List.sum_cons]
      omega
  have := c F h2
  omega

theorem size_point (a : Nat) : ∀ n, size (fun x => x == a) n ≤ if a < n then 1 else 0
  | 0 => by simp [size]
  | n + 1 => by
    have ih := size_point a n
    simp only [size]
    by_cases h : n = a
    · subst h
      have e : (n == n) = true := by simp
      rw [e, if_pos (by omega)]
      rw [if_neg (by omega)] at ih
      simp
      omega
    · have e : (n == a) = false := by simp [h]
      rw [e]
      simp only [Bool.toNat_false]
      split at ih <;> split <;> omega

/-- The ends of a kept edge are a tight set. -/
theorem tight_pair {n : Nat} {es : Es} {e : Nat × Nat} (he : e ∈ es) (hg : Good n es) : ∃ S, S e.1 = true ∧ S e.2 = true ∧ Tight n es S := by
  obtain ⟨h1, h2, h3⟩ := hg e he
  refine ⟨fun x => x == e.1 || x == e.2, by simp, by simp, size_two h3 h1 h2 (by simp) (by simp), ?_⟩
  have h4 : size (fun x => x == e.1 || x == e.2) n ≤ 2 := by
    have h5 := size_union (fun x => x == e.1) (fun x => x == e.2) n
    have h6 := size_point e.1 n
    have h7 := size_point e.2 n
    rw [if_pos h1] at h6
    rw [if_pos h2] at h7
    have h8 : size (union (fun x => x == e.1) (fun x => x == e.2)) n = size (fun x => x == e.1 || x == e.2) n := rfl
    omega
  obtain ⟨A, B, rfl⟩ := List.append_of_mem he
  have : 1 ≤ cnt (fun x => x == e.1 || x == e.2) (A ++ e :: B) := by
    rw [cnt_append, cnt_cons]; simp; omega
  omega

theorem keptBy_mem : ∀ (bs : List Bool) (es : Es) (e : Nat × Nat), e ∈ keptBy bs es → e ∈ es
  | true :: bs, x :: es, e, h => by
    rcases List.mem_cons.1 h with rfl | h
    · exact List.mem_cons_self
    · exact List.mem_cons_of_mem _ (keptBy_mem bs es e h)
  | false :: bs, x :: es, e, h => List.mem_cons_of_mem _ (keptBy_mem bs es e h)
  | [], _, _, h => by simp [keptBy] at h
  | true :: _, [], _, h => by simp [keptBy] at h
  | false :: _, [], _, h => by simp [keptBy] at h

theorem keptBy_get : ∀ (bs : List Bool) (es : Es) (k : Nat) (h : k < es.length), bs[k]? = some true → es[k] ∈ keptBy bs es
  | [], _, _, _, h => by simp at h
  | true :: bs, e :: es, 0, _, _ => List.mem_cons_self
  | false :: bs, e :: es, 0, _, h => by simp at h
  | true :: bs, e :: es, k + 1, hk, h => List.mem_cons_of_mem _ (keptBy_get bs es k (by simpa using hk) (by simpa using h))
  | false :: bs, e :: es, k + 1, hk, h => keptBy_get bs es k (by simpa using hk) (by simpa using h)
  | _ :: _, [], _, hk, _ => by simp at hk

/-- Every edge lies in a tight set of what the greedy rule keeps. -/
theorem greedy_covers (n : Nat) (es : Es) (hg : Good n es) (e : Nat × Nat) (he : e ∈ es) : ∃ S, S e.1 = true ∧ S e.2 = true ∧ Tight n (keptBy (greedy n (-1) 0 [] es) es) S := by
  obtain ⟨k, hk, rfl⟩ := List.getElem_of_mem he
  obtain ⟨_, h2⟩ := greedy_spec n (-1) es [] 0 (Sparse.nil n)
  have hlen := greedy_length n (-1) es [] 0
  have hk' : k < (greedy n (-1) 0 [] es).length := by omega
  cases hb : (greedy n (-1) 0 [] es)[k]
  · exact h2 k hk (by omega) (by rw [List.getElem?_eq_getElem hk', hb])
  · exact tight_pair (keptBy_get _ _ k hk (by rw [List.getElem?_eq_getElem hk', hb])) fun x hx => hg x (keptBy_mem _ _ _ hx)

theorem greedy_sparse (n : Nat) (wo : Int) (es : Es) : Sparse n (keptBy (greedy n wo 0 [] es) es) := (greedy_spec n wo es [] 0 (Sparse.nil n)).1

/-- How many are free does not hang on the order. -/
theorem greedy_perm (n : Nat) (a b : Es) (hg : Good n a) (hp : a.Perm b) : many (greedy n (-1) 0 [] a) = many (greedy n (-1) 0 [] b) := by
  have hgb : Good n b := fun e he => hg e (hp.mem_iff.2 he)
  have hle : ∀ a b : Es, Good n a → Good n b → a.Perm b → many (greedy n (-1) 0 [] b) ≤ many (greedy n (-1) 0 [] a) := by
    intro a b ha hb hp
    rw [← many_kept _ b (greedy_length ..), ← many_kept _ a (greedy_length ..)]
    refine sparse_le n _ _ (greedy_sparse n (-1) a) (fun x hx => ha x (keptBy_mem _ _ _ hx)) (greedy_sparse n (-1) b) fun e he => ?_
    exact greedy_covers n a ha e (hp.mem_iff.2 (keptBy_mem _ _ _ he))
  exact Nat.le_antisymm (hle b a hgb hg hp.symm) (hle a b hg hgb hp)

/-- Of a sparse list all are kept. -/
theorem greedy_all (n : Nat) : ∀ (es kept : Es) (i : Nat), Sparse n (kept ++ es) → greedy n (-1) i kept es = List.replicate es.length true
  | [], _, _, _ => rfl
  | e :: es, kept, i, h => by
    have h' : Sparse n (kept ++ [e] ++ es) := by simpa using h
    unfold greedy
    rw [if_neg (by omega)]
    simp only [if_pos h'.of_append, List.length_cons, List.replicate_succ, greedy_all n es (kept ++ [e]) (i + 1) h']

theorem greedy_skips (n : Nat) (k : Nat) : ∀ (es kept : Es) (i : Nat), k < es.length → many (greedy n ((i + k : Nat) : Int) i kept es) < es.length
  | [], _, _, h => absurd h (by simp)
  | e :: es, kept, i, h => by
    unfold greedy
    by_cases hk : k = 0
    · subst hk
      have := many_le (greedy n (i : Int) (i + 1) kept es)
      rw [greedy_length] at this
      simp only [Nat.add_zero, if_true, List.length_cons]
      rw [many_cons]
      simp only [Bool.toNat_false]
      omega
    · have e1 : i + k = (i + 1) + (k - 1) := by omega
      rw [if_neg (by omega), e1]
      split
      · have := greedy_skips n (k - 1) es (kept ++ [e]) (i + 1) (by simp at h; omega)
        simp only [many_cons, Bool.toNat_true, List.length_cons]; omega
      · have := greedy_skips n (k - 1) es kept (i + 1) (by simp at h; omega)
        simp only [many_cons, Bool.toNat_false, List.length_cons]; omega
  termination_by es => es.length

/-! ### Sets as numbers -/

def bits (S : Nat → Bool) : Nat → Nat
  | 0 => 0
  | n + 1 => bits S n + (S n).toNat * 2 ^ n

theorem bits_lt (S : Nat → Bool) : ∀ n, bits S n < 2 ^ n
  | 0 => by simp [bits]
  | n + 1 => by
    have := bits_lt S n
    simp only [bits, Nat.pow_succ]
    cases S n <;> simp <;> omega

theorem bits_at (S : Nat → Bool) : ∀ n k, k < n → bits S n / 2 ^ k % 2 = (S k).toNat
  | 0, k, h => absurd h (by omega)
  | n + 1, k, h => by
    simp only [bits]
    have hlt := bits_lt S n
    by_cases hk : k = n
    · subst hk
      rw [Nat.add_mul_div_right _ _ (Nat.two_pow_pos _), Nat.div_eq_of_lt hlt]
      cases S k <;> simp
    · have ih := bits_at S n k (by omega)
      have e : 2 ^ n = 2 ^ (n - k - 1) * 2 * 2 ^ k := by
        rw [Nat.mul_assoc, ← Nat.pow_succ', ← Nat.pow_add]; congr 1; omega
      rw [e, ← Nat.mul_assoc, Nat.add_mul_div_right _ _ (Nat.two_pow_pos _), ← ih, ← Nat.mul_assoc, Nat.add_mul_mod_self_right]

/-- The set that a number tells. -/
def ofBits (s : Nat) : Nat → Bool := fun k => s / 2 ^ k % 2 == 1

theorem size_congr {S T : Nat → Bool} : ∀ {n : Nat}, (∀ k, k < n → S k = T k) → size S n = size T n
  | 0, _ => rfl
  | n + 1, h => by simp only [size]; rw [size_congr fun k hk => h k (by omega), h n (by omega)]

theorem cnt_congr {S T : Nat → Bool} {n : Nat} {es : Es} (hg : Good n es) (h : ∀ k, k < n → S k = T k) : cnt S es = cnt T es := by
  unfold cnt
  congr 1
  refine List.filter_congr fun e he => ?_
  rw [h _ (hg e he).1, h _ (hg e he).2.1]

/-- To be sparse is a matter of 2 to the n sets. -/
theorem sparse_iff {n : Nat} {es : Es} (hg : Good n es) : Sparse n es ↔ ∀ s, s < 2 ^ n → 2 ≤ size (ofBits s) n → cnt (ofBits s) es + 3 ≤ 2 * size (ofBits s) n := by
  constructor
  · exact fun h s _ => h _
  · intro h S hS
    have hb : ∀ k, k < n → ofBits (bits S n) k = S k := fun k hk => by
      unfold ofBits
      rw [bits_at S n k hk]
      cases S k <;> rfl
    have := h _ (bits_lt S n)
    rw [size_congr hb, cnt_congr hg hb] at this
    exact this hS
end Go.Proofs.Ytdbhpiofbkhbeaa
