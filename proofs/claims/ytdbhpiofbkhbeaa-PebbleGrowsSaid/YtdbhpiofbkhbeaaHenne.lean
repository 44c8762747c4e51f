/- Henneberg's two steps keep edges sparse; sparse edges are a graph. Plain laws for 'PebbleGrows'. -/
import Derived.Test.YtdbhpiofbkhbeaaPerm
namespace Go.Proofs.Ytdbhpiofbkhbeaa
set_option linter.unusedSimpArgs false
set_option linter.unusedVariables false

theorem cnt_small {n : Nat} {es : Es} {S : Nat → Bool} (hg : Good n es) (h : size S n ≤ 1) : cnt S es = 0 := by
  unfold cnt
  rw [List.length_eq_zero_iff, List.filter_eq_nil_iff]
  intro e he hS
  obtain ⟨h1, h2, h3⟩ := hg e he
  simp only [Bool.and_eq_true] at hS
  have := size_two h3 h1 h2 hS.1 hS.2
  omega

theorem two_in {n a b : Nat} {S : Nat → Bool} (hne : a ≠ b) (ha : a < n) (hb : b < n) : (S a).toNat + (S b).toNat ≤ size S n := by
  cases h1 : S a <;> cases h2 : S b
  · simp
  · have := size_one hb h2; simpa using this
  · have := size_one ha h1; simpa using this
  · have := size_two hne ha hb h1 h2; simpa using this

theorem three_in {n a b c : Nat} {S : Nat → Bool} (hab : a ≠ b) (hac : c ≠ a) (hbc : c ≠ b) (ha : a < n) (hb : b < n) (hc : c < n) (h : size S n ≤ 1) : (S a).toNat + (S b).toNat + (S c).toNat ≤ 1 := by
  have h1 := two_in (S := S) hab ha hb
  have h2 := two_in (S := S) hac hc ha
  have h3 := two_in (S := S) hbc hc hb
  have key : ∀ p q r : Bool, p.toNat + q.toNat ≤ 1 → r.toNat + p.toNat ≤ 1 → r.toNat + q.toNat ≤ 1 → p.toNat + q.toNat + r.toNat ≤ 1 := by decide
  exact key _ _ _ (by omega) (by omega) (by omega)

theorem sparse_step1 {n a b : Nat} {es : Es} (hs : Sparse n es) (hg : Good n es) (ha : a < n) (hb : b < n) (hne : a ≠ b) : Sparse (n + 1) (es ++ [(n, a), (b, n)]) := by
  intro S hS
  have hsz : size S (n + 1) = size S n + (S n).toNat := rfl
  have hc : cnt S (es ++ [(n, a), (b, n)]) = cnt S es + ((S n && S a).toNat + (S b && S n).toNat) := by
    rw [cnt_append, cnt_cons, cnt_cons, cnt_nil]; simp only []; omega
  have h2 := two_in (S := S) hne ha hb
  rw [hsz] at hS ⊢
  rw [hc]
  cases hSn : S n
  · rw [hSn] at hS
    have := hs S (by simpa using hS)
    simp
    omega
  · rw [hSn] at hS
    simp only [Bool.true_and, Bool.and_true, Bool.toNat_true] at hS ⊢
    by_cases hm : 2 ≤ size S n
    · have := hs S hm
      have e1 : (S a).toNat ≤ 1 := Bool.toNat_le _
      have e2 : (S b).toNat ≤ 1 := Bool.toNat_le _
      omega
    · have := cnt_small hg (S := S) (by omega)
      omega

theorem sparse_step2 {n a x y : Nat} {L R : Es} (hs : Sparse n (L ++ (x, y) :: R)) (hg : Good n (L ++ (x, y) :: R)) (ha : a < n) (hax : a ≠ x) (hay : a ≠ y) : Sparse (n + 1) (L ++ R ++ [(x, n), (n, y), (a, n)]) := by
  obtain ⟨hx, hy, hxy⟩ := hg (x, y) (by simp)
  dsimp only at hx hy hxy
  intro S hS
  have hsz : size S (n + 1) = size S n + (S n).toNat := rfl
  have hc0 : cnt S (L ++ (x, y) :: R) = cnt S L + cnt S R + (S x && S y).toNat := by
    rw [cnt_append, cnt_cons]; simp only []; omega
  have hc : cnt S (L ++ R ++ [(x, n), (n, y), (a, n)]) = cnt S L + cnt S R + ((S x && S n).toNat + (S n && S y).toNat + (S a && S n).toNat) := by
    rw [cnt_append, cnt_append, cnt_cons, cnt_cons, cnt_cons, cnt_nil]; simp only []; omega
  rw [hsz] at hS ⊢
  rw [hc]
  cases hSn : S n
  · rw [hSn] at hS
    have := hs S (by simpa using hS)
    simp
    omega
  · rw [hSn] at hS
    simp only [Bool.true_and, Bool.and_true, Bool.toNat_true] at hS ⊢
    have e3 : (S a).toNat ≤ 1 := Bool.toNat_le _
    by_cases hm : 2 ≤ size S n
    · have := hs S hm
      rw [hc0] at this
      have key : ∀ p q r : Bool, p.toNat + q.toNat + r.toNat ≤ (p && q).toNat + 2 := by decide
      have := key (S x) (S y) (S a)
      omega
    · have h0 := cnt_small hg (S := S) (by omega)
      have h3 := three_in (S := S) hxy hax hay hx hy ha (by omega)
      rw [hc0] at h0
      omega

theorem good_mono {n : Nat} {es : Es} (hg : Good n es) : Good (n + 1) es := fun e he => by obtain ⟨a, b, c⟩ := hg e he; exact ⟨by omega, by omega, c⟩

theorem good_step1 {n a b : Nat} {es : Es} (hg : Good n es) (ha : a < n) (hb : b < n) : Good (n + 1) (es ++ [(n, a), (b, n)]) := by
  intro e he
  rcases List.mem_append.1 he with he | he
  · exact good_mono hg e he
  · simp at he
    rcases he with rfl | rfl <;> refine ⟨?_, ?_, ?_⟩ <;> dsimp only <;> omega

theorem good_step2 {n a x y : Nat} {L R : Es} (hg : Good n (L ++ (x, y) :: R)) (ha : a < n) : Good (n + 1) (L ++ R ++ [(x, n), (n, y), (a, n)]) := by
  obtain ⟨hx, hy, hxy⟩ := hg (x, y) (by simp)
  dsimp only at hx hy hxy
  intro e he
  rcases List.mem_append.1 he with he | he
  · refine good_mono hg e ?_
    rcases List.mem_append.1 he with he | he <;> simp [he]
  · simp at he
    rcases he with rfl | rfl | rfl <;> refine ⟨?_, ?_, ?_⟩ <;> dsimp only <;> omega

theorem size_pair (a b n : Nat) : size (union (fun x => x == a) (fun x => x == b)) n ≤ 2 := by
  have h := size_union (fun x => x == a) (fun x => x == b) n
  have h1 := size_point a n
  have h2 := size_point b n
  split at h1 <;> split at h2 <;> omega

theorem sparse_distinct {n : Nat} : ∀ es : Es, Good n es → Sparse n es → ((toI es).map norm).Nodup
  | [], _, _ => by simp [toI]
  | e :: es, hg, hs => by
    have hg' : Good n es := fun x hx => hg x (List.mem_cons_of_mem _ hx)
    have hs' : Sparse n es := (hs.perm (List.perm_append_comm (l₁ := [e]) (l₂ := es))).of_append
    have ih := sparse_distinct es hg' hs'
    show (norm ((e.1 : Int), (e.2 : Int)) :: (toI es).map norm).Nodup
    rw [List.nodup_cons]
    refine ⟨fun hmem => ?_, ih⟩
    obtain ⟨x, hx, hxe⟩ := List.mem_map.1 hmem
    obtain ⟨f, hf, rfl⟩ := List.mem_map.1 hx
    obtain ⟨g1, g2, g3⟩ := hg e (by simp)
    have hfe : (f.1 = e.1 ∧ f.2 = e.2) ∨ (f.1 = e.2 ∧ f.2 = e.1) := by
      simp only [norm, Prod.mk.injEq] at hxe
      omega
    obtain ⟨S, hS⟩ : ∃ S, S = union (fun x => x == e.1) (fun x => x == e.2) := ⟨_, rfl⟩
    have s1 : S e.1 = true := by simp [hS, union]
    have s2 : S e.2 = true := by simp [hS, union]
    have h2 : 2 ≤ size S n := size_two g3 g1 g2 s1 s2
    have h3 : size S n ≤ 2 := by rw [hS]; exact size_pair _ _ _
    have h4 := hs S h2
    rw [cnt_cons, s1, s2] at h4
    have h5 : 1 ≤ cnt S es := by
      unfold cnt
      have : f ∈ es.filter fun e => S e.1 && S e.2 := by
        rw [List.mem_filter]
        refine ⟨hf, ?_⟩
        rcases hfe with ⟨h6, h7⟩ | ⟨h6, h7⟩ <;> rw [h6, h7, s1, s2] <;> rfl
      exact List.length_pos_of_mem this
    simp at h4
    omega

theorem sparse_check {n : Nat} {es : Es} (h1 : 1 ≤ n) (h2 : n ≤ 10) (h3 : es.length ≤ 45) (hg : Good n es) (hs : Sparse n es) : checkE (n : Int) (toI es) = (0, 0) := by
  rw [checkE_iff]
  refine ⟨by omega, by omega, by simpa [toI] using h3, fun e he => ?_, sparse_distinct es hg hs⟩
  obtain ⟨f, hf, rfl⟩ := List.mem_map.1 he
  obtain ⟨a, b, c⟩ := hg f hf
  unfold badEdge
  rw [decide_eq_false_iff_not]
  dsimp only
  omega

theorem toN_toI (es : Es) : toN (toI es) = es := by
  unfold toN toI
  rw [List.map_map]
  conv => rhs; rw [← List.map_id es]
  exact List.map_congr_left fun e _ => by simp

theorem sparse_frees {n : Nat} {es : Es} (hs : Sparse n es) : many (frees (n : Int) (toI es) (-1)) = es.length := by
  unfold frees
  rw [toN_toI, show ((n : Int).toNat) = n from by simp, greedy_all n es [] 0 ((List.nil_append _).symm ▸ hs)]
  simp [many]

theorem sparse_one : Sparse 2 [(0, 1)] := (sparse_iff (by unfold Good; decide)).2 (by decide)
end Go.Proofs.Ytdbhpiofbkhbeaa
