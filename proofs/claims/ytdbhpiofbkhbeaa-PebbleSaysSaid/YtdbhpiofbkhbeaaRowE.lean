/- Slices of edges of the call's own, and append onto them; slices.Equal of bools. -/
import Derived.Test.YtdbhpiofbkhbeaaTop
namespace Go.Proofs.Ytdbhpiofbkhbeaa
open Go.RowKit
set_option linter.unusedSimpArgs false
set_option linter.unusedVariables false

/-- The cells of edges. -/
def flat (is : List (Int × Int)) : List Value := is.flatMap fun e => [.int .i64 e.1, .int .i64 e.2]
theorem flat_length (is : List (Int × Int)) : (flat is).length = is.length * 2 := by
  induction is with
  | nil => rfl
  | cons e is ih => simp only [flat, List.flatMap_cons, List.length_append, List.length_cons, List.length_nil] at *; omega
theorem flat_append (a b : List (Int × Int)) : flat (a ++ b) = flat a ++ flat b := by simp [flat]
theorem flat_get (is : List (Int × Int)) : ∀ i, (h : i < is.length) → (flat is)[i * 2]? = some (.int .i64 is[i].1) ∧ (flat is)[i * 2 + 1]? = some (.int .i64 is[i].2) := by
  induction is with
  | nil => intro i h; simp at h
  | cons e is ih =>
    intro i h
    cases i with
    | zero => exact ⟨rfl, rfl⟩
    | succ i =>
      have := ih i (by simpa using h)
      have e1 : (i + 1) * 2 = i * 2 + 1 + 1 := by omega
      simp only [flat, List.flatMap_cons] at this ⊢
      rw [e1]
      simpa using this
theorem flat_one (u : Value) (is : List (Int × Int)) (h : u ∈ flat is) : u.oneCell' = true := by
  unfold flat at h
  obtain ⟨e, _, he⟩ := List.mem_flatMap.1 h
  simp at he
  rcases he with rfl | rfl <;> rfl

/-- A slice of edges: nil, or at the head of a block of the call's own. -/
def OwnsE (w : World) (base : Nat) (A : Option Addr) (c : Nat) (is : List (Int × Int)) : Prop :=
  (A = none ∧ c = 0 ∧ is = []) ∨ ∃ b cur, A = some ⟨b, 0, none⟩ ∧ base ≤ b ∧ w.heap[b]? = some (.cells cur 34 (0, 0)) ∧ is.length ≤ c ∧ c * 2 ≤ cur.size ∧ cur.toList.take (is.length * 2) = flat is

section
variable {w w' : World} {base c : Nat} {A : Option Addr} {is : List (Int × Int)}
theorem OwnsE.len (h : OwnsE w base A c is) : is.length ≤ c := by
  rcases h with ⟨_, rfl, rfl⟩ | ⟨b, cur, _, _, _, h, _⟩
  · simp
  · exact h
theorem OwnsE.keep (h : OwnsE w base A c is) (hk : ∀ k, blk A = some k → w'.heap[k]? = w.heap[k]?) : OwnsE w' base A c is := by
  rcases h with h | ⟨b, cur, rfl, hb, hh, r⟩
  · exact .inl h
  · exact .inr ⟨b, cur, rfl, hb, (hk b rfl).trans hh, r⟩
theorem OwnsE.lt (h : OwnsE w base A c is) {k : Nat} (hk : blk A = some k) : base ≤ k ∧ k < w.heap.size := by
  rcases h with ⟨rfl, _⟩ | ⟨b, cur, rfl, hb, hh, _⟩
  · simp [blk] at hk
  · simp [blk] at hk; subst hk; exact ⟨hb, (Array.getElem?_eq_some_iff.1 hh).1⟩
theorem OwnsE.below (h : OwnsE w base A c is) (hb : Below w.heap.size w w') : OwnsE w' base A c is := h.keep fun k e => hb.block k (h.lt e).2
theorem OwnsE.alloc (h : OwnsE w base A c is) (o : Obj) : OwnsE (w.alloc o) base A c is := h.keep fun k e => Below.heap_alloc w o k (h.lt e).2
theorem OwnsE.edges (h : OwnsE w base A c is) : Edges w A is := by
  intro i hi
  rcases h with ⟨_, _, rfl⟩ | ⟨b, cur, rfl, hb, hh, h1, h2, h3⟩
  · simp at hi
  · obtain ⟨f1, f2⟩ := flat_get is i hi
    rw [← h3, List.getElem?_take, if_pos (by omega)] at f1 f2
    exact ⟨b, 0, rfl, (Array.getElem?_eq_some_iff.1 hh).1, by simp [World.cell?, hh] at f1 ⊢; exact f1, by simp [World.cell?, hh] at f2 ⊢; exact f2⟩
/-- Its spare room left away. -/
theorem OwnsE.full (h : OwnsE w base A c is) : OwnsE w base A is.length is := by
  rcases h with ⟨rfl, _, rfl⟩ | ⟨b, cur, rfl, hb, hh, h1, h2, h3⟩
  · exact .inl ⟨rfl, rfl, rfl⟩
  · exact .inr ⟨b, cur, rfl, hb, hh, Nat.le_refl _, by omega, h3⟩

theorem info34 : (Try.prog.info? 34).map (fun i => (i.zero, i.size, i.bytes)) = some (some (.agg #[.int .i64 0, .int .i64 0]), 2, 16) := by kernel_rfl

/-- append of edges. -/
theorem run_append27 (ty : TypeId) (h : OwnsE w base A c is) {X : Addr} {m cx : Nat} {js : List (Int × Int)} (hm : js.length = m) (hm0 : 0 < m)
    (hX : ∀ (j : Nat) (u : Value), (flat js)[j]? = some u → w.cell? (X.add j) = some u) (hlen : (is.length + m) * 16 ≤ 140737488355328) (hb : base ≤ w.heap.size) :
    ∃ A' c' w', (Builtin.append_ #[27, 27] ty #[.slice A is.length c, .slice (some X) m cx]).run Try.prog w = .ok (.slice A' (is ++ js).length c') w' ∧ OwnsE w' base A' c' (is ++ js) ∧ w.grownBy w' (blk A) ∧
      (A' = A ∧ is.length + m ≤ c ∨ A' = some ⟨w.heap.size, 0, none⟩ ∧ w.grownBy w' none) := by
  obtain ⟨i0, hi0, hz0, hz1, hz2⟩ := info_parts info34
  have hl : (flat js).length = m * i0.size := by rw [flat_length, hm, hz1]
  have grown : ∀ (row : Option Nat), (∀ w1 cap', is.length + m ≤ cap' → w1 = w.drew.alloc (.cells ((flat is).toArray ++ (flat js).toArray ++ Builtin.zeroCells (Value.agg #[.int .i64 0, .int .i64 0]).cells (cap' - (is.length + m))) 34) →
      OwnsE w1 base (some ⟨w.heap.size, 0, none⟩) cap' (is ++ js) ∧ w.grownBy w1 row) := by
    intro row w1 cap' hcap hw1
    subst hw1
    refine ⟨.inr ⟨_, _, rfl, hb, heap_alloc_new w.drew _, by simpa [hm] using hcap, ?_, ?_⟩, ⟨rfl, rfl, rfl, by simp, fun k hk _ => heap_alloc_old w.drew _ hk⟩⟩
    · simp [size_zeroCells, flat_length, hm, Value.cells]; omega
    · simp only [Array.toList_append, List.append_assoc]
      rw [← List.append_assoc, flat_append]
      refine List.take_left' ?_
      simp [flat_length]; omega
  rcases h with ⟨rfl, rfl, rfl⟩ | ⟨b, cur, rfl, hbb, hh, hle, hcs, hcell⟩
  · have hr := run_append_nil (P := Try.prog) w 27 ty 34 i0 _ Try.underlying27 hi0 hz0 X m cx _ hl hX hm0 (by simp at hlen; omega) (by rw [hz2]; simp at hlen; omega)
    have hg := grown (blk none) _ (grownCap w m 0 34) (by simpa using grownCap_ge w m 0 34) rfl
    have hg0 := grown none _ (grownCap w m 0 34) (by simpa using grownCap_ge w m 0 34) rfl
    simp only [flat, List.flatMap_nil, List.length_nil, Nat.zero_add, List.nil_append, Array.empty_append, hm] at hg hg0 hr ⊢
    exact ⟨_, _, _, hr, hg.1, hg.2, .inr ⟨rfl, hg0.2⟩⟩
  · by_cases hroom : is.length + m ≤ c
    · have hr := run_append_room (P := Try.prog) w 27 ty 34 i0 Try.underlying27 hi0 b is.length c cur hh X m cx _ hl hX (fun u hu => flat_one u js hu) hroom (by rw [hl, hz1, ← Nat.add_mul]; exact Nat.le_trans (Nat.mul_le_mul_right 2 hroom) hcs)
      simp only [hz1] at hr
      refine ⟨_, _, _, by rw [List.length_append, hm]; exact hr, .inr ⟨b, _, rfl, hbb, setRow_heap w b cur _ 34 _ hh, by simpa [hm] using hroom, ?_, ?_⟩, ⟨rfl, rfl, rfl, by simp, fun k _ hk => setRow_other w b k _ (fun e => hk (by simp [blk, e]))⟩, .inl ⟨rfl, hroom⟩⟩
      · simp [flat_length, hm]; omega
      · simp only
        rw [hcell, flat_append]
        refine List.take_left' ?_
        simp [flat_length]; omega
    · have holds : ∀ (j : Nat) (u : Value), (flat is)[j]? = some u → w.cell? ((⟨b, 0, none⟩ : Addr).add j) = some u := by
        intro j u hu
        have hadd : (⟨b, 0, none⟩ : Addr).add j = ⟨b, j, none⟩ := by unfold Addr.add; split <;> simp_all
        rw [hadd]
        rw [← hcell, List.getElem?_take] at hu
        split at hu
        · simp [World.cell?, hh] at hu ⊢; exact hu
        · cases hu
      have hr := run_append_grow (P := Try.prog) w 27 ty 34 i0 _ Try.underlying27 hi0 hz0 ⟨b, 0, none⟩ is.length c _ (by rw [flat_length, hz1]) holds X m cx _ hl hX (by omega) (by omega) (growslice_fits (by omega) (by rw [hz2]; exact hlen))
      have hg := grown (blk (some ⟨b, 0, none⟩)) _ (grownCap w (is.length + m) c 34) (grownCap_ge w (is.length + m) c 34) rfl
      have hg0 := grown none _ (grownCap w (is.length + m) c 34) (grownCap_ge w (is.length + m) c 34) rfl
      exact ⟨_, _, _, by rw [List.length_append, hm]; exact hr, hg.1, hg.2, .inr ⟨rfl, hg0.2⟩⟩
end

/-- The same at the walk's operation. -/
theorem wpList_append27 (w : World) {ops : Array Oper} {rest : List Oper} {o : Oper} {a : Act} {Q : Exit → Act → World → Prop}
    (hgd : o.guard = none) (s x : Operand) (hop : o.op = .call { callee := .builtin .append, args := #[s, x], argTypes := #[27, 27] })
    (base : Nat) (A : Option Addr) (c : Nat) (is : List (Int × Int)) (len : Nat) (hs : a.eval s = .slice A len c) (hl : is.length = len) (h : OwnsE w base A c is)
    (X : Addr) (m cx : Nat) (js : List (Int × Int)) (hx : a.eval x = .slice (some X) m cx) (hm : js.length = m) (hm0 : 0 < m)
    (hX : ∀ (j : Nat) (u : Value), (flat js)[j]? = some u → w.cell? (X.add j) = some u) (hlen : (is.length + m) * 16 ≤ 140737488355328) (hb : base ≤ w.heap.size)
    (hK : ∀ A' c' w', OwnsE w' base A' c' (is ++ js) → w.grownBy w' (blk A) → (A' = A ∧ is.length + m ≤ c ∨ A' = some ⟨w.heap.size, 0, none⟩ ∧ w.grownBy w' none) → wpList Try.prog ops Q rest (a.put o.dst (.slice A' (len + m) c')) w') :
    wpList Try.prog ops Q (o :: rest) a w := by
  refine wpList_plain hgd fun K' hK' => ?_
  subst hl
  obtain ⟨A', c', w', hrun, h1, h2, h3⟩ := run_append27 (cx := cx) o.type h hm hm0 hX hlen hb
  unfold Oper.wp
  simp [execOp, hop, resolve, invoke, builtin, hs, hx, hrun, Result.andThen]
  have := hK A' c' w' h1 h2 h3
  rw [← hm] at this
  exact hK' _ _ this

/-- The cells of what a list of edges was just laid in. -/
theorem news27 (w : World) (js : List (Int × Int)) (cs : Array Value) (h : cs = (flat js).toArray) : ∀ (j : Nat) (u : Value), (flat js)[j]? = some u → (w.alloc (.cells cs 34)).cell? ((⟨w.heap.size, 0, none⟩ : Addr).add j) = some u := by
  intro j u hu
  have hadd : (⟨w.heap.size, 0, none⟩ : Addr).add j = ⟨w.heap.size, j, none⟩ := by unfold Addr.add; split <;> simp_all
  have hn := heap_alloc_new w (.cells cs 34)
  rw [hadd]
  simp only [World.cell?]
  rw [hn, h]
  simpa using hu

/-! ### slices.Equal of two equal lists of bools -/

set_option maxHeartbeats 1000000 in
theorem equalBools (l : List Bool) (n a b ca cb : Nat) (w : World) (hn : n ≤ 100)
    (ha : Cells w a 4 n (boolsV fun i => l.getD i false)) (hb : Cells w b 4 n (boolsV fun i => l.getD i false)) :
    Calls Try.prog 20 #[.slice (some ⟨a, 0, none⟩) n ca, .slice (some ⟨b, 0, none⟩) n cb] w fun e w' => e = .returned (.bool true) ∧ ∃ k, w' = w.drewN k := by
  have HA := Lib.hid ha
  have HB := Lib.hid hb
  clear ha hb
  go_enter Try.func20, Try.ntmps20
  go_wp2
  go_loopw [13] (fun i wr => ∃ j : Nat, j ≤ n ∧ i = .int .i64 j ∧ ∃ k, wr = w.drewN k) (fun i _ => n - (intOf i).toNat)
  case atStart => exact ⟨0, by omega, rfl, 0, rfl⟩
  case round =>
    obtain ⟨j, hj, rfl, k, rfl⟩ := hrel
    by_cases hlt : j < n
    · obtain ⟨x, hx⟩ : ∃ x, l.getD j false = x := ⟨_, rfl⟩
      have h1 : w.cell? ⟨a, j, none⟩ = some (.bool x) := by rw [← hx]; exact HA.out.cell hlt
      have h2 : w.cell? ⟨b, j, none⟩ = some (.bool x) := by rw [← hx]; exact HB.out.cell hlt
      clear hx
      go_wp2
      go_quiet (fail)
      go_wp2
      go_roundw
      case rel => exact ⟨j + 1, by omega, by go_num, _, rfl⟩
      case measure => simp [intOf]; omega
    · go_wp2
      go_ret
      exact ⟨rfl, _, rfl⟩
end Go.Proofs.Ytdbhpiofbkhbeaa
