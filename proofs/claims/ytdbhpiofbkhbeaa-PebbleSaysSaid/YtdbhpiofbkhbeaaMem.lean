/- The memory of the game of pebbles: blocks of cells, slices of the call's own, what a step keeps. -/
import Derived.Test.YtdbhpiofbkhbeaaGame
import Derived.Test.YtdbhpiofbkhbeaaMap
import Derived.Lib.Hide
namespace Go.Proofs.Ytdbhpiofbkhbeaa
open Go.RowKit
set_option linter.unusedSimpArgs false
set_option linter.unusedVariables false

/-- Block b has n cells of type t; cell i holds f i. -/
def Cells (w : World) (b : Nat) (t : TypeId) (n : Nat) (f : Nat → Value) : Prop := ∃ cs, w.heap[b]? = some (.cells cs t (0, 0)) ∧ cs.size = n ∧ ∀ i, i < n → cs[i]? = some (f i)

section
variable {w w' : World} {b n : Nat} {t : TypeId} {f : Nat → Value}
theorem Cells.lt (h : Cells w b t n f) : b < w.heap.size := by
  obtain ⟨cs, hb, _⟩ := h
  exact (Array.getElem?_eq_some_iff.1 hb).1
theorem Cells.cell (h : Cells w b t n f) {i : Nat} (hi : i < n) : w.cell? ⟨b, i, none⟩ = some (f i) := by
  obtain ⟨cs, hb, hs, hc⟩ := h
  simp [World.cell?, hb, hc i hi]
theorem Cells.frozen (h : Cells w b t n f) (i : Nat) : w.frozen? ⟨b, i, none⟩ = false := by
  obtain ⟨cs, hb, hs, hc⟩ := h
  simp [World.frozen?, hb]
theorem Cells.keep (h : Cells w b t n f) (hb : w'.heap[b]? = w.heap[b]?) : Cells w' b t n f := by
  obtain ⟨cs, h1, h2⟩ := h
  exact ⟨cs, hb.trans h1, h2⟩
theorem Cells.congr {g : Nat → Value} (h : Cells w b t n f) (hfg : ∀ i, i < n → f i = g i) : Cells w b t n g := by
  obtain ⟨cs, h1, h2, h3⟩ := h
  exact ⟨cs, h1, h2, fun i hi => (h3 i hi).trans (congrArg some (hfg i hi))⟩
theorem Cells.set (h : Cells w b t n f) {i : Nat} (hi : i < n) (v : Value) : Cells (w.setCell ⟨b, i, none⟩ v) b t n (upd f i v) := by
  obtain ⟨cs, h1, h2, h3⟩ := h
  refine ⟨cs.setIfInBounds i v, ?_, by simpa using h2, fun j hj => ?_⟩
  · simp [World.setCell, Array.getElem?_modify, h1]
  · by_cases e : j = i
    · subst e; rw [upd_same]; simp [h2, hi]
    · rw [upd_other _ _ e]; rw [Array.getElem?_setIfInBounds_ne (Ne.symm e)]; exact h3 j hj
theorem Cells.setOther (h : Cells w b t n f) {a : Addr} (ha : a.block ≠ b) (v : Value) : Cells (w.setCell a v) b t n f :=
  h.keep (Below.heap_setCell w a v b (Ne.symm ha))
theorem Cells.alloc (h : Cells w b t n f) (o : Obj) : Cells (w.alloc o) b t n f := h.keep (Below.heap_alloc w o b h.lt)
theorem Cells.drew (h : Cells w b t n f) : Cells w.drew b t n f := h
theorem Cells.drewN (h : Cells w b t n f) (k : Nat) : Cells (w.drewN k) b t n f := h
theorem Cells.grown (h : Cells w b t n f) {row : Option Nat} (hg : w.grownBy w' row) (hne : some b ≠ row) : Cells w' b t n f := h.keep (hg.block b h.lt hne)
end

/-- A slice's address, length's list and capacity: it is nil, or it lies at the head of a block of the call's own. -/
def Owns (w : World) (base : Nat → Prop) (A : Option Addr) (c : Nat) (xs : List Nat) : Prop :=
  (A = none ∧ c = 0 ∧ xs = []) ∨ ∃ b cur, A = some ⟨b, 0, none⟩ ∧ base b ∧ w.heap[b]? = some (.cells cur 3 (0, 0)) ∧ xs.length ≤ c ∧ c ≤ cur.size ∧ ∀ i, (h : i < xs.length) → cur[i]? = some (.int .i64 (xs[i] : Nat))

def blk (A : Option Addr) : Option Nat := A.map (·.block)

section
variable {w w' : World} {base : Nat → Prop} {c : Nat} {A : Option Addr} {xs : List Nat}
theorem Owns.len (h : Owns w base A c xs) : xs.length ≤ c := by
  rcases h with ⟨_, rfl, rfl⟩ | ⟨b, cur, _, _, _, h, _⟩
  · simp
  · exact h
theorem Owns.lt (h : Owns w base A c xs) {k : Nat} (hk : blk A = some k) : base k ∧ k < w.heap.size := by
  rcases h with ⟨rfl, _⟩ | ⟨b, cur, rfl, hb, hh, _⟩
  · simp [blk] at hk
  · simp [blk] at hk; subst hk; exact ⟨hb, (Array.getElem?_eq_some_iff.1 hh).1⟩
theorem Owns.keep (h : Owns w base A c xs) (hk : ∀ k, blk A = some k → w'.heap[k]? = w.heap[k]?) : Owns w' base A c xs := by
  rcases h with h | ⟨b, cur, rfl, hb, hh, r⟩
  · exact .inl h
  · exact .inr ⟨b, cur, rfl, hb, (hk b rfl).trans hh, r⟩
theorem Owns.at_ (h : Owns w base A c xs) {i : Nat} (hi : i < xs.length) : ∃ b, A = some ⟨b, 0, none⟩ ∧ w.cell? ⟨b, i, none⟩ = some (.int .i64 (xs[i] : Nat)) := by
  rcases h with ⟨_, _, rfl⟩ | ⟨b, cur, rfl, hb, hh, _, _, h3⟩
  · simp at hi
  · exact ⟨b, rfl, by simp [World.cell?, hh, h3 i hi]⟩

theorem info3 : (Try.prog.info? 3).map (fun i => (i.zero, i.size, i.bytes)) = some (some (.int .i64 0), 1, 8) := by kernel_rfl

/-- append of ints onto such a slice. -/
theorem run_append24 (ty : TypeId) (h : Owns w base A c xs) {X : Option Addr} {m cx : Nat} {ys : List Nat} (hm : ys.length = m)
    (hX : ∀ j, (hj : j < ys.length) → ∃ ad, X = some ad ∧ w.cell? (ad.add j) = some (.int .i64 (ys[j] : Nat))) (hlen : xs.length + m ≤ 100) (hb : base w.heap.size) :
    ∃ A' c' w', (Builtin.append_ #[24, 24] ty #[.slice A xs.length c, .slice X m cx]).run Try.prog w = .ok (.slice A' (xs ++ ys).length c') w' ∧ Owns w' base A' c' (xs ++ ys) ∧ w.grownBy w' (blk A) ∧
      (A' = A ∨ A' = some ⟨w.heap.size, 0, none⟩) := by
  obtain ⟨i0, hi0, hz0, hz1, hz2⟩ := info_parts info3
  by_cases hm0 : m = 0
  · subst hm0
    have hys : ys = [] := List.eq_nil_of_length_eq_zero hm
    subst hys
    refine ⟨A, c, w, ?_, by simpa using h, ⟨rfl, rfl, rfl, Nat.le_refl _, fun _ _ _ => rfl⟩, .inl rfl⟩
    have hle := h.len
    cases X <;> cases A <;>
      simp [Builtin.append_, run_underlying Try.underlying24, sizeOf, typeInfo, hi0, Builtin.lenOf, hle, Builtin.firstCells, loadCells, loadCellsFrom, storeCells]
  · obtain ⟨ad, hAd, _⟩ := hX 0 (by omega)
    subst hAd
    have hnews : ∀ (j : Nat) (u : Value), (ys.map (fun y : Nat => Value.int .i64 y))[j]? = some u → w.cell? (ad.add j) = some u := by
      intro j u hu
      simp only [List.getElem?_map, Option.map_eq_some_iff] at hu
      obtain ⟨y, hy, rfl⟩ := hu
      obtain ⟨hj, rfl⟩ := List.getElem?_eq_some_iff.1 hy
      obtain ⟨ad', e, hc⟩ := hX j hj
      injection e with e
      subst e
      exact hc
    have hl : (ys.map (fun y : Nat => Value.int .i64 y)).length = m * i0.size := by simp [hz1, hm]
    have grown : ∀ (old : Nat) (row : Option Nat), (∀ w1 cap', xs.length + m ≤ cap' → w1 = w.drew.alloc (.cells ((xs.map (fun y : Nat => Value.int .i64 y)).toArray ++ (ys.map (fun y : Nat => Value.int .i64 y)).toArray ++ Builtin.zeroCells (Value.int .i64 0).cells (cap' - (xs.length + m))) 3) →
        Owns w1 base (some ⟨w.heap.size, 0, none⟩) cap' (xs ++ ys) ∧ w.grownBy w1 row) := by
      intro old row w1 cap' hcap hw1
      subst hw1
      refine ⟨.inr ⟨_, _, rfl, hb, heap_alloc_new w.drew _, by simpa [hm] using hcap, ?_, fun i hi => ?_⟩, ⟨rfl, rfl, rfl, by simp, fun k hk _ => heap_alloc_old w.drew _ hk⟩⟩
      · simp [size_zeroCells, hm, Value.cells]; omega
      · simp only [Array.getElem?_append, List.getElem?_toArray, Array.size_append, List.size_toArray, List.length_map]
        rw [if_pos (by simpa using hi)]
        by_cases hx : i < xs.length
        · rw [if_pos hx]; simp [hx, List.getElem_append_left hx]
        · rw [if_neg hx]
          have hi2 : i - xs.length < ys.length := by simp at hi; omega
          simp [hi2, List.getElem_append_right (Nat.le_of_not_lt hx)]
    rcases h with ⟨rfl, rfl, rfl⟩ | ⟨b, cur, rfl, hbb, hh, hle, hcs, hcell⟩
    · have hr := run_append_nil (P := Try.prog) w 24 ty 3 i0 (.int .i64 0) Try.underlying24 hi0 hz0 ad m cx _ hl hnews (by omega) (by omega) (by rw [hz2]; simp at hlen; omega)
      have hg := grown 0 (blk none) _ (grownCap w m 0 3) (by simpa using grownCap_ge w m 0 3) rfl
      simp only [List.map_nil, Array.empty_append, List.length_nil, Nat.zero_add, List.nil_append, hm] at hg hr ⊢
      exact ⟨_, _, _, hr, hg.1, hg.2, .inr rfl⟩
    · by_cases hroom : xs.length + m ≤ c
      · have hr := run_append_room (P := Try.prog) w 24 ty 3 i0 Try.underlying24 hi0 b xs.length c cur hh ad m cx _ hl hnews (by intro u hu; simp at hu; obtain ⟨y, _, rfl⟩ := hu; rfl) hroom (by simp [hz1, hm]; omega)
        simp only [hz1, Nat.mul_one, List.length_map] at hr
        refine ⟨_, _, _, by rw [List.length_append, hm]; exact hr, .inr ⟨b, _, rfl, hbb, setRow_heap w b cur _ 3 _ hh, by simpa [hm] using hroom, ?_, fun i hi => ?_⟩, ⟨rfl, rfl, rfl, by simp, fun k _ hk => setRow_other w b k _ (fun e => hk (by simp [blk, e]))⟩, .inl rfl⟩
        · simp; omega
        · simp only [List.getElem?_toArray]
          rw [List.append_assoc]
          by_cases hx : i < xs.length
          · rw [List.getElem?_append_left (by simp; omega), List.getElem?_take, if_pos hx]
            have := hcell i hx
            simp [List.getElem_append_left hx]
            simpa using this
          · have hi2 : i - xs.length < ys.length := by simp at hi; omega
            have hlt : (List.take xs.length cur.toList).length = xs.length := by simp; omega
            rw [List.getElem?_append_right (by omega), hlt, List.getElem?_append_left (by simpa using hi2)]
            simp [hi2, List.getElem_append_right (Nat.le_of_not_lt hx)]
      · have holds : ∀ (j : Nat) (u : Value), (xs.map (fun y : Nat => Value.int .i64 y))[j]? = some u → w.cell? ((⟨b, 0, none⟩ : Addr).add j) = some u := by
          intro j u hu
          simp only [List.getElem?_map, Option.map_eq_some_iff] at hu
          obtain ⟨y, hy, rfl⟩ := hu
          obtain ⟨hj, rfl⟩ := List.getElem?_eq_some_iff.1 hy
          have hadd : (⟨b, 0, none⟩ : Addr).add j = ⟨b, j, none⟩ := by unfold Addr.add; split <;> simp_all
          rw [hadd]
          simp [World.cell?, hh, hcell j hj]
        have hr := run_append_grow (P := Try.prog) w 24 ty 3 i0 (.int .i64 0) Try.underlying24 hi0 hz0 ⟨b, 0, none⟩ xs.length c _ (by simp [hz1]) holds ad m cx _ hl hnews (by omega) (by omega) (growslice_fits (by omega) (by rw [hz2]; omega))
        have hg := grown c (blk (some ⟨b, 0, none⟩)) _ (grownCap w (xs.length + m) c 3) (grownCap_ge w (xs.length + m) c 3) rfl
        exact ⟨_, _, _, by rw [List.length_append, hm]; exact hr, hg.1, hg.2, .inr rfl⟩
end

/-- The same as one step of a region that draws. -/
theorem step_append24 {ops : Array Oper} {o : Oper} {a : Act} {w : World} {K : Act → World → Prop} {Q : Exit → Act → World → Prop} {E : Prop}
    (hg : o.guard = none) (s x : Operand) (hop : o.op = Op.call { callee := Callee.builtin Builtin.append, args := #[s, x], argTypes := #[24, 24] })
    (base : Nat → Prop) (A : Option Addr) (c : Nat) (xs : List Nat) (len : Nat) (hs : a.eval s = .slice A len c) (hl : xs.length = len) (h : Owns w base A c xs)
    (X : Option Addr) (m cx : Nat) (ys : List Nat) (hx : a.eval x = .slice X m cx) (hm : ys.length = m)
    (hX : ∀ j, (hj : j < ys.length) → ∃ ad, X = some ad ∧ w.cell? (ad.add j) = some (.int .i64 (ys[j] : Nat))) (hlen : xs.length + m ≤ 100) (hb : base w.heap.size)
    (hK : ∀ A' c' w', Owns w' base A' c' (xs ++ ys) → w.grownBy w' (blk A) → (A' = A ∨ A' = some ⟨w.heap.size, 0, none⟩) → K (a.put o.dst (.slice A' (xs ++ ys).length c')) w') :
    if Region.wanted o (yielded ops a.tmps) = true then Oper.wp Try.prog o a w K Q else E := by
  have hw : Region.wanted o (yielded ops a.tmps) = true := by simp [Region.wanted, hg]
  rw [if_pos hw]
  subst hl
  obtain ⟨A', c', w', hrun, h1, h2, h3⟩ := run_append24 (cx := cx) o.type h hm hX hlen hb
  unfold Oper.wp
  simp [execOp, hop, resolve, invoke, builtin, hs, hx, hrun, Result.andThen]
  simp only [List.length_append] at hK
  exact hK A' c' w' h1 h2 h3

/-- The game in memory. -/
structure Game (w : World) (base : Nat → Prop) (g p o n : Nat) (peb : Nat → Nat) (out : Nat → List Nat) (A : Nat → Option Addr) (C : Nat → Nat) : Prop where
  hg : Cells w g 54 2 (fun i => if i = 0 then .slice (some ⟨p, 0, none⟩) n n else .slice (some ⟨o, 0, none⟩) n n)
  hp : Cells w p 3 n (fun i => .int .i64 (peb i : Nat))
  ho : Cells w o 24 n (fun i => .slice (A i) (out i).length (C i))
  own : ∀ i, i < n → Owns w base (A i) (C i) (out i)
  apart : ∀ i j k, i < n → j < n → i ≠ j → blk (A i) = some k → blk (A j) ≠ some k
  lg : ¬ base g
  lp : ¬ base p
  lo : ¬ base o
  gp : g ≠ p
  go : g ≠ o
  po : p ≠ o

/-- Whatever block is made is the call's own. -/
def New (base : Nat → Prop) (w : World) : Prop := ∀ k, w.heap.size ≤ k → base k
theorem New.here {base : Nat → Prop} {w : World} (h : New base w) : base w.heap.size := h _ (Nat.le_refl _)
theorem New.mono {base : Nat → Prop} {w w' : World} (h : New base w) (hs : w.heap.size ≤ w'.heap.size) : New base w' := fun k hk => h k (Nat.le_trans hs hk)

/-- What a search or a gathering may turn: the pebbles, the arcs, what it made itself. -/
structure Frame (base : Nat → Prop) (p o : Nat) (w w' : World) : Prop where
  os : w'.os = w.os
  tape : w'.tape = w.tape
  output : w'.output = w.output
  size : w.heap.size ≤ w'.heap.size
  block : ∀ k, ¬ base k → k ≠ p → k ≠ o → w'.heap[k]? = w.heap[k]?

section
variable {w w' : World} {base : Nat → Prop} {g p o n : Nat} {peb : Nat → Nat} {out : Nat → List Nat} {A : Nat → Option Addr} {C : Nat → Nat}

theorem Frame.refl (base : Nat → Prop) (p o : Nat) (w : World) : Frame base p o w w := ⟨rfl, rfl, rfl, Nat.le_refl _, fun _ _ _ _ => rfl⟩
theorem Frame.trans {w1 w2 : World} (h : Frame base p o w w1) (k : Frame base p o w1 w2) : Frame base p o w w2 :=
  ⟨k.os.trans h.os, k.tape.trans h.tape, k.output.trans h.output, Nat.le_trans h.size k.size, fun i h1 h2 h3 => (k.block i h1 h2 h3).trans (h.block i h1 h2 h3)⟩
theorem Frame.drewN {w1 : World} (h : Frame base p o w w1) (k : Nat) : Frame base p o w (w1.drewN k) := ⟨h.os, h.tape, h.output, h.size, h.block⟩
theorem Frame.drew {w1 : World} (h : Frame base p o w w1) : Frame base p o w w1.drew := ⟨h.os, h.tape, h.output, h.size, h.block⟩
theorem Frame.alloc {w1 : World} (h : Frame base p o w w1) (hb : New base w1) (x : Obj) : Frame base p o w (w1.alloc x) :=
  h.trans ⟨rfl, rfl, rfl, by simp, fun k hk _ _ => Below.heap_alloc _ _ _ (Nat.lt_of_not_le fun e => hk (hb k e))⟩
theorem Frame.setCell {w1 : World} (h : Frame base p o w w1) {a : Addr} (ha : a.block = p ∨ a.block = o ∨ base a.block) (v : Value) : Frame base p o w (w1.setCell a v) :=
  h.trans ⟨rfl, rfl, rfl, by simp [World.setCell], fun k hk h1 h2 => Below.heap_setCell _ _ _ _ (by rintro rfl; exact ha.elim h1 fun h => h.elim h2 hk)⟩
theorem Frame.grown {w1 w2 : World} (h : Frame base p o w w1) {row : Option Nat} (hg : w1.grownBy w2 row) (hb : New base w1) (hr : ∀ k, row = some k → base k) : Frame base p o w w2 :=
  h.trans ⟨hg.os, hg.tape, hg.output, hg.size, fun k hk _ _ => hg.block k (Nat.lt_of_not_le fun e => hk (hb k e)) (fun e => hk (hr k e.symm))⟩

theorem Game.congr (h : Game w base g p o n peb out A C) {peb' : Nat → Nat} {out' : Nat → List Nat} (h1 : ∀ i, i < n → peb i = peb' i) (h2 : ∀ i, i < n → out i = out' i) : Game w base g p o n peb' out' A C where
  hg := h.hg
  hp := h.hp.congr fun i hi => by rw [h1 i hi]
  ho := h.ho.congr fun i hi => by rw [h2 i hi]
  own i hi := by rw [← h2 i hi]; exact h.own i hi
  apart := h.apart
  lg := h.lg
  lp := h.lp
  lo := h.lo
  gp := h.gp
  go := h.go
  po := h.po

/-- The game stands while other blocks turn. -/
theorem Game.keep (h : Game w base g p o n peb out A C) (hk : ∀ k, (k = g ∨ k = p ∨ k = o ∨ ∃ i, i < n ∧ blk (A i) = some k) → w'.heap[k]? = w.heap[k]?) : Game w' base g p o n peb out A C where
  hg := h.hg.keep (hk g (.inl rfl))
  hp := h.hp.keep (hk p (.inr (.inl rfl)))
  ho := h.ho.keep (hk o (.inr (.inr (.inl rfl))))
  own i hi := (h.own i hi).keep fun k e => hk k (.inr (.inr (.inr ⟨i, hi, e⟩)))
  apart := h.apart
  lg := h.lg
  lp := h.lp
  lo := h.lo
  gp := h.gp
  go := h.go
  po := h.po

theorem Game.drewN (h : Game w base g p o n peb out A C) (k : Nat) : Game (w.drewN k) base g p o n peb out A C := h.keep fun _ _ => rfl

theorem Game.lt (h : Game w base g p o n peb out A C) {k : Nat} (hk : k = g ∨ k = p ∨ k = o ∨ ∃ i, i < n ∧ blk (A i) = some k) : k < w.heap.size := by
  rcases hk with rfl | rfl | rfl | ⟨i, hi, e⟩
  · exact h.hg.lt
  · exact h.hp.lt
  · exact h.ho.lt
  · exact ((h.own i hi).lt e).2

theorem Game.alloc (h : Game w base g p o n peb out A C) (x : Obj) : Game (w.alloc x) base g p o n peb out A C := h.keep fun k hk => Below.heap_alloc w x k (h.lt hk)

/-- A block from base on that no arc's slice lies in. -/
theorem Game.setOther (h : Game w base g p o n peb out A C) {a : Addr} (hb : base a.block) (ha : ∀ i, i < n → blk (A i) ≠ some a.block) (v : Value) : Game (w.setCell a v) base g p o n peb out A C :=
  h.keep fun k hk => Below.heap_setCell w a v k (by
    rintro rfl
    rcases hk with e | e | e | ⟨i, hi, e⟩
    · exact h.lg (e ▸ hb)
    · exact h.lp (e ▸ hb)
    · exact h.lo (e ▸ hb)
    · exact ha i hi e)

theorem Game.setPeb (h : Game w base g p o n peb out A C) {i : Nat} (hi : i < n) (v : Nat) : Game (w.setCell ⟨p, i, none⟩ (.int .i64 (v : Nat))) base g p o n (upd peb i v) out A C where
  hg := h.hg.setOther (Ne.symm h.gp) _
  hp := (h.hp.set hi _).congr fun j hj => by unfold upd; split <;> rfl
  ho := h.ho.setOther h.po _
  own j hj := (h.own j hj).keep fun k e => Below.heap_setCell _ _ _ _ (by rintro rfl; exact h.lp ((h.own j hj).lt e).1)
  apart := h.apart
  lg := h.lg
  lp := h.lp
  lo := h.lo
  gp := h.gp
  go := h.go
  po := h.po

/-- An append onto point i's arcs, then the store of what came of it. -/
theorem Game.setOut (h : Game w base g p o n peb out A C) {i : Nat} (hi : i < n) {w1 : World} {A' : Option Addr} {c' : Nat} {xs : List Nat} {A0 : Option Addr} (hA0 : A0 = A i) (hown : Owns w1 base A' c' xs) (hgr : w.grownBy w1 (blk A0)) (hA : A' = A0 ∨ ∃ k, A' = some ⟨k, 0, none⟩ ∧ w.heap.size ≤ k) (hb : New base w)
    : Game (w1.setCell ⟨o, i, none⟩ (.slice A' xs.length c')) base g p o n peb (upd out i xs) (upd A i A') (upd C i c') := by
  subst hA0
  have hne : ∀ k, ¬ base k → some k ≠ blk (A i) := fun k hk e => hk ((h.own i hi).lt e.symm).1
  have hb1 : ∀ k, blk A' = some k → base k := fun k e => (hown.lt e).1
  exact {
    hg := (h.hg.grown hgr (hne g h.lg)).setOther (Ne.symm h.go) _
    hp := (h.hp.grown hgr (hne p h.lp)).setOther (Ne.symm h.po) _
    ho := ((h.ho.grown hgr (hne o h.lo)).set hi _).congr fun j hj => by unfold upd; split <;> rfl
    own := fun j hj => by
      by_cases e : j = i
      · subst e; rw [upd_same, upd_same, upd_same]
        exact hown.keep fun k e => Below.heap_setCell _ _ _ _ (by rintro rfl; exact h.lo (hb1 _ e))
      · rw [upd_other _ _ e, upd_other _ _ e, upd_other _ _ e]
        refine (h.own j hj).keep fun k ek => ?_
        have hk := (h.own j hj).lt ek
        rw [Below.heap_setCell _ _ _ _ (by rintro rfl; exact h.lo hk.1)]
        exact hgr.block k hk.2 (fun e2 => h.apart j i k hj hi e ek e2.symm)
    apart := fun a b k ha hbn hab ea => by
      have hfresh : ∀ j, j < n → j ≠ i → ∀ k, blk (A j) = some k → blk A' ≠ some k := by
        intro j hj hji k ek e2
        rcases hA with rfl | ⟨k0, rfl, hk0⟩
        · exact h.apart j i k hj hi hji ek e2
        · simp [blk] at e2; subst e2
          have := ((h.own j hj).lt ek).2
          omega
      by_cases e1 : a = i
      · subst e1
        rw [upd_same] at ea
        rw [upd_other _ _ (Ne.symm hab)]
        exact fun e2 => hfresh b hbn (Ne.symm hab) k e2 ea
      · rw [upd_other _ _ e1] at ea
        by_cases e2 : b = i
        · subst e2; rw [upd_same]; exact hfresh a ha e1 k ea
        · rw [upd_other _ _ e2]; exact h.apart a b k ha hbn hab ea
    lg := h.lg
    lp := h.lp
    lo := h.lo
    gp := h.gp
    go := h.go
    po := h.po }
end
end Go.Proofs.Ytdbhpiofbkhbeaa
