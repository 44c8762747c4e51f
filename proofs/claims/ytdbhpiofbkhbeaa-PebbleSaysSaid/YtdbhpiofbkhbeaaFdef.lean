/- What is said of '(*game).fetch', the search for a pebble, and small laws for its walk. -/
import Derived.Test.YtdbhpiofbkhbeaaMem
import Derived.BigQuiet
import Derived.BigRegion
import Derived.Deep.QuietTactic
import Derived.Deep.RegionHeld3
import Derived.Deep.Cut
import Derived.Deep.CutRange
import Derived.Deep.LoopGhost
import Derived.Deep.DeepCutAuto
import Derived.Deep.RegionLaw
namespace Go.Proofs.Ytdbhpiofbkhbeaa
open Go.RowKit
set_option linter.unusedSimpArgs false
set_option linter.unusedVariables false

def boolsV (f : Nat → Bool) : Nat → Value := fun i => .bool (f i)

/-- Only block s has turned. -/
structure Only (s : Nat) (w w' : World) : Prop where
  os : w'.os = w.os
  tape : w'.tape = w.tape
  output : w'.output = w.output
  size : w'.heap.size = w.heap.size
  block : ∀ k, k ≠ s → w'.heap[k]? = w.heap[k]?

theorem Only.refl (s : Nat) (w : World) : Only s w w := ⟨rfl, rfl, rfl, rfl, fun _ _ => rfl⟩
theorem Only.trans {s : Nat} {w w1 w2 : World} (h : Only s w w1) (k : Only s w1 w2) : Only s w w2 := ⟨k.os.trans h.os, k.tape.trans h.tape, k.output.trans h.output, k.size.trans h.size, fun i hi => (k.block i hi).trans (h.block i hi)⟩
theorem Only.setCell {s : Nat} {w w1 : World} (h : Only s w w1) (i : Nat) (v : Value) : Only s w (w1.setCell ⟨s, i, none⟩ v) :=
  h.trans ⟨rfl, rfl, rfl, by simp [World.setCell], fun k hk => Below.heap_setCell _ _ _ _ hk⟩
theorem Only.frame {base : Nat → Prop} {p o s : Nat} {w w' : World} (h : Only s w w') (hs : base s) : Frame base p o w w' := ⟨h.os, h.tape, h.output, Nat.le_of_eq h.size.symm, fun k hk _ _ => h.block k (fun e => hk (e ▸ hs))⟩

theorem Game.only {w w' : World} {base : Nat → Prop} {g p o n s : Nat} {peb : Nat → Nat} {out : Nat → List Nat} {A : Nat → Option Addr} {C : Nat → Nat} (h : Game w base g p o n peb out A C) (hs : base s) (hA : ∀ i, i < n → blk (A i) ≠ some s) (ho : Only s w w') : Game w' base g p o n peb out A C :=
  h.keep fun k hk => ho.block k (by
    rintro rfl
    rcases hk with e | e | e | ⟨i, hi, e⟩
    · exact h.lg (e ▸ hs)
    · exact h.lp (e ▸ hs)
    · exact h.lo (e ▸ hs)
    · exact hA i hi e)

/-- The board behind the search below 'to': a pebble stands at 'to', to be moved along arc j of 'at'. -/
structure Ready (base : Nat → Prop) (g p o n s : Nat) (peb : Nat → Nat) (out : Nat → List Nat) (seen : Nat → Bool) (at_ j to_ : Nat) (w wx : World) (P : Nat → Nat) (O : Nat → List Nat) (A : Nat → Option Addr) (C : Nat → Nat) (SN : Nat → Bool) : Prop where
  game : Game wx base g p o n P O A C
  cells : Cells wx s 4 n (boolsV SN)
  apart : ∀ i, i < n → blk (A i) ≠ some s
  frame : Frame base p o w wx
  arc : O at_ = out at_
  one : 1 ≤ P to_
  valid : Valid n P O
  fetched : Fetched n peb out seen at_ (movedPeb P at_ to_) (movedOut O at_ j to_)

/-- What stands behind the test: nothing found below 'to', or a pebble at it. -/
def Tested (base : Nat → Prop) (g p o n s : Nat) (peb : Nat → Nat) (out : Nat → List Nat) (seen sj : Nat → Bool) (at_ j to_ : Nat) (w wr : World) (v : Value) (wx : World) : Prop :=
  (v = .bool true ∧ peb to_ = 0 ∧ ∃ seen2, Fetchless n peb out sj to_ seen2 ∧ Cells wx s 4 n (boolsV seen2) ∧ Only s wr wx) ∨
  (v = .bool false ∧ ∃ P O A C SN, Ready base g p o n s peb out seen at_ j to_ w wx P O A C SN)

def FetchPost (base : Nat → Prop) (g p o n s : Nat) (peb : Nat → Nat) (out : Nat → List Nat) (seen : Nat → Bool) (at_ : Nat) (w : World) (e : Ending) (w' : World) : Prop :=
  (e = .returned (.bool false) ∧ ∃ seen', Fetchless n peb out seen at_ seen' ∧ Cells w' s 4 n (boolsV seen') ∧ Only s w w') ∨
  (e = .returned (.bool true) ∧ ∃ peb' out' A' C' seen', Fetched n peb out seen at_ peb' out' ∧ Game w' base g p o n peb' out' A' C' ∧ Cells w' s 4 n (boolsV seen') ∧ (∀ i, i < n → blk (A' i) ≠ some s) ∧ Frame base p o w w')

def FetchSaid (base : Nat → Prop) (g p o n s k : Nat) : Prop := ∀ (w : World) (peb : Nat → Nat) (out : Nat → List Nat) (A : Nat → Option Addr) (C : Nat → Nat) (seen : Nat → Bool) (at_ : Nat), unseen n seen at_ < k → Game w base g p o n peb out A C →
  Cells w s 4 n (boolsV seen) → (∀ i, i < n → blk (A i) ≠ some s) → Valid n peb out → at_ < n → New base w →
  Calls Try.prog 26 #[.pointer (some ⟨g, 0, none⟩), .int .i64 (at_ : Nat), .slice (some ⟨s, 0, none⟩) n n] w (FetchPost base g p o n s peb out seen at_ w)

theorem Owns.alloc {w : World} {base : Nat → Prop} {c : Nat} {A : Option Addr} {xs : List Nat} (h : Owns w base A c xs) (x : Obj) : Owns (w.alloc x) base A c xs := h.keep fun k hk => Below.heap_alloc w x k (h.lt hk).2
theorem Owns.drew {w : World} {base : Nat → Prop} {c : Nat} {A : Option Addr} {xs : List Nat} (h : Owns w base A c xs) : Owns w.drew base A c xs := h
theorem add_at (b i q : Nat) : (⟨b, i, none⟩ : Addr).add q = ⟨b, i + q, none⟩ := by
  unfold Addr.add
  by_cases h : q = 0 <;> simp [h]
theorem Owns.take {w : World} {base : Nat → Prop} {c b : Nat} {xs : List Nat} (h : Owns w base (some ⟨b, 0, none⟩) c xs) {j : Nat} (hj : j ≤ xs.length) : Owns w base (some ⟨b, 0, none⟩) j (xs.take j) := by
  rcases h with ⟨h, _⟩ | ⟨b', cur, e, hb, hh, h1, h2, h3⟩
  · cases h
  · injection e with e
    injection e with e1
    subst e1
    refine .inr ⟨b, cur, rfl, hb, hh, by simp; omega, by omega, fun i hi => ?_⟩
    have hi' : i < xs.length := by simp at hi; omega
    rw [h3 i hi', List.getElem_take]

/-- The one new cell that an append of one int reads. -/
theorem news1 (w : World) (x : Nat) : ∀ j, (hj : j < [x].length) → ∃ ad, (some ⟨w.heap.size, 0, none⟩ : Option Addr) = some ad ∧ ((w.alloc (.cells #[.int .i64 (x : Nat)] 3)).drew).cell? (ad.add j) = some (.int .i64 ([x][j] : Nat)) := by
  intro j hj
  have : j = 0 := by simp at hj; exact hj
  subst this
  refine ⟨_, rfl, ?_⟩
  have h := heap_alloc_new w (.cells #[.int .i64 (x : Nat)] 3)
  simp only [Addr.add, World.cell?, World.drew, if_true]
  rw [h]
  simp

end Go.Proofs.Ytdbhpiofbkhbeaa
