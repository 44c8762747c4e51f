/- The contract of the closure of 'rafterlaw.PebbleGrows'; a fact on what is over. -/
import Derived.Test.YtdbhpiofbkhbeaaHenne
import Derived.Test.YtdbhpiofbkhbeaaOver
namespace Go.Proofs.Ytdbhpiofbkhbeaa
open Go.RowKit
set_option linter.unusedSimpArgs false
set_option linter.unusedVariables false

theorem sparse_overs {n : Nat} {es : Es} (hs : Sparse n es) : many (overs (n : Int) (toI es)) = 0 := by
  unfold many overs
  rw [List.length_eq_zero_iff, List.filter_eq_nil_iff]
  intro b hb
  obtain ⟨k, hk, rfl⟩ := List.mem_map.1 hb
  have hk' : k < es.length := by simpa [toI] using hk
  have h1 := sparse_frees hs
  have h2 := greedy_skips n k es [] 0 hk'
  have h3 : many (frees (n : Int) (toI es) (k : Nat)) < es.length := by
    unfold frees
    rw [toN_toI, show ((n : Int).toNat) = n from by simp]
    simpa using h2
  rw [h1]
  simp
  omega

/-- What the closure answers. -/
def pick (c : Int) (m : Nat) : Nat := (if c < 0 then (-(c + 1)).toNat else c.toNat) % m
theorem pick_lt (c : Int) {m : Nat} (hm : 0 < m) : pick c m < m := Nat.mod_lt _ hm

set_option maxHeartbeats 1000000 in
theorem pick_walk (c : Int) (m : Nat) (w : World) (hm : 0 < m) (hm2 : m ≤ 100) (hw : (Lit.int .i64 c).wf = true) :
    Calls Try.prog 21 #[.int .i64 c, .int .i64 (m : Nat)] w fun e w' => e = .returned (.int .i64 ((pick c m : Nat) : Int)) ∧ w' = w := by
  have hb : -9223372036854775808 ≤ c ∧ c ≤ 9223372036854775807 := by
    simp [Lit.wf, IntKind.min, IntKind.max, IntKind.signed, IntKind.bits] at hw
    omega
  have hm0 : ¬ m = 0 := by omega
  by_cases h : c < 0
  · obtain ⟨d, hd⟩ : ∃ d : Nat, -(c + 1) = (d : Int) := ⟨(-(c + 1)).toNat, by omega⟩
    have h1 : wrap64 (-(c + 1)) = d := by rw [hd]; exact IntWalk.wrap64_in _ (by omega)
    have h2 : wrap64 (c + 1) = c + 1 := IntWalk.wrap64_in _ (by omega)
    have h3 : Int.tmod (d : Int) (m : Int) = ((d % m : Nat) : Int) := rfl
    have h4 : d % m < m := Nat.mod_lt _ hm
    have h5 : pick c m = d % m := by unfold pick; rw [if_pos h, show (-(c + 1)).toNat = d from by omega]
    rw [h5]
    go_enter Try.func21, Try.ntmps21
    go_wp2
    go_ret
    exact ⟨rfl, rfl⟩
  · obtain ⟨d, rfl⟩ : ∃ d : Nat, c = (d : Int) := ⟨c.toNat, by omega⟩
    have h3 : Int.tmod (d : Int) (m : Int) = ((d % m : Nat) : Int) := rfl
    have h4 : d % m < m := Nat.mod_lt _ hm
    have h5 : pick (d : Int) m = d % m := by unfold pick; rw [if_neg h]; simp
    rw [h5]
    go_enter Try.func21, Try.ntmps21
    go_wp2
    go_ret
    exact ⟨rfl, rfl⟩
end Go.Proofs.Ytdbhpiofbkhbeaa
