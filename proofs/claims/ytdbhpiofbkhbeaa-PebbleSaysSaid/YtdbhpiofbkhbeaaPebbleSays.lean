/-
  Proved: 'rafterlaw.PebbleSays' returns true whatever the input, and its arguments read as they did; no condition.
  The frame of this text was written by the kit's proof-skeleton program, and turned to a slice of pairs.
-/
import Derived.Test.YtdbhpiofbkhbeaaRows
import Derived.WalkKit
import Derived.ProofKit
import Derived.OpenShut
import Derived.ShutString
import Derived.ChangeOld
import Derived.Below
import Derived.Test.YtdbhpiofbkhbeaaDoor
import Derived.Test.YtdbhpiofbkhbeaaJoin
import Derived.Test.YtdbhpiofbkhbeaaSays2
import Derived.SizedLaws
namespace Go.Proofs.Ytdbhpiofbkhbeaa.pebbleSays
open Go.ChangeShapes Go.WideShapes Go.ChangeAt Go.RowKit
open Go.ChangeMaps (open_string shut_string)
set_option linter.unusedVariables false

theorem own : ownKnob Try.prog.godebug = none := by kernel_rfl
theorem bytes34 : Try.prog.bytesOf 34 = 16 := by kernel_rfl
theorem laidOut : laidOutB Try.prog = true := by kernel_rfl

/-! ### THE ROW's STEP: WRITTEN OUT: LEAVE IT -/
set_option maxRecDepth 100000 in
theorem lifted (os : Os) (started : os.Started) (H : Type) (enc : TypeId × Value → H) :
    ReturnsInHanded {} Try.checked os 5 .any (Rows.pebbleSaysSpec.pre6 enc Try.prog Try.f5 Rows.pebbleSaysRow.domain false) (Rows.pebbleSaysSpec.post enc Try.prog Try.f5 false true false false) := by
  refine returnsInHanded_of_change_sized (C := Try.checked) own started (by kernel_rfl) Try.func5
    (ChangeSpec.witness6 (enc := enc) (C := Try.checked) false ⟨#[], #[.int .i64 0, .slice none 0 0], []⟩ 8 (by kernel_rfl) (by kernel_rfl) (by kernel_rfl) (by kernel_rfl)) ?_
  intro W base args ds gs before hval0 hW hcnd hsz0 _
  have hval : ∀ (j : Nat) t v, Try.f5.params[j]? = some t → args[j]? = some v → Value.okWide Try.prog W .any base t v := hval0
  have hW' := hW
  obtain ⟨p, q, hA0, hV, rfl, hfz, hnd⟩ := hW
  have hA : DataW.TrodAll enc Try.prog W 0 (fun _ => true) true Try.f5.params.toList args.toList ds p := hA0
  have hsz : (DataW.weightsEach Try.prog (Try.f5.params.toList ++ Rows.pebbleSaysSpec.plain.varTypes Try.prog) (ds ++ gs)).all (· ≤ reachBytes) = true := hsz0
  rw [Try.params5] at hA hval hsz
  obtain ⟨v0, vs0, d0, ds0, p0, q0, hargs, rfl, rfl, h0, r0⟩ := trodAll_cons hA
  obtain ⟨v1, vs1, d1, ds1, p1, q1, rfl, rfl, rfl, h1, r1⟩ := trodAll_cons r0
  obtain ⟨rfl, rfl, rfl⟩ := trodAll_nil r1
  obtain rfl : args = #[v0, v1] := by cases args; simp_all
  obtain ⟨rfl, rfl⟩ := trodVars_none hV
  obtain ⟨a0, rfl, rfl, rfl, w0⟩ := open_int Try.underlying3 (hval 0 3 v0 rfl rfl) h0
  obtain ⟨a1, len1, cap1, rfl⟩ := okWide_slice Try.underlying27 (hval 1 27 v1 rfl rfl)
  have k1 := h1
  have lt1 : ∀ x ∈ p1, x.block < W.heap.size := by obtain ⟨m, hm⟩ := k1; exact DataW.trod_lt m _ _ _ hm
  have hcap : len1 ≤ cap1 ∧ len1 * 16 ≤ 140737488351232 := by
    obtain ⟨fuel, hf⟩ := k1
    rcases Go.Deep.open_slice Try.underlying27 hf with ⟨hcs, hd⟩ | ⟨a, l, c, m, n', D, Pl, hcs, hb, hlc, hmax, hm, hd, hel⟩
    · simp [Value.cells] at hcs
      obtain ⟨_, h2, h3⟩ := hcs
      omega
    · simp [Value.cells] at hcs
      obtain ⟨_, rfl, rfl⟩ := hcs
      injection hd with hd1 _
      subst hd1
      have hs := sized_slice hsz (j := 1) (t := 27) (e := 34) rfl rfl Try.underlying27
      rw [bytes34] at hs
      simp only [List.length_map, List.length_range, reachBytes] at hs
      exact ⟨hlc, by omega⟩
  obtain ⟨hl1, is, rfl, he⟩ := open_edges h1
  clear hA0 hval0
  refine (show Calls Try.prog 5 #[.int .i64 a0, .slice a1 is.length cap1] W fun e w' => e = .returned (.bool true) ∧ Below W.heap.size W w' from by
    by_cases hc : checkE a0 is = (0, 0)
    · exact Says_yes free_said a0 a1 cap1 is W he hcap.1 hc
    · exact Says_no free_said a0 a1 cap1 is W he hcap.1 hcap.2 hc).mono fun e W' ⟨he, bel⟩ => ?_
  subst he
  exact ⟨_, rfl, _, _, _, [], _, [], hW', trodAll_mk1 (shut_bool Try.underlying4 _), (trodAll_cons_mk (shut_int Try.underlying3 w0) (trodAll_cons_mk (Below.trod laidOut (by kernel_rfl) (of_decide_eq_true (by kernel_rfl)) k1 bel lt1) trodAll_mk0)), rfl, bel.frame _, fun h => by cases h⟩

theorem over : Rows.pebbleSaysRow.holds Try.pinned (OpenSpec.ofChange Rows.pebbleSaysSpec) :=
  OpenClaim.holds_of_wide 5 Try.f5 rfl rfl rfl rfl rfl rfl rfl ⟨rfl, rfl, rfl, rfl, rfl⟩ rfl rfl rfl rfl rfl (by kernel_rfl) Try.func5 (by kernel_rfl)
    (of_decide_eq_true (by kernel_rfl)) (by unfold Func.isWrapper; first | (rw [if_pos (by decide +kernel)]; kernel_rfl) | (rw [if_neg (by decide +kernel)]; exact ⟨rfl, rfl⟩))
    (fun os started H enc _ => lifted os started H enc)

/-- ████ THE STATEMENT ████ -/
theorem proved : Rows.PebbleSaysSaid := over
#print axioms proved
end Go.Proofs.Ytdbhpiofbkhbeaa.pebbleSays
