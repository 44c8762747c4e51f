/- Equality of two edges and of two faults, as Go's operators run; the contract of 'rafterref.F'. No condition. -/
import Derived.Test.YtdbhpiofbkhbeaaTop
namespace Go.Proofs.Ytdbhpiofbkhbeaa
open Go.RowKit
set_option linter.unusedSimpArgs false
set_option linter.unusedVariables false

theorem eql34 (a b c d : Int) (w : World) : (binOp .eql 34 (.agg #[.int .i64 a, .int .i64 b]) (.agg #[.int .i64 c, .int .i64 d])).run Try.prog w = .ok (.bool (decide ((a, b) = (c, d)))) w := by
  have h := equal34 (a, b) (c, d) w
  simp only [pairV] at h
  simp [binOp, h]

theorem neq34 (a b c d : Int) (w : World) : (binOp .neq 34 (.agg #[.int .i64 a, .int .i64 b]) (.agg #[.int .i64 c, .int .i64 d])).run Try.prog w = .ok (.bool (!decide ((a, b) = (c, d)))) w := by
  have h := equal34 (a, b) (c, d) w
  simp only [pairV] at h
  simp [binOp, h]

theorem neq30 (a b c d : Int) (w : World) : (binOp .neq 30 (.agg #[.int .i64 a, .int .i64 b]) (.agg #[.int .i64 c, .int .i64 d])).run Try.prog w = .ok (.bool (!(a == c && b == d))) w := by
  have u3 := Try.underlying3
  have u22 := Try.underlying22
  have a3 := Try.isAgg3
  have z3 := Try.sizeOf3
  have a22 := Try.isAgg22
  have z22 := Try.sizeOf22
  have h : (Op.equal 30 (.agg #[.int .i64 a, .int .i64 b]) (.agg #[.int .i64 c, .int .i64 d])).run Try.prog w = .ok (a == c && b == d) w := by
    show (Op.equalIn (9999 + 1) 30 _ _).run Try.prog w = _
    rw [run_equalIn_struct w 9999 30 _ _ (by kernel_rfl) (by kernel_rfl)]
    have hf : (Try.prog.fieldsOf 30).toList = (match Try.prog.underlying 30 with | some (.struct fs) => fs.toList | _ => []) := by
      unfold Program.fieldsOf; rw [Try.underlying30]
    rw [hf, Try.underlying30]
    go_simp
    by_cases h1 : a = c <;> by_cases h2 : b = d <;> simp [h1, h2]
  simp [binOp, h]

set_option maxHeartbeats 1000000 in
theorem F_walk (c p : Int) (w : World) : Calls Try.prog 23 #[.int .i64 c, .int .i64 p] w fun e w' => e = .returned (faultV (c, p)) ∧ Below w.heap.size w w' := by
  go_enter Try.func23, Try.ntmps23
  go_wp2
  refine bodyPost_ret (v := .agg #[.int .i64 c, .int .i64 p]) (by simp [results, Try.results23, go_sem]) rfl ⟨rfl, ?_⟩
  exact belowAlloc (Below.refl _ _) _
end Go.Proofs.Ytdbhpiofbkhbeaa
