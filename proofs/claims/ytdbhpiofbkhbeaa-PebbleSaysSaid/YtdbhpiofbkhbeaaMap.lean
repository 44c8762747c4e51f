/- The laws for 'pebble.Check': a map with [2]int as keys and bools, made by the call. No condition. -/
import Derived.Test.YtdbhpiofbkhbeaaRows
import Derived.WalkKit
import Derived.WalkSpells
import Derived.WalkSmall
import Derived.Maps.OwnOps
import Derived.Laws.StructEq
import Derived.MapKept
import Derived.WideKeyRuns
namespace Go.Proofs.Ytdbhpiofbkhbeaa
open Go.RowKit
set_option linter.unusedSimpArgs false
set_option linter.unusedVariables false

def pairV (p : Int × Int) : Value := .agg #[.int .i64 p.1, .int .i64 p.2]

theorem pairV_eq (a b : Int) : pairV (a, b) = .agg #[.int .i64 a, .int .i64 b] := rfl

theorem build34 (a b : Int) (w : World) : (Instr.build 34 #[(0, .int .i64 a), (1, .int .i64 b)]).run Try.prog w = .ok (.agg #[.int .i64 a, .int .i64 b]) w := run_build w 34 _ _ (by kernel_rfl)

theorem equalIn34 (n : Nat) (a b c d : Int) (w : World) : (Op.equalIn (n + 2) 34 (.agg #[.int .i64 a, .int .i64 b]) (.agg #[.int .i64 c, .int .i64 d])).run Try.prog w = .ok (a == c && b == d) w := by
  have u3 := Try.underlying3
  have a3 := Try.isAgg3
  have z3 := Try.sizeOf3
  rw [show n + 2 = (n + 1) + 1 from rfl, Op.equalIn]
  simp only [Sem.run_bind, run_underlying Try.underlying34, Result.andThen_ok]
  simp only [Std.Legacy.Range.forIn_eq_forIn_range', Std.Legacy.Range.size, Nat.sub_zero, Nat.add_sub_cancel, Nat.div_one, List.range'_succ, List.range'_zero, List.forIn_cons, List.forIn_nil]
  go_simp
  by_cases h1 : a = c <;> by_cases h2 : b = d <;> simp [h1, h2]

theorem equal34 (p q : Int × Int) (w : World) : (Op.equal 34 (pairV p) (pairV q)).run Try.prog w = .ok (decide (p = q)) w := by
  obtain ⟨a, b⟩ := p
  obtain ⟨c, d⟩ := q
  have h := equalIn34 9998 a b c d w
  have e : (a == c && b == d) = decide ((a, b) = (c, d)) := by
    by_cases h1 : a = c <;> by_cases h2 : b = d <;> simp [h1, h2]
  rw [e] at h
  exact h

theorem checkKey34 (em : Bool) (n : Nat) (p : Int × Int) (w : World) : (Instr.checkKey em (n + 2) 34 (pairV p)).run Try.prog w = .ok () w := by
  obtain ⟨a, b⟩ := p
  have u3 := Try.underlying3
  have a3 := Try.isAgg3
  have z3 := Try.sizeOf3
  rw [show n + 2 = (n + 1) + 1 from rfl, pairV_eq, Instr.checkKey]
  simp only [Sem.run_bind, run_underlying Try.underlying34, Result.andThen_ok]
  simp only [Std.Legacy.Range.forIn_eq_forIn_range', Std.Legacy.Range.size, Nat.sub_zero, Nat.add_sub_cancel, Nat.div_one, List.range'_succ, List.range'_zero, List.forIn_cons, List.forIn_nil]
  have hk : ∀ (k : Int) (w : World), (Instr.checkKey em (n + 1) 3 (.int .i64 k)).run Try.prog w = .ok () w := fun k w => MapKept.run_checkKey u3 (by simp [MapKept.IsKey]) em n
  simp [Sem.run_bind, hk, part, Try.sizeOf3, Try.isAgg3]

theorem findAsking34 (p : Int × Int) (w : World) : ∀ (l : List (Int × Int)) (es : List MapEntry) (i : Nat), es.map (fun e => e.key) = l.map pairV → es.map (fun e => e.val) = l.map (fun _ => Value.bool true) →
    ∃ r, (Instr.findAsking 34 (pairV p) es i).run Try.prog w = .ok r w ∧ (p ∈ l → ∃ j, r = some (j, .bool true)) ∧ (p ∉ l → r = none)
  | [], es, i, h, _ => by
    have : es = [] := by simpa using h
    subst this
    exact ⟨none, by simp [Instr.findAsking], by simp, fun _ => rfl⟩
  | q :: l, [], i, h, _ => by simp at h
  | q :: l, e :: es, i, h, h' => by
    simp only [List.map_cons, List.cons.injEq] at h h'
    obtain ⟨r, hr, h1, h2⟩ := findAsking34 p w l es (i + 1) h.2 h'.2
    by_cases hpq : p = q
    · refine ⟨some (i, .bool true), ?_, fun _ => ⟨i, rfl⟩, fun hn => absurd (by simp [hpq]) hn⟩
      simp [Instr.findAsking, h.1, equal34, hpq, h'.1]
    · refine ⟨r, ?_, fun hm => h1 (by simpa [hpq] using hm), fun hn => h2 (fun hm => hn (by simp [hm]))⟩
      simp [Instr.findAsking, h.1, equal34, hpq, hr]

/-- Block b is a map whose keys are these pairs; each value is true. -/
def SetAt (w : World) (b : Nat) (l : List (Int × Int)) : Prop :=
  ∃ es clock, w.heap[b]? = some (.map es clock) ∧ es.toList.map (fun e => e.key) = l.map pairV ∧ es.toList.map (fun e => e.val) = l.map (fun _ => Value.bool true)

theorem findKey34 (p : Int × Int) (w : World) (es : List MapEntry) : (Instr.findKey 34 (pairV p) es).run Try.prog w = (Instr.findAsking 34 (pairV p) es).run Try.prog w :=
  run_findKey_eq (P := Try.prog) (w := w) (k := 34) (by rw [Try.underlying34]) _ _

theorem SetAt.lookup {w : World} {b : Nat} {l : List (Int × Int)} (h : SetAt w b l) (a c : Int) :
    (Instr.lookup 50 (.map (some b)) (.agg #[.int .i64 a, .int .i64 c]) false).run Try.prog w = .ok (.bool (decide ((a, c) ∈ l))) w := by
  obtain ⟨es, clock, hb, hk, hv⟩ := h
  obtain ⟨r, hr, h1, h2⟩ := findAsking34 (a, c) w l es.toList 0 hk hv
  have hz : (zeroValue 4).run Try.prog w = .ok (.bool false) w := by kernel_rfl
  have hck : (Instr.checkKey es.isEmpty 10000 34 (pairV (a, c))).run Try.prog w = .ok () w := checkKey34 es.isEmpty 9998 (a, c) w
  rw [← pairV_eq]
  by_cases hm : (a, c) ∈ l
  · obtain ⟨j, rfl⟩ := h1 hm
    simp [Instr.lookup, run_underlying Try.underlying50, MapKept.run_getObj_map hb, hck, findKey34, hr, hm]
  · have := h2 hm
    subst this
    simp [Instr.lookup, run_underlying Try.underlying50, MapKept.run_getObj_map hb, hck, findKey34, hr, hm, hz]

theorem SetAt.update {w : World} {b : Nat} {l : List (Int × Int)} (h : SetAt w b l) (a c : Int) (hn : (a, c) ∉ l) :
    ∃ w', (Instr.mapUpdate 50 (.map (some b)) (.agg #[.int .i64 a, .int .i64 c]) (.bool true)).run Try.prog w = .ok () w' ∧ SetAt w' b (l ++ [(a, c)]) ∧ w.grownBy w' (some b) := by
  obtain ⟨es, clock, hb, hk, hv⟩ := h
  obtain ⟨r, hr, h1, h2⟩ := findAsking34 (a, c) w l es.toList 0 hk hv
  have := h2 hn
  subst this
  have hck : (Instr.checkKey false 10000 34 (pairV (a, c))).run Try.prog w = .ok () w := checkKey34 false 9998 (a, c) w
  rw [← pairV_eq]
  have hs := MapKept.heap_set (o' := .map (es.push { key := pairV (a, c), val := .bool true, born := clock }) (clock + 1)) hb
  refine ⟨{ w with heap := w.heap.setIfInBounds b (.map (es.push { key := pairV (a, c), val := .bool true, born := clock }) (clock + 1)) }, ?_, ⟨_, _, hs.1, ?_, ?_⟩, ⟨rfl, rfl, rfl, by simp, fun k _ hne => hs.2 k (fun e => hne (by rw [e]))⟩⟩
  · simp [Instr.mapUpdate, run_underlying Try.underlying50, MapKept.run_getObj_map hb, hck, findKey34, hr, MapKept.run_setObj_map _ hb]
  · simp [hk]
  · simp [hv]

/-- The same at the walk's operations. -/
theorem wpList_lookup50 (w : World) {ops : Array Oper} {rest : List Oper} {o : Oper} {a : Act} {Q : Exit → Act → World → Prop}
    (hg : o.guard = none) (m x : Operand) (hop : o.op = Op.lookup 50 m x false) (b : Nat) (l : List (Int × Int)) (hm : a.eval m = .map (some b)) (h : SetAt w b l) (p q : Int)
    (hx : a.eval x = .agg #[.int .i64 p, .int .i64 q]) (hK : wpList Try.prog ops Q rest (a.put o.dst (.bool (decide ((p, q) ∈ l)))) w) : wpList Try.prog ops Q (o :: rest) a w := by
  refine wpList_plain hg fun K' hK' => ?_
  unfold Oper.wp
  simp [execOp, hop, hm, hx, h.lookup p q, Result.andThen]
  exact hK' _ _ hK

theorem wpList_update50 (w : World) {ops : Array Oper} {rest : List Oper} {o : Oper} {a : Act} {Q : Exit → Act → World → Prop}
    (hg : o.guard = none) (m x v : Operand) (hop : o.op = Op.mapUpdate 50 m x v) (b : Nat) (l : List (Int × Int)) (hm : a.eval m = .map (some b)) (h : SetAt w b l) (p q : Int)
    (hx : a.eval x = .agg #[.int .i64 p, .int .i64 q]) (hv : a.eval v = .bool true) (hn : (p, q) ∉ l)
    (hK : ∀ w', SetAt w' b (l ++ [(p, q)]) → w.grownBy w' (some b) → wpList Try.prog ops Q rest (a.put o.dst undef) w') : wpList Try.prog ops Q (o :: rest) a w := by
  refine wpList_plain hg fun K' hK' => ?_
  obtain ⟨w', hrun, r1, r2⟩ := h.update p q hn
  unfold Oper.wp
  simp [execOp, hop, hm, hx, hv, hrun, Result.andThen]
  exact hK' _ _ (hK w' r1 r2)
end Go.Proofs.Ytdbhpiofbkhbeaa
