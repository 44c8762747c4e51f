/- The contract of 'raftersame.Still' at edges: a list that was lent, and stands as it did: true. Condition: the list's bytes are within a process's reach. -/
import Derived.Test.YtdbhpiofbkhbeaaLend
import Derived.Test.YtdbhpiofbkhbeaaSame
import Derived.BigQuiet
import Derived.Deep.QuietTactic
namespace Go.Proofs.Ytdbhpiofbkhbeaa
open Go.RowKit
set_option linter.unusedSimpArgs false
set_option linter.unusedVariables false

/-- Two edges differ. -/
def diffB (a b c d : Int) : Bool := !decide ((a, b) = (c, d))
theorem nes34 (a b c d : Int) (w : World) : (binOp .neq 34 (.agg #[.int .i64 a, .int .i64 b]) (.agg #[.int .i64 c, .int .i64 d])).run Try.prog w = .ok (.bool (diffB a b c d)) w := neq34 a b c d w
theorem diffB_self (a b : Int) : diffB a b a b = false := by simp [diffB]

def Marks : List (Int × Int) := [((-9 : Int), (-9 : Int)), ((-9 : Int), (-9 : Int)), ((-9 : Int), (-9 : Int))]

theorem marks_get (is : List (Int × Int)) (j : Nat) (h1 : ¬ j < is.length) (h2 : j < (is ++ Marks).length) : (is ++ Marks)[j] = (-9, -9) := by
  rw [List.getElem_append_right (by omega)]
  have h3 : j - is.length < 3 := by rw [List.length_append] at h2; simp [Marks] at h2; omega
  have key : ∀ k (hk : k < Marks.length), Marks[k] = (-9, -9) := by decide
  exact key _ _

set_option maxHeartbeats 2000000 in
theorem Still_walk (b c : Nat) (A : Option Addr) (cap base : Nat) (is : List (Int × Int)) (w : World) (he : Edges w A is) (ho : OwnsE w base (some ⟨b, 0, none⟩) c (is ++ Marks)) (hlen : is.length * 16 ≤ 140737488351232) :
    Calls Try.prog 18 #[.slice (some ⟨b, 0, none⟩) is.length c, .slice A is.length cap, .agg #[.int .i64 (-9), .int .i64 (-9)]] w fun e w' => e = .returned (.bool true) ∧ Below w.heap.size w w' := by
  have HE := Lib.hid he
  have HO := Lib.hid ho.edges
  have hlc := ho.len
  have HML := Lib.hid (show (is ++ Marks).length = is.length + 3 by rw [List.length_append]; rfl)
  rw [HML.out] at hlc
  clear he ho
  generalize hl : is.length = len at *
  have HL := Lib.hid hl
  clear hl
  have hlcI : ((len + 3 : Nat) : Int) ≤ (c : Int) := by omega
  have hwk : wrap64 ((len : Int) + 3) = ((len + 3 : Nat) : Int) := by unfold wrap64; omega
  have q34 := nes34
  go_enter Try.func18, Try.ntmps18
  have hnew := heap_alloc_new w (.cells #[.int .i64 (-9), .int .i64 (-9)] 34)
  have HR0 := Lib.hid (And.intro (belowAlloc (Below.refl w.heap.size w) (.cells #[.int .i64 (-9), .int .i64 (-9)] 34)) hnew)
  clear hnew
  go_upto_region 2 with (fail)
  generalize w.alloc (.cells #[.int .i64 (-9), .int .i64 (-9)] 34) = W1 at *
  clear hwk hlcI
  generalize hN : len + 3 = N at *
  go_wp2_with fail
  go_loopw [17] (fun i wr => ∃ j : Nat, j ≤ N ∧ i = .int .i64 j ∧ Below w.heap.size w wr ∧ wr.heap[w.heap.size]? = some (.cells #[.int .i64 (-9), .int .i64 (-9)] 34 (0, 0))) (fun i _ => N - (intOf i).toNat)
  case atStart => exact ⟨0, by omega, rfl, HR0.out⟩
  case round =>
    clear HR0
    obtain ⟨j, hj, rfl, hb, hbox⟩ := hrel
    by_cases hjN : j < N
    · have hj' : j < (is ++ Marks).length := by rw [HML.out]; exact hjN
      obtain ⟨b', o', hA', hbl, h1, h2⟩ := HO.out j hj'
      cases hA'
      simp only [Nat.zero_add] at h1 h2
      have g1 := (hb.cell (p := ⟨b, _, none⟩) hbl).trans h1
      have g2 := (hb.cell (p := ⟨b, _, none⟩) hbl).trans h2
      obtain ⟨x, y, hxy⟩ : ∃ x y, (is ++ Marks)[j] = (x, y) := ⟨_, _, rfl⟩
      rw [hxy] at g1 g2
      dsimp only at g1 g2
      have hnew := heap_alloc_new wr (.cells #[.int .i64 x, .int .i64 y] 34)
      have hsz : w.heap.size < wr.heap.size := (Array.getElem?_eq_some_iff.1 hbox).1
      have hbox2 := (Below.heap_alloc wr (.cells #[.int .i64 x, .int .i64 y] 34) _ hsz).trans hbox
      have HB2 := Lib.hid (belowAlloc hb (.cells #[.int .i64 x, .int .i64 y] 34))
      have HBOX := Lib.hid hbox2
      clear h1 h2
      have hjc : (j : Int) < (N : Int) := by omega
      have hj0 : (0 : Int) ≤ (j : Int) := by omega
      by_cases hjl : j < len
      · have hjl' : j < is.length := by rw [HL.out]; exact hjl
        have hx2 : is[j] = (x, y) := by rw [← hxy, List.getElem_append_left hjl']
        obtain ⟨b2, o2, rfl, hb2, h1, h2⟩ := HE.out j hjl'
        rw [hx2] at h1 h2
        dsimp only at h1 h2
        have k1 := ((belowAlloc hb (.cells #[.int .i64 x, .int .i64 y] 34)).cell (p := ⟨b2, _, none⟩) hb2).trans h1
        have k2 := ((belowAlloc hb (.cells #[.int .i64 x, .int .i64 y] 34)).cell (p := ⟨b2, _, none⟩) hb2).trans h2
        have d1 : decide (j < len) = true := by rw [decide_eq_true_iff]; omega
        have d2 : decide (len ≤ j) = false := by rw [decide_eq_false_iff_not]; omega
        have hjl2 : (j : Int) < (len : Int) := by omega
        have hd := diffB_self x y
        clear h1 h2 hx2 hxy hb hbox hbox2
        go_upto_region 5 with (fail)
        clear g1 g2
        obtain ⟨s0, s1, _, _⟩ := two_at hnew
        clear hnew
        generalize wr.alloc (.cells #[.int .i64 x, .int .i64 y] 34) = W2 at *
        go_quiet (fail)
        go_wp2
        go_roundw
        case rel => exact ⟨j + 1, by omega, by go_num, below_drewN HB2.out _, HBOX.out⟩
        case measure => simp [intOf]; omega
      · have hm := marks_get is j (by rw [HL.out]; exact hjl) hj'
        rw [hxy] at hm
        injection hm with hm1 hm2
        subst hm1 hm2
        have d1 : decide (j < len) = false := by rw [decide_eq_false_iff_not]; omega
        have d2 : decide (len ≤ j) = true := by rw [decide_eq_true_iff]; omega
        have hd := diffB_self (-9) (-9)
        obtain ⟨p0, p1, _, _⟩ := two_at hbox2
        clear hxy hb hbox hbox2
        go_upto_region 5 with (fail)
        clear g1 g2
        obtain ⟨s0, s1, _, _⟩ := two_at hnew
        clear hnew
        generalize wr.alloc (.cells #[.int .i64 (-9), .int .i64 (-9)] 34) = W2 at *
        go_quiet (fail)
        go_wp2
        go_roundw
        case rel => exact ⟨j + 1, by omega, by go_num, below_drewN HB2.out _, HBOX.out⟩
        case measure => simp [intOf]; omega
    · obtain rfl : N = j := by omega
      have HB := Lib.hid hb
      clear hb hbox hjN
      go_wp2
      go_ret
      exact ⟨rfl, HB.out⟩
end Go.Proofs.Ytdbhpiofbkhbeaa
