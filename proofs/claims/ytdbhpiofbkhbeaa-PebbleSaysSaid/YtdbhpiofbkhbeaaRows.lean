/-
  No cell of these rows narrows 'for every input' (looked for: loops, veiled, ifaces, maps, wideKeys, modest, calm, conditions, laid).
  DERIVED. THE GIVEN ROWS OF THIS SEAT. 4 by the template 'for every input the law returns true; each argument reads behind the call as it read before'; 0 by the template 'total and deterministic' (their statements: YtdbhpiofbkhbeaaTotals.lean).
  GIVEN WITH THE SEED: the statements are not yours to turn. If you find one false, say at which input.
  Laid BY PROGRAM, IN A SANDBOX (cutbox-rows.mjs): the forced cells as the released guide's own fill.sh prints them over the translation 82fce557a804efdd… (all of the seat's roots in one cut). By AI agents, Wed Nov 11 2026. No macro, syntax, notation, axiom, sorry.
-/
import Derived.Test.YtdbhpiofbkhbeaaChecked
import GoSem.Claim
import GoSem.ClaimJoined
import GoSem.ClaimMapViews
import Derived.JoinedTies
import Derived.KernelRfl
namespace Go.Proofs.Ytdbhpiofbkhbeaa
/- THE CELL 'sum', in the pinned program and in every row, IS THE sha256 OF THE DUMP (.gsa) THAT YtdbhpiofbkhbeaaProg.lean LOADS. Nothing in Lean hashes anything: it is a label: what it is worth is what the hold of that sum in a sandbox is worth. -/
noncomputable def Try.pinned : Pinned := { name := "ytdbhpiofbkhbeaa", sum := "82fce557a804efdd021871b86bdd5d2e8d45a855ce58783c5f7f789a95664d82", checked := Try.checked }
namespace Rows
def none {H : Type} : Left H := { results := [], args := [] }

/-- 'rafterlaw.Names': WHATEVER THE INPUT: true; the input reads as it did. -/
def namesSpec : ChangeSpec := { name := "names", fn := fun _ => fun
  | [] => { results := [.lit (.bool true)], args := [] }
  | _ => none }
def namesRow : OpenClaim := { program := "ytdbhpiofbkhbeaa", sum := "82fce557a804efdd021871b86bdd5d2e8d45a855ce58783c5f7f789a95664d82", func := "rafter/rafterlaw.Names", spec := "names", plainKeys := false, apart := false }
def NamesSaid : Prop := namesRow.holds Try.pinned (OpenSpec.ofChange namesSpec)

/-- ITS FALSE NEIGHBOUR: 'it returns false'. Refute it at one input. -/
def namesWrong : ChangeSpec := { name := "names", fn := fun _ => fun
  | [] => { results := [.lit (.bool false)], args := [] }
  | _ => none }
def NamesWrongFalsely : Prop := namesRow.holds Try.pinned (OpenSpec.ofChange namesWrong)

/-- 'rafterlaw.PebbleTurns': WHATEVER THE INPUT: true; the input reads as it did. -/
def pebbleTurnsSpec : ChangeSpec := { name := "pebbleTurns", fn := fun _ => fun
  | [d1, d2, d3] => { results := [.lit (.bool true)], args := [d1, d2, d3] }
  | _ => none }
def pebbleTurnsRow : OpenClaim := { program := "ytdbhpiofbkhbeaa", sum := "82fce557a804efdd021871b86bdd5d2e8d45a855ce58783c5f7f789a95664d82", func := "rafter/rafterlaw.PebbleTurns", spec := "pebbleTurns", recurses := true, plainKeys := false, apart := false }
def PebbleTurnsSaid : Prop := pebbleTurnsRow.holds Try.pinned (OpenSpec.ofChange pebbleTurnsSpec)

/-- ITS FALSE NEIGHBOUR: 'it returns false'. Refute it at one input. -/
def pebbleTurnsWrong : ChangeSpec := { name := "pebbleTurns", fn := fun _ => fun
  | [d1, d2, d3] => { results := [.lit (.bool false)], args := [d1, d2, d3] }
  | _ => none }
def PebbleTurnsWrongFalsely : Prop := pebbleTurnsRow.holds Try.pinned (OpenSpec.ofChange pebbleTurnsWrong)

/-- 'rafterlaw.PebbleSays': WHATEVER THE INPUT: true; the input reads as it did. -/
def pebbleSaysSpec : ChangeSpec := { name := "pebbleSays", fn := fun _ => fun
  | [d1, d2] => { results := [.lit (.bool true)], args := [d1, d2] }
  | _ => none }
def pebbleSaysRow : OpenClaim := { program := "ytdbhpiofbkhbeaa", sum := "82fce557a804efdd021871b86bdd5d2e8d45a855ce58783c5f7f789a95664d82", func := "rafter/rafterlaw.PebbleSays", spec := "pebbleSays", recurses := true, plainKeys := false, apart := false }
def PebbleSaysSaid : Prop := pebbleSaysRow.holds Try.pinned (OpenSpec.ofChange pebbleSaysSpec)

/-- ITS FALSE NEIGHBOUR: 'it returns false'. Refute it at one input. -/
def pebbleSaysWrong : ChangeSpec := { name := "pebbleSays", fn := fun _ => fun
  | [d1, d2] => { results := [.lit (.bool false)], args := [d1, d2] }
  | _ => none }
def PebbleSaysWrongFalsely : Prop := pebbleSaysRow.holds Try.pinned (OpenSpec.ofChange pebbleSaysWrong)

/-- 'rafterlaw.PebbleGrows': WHATEVER THE INPUT: true; the input reads as it did. -/
def pebbleGrowsSpec : ChangeSpec := { name := "pebbleGrows", fn := fun _ => fun
  | [d] => { results := [.lit (.bool true)], args := [d] }
  | _ => none }
def pebbleGrowsRow : OpenClaim := { program := "ytdbhpiofbkhbeaa", sum := "82fce557a804efdd021871b86bdd5d2e8d45a855ce58783c5f7f789a95664d82", func := "rafter/rafterlaw.PebbleGrows", spec := "pebbleGrows", unfollowed := true, recurses := true, plainKeys := false, apart := false }
def PebbleGrowsSaid : Prop := pebbleGrowsRow.holds Try.pinned (OpenSpec.ofChange pebbleGrowsSpec)

/-- ITS FALSE NEIGHBOUR: 'it returns false'. Refute it at one input. -/
def pebbleGrowsWrong : ChangeSpec := { name := "pebbleGrows", fn := fun _ => fun
  | [d] => { results := [.lit (.bool false)], args := [d] }
  | _ => none }
def PebbleGrowsWrongFalsely : Prop := pebbleGrowsRow.holds Try.pinned (OpenSpec.ofChange pebbleGrowsWrong)

/- THE SECOND FORM. 'bulk': how many values and letters a reading holds, each counted each time it is reached (what is shared counts as often as it is met; a slice's spare places count too). A statement '..UptoSaid' is the law's where the arguments, and the package variables that the reading takes, are together of bulk at most 1048576: NARROWER than '..Said'. Prove '..Said' where nothing that the law and all that it calls make is longer than what came in: it says more and counts as full. Else prove '..UptoSaid'. A law counts once. -/
mutual
def uptoBulk {H : Type} : DataW H → Nat
  | .lit (.string bytes) => bytes.length + 1
  | .lit _ => 1
  | .nil => 1
  | .ptr d => uptoBulk d + 1
  | .slice elems spare => uptoBulkAll elems + uptoBulkAll spare + 1
  | .agg parts => uptoBulkAll parts + 1
  | .iface _ d => uptoBulk d + 1
  | .map entries => uptoBulkEntries entries + 1
  | .held _ => 1
def uptoBulkAll {H : Type} : List (DataW H) → Nat
  | [] => 0
  | d :: r => uptoBulk d + uptoBulkAll r
def uptoBulkEntries {H : Type} : List (Lit × DataW H) → Nat
  | [] => 0
  | x :: r => uptoBulkEntry x + uptoBulkEntries r
def uptoBulkEntry {H : Type} : Lit × DataW H → Nat
  | (.string bytes, d) => bytes.length + uptoBulk d + 1
  | (_, d) => uptoBulk d + 1
 end
def uptoSmall : (H : Type) → List (DataW H) → Bool := fun _ ds => decide (uptoBulkAll ds ≤ 1048576)
def OpenSpec.upto (s : _root_.Go.ChangeSpec) : _root_.Go.OpenSpec := { _root_.Go.OpenSpec.ofChange s with cond := some uptoSmall }

/-- 'rafterlaw.Names', WHERE WHAT IT READS IS OF BULK AT MOST 1048576: true; the input reads as it did. -/
def namesUptoRow : OpenClaim := { program := "ytdbhpiofbkhbeaa", sum := "82fce557a804efdd021871b86bdd5d2e8d45a855ce58783c5f7f789a95664d82", func := "rafter/rafterlaw.Names", spec := "names", plainKeys := false, apart := false, narrowed := true }
def NamesUptoSaid : Prop := namesUptoRow.holds Try.pinned (OpenSpec.upto namesSpec)

/-- 'rafterlaw.PebbleTurns', WHERE WHAT IT READS IS OF BULK AT MOST 1048576: true; the input reads as it did. -/
def pebbleTurnsUptoRow : OpenClaim := { program := "ytdbhpiofbkhbeaa", sum := "82fce557a804efdd021871b86bdd5d2e8d45a855ce58783c5f7f789a95664d82", func := "rafter/rafterlaw.PebbleTurns", spec := "pebbleTurns", recurses := true, plainKeys := false, apart := false, narrowed := true }
def PebbleTurnsUptoSaid : Prop := pebbleTurnsUptoRow.holds Try.pinned (OpenSpec.upto pebbleTurnsSpec)

/-- 'rafterlaw.PebbleSays', WHERE WHAT IT READS IS OF BULK AT MOST 1048576: true; the input reads as it did. -/
def pebbleSaysUptoRow : OpenClaim := { program := "ytdbhpiofbkhbeaa", sum := "82fce557a804efdd021871b86bdd5d2e8d45a855ce58783c5f7f789a95664d82", func := "rafter/rafterlaw.PebbleSays", spec := "pebbleSays", recurses := true, plainKeys := false, apart := false, narrowed := true }
def PebbleSaysUptoSaid : Prop := pebbleSaysUptoRow.holds Try.pinned (OpenSpec.upto pebbleSaysSpec)

/-- 'rafterlaw.PebbleGrows', WHERE WHAT IT READS IS OF BULK AT MOST 1048576: true; the input reads as it did. -/
def pebbleGrowsUptoRow : OpenClaim := { program := "ytdbhpiofbkhbeaa", sum := "82fce557a804efdd021871b86bdd5d2e8d45a855ce58783c5f7f789a95664d82", func := "rafter/rafterlaw.PebbleGrows", spec := "pebbleGrows", unfollowed := true, recurses := true, plainKeys := false, apart := false, narrowed := true }
def PebbleGrowsUptoSaid : Prop := pebbleGrowsUptoRow.holds Try.pinned (OpenSpec.upto pebbleGrowsSpec)

end Rows
end Go.Proofs.Ytdbhpiofbkhbeaa
