/-
  No cell of these rows narrows 'for every input' (looked for: loops, veiled, ifaces, maps, wideKeys, modest, calm, conditions, laid).
  DERIVED. THE GIVEN ROWS OF THIS SEAT. 3 by the template 'for every input the law returns true; each argument reads behind the call as it read before'; 0 by the template 'total and deterministic' (their statements: YtbjfhdkgbhkodaaTotals.lean).
  GIVEN WITH THE SEED: the statements are not yours to turn. If you find one false, say at which input.
  Laid BY PROGRAM, IN A SANDBOX (cutbox-rows.mjs): the forced cells as the released guide's own fill.sh prints them over the translation 9cf68d6fcedbcf06… (all of the seat's roots in one cut). By AI agents, Wed Nov 11 2026. No macro, syntax, notation, axiom, sorry.
-/
import Derived.Test.YtbjfhdkgbhkodaaChecked
import GoSem.Claim
import GoSem.ClaimJoined
import GoSem.ClaimMapViews
import Derived.JoinedTies
import Derived.KernelRfl
namespace Go.Proofs.Ytbjfhdkgbhkodaa
/- THE CELL 'sum', in the pinned program and in every row, IS THE sha256 OF THE DUMP (.gsa) THAT YtbjfhdkgbhkodaaProg.lean LOADS. Nothing in Lean hashes anything: it is a label: what it is worth is what the hold of that sum in a sandbox is worth. -/
noncomputable def Try.pinned : Pinned := { name := "ytbjfhdkgbhkodaa", sum := "9cf68d6fcedbcf066b4cdfb5e35f8f0ee302618698d3dcfbda259a137c4d0357", checked := Try.checked }
namespace Rows
def none {H : Type} : Left H := { results := [], args := [] }

/-- 'tripwirelaw29.ProdApart': WHATEVER THE INPUT: true; the input reads as it did. -/
def prodApartSpec : ChangeSpec := { name := "prodApart", fn := fun _ => fun
  | [d1, d2] => { results := [.lit (.bool true)], args := [d1, d2] }
  | _ => none }
def prodApartRow : OpenClaim := { program := "ytbjfhdkgbhkodaa", sum := "9cf68d6fcedbcf066b4cdfb5e35f8f0ee302618698d3dcfbda259a137c4d0357", func := "tripwire/tripwirelaw29.ProdApart", spec := "prodApart", apart := false }
def ProdApartSaid : Prop := prodApartRow.holds Try.pinned (OpenSpec.ofChange prodApartSpec)

/-- ITS FALSE NEIGHBOUR: 'it returns false'. Refute it at one input. -/
def prodApartWrong : ChangeSpec := { name := "prodApart", fn := fun _ => fun
  | [d1, d2] => { results := [.lit (.bool false)], args := [d1, d2] }
  | _ => none }
def ProdApartWrongFalsely : Prop := prodApartRow.holds Try.pinned (OpenSpec.ofChange prodApartWrong)

/-- 'tripwirelaw29.ProdTimes': WHATEVER THE INPUT: true; the input reads as it did. -/
def prodTimesSpec : ChangeSpec := { name := "prodTimes", fn := fun _ => fun
  | [d1, d2, d3, d4] => { results := [.lit (.bool true)], args := [d1, d2, d3, d4] }
  | _ => none }
def prodTimesRow : OpenClaim := { program := "ytbjfhdkgbhkodaa", sum := "9cf68d6fcedbcf066b4cdfb5e35f8f0ee302618698d3dcfbda259a137c4d0357", func := "tripwire/tripwirelaw29.ProdTimes", spec := "prodTimes", unfollowed := true, recurses := true, apart := false }
def ProdTimesSaid : Prop := prodTimesRow.holds Try.pinned (OpenSpec.ofChange prodTimesSpec)

/-- ITS FALSE NEIGHBOUR: 'it returns false'. Refute it at one input. -/
def prodTimesWrong : ChangeSpec := { name := "prodTimes", fn := fun _ => fun
  | [d1, d2, d3, d4] => { results := [.lit (.bool false)], args := [d1, d2, d3, d4] }
  | _ => none }
def ProdTimesWrongFalsely : Prop := prodTimesRow.holds Try.pinned (OpenSpec.ofChange prodTimesWrong)

/-- 'tripwirelaw29.ProdSteps': WHATEVER THE INPUT: true; the input reads as it did. -/
def prodStepsSpec : ChangeSpec := { name := "prodSteps", fn := fun _ => fun
  | [d1, d2, d3] => { results := [.lit (.bool true)], args := [d1, d2, d3] }
  | _ => none }
def prodStepsRow : OpenClaim := { program := "ytbjfhdkgbhkodaa", sum := "9cf68d6fcedbcf066b4cdfb5e35f8f0ee302618698d3dcfbda259a137c4d0357", func := "tripwire/tripwirelaw29.ProdSteps", spec := "prodSteps", apart := false }
def ProdStepsSaid : Prop := prodStepsRow.holds Try.pinned (OpenSpec.ofChange prodStepsSpec)

/-- ITS FALSE NEIGHBOUR: 'it returns false'. Refute it at one input. -/
def prodStepsWrong : ChangeSpec := { name := "prodSteps", fn := fun _ => fun
  | [d1, d2, d3] => { results := [.lit (.bool false)], args := [d1, d2, d3] }
  | _ => none }
def ProdStepsWrongFalsely : Prop := prodStepsRow.holds Try.pinned (OpenSpec.ofChange prodStepsWrong)

/- THE SECOND FORM. 'bulk': how many values and letters a reading holds, each counted each time it is reached (what is shared counts as often as it is met; a slice's spare places count too). A statement '..UptoSaid' is the law's where the arguments, and the package variables that the reading takes, are together of bulk at most 1048576: NARROWER than '..Said'. Prove '..Said' where nothing that the law and all that it calls make is longer than what came in: it says more and counts as full. Else prove '..UptoSaid'. A law counts once. -/
mutual
def uptoBulk {H : Type} : DataW H → Nat
  | .lit (.string bytes) => bytes.length + 1
  | .lit _ => 1
  | .nil => 1
  | .ptr d => uptoBulk d + 1
  | .slice elems spare => uptoBulkAll elems + uptoBulkAll spare + 1
  | .agg parts => uptoBulkAll parts + 1
  | .iface _ d => uptoBulk d + 1
  | .map entries => uptoBulkEntries entries + 1
  | .held _ => 1
def uptoBulkAll {H : Type} : List (DataW H) → Nat
  | [] => 0
  | d :: r => uptoBulk d + uptoBulkAll r
def uptoBulkEntries {H : Type} : List (Lit × DataW H) → Nat
  | [] => 0
  | x :: r => uptoBulkEntry x + uptoBulkEntries r
def uptoBulkEntry {H : Type} : Lit × DataW H → Nat
  | (.string bytes, d) => bytes.length + uptoBulk d + 1
  | (_, d) => uptoBulk d + 1
 end
def uptoSmall : (H : Type) → List (DataW H) → Bool := fun _ ds => decide (uptoBulkAll ds ≤ 1048576)
def OpenSpec.upto (s : _root_.Go.ChangeSpec) : _root_.Go.OpenSpec := { _root_.Go.OpenSpec.ofChange s with cond := some uptoSmall }

/-- 'tripwirelaw29.ProdApart', WHERE WHAT IT READS IS OF BULK AT MOST 1048576: true; the input reads as it did. -/
def prodApartUptoRow : OpenClaim := { program := "ytbjfhdkgbhkodaa", sum := "9cf68d6fcedbcf066b4cdfb5e35f8f0ee302618698d3dcfbda259a137c4d0357", func := "tripwire/tripwirelaw29.ProdApart", spec := "prodApart", apart := false, narrowed := true }
def ProdApartUptoSaid : Prop := prodApartUptoRow.holds Try.pinned (OpenSpec.upto prodApartSpec)

/-- 'tripwirelaw29.ProdTimes', WHERE WHAT IT READS IS OF BULK AT MOST 1048576: true; the input reads as it did. -/
def prodTimesUptoRow : OpenClaim := { program := "ytbjfhdkgbhkodaa", sum := "9cf68d6fcedbcf066b4cdfb5e35f8f0ee302618698d3dcfbda259a137c4d0357", func := "tripwire/tripwirelaw29.ProdTimes", spec := "prodTimes", unfollowed := true, recurses := true, apart := false, narrowed := true }
def ProdTimesUptoSaid : Prop := prodTimesUptoRow.holds Try.pinned (OpenSpec.upto prodTimesSpec)

/-- 'tripwirelaw29.ProdSteps', WHERE WHAT IT READS IS OF BULK AT MOST 1048576: true; the input reads as it did. -/
def prodStepsUptoRow : OpenClaim := { program := "ytbjfhdkgbhkodaa", sum := "9cf68d6fcedbcf066b4cdfb5e35f8f0ee302618698d3dcfbda259a137c4d0357", func := "tripwire/tripwirelaw29.ProdSteps", spec := "prodSteps", apart := false, narrowed := true }
def ProdStepsUptoSaid : Prop := prodStepsUptoRow.holds Try.pinned (OpenSpec.upto prodStepsSpec)

end Rows
end Go.Proofs.Ytbjfhdkgbhkodaa
