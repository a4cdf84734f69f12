/-
  No cell of these rows narrows 'for every input' (looked for: loops, veiled, ifaces, maps, wideKeys, modest, calm, conditions, laid).
  DERIVED. THE GIVEN ROWS OF THIS SEAT. 4 by the template 'for every input the law returns true; each argument reads behind the call as it read before'; 0 by the template 'total and deterministic' (their statements: YtfjmflkfnccohaaTotals.lean).
  GIVEN WITH THE SEED: the statements are not yours to turn. If you find one false, say at which input.
  Laid BY PROGRAM, IN A SANDBOX (cutbox-rows.mjs): the forced cells as the released guide's own fill.sh prints them over the translation d1cc492b30841c68… (all of the seat's roots in one cut). By AI agents, Wed Nov 11 2026. No macro, syntax, notation, axiom, sorry.
-/
import Derived.Test.YtfjmflkfnccohaaChecked
import GoSem.Claim
import GoSem.ClaimJoined
import GoSem.ClaimMapViews
import Derived.JoinedTies
import Derived.KernelRfl
namespace Go.Proofs.Ytfjmflkfnccohaa
/- THE CELL 'sum', in the pinned program and in every row, IS THE sha256 OF THE DUMP (.gsa) THAT YtfjmflkfnccohaaProg.lean LOADS. Nothing in Lean hashes anything: it is a label: what it is worth is what the hold of that sum in a sandbox is worth. -/
noncomputable def Try.pinned : Pinned := { name := "ytfjmflkfnccohaa", sum := "d1cc492b30841c681cbd95a8161abe9ff1e560702847fb554812a2bf3d3a15fd", checked := Try.checked }
namespace Rows
def none {H : Type} : Left H := { results := [], args := [] }

/-- 'tripwirelaw27.PairOnly': WHATEVER THE INPUT: true; the input reads as it did. -/
def pairOnlySpec : ChangeSpec := { name := "pairOnly", fn := fun _ => fun
  | [d] => { results := [.lit (.bool true)], args := [d] }
  | _ => none }
def pairOnlyRow : OpenClaim := { program := "ytfjmflkfnccohaa", sum := "d1cc492b30841c681cbd95a8161abe9ff1e560702847fb554812a2bf3d3a15fd", func := "tripwire/tripwirelaw27.PairOnly", spec := "pairOnly", apart := false }
def PairOnlySaid : Prop := pairOnlyRow.holds Try.pinned (OpenSpec.ofChange pairOnlySpec)

/-- ITS FALSE NEIGHBOUR: 'it returns false'. Refute it at one input. -/
def pairOnlyWrong : ChangeSpec := { name := "pairOnly", fn := fun _ => fun
  | [d] => { results := [.lit (.bool false)], args := [d] }
  | _ => none }
def PairOnlyWrongFalsely : Prop := pairOnlyRow.holds Try.pinned (OpenSpec.ofChange pairOnlyWrong)

/-- 'tripwirelaw27.PairTells': WHATEVER THE INPUT: true; the input reads as it did. -/
def pairTellsSpec : ChangeSpec := { name := "pairTells", fn := fun _ => fun
  | [d1, d2] => { results := [.lit (.bool true)], args := [d1, d2] }
  | _ => none }
def pairTellsRow : OpenClaim := { program := "ytfjmflkfnccohaa", sum := "d1cc492b30841c681cbd95a8161abe9ff1e560702847fb554812a2bf3d3a15fd", func := "tripwire/tripwirelaw27.PairTells", spec := "pairTells", apart := false }
def PairTellsSaid : Prop := pairTellsRow.holds Try.pinned (OpenSpec.ofChange pairTellsSpec)

/-- ITS FALSE NEIGHBOUR: 'it returns false'. Refute it at one input. -/
def pairTellsWrong : ChangeSpec := { name := "pairTells", fn := fun _ => fun
  | [d1, d2] => { results := [.lit (.bool false)], args := [d1, d2] }
  | _ => none }
def PairTellsWrongFalsely : Prop := pairTellsRow.holds Try.pinned (OpenSpec.ofChange pairTellsWrong)

/-- 'tripwirelaw27.PairGoes': WHATEVER THE INPUT: true; the input reads as it did. -/
def pairGoesSpec : ChangeSpec := { name := "pairGoes", fn := fun _ => fun
  | [d1, d2, d3, d4, d5] => { results := [.lit (.bool true)], args := [d1, d2, d3, d4, d5] }
  | _ => none }
def pairGoesRow : OpenClaim := { program := "ytfjmflkfnccohaa", sum := "d1cc492b30841c681cbd95a8161abe9ff1e560702847fb554812a2bf3d3a15fd", func := "tripwire/tripwirelaw27.PairGoes", spec := "pairGoes", apart := false }
def PairGoesSaid : Prop := pairGoesRow.holds Try.pinned (OpenSpec.ofChange pairGoesSpec)

/-- ITS FALSE NEIGHBOUR: 'it returns false'. Refute it at one input. -/
def pairGoesWrong : ChangeSpec := { name := "pairGoes", fn := fun _ => fun
  | [d1, d2, d3, d4, d5] => { results := [.lit (.bool false)], args := [d1, d2, d3, d4, d5] }
  | _ => none }
def PairGoesWrongFalsely : Prop := pairGoesRow.holds Try.pinned (OpenSpec.ofChange pairGoesWrong)

/-- 'tripwirelaw27.PairMakes': WHATEVER THE INPUT: true; the input reads as it did. -/
def pairMakesSpec : ChangeSpec := { name := "pairMakes", fn := fun _ => fun
  | [d1, d2, d3, d4, d5] => { results := [.lit (.bool true)], args := [d1, d2, d3, d4, d5] }
  | _ => none }
def pairMakesRow : OpenClaim := { program := "ytfjmflkfnccohaa", sum := "d1cc492b30841c681cbd95a8161abe9ff1e560702847fb554812a2bf3d3a15fd", func := "tripwire/tripwirelaw27.PairMakes", spec := "pairMakes", unfollowed := true, recurses := true, apart := false }
def PairMakesSaid : Prop := pairMakesRow.holds Try.pinned (OpenSpec.ofChange pairMakesSpec)

/-- ITS FALSE NEIGHBOUR: 'it returns false'. Refute it at one input. -/
def pairMakesWrong : ChangeSpec := { name := "pairMakes", fn := fun _ => fun
  | [d1, d2, d3, d4, d5] => { results := [.lit (.bool false)], args := [d1, d2, d3, d4, d5] }
  | _ => none }
def PairMakesWrongFalsely : Prop := pairMakesRow.holds Try.pinned (OpenSpec.ofChange pairMakesWrong)

/- THE SECOND FORM. 'bulk': how many values and letters a reading holds, each counted each time it is reached (what is shared counts as often as it is met; a slice's spare places count too). A statement '..UptoSaid' is the law's where the arguments, and the package variables that the reading takes, are together of bulk at most 1048576: NARROWER than '..Said'. Prove '..Said' where nothing that the law and all that it calls make is longer than what came in: it says more and counts as full. Else prove '..UptoSaid'. A law counts once. -/
mutual
def uptoBulk {H : Type} : DataW H → Nat
  | .lit (.string bytes) => bytes.length + 1
  | .lit _ => 1
  | .nil => 1
  | .ptr d => uptoBulk d + 1
  | .slice elems spare => uptoBulkAll elems + uptoBulkAll spare + 1
  | .agg parts => uptoBulkAll parts + 1
  | .iface _ d => uptoBulk d + 1
  | .map entries => uptoBulkEntries entries + 1
  | .held _ => 1
def uptoBulkAll {H : Type} : List (DataW H) → Nat
  | [] => 0
  | d :: r => uptoBulk d + uptoBulkAll r
def uptoBulkEntries {H : Type} : List (Lit × DataW H) → Nat
  | [] => 0
  | x :: r => uptoBulkEntry x + uptoBulkEntries r
def uptoBulkEntry {H : Type} : Lit × DataW H → Nat
  | (.string bytes, d) => bytes.length + uptoBulk d + 1
  | (_, d) => uptoBulk d + 1
 end
def uptoSmall : (H : Type) → List (DataW H) → Bool := fun _ ds => decide (uptoBulkAll ds ≤ 1048576)
def OpenSpec.upto (s : _root_.Go.ChangeSpec) : _root_.Go.OpenSpec := { _root_.Go.OpenSpec.ofChange s with cond := some uptoSmall }

/-- 'tripwirelaw27.PairOnly', WHERE WHAT IT READS IS OF BULK AT MOST 1048576: true; the input reads as it did. -/
def pairOnlyUptoRow : OpenClaim := { program := "ytfjmflkfnccohaa", sum := "d1cc492b30841c681cbd95a8161abe9ff1e560702847fb554812a2bf3d3a15fd", func := "tripwire/tripwirelaw27.PairOnly", spec := "pairOnly", apart := false, narrowed := true }
def PairOnlyUptoSaid : Prop := pairOnlyUptoRow.holds Try.pinned (OpenSpec.upto pairOnlySpec)

/-- 'tripwirelaw27.PairTells', WHERE WHAT IT READS IS OF BULK AT MOST 1048576: true; the input reads as it did. -/
def pairTellsUptoRow : OpenClaim := { program := "ytfjmflkfnccohaa", sum := "d1cc492b30841c681cbd95a8161abe9ff1e560702847fb554812a2bf3d3a15fd", func := "tripwire/tripwirelaw27.PairTells", spec := "pairTells", apart := false, narrowed := true }
def PairTellsUptoSaid : Prop := pairTellsUptoRow.holds Try.pinned (OpenSpec.upto pairTellsSpec)

/-- 'tripwirelaw27.PairGoes', WHERE WHAT IT READS IS OF BULK AT MOST 1048576: true; the input reads as it did. -/
def pairGoesUptoRow : OpenClaim := { program := "ytfjmflkfnccohaa", sum := "d1cc492b30841c681cbd95a8161abe9ff1e560702847fb554812a2bf3d3a15fd", func := "tripwire/tripwirelaw27.PairGoes", spec := "pairGoes", apart := false, narrowed := true }
def PairGoesUptoSaid : Prop := pairGoesUptoRow.holds Try.pinned (OpenSpec.upto pairGoesSpec)

/-- 'tripwirelaw27.PairMakes', WHERE WHAT IT READS IS OF BULK AT MOST 1048576: true; the input reads as it did. -/
def pairMakesUptoRow : OpenClaim := { program := "ytfjmflkfnccohaa", sum := "d1cc492b30841c681cbd95a8161abe9ff1e560702847fb554812a2bf3d3a15fd", func := "tripwire/tripwirelaw27.PairMakes", spec := "pairMakes", unfollowed := true, recurses := true, apart := false, narrowed := true }
def PairMakesUptoSaid : Prop := pairMakesUptoRow.holds Try.pinned (OpenSpec.upto pairMakesSpec)

end Rows
end Go.Proofs.Ytfjmflkfnccohaa
