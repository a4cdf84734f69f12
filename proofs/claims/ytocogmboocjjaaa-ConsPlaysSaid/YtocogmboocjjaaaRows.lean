/-
  No cell of these rows narrows 'for every input' (looked for: loops, veiled, ifaces, maps, wideKeys, modest, calm, conditions, laid).
  DERIVED. THE GIVEN ROWS OF THIS SEAT. 4 by the template 'for every input the law returns true; each argument reads behind the call as it read before'; 0 by the template 'total and deterministic' (their statements: YtocogmboocjjaaaTotals.lean).
  GIVEN WITH THE SEED: the statements are not yours to turn. If you find one false, say at which input.
  Laid BY PROGRAM, IN A SANDBOX (cutbox-rows.mjs): the forced cells as the released guide's own fill.sh prints them over the translation 3ee59e2f4e798863… (all of the seat's roots in one cut). By AI agents, Wed Nov 11 2026. No macro, syntax, notation, axiom, sorry.
-/
import Derived.Test.YtocogmboocjjaaaChecked
import GoSem.Claim
import GoSem.ClaimJoined
import GoSem.ClaimMapViews
import Derived.JoinedTies
import Derived.KernelRfl
namespace Go.Proofs.Ytocogmboocjjaaa
/- THE CELL 'sum', in the pinned program and in every row, IS THE sha256 OF THE DUMP (.gsa) THAT YtocogmboocjjaaaProg.lean LOADS. Nothing in Lean hashes anything: it is a label: what it is worth is what the hold of that sum in a sandbox is worth. -/
noncomputable def Try.pinned : Pinned := { name := "ytocogmboocjjaaa", sum := "3ee59e2f4e79886368f7ec3c36c3e8ac9947e0e2ae6c2d694b773f1e4ee2d0fe", checked := Try.checked }
namespace Rows
def none {H : Type} : Left H := { results := [], args := [] }

/-- 'tripwirelaw30.ConsLate': WHATEVER THE INPUT: true; the input reads as it did. -/
def consLateSpec : ChangeSpec := { name := "consLate", fn := fun _ => fun
  | [d1, d2, d3, d4, d5, d6] => { results := [.lit (.bool true)], args := [d1, d2, d3, d4, d5, d6] }
  | _ => none }
def consLateRow : OpenClaim := { program := "ytocogmboocjjaaa", sum := "3ee59e2f4e79886368f7ec3c36c3e8ac9947e0e2ae6c2d694b773f1e4ee2d0fe", func := "tripwire/tripwirelaw30.ConsLate", spec := "consLate", apart := false }
def ConsLateSaid : Prop := consLateRow.holds Try.pinned (OpenSpec.ofChange consLateSpec)

/-- ITS FALSE NEIGHBOUR: 'it returns false'. Refute it at one input. -/
def consLateWrong : ChangeSpec := { name := "consLate", fn := fun _ => fun
  | [d1, d2, d3, d4, d5, d6] => { results := [.lit (.bool false)], args := [d1, d2, d3, d4, d5, d6] }
  | _ => none }
def ConsLateWrongFalsely : Prop := consLateRow.holds Try.pinned (OpenSpec.ofChange consLateWrong)

/-- 'tripwirelaw30.ConsOnly': WHATEVER THE INPUT: true; the input reads as it did. -/
def consOnlySpec : ChangeSpec := { name := "consOnly", fn := fun _ => fun
  | [d1, d2] => { results := [.lit (.bool true)], args := [d1, d2] }
  | _ => none }
def consOnlyRow : OpenClaim := { program := "ytocogmboocjjaaa", sum := "3ee59e2f4e79886368f7ec3c36c3e8ac9947e0e2ae6c2d694b773f1e4ee2d0fe", func := "tripwire/tripwirelaw30.ConsOnly", spec := "consOnly", apart := false }
def ConsOnlySaid : Prop := consOnlyRow.holds Try.pinned (OpenSpec.ofChange consOnlySpec)

/-- ITS FALSE NEIGHBOUR: 'it returns false'. Refute it at one input. -/
def consOnlyWrong : ChangeSpec := { name := "consOnly", fn := fun _ => fun
  | [d1, d2] => { results := [.lit (.bool false)], args := [d1, d2] }
  | _ => none }
def ConsOnlyWrongFalsely : Prop := consOnlyRow.holds Try.pinned (OpenSpec.ofChange consOnlyWrong)

/-- 'tripwirelaw30.ConsWell': WHATEVER THE INPUT: true; the input reads as it did. -/
def consWellSpec : ChangeSpec := { name := "consWell", fn := fun _ => fun
  | [d1, d2, d3] => { results := [.lit (.bool true)], args := [d1, d2, d3] }
  | _ => none }
def consWellRow : OpenClaim := { program := "ytocogmboocjjaaa", sum := "3ee59e2f4e79886368f7ec3c36c3e8ac9947e0e2ae6c2d694b773f1e4ee2d0fe", func := "tripwire/tripwirelaw30.ConsWell", spec := "consWell", apart := false }
def ConsWellSaid : Prop := consWellRow.holds Try.pinned (OpenSpec.ofChange consWellSpec)

/-- ITS FALSE NEIGHBOUR: 'it returns false'. Refute it at one input. -/
def consWellWrong : ChangeSpec := { name := "consWell", fn := fun _ => fun
  | [d1, d2, d3] => { results := [.lit (.bool false)], args := [d1, d2, d3] }
  | _ => none }
def ConsWellWrongFalsely : Prop := consWellRow.holds Try.pinned (OpenSpec.ofChange consWellWrong)

/-- 'tripwirelaw30.ConsPlays': WHATEVER THE INPUT: true; the input reads as it did. -/
def consPlaysSpec : ChangeSpec := { name := "consPlays", fn := fun _ => fun
  | [d1, d2, d3] => { results := [.lit (.bool true)], args := [d1, d2, d3] }
  | _ => none }
def consPlaysRow : OpenClaim := { program := "ytocogmboocjjaaa", sum := "3ee59e2f4e79886368f7ec3c36c3e8ac9947e0e2ae6c2d694b773f1e4ee2d0fe", func := "tripwire/tripwirelaw30.ConsPlays", spec := "consPlays", apart := false }
def ConsPlaysSaid : Prop := consPlaysRow.holds Try.pinned (OpenSpec.ofChange consPlaysSpec)

/-- ITS FALSE NEIGHBOUR: 'it returns false'. Refute it at one input. -/
def consPlaysWrong : ChangeSpec := { name := "consPlays", fn := fun _ => fun
  | [d1, d2, d3] => { results := [.lit (.bool false)], args := [d1, d2, d3] }
  | _ => none }
def ConsPlaysWrongFalsely : Prop := consPlaysRow.holds Try.pinned (OpenSpec.ofChange consPlaysWrong)

/- THE SECOND FORM. 'bulk': how many values and letters a reading holds, each counted each time it is reached (what is shared counts as often as it is met; a slice's spare places count too). A statement '..UptoSaid' is the law's where the arguments, and the package variables that the reading takes, are together of bulk at most 1048576: NARROWER than '..Said'. Prove '..Said' where nothing that the law and all that it calls make is longer than what came in: it says more and counts as full. Else prove '..UptoSaid'. A law counts once. -/
mutual
def uptoBulk {H : Type} : DataW H → Nat
  | .lit (.string bytes) => bytes.length + 1
  | .lit _ => 1
  | .nil => 1
  | .ptr d => uptoBulk d + 1
  | .slice elems spare => uptoBulkAll elems + uptoBulkAll spare + 1
  | .agg parts => uptoBulkAll parts + 1
  | .iface _ d => uptoBulk d + 1
  | .map entries => uptoBulkEntries entries + 1
  | .held _ => 1
def uptoBulkAll {H : Type} : List (DataW H) → Nat
  | [] => 0
  | d :: r => uptoBulk d + uptoBulkAll r
def uptoBulkEntries {H : Type} : List (Lit × DataW H) → Nat
  | [] => 0
  | x :: r => uptoBulkEntry x + uptoBulkEntries r
def uptoBulkEntry {H : Type} : Lit × DataW H → Nat
  | (.string bytes, d) => bytes.length + uptoBulk d + 1
  | (_, d) => uptoBulk d + 1
 end
def uptoSmall : (H : Type) → List (DataW H) → Bool := fun _ ds => decide (uptoBulkAll ds ≤ 1048576)
def OpenSpec.upto (s : _root_.Go.ChangeSpec) : _root_.Go.OpenSpec := { _root_.Go.OpenSpec.ofChange s with cond := some uptoSmall }

/-- 'tripwirelaw30.ConsLate', WHERE WHAT IT READS IS OF BULK AT MOST 1048576: true; the input reads as it did. -/
def consLateUptoRow : OpenClaim := { program := "ytocogmboocjjaaa", sum := "3ee59e2f4e79886368f7ec3c36c3e8ac9947e0e2ae6c2d694b773f1e4ee2d0fe", func := "tripwire/tripwirelaw30.ConsLate", spec := "consLate", apart := false, narrowed := true }
def ConsLateUptoSaid : Prop := consLateUptoRow.holds Try.pinned (OpenSpec.upto consLateSpec)

/-- 'tripwirelaw30.ConsOnly', WHERE WHAT IT READS IS OF BULK AT MOST 1048576: true; the input reads as it did. -/
def consOnlyUptoRow : OpenClaim := { program := "ytocogmboocjjaaa", sum := "3ee59e2f4e79886368f7ec3c36c3e8ac9947e0e2ae6c2d694b773f1e4ee2d0fe", func := "tripwire/tripwirelaw30.ConsOnly", spec := "consOnly", apart := false, narrowed := true }
def ConsOnlyUptoSaid : Prop := consOnlyUptoRow.holds Try.pinned (OpenSpec.upto consOnlySpec)

/-- 'tripwirelaw30.ConsWell', WHERE WHAT IT READS IS OF BULK AT MOST 1048576: true; the input reads as it did. -/
def consWellUptoRow : OpenClaim := { program := "ytocogmboocjjaaa", sum := "3ee59e2f4e79886368f7ec3c36c3e8ac9947e0e2ae6c2d694b773f1e4ee2d0fe", func := "tripwire/tripwirelaw30.ConsWell", spec := "consWell", apart := false, narrowed := true }
def ConsWellUptoSaid : Prop := consWellUptoRow.holds Try.pinned (OpenSpec.upto consWellSpec)

/-- 'tripwirelaw30.ConsPlays', WHERE WHAT IT READS IS OF BULK AT MOST 1048576: true; the input reads as it did. -/
def consPlaysUptoRow : OpenClaim := { program := "ytocogmboocjjaaa", sum := "3ee59e2f4e79886368f7ec3c36c3e8ac9947e0e2ae6c2d694b773f1e4ee2d0fe", func := "tripwire/tripwirelaw30.ConsPlays", spec := "consPlays", apart := false, narrowed := true }
def ConsPlaysUptoSaid : Prop := consPlaysUptoRow.holds Try.pinned (OpenSpec.upto consPlaysSpec)

end Rows
end Go.Proofs.Ytocogmboocjjaaa
