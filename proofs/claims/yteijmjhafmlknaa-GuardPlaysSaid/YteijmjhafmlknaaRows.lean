/-
  No cell of these rows narrows 'for every input' (looked for: loops, veiled, ifaces, maps, wideKeys, modest, calm, conditions, laid).
  DERIVED. THE GIVEN ROWS OF THIS SEAT. 4 by the template 'for every input the law returns true; each argument reads behind the call as it read before'; 0 by the template 'total and deterministic' (their statements: YteijmjhafmlknaaTotals.lean).
  GIVEN WITH THE SEED: the statements are not yours to turn. If you find one false, say at which input.
  Laid BY PROGRAM, IN A SANDBOX (cutbox-rows.mjs): the forced cells as the released guide's own fill.sh prints them over the translation 7fe3602e37a6948f… (all of the seat's roots in one cut). By AI agents, Wed Nov 11 2026. No macro, syntax, notation, axiom, sorry.
-/
import Derived.Test.YteijmjhafmlknaaChecked
import GoSem.Claim
import GoSem.ClaimJoined
import GoSem.ClaimMapViews
import Derived.JoinedTies
import Derived.KernelRfl
namespace Go.Proofs.Yteijmjhafmlknaa
/- THE CELL 'sum', in the pinned program and in every row, IS THE sha256 OF THE DUMP (.gsa) THAT YteijmjhafmlknaaProg.lean LOADS. Nothing in Lean hashes anything: it is a label: what it is worth is what the hold of that sum in a sandbox is worth. -/
noncomputable def Try.pinned : Pinned := { name := "yteijmjhafmlknaa", sum := "7fe3602e37a6948fe82ce4320a640b5dcc447b33bd5c8fbcb652af29871e6f7b", checked := Try.checked }
namespace Rows
def none {H : Type} : Left H := { results := [], args := [] }

/-- 'tripwirelaw28.GuardWell': WHATEVER THE INPUT: true; the input reads as it did. -/
def guardWellSpec : ChangeSpec := { name := "guardWell", fn := fun _ => fun
  | [d1, d2, d3] => { results := [.lit (.bool true)], args := [d1, d2, d3] }
  | _ => none }
def guardWellRow : OpenClaim := { program := "yteijmjhafmlknaa", sum := "7fe3602e37a6948fe82ce4320a640b5dcc447b33bd5c8fbcb652af29871e6f7b", func := "tripwire/tripwirelaw28.GuardWell", spec := "guardWell", apart := false }
def GuardWellSaid : Prop := guardWellRow.holds Try.pinned (OpenSpec.ofChange guardWellSpec)

/-- ITS FALSE NEIGHBOUR: 'it returns false'. Refute it at one input. -/
def guardWellWrong : ChangeSpec := { name := "guardWell", fn := fun _ => fun
  | [d1, d2, d3] => { results := [.lit (.bool false)], args := [d1, d2, d3] }
  | _ => none }
def GuardWellWrongFalsely : Prop := guardWellRow.holds Try.pinned (OpenSpec.ofChange guardWellWrong)

/-- 'tripwirelaw28.GuardLate': WHATEVER THE INPUT: true; the input reads as it did. -/
def guardLateSpec : ChangeSpec := { name := "guardLate", fn := fun _ => fun
  | [d1, d2, d3, d4] => { results := [.lit (.bool true)], args := [d1, d2, d3, d4] }
  | _ => none }
def guardLateRow : OpenClaim := { program := "yteijmjhafmlknaa", sum := "7fe3602e37a6948fe82ce4320a640b5dcc447b33bd5c8fbcb652af29871e6f7b", func := "tripwire/tripwirelaw28.GuardLate", spec := "guardLate", apart := false }
def GuardLateSaid : Prop := guardLateRow.holds Try.pinned (OpenSpec.ofChange guardLateSpec)

/-- ITS FALSE NEIGHBOUR: 'it returns false'. Refute it at one input. -/
def guardLateWrong : ChangeSpec := { name := "guardLate", fn := fun _ => fun
  | [d1, d2, d3, d4] => { results := [.lit (.bool false)], args := [d1, d2, d3, d4] }
  | _ => none }
def GuardLateWrongFalsely : Prop := guardLateRow.holds Try.pinned (OpenSpec.ofChange guardLateWrong)

/-- 'tripwirelaw28.GuardLeft': WHATEVER THE INPUT: true; the input reads as it did. -/
def guardLeftSpec : ChangeSpec := { name := "guardLeft", fn := fun _ => fun
  | [d1, d2, d3] => { results := [.lit (.bool true)], args := [d1, d2, d3] }
  | _ => none }
def guardLeftRow : OpenClaim := { program := "yteijmjhafmlknaa", sum := "7fe3602e37a6948fe82ce4320a640b5dcc447b33bd5c8fbcb652af29871e6f7b", func := "tripwire/tripwirelaw28.GuardLeft", spec := "guardLeft", apart := false }
def GuardLeftSaid : Prop := guardLeftRow.holds Try.pinned (OpenSpec.ofChange guardLeftSpec)

/-- ITS FALSE NEIGHBOUR: 'it returns false'. Refute it at one input. -/
def guardLeftWrong : ChangeSpec := { name := "guardLeft", fn := fun _ => fun
  | [d1, d2, d3] => { results := [.lit (.bool false)], args := [d1, d2, d3] }
  | _ => none }
def GuardLeftWrongFalsely : Prop := guardLeftRow.holds Try.pinned (OpenSpec.ofChange guardLeftWrong)

/-- 'tripwirelaw28.GuardPlays': WHATEVER THE INPUT: true; the input reads as it did. -/
def guardPlaysSpec : ChangeSpec := { name := "guardPlays", fn := fun _ => fun
  | [d1, d2, d3, d4] => { results := [.lit (.bool true)], args := [d1, d2, d3, d4] }
  | _ => none }
def guardPlaysRow : OpenClaim := { program := "yteijmjhafmlknaa", sum := "7fe3602e37a6948fe82ce4320a640b5dcc447b33bd5c8fbcb652af29871e6f7b", func := "tripwire/tripwirelaw28.GuardPlays", spec := "guardPlays", apart := false }
def GuardPlaysSaid : Prop := guardPlaysRow.holds Try.pinned (OpenSpec.ofChange guardPlaysSpec)

/-- ITS FALSE NEIGHBOUR: 'it returns false'. Refute it at one input. -/
def guardPlaysWrong : ChangeSpec := { name := "guardPlays", fn := fun _ => fun
  | [d1, d2, d3, d4] => { results := [.lit (.bool false)], args := [d1, d2, d3, d4] }
  | _ => none }
def GuardPlaysWrongFalsely : Prop := guardPlaysRow.holds Try.pinned (OpenSpec.ofChange guardPlaysWrong)

/- THE SECOND FORM. 'bulk': how many values and letters a reading holds, each counted each time it is reached (what is shared counts as often as it is met; a slice's spare places count too). A statement '..UptoSaid' is the law's where the arguments, and the package variables that the reading takes, are together of bulk at most 1048576: NARROWER than '..Said'. Prove '..Said' where nothing that the law and all that it calls make is longer than what came in: it says more and counts as full. Else prove '..UptoSaid'. A law counts once. -/
mutual
def uptoBulk {H : Type} : DataW H → Nat
  | .lit (.string bytes) => bytes.length + 1
  | .lit _ => 1
  | .nil => 1
  | .ptr d => uptoBulk d + 1
  | .slice elems spare => uptoBulkAll elems + uptoBulkAll spare + 1
  | .agg parts => uptoBulkAll parts + 1
  | .iface _ d => uptoBulk d + 1
  | .map entries => uptoBulkEntries entries + 1
  | .held _ => 1
def uptoBulkAll {H : Type} : List (DataW H) → Nat
  | [] => 0
  | d :: r => uptoBulk d + uptoBulkAll r
def uptoBulkEntries {H : Type} : List (Lit × DataW H) → Nat
  | [] => 0
  | x :: r => uptoBulkEntry x + uptoBulkEntries r
def uptoBulkEntry {H : Type} : Lit × DataW H → Nat
  | (.string bytes, d) => bytes.length + uptoBulk d + 1
  | (_, d) => uptoBulk d + 1
 end
def uptoSmall : (H : Type) → List (DataW H) → Bool := fun _ ds => decide (uptoBulkAll ds ≤ 1048576)
def OpenSpec.upto (s : _root_.Go.ChangeSpec) : _root_.Go.OpenSpec := { _root_.Go.OpenSpec.ofChange s with cond := some uptoSmall }

/-- 'tripwirelaw28.GuardWell', WHERE WHAT IT READS IS OF BULK AT MOST 1048576: true; the input reads as it did. -/
def guardWellUptoRow : OpenClaim := { program := "yteijmjhafmlknaa", sum := "7fe3602e37a6948fe82ce4320a640b5dcc447b33bd5c8fbcb652af29871e6f7b", func := "tripwire/tripwirelaw28.GuardWell", spec := "guardWell", apart := false, narrowed := true }
def GuardWellUptoSaid : Prop := guardWellUptoRow.holds Try.pinned (OpenSpec.upto guardWellSpec)

/-- 'tripwirelaw28.GuardLate', WHERE WHAT IT READS IS OF BULK AT MOST 1048576: true; the input reads as it did. -/
def guardLateUptoRow : OpenClaim := { program := "yteijmjhafmlknaa", sum := "7fe3602e37a6948fe82ce4320a640b5dcc447b33bd5c8fbcb652af29871e6f7b", func := "tripwire/tripwirelaw28.GuardLate", spec := "guardLate", apart := false, narrowed := true }
def GuardLateUptoSaid : Prop := guardLateUptoRow.holds Try.pinned (OpenSpec.upto guardLateSpec)

/-- 'tripwirelaw28.GuardLeft', WHERE WHAT IT READS IS OF BULK AT MOST 1048576: true; the input reads as it did. -/
def guardLeftUptoRow : OpenClaim := { program := "yteijmjhafmlknaa", sum := "7fe3602e37a6948fe82ce4320a640b5dcc447b33bd5c8fbcb652af29871e6f7b", func := "tripwire/tripwirelaw28.GuardLeft", spec := "guardLeft", apart := false, narrowed := true }
def GuardLeftUptoSaid : Prop := guardLeftUptoRow.holds Try.pinned (OpenSpec.upto guardLeftSpec)

/-- 'tripwirelaw28.GuardPlays', WHERE WHAT IT READS IS OF BULK AT MOST 1048576: true; the input reads as it did. -/
def guardPlaysUptoRow : OpenClaim := { program := "yteijmjhafmlknaa", sum := "7fe3602e37a6948fe82ce4320a640b5dcc447b33bd5c8fbcb652af29871e6f7b", func := "tripwire/tripwirelaw28.GuardPlays", spec := "guardPlays", apart := false, narrowed := true }
def GuardPlaysUptoSaid : Prop := guardPlaysUptoRow.holds Try.pinned (OpenSpec.upto guardPlaysSpec)

end Rows
end Go.Proofs.Yteijmjhafmlknaa
