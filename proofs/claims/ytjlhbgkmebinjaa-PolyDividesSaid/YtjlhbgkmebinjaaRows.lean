/-
  No cell of these rows narrows 'for every input' (looked for: loops, veiled, ifaces, maps, wideKeys, modest, calm, conditions, laid).
  DERIVED. THE GIVEN ROWS OF THIS SEAT. 5 by the template 'for every input the law returns true; each argument reads behind the call as it read before'; 0 by the template 'total and deterministic' (their statements: YtjlhbgkmebinjaaTotals.lean).
  GIVEN WITH THE SEED: the statements are not yours to turn. If you find one false, say at which input.
  Laid BY PROGRAM, IN A SANDBOX (cutbox-rows.mjs): the forced cells as the released guide's own fill.sh prints them over the translation 2658616723176999… (all of the seat's roots in one cut). By AI agents, Wed Nov 11 2026. No macro, syntax, notation, axiom, sorry.
-/
import Derived.Test.YtjlhbgkmebinjaaChecked
import GoSem.Claim
import GoSem.ClaimJoined
import GoSem.ClaimMapViews
import Derived.JoinedTies
import Derived.KernelRfl
namespace Go.Proofs.Ytjlhbgkmebinjaa
/- THE CELL 'sum', in the pinned program and in every row, IS THE sha256 OF THE DUMP (.gsa) THAT YtjlhbgkmebinjaaProg.lean LOADS. Nothing in Lean hashes anything: it is a label: what it is worth is what the hold of that sum in a sandbox is worth. -/
noncomputable def Try.pinned : Pinned := { name := "ytjlhbgkmebinjaa", sum := "2658616723176999dec4f9a9202051de508716bcf98f3a9830567fd1dc8b4985", checked := Try.checked }
namespace Rows
def none {H : Type} : Left H := { results := [], args := [] }

/-- 'tripwirelaw03.PolyPieces': WHATEVER THE INPUT: true; the input reads as it did. -/
def polyPiecesSpec : ChangeSpec := { name := "polyPieces", fn := fun _ => fun
  | [d1, d2, d3, d4, d5] => { results := [.lit (.bool true)], args := [d1, d2, d3, d4, d5] }
  | _ => none }
def polyPiecesRow : OpenClaim := { program := "ytjlhbgkmebinjaa", sum := "2658616723176999dec4f9a9202051de508716bcf98f3a9830567fd1dc8b4985", func := "tripwire/tripwirelaw03.PolyPieces", spec := "polyPieces", unfollowed := true, recurses := true, apart := false }
def PolyPiecesSaid : Prop := polyPiecesRow.holds Try.pinned (OpenSpec.ofChange polyPiecesSpec)

/-- ITS FALSE NEIGHBOUR: 'it returns false'. Refute it at one input. -/
def polyPiecesWrong : ChangeSpec := { name := "polyPieces", fn := fun _ => fun
  | [d1, d2, d3, d4, d5] => { results := [.lit (.bool false)], args := [d1, d2, d3, d4, d5] }
  | _ => none }
def PolyPiecesWrongFalsely : Prop := polyPiecesRow.holds Try.pinned (OpenSpec.ofChange polyPiecesWrong)

/-- 'tripwirelaw03.PolyChecks': WHATEVER THE INPUT: true; the input reads as it did. -/
def polyChecksSpec : ChangeSpec := { name := "polyChecks", fn := fun _ => fun
  | [d1, d2] => { results := [.lit (.bool true)], args := [d1, d2] }
  | _ => none }
def polyChecksRow : OpenClaim := { program := "ytjlhbgkmebinjaa", sum := "2658616723176999dec4f9a9202051de508716bcf98f3a9830567fd1dc8b4985", func := "tripwire/tripwirelaw03.PolyChecks", spec := "polyChecks", unfollowed := true, recurses := true, apart := false }
def PolyChecksSaid : Prop := polyChecksRow.holds Try.pinned (OpenSpec.ofChange polyChecksSpec)

/-- ITS FALSE NEIGHBOUR: 'it returns false'. Refute it at one input. -/
def polyChecksWrong : ChangeSpec := { name := "polyChecks", fn := fun _ => fun
  | [d1, d2] => { results := [.lit (.bool false)], args := [d1, d2] }
  | _ => none }
def PolyChecksWrongFalsely : Prop := polyChecksRow.holds Try.pinned (OpenSpec.ofChange polyChecksWrong)

/-- 'tripwirelaw03.PolyAdds': WHATEVER THE INPUT: true; the input reads as it did. -/
def polyAddsSpec : ChangeSpec := { name := "polyAdds", fn := fun _ => fun
  | [d1, d2, d3, d4, d5, d6] => { results := [.lit (.bool true)], args := [d1, d2, d3, d4, d5, d6] }
  | _ => none }
def polyAddsRow : OpenClaim := { program := "ytjlhbgkmebinjaa", sum := "2658616723176999dec4f9a9202051de508716bcf98f3a9830567fd1dc8b4985", func := "tripwire/tripwirelaw03.PolyAdds", spec := "polyAdds", unfollowed := true, recurses := true, apart := false }
def PolyAddsSaid : Prop := polyAddsRow.holds Try.pinned (OpenSpec.ofChange polyAddsSpec)

/-- ITS FALSE NEIGHBOUR: 'it returns false'. Refute it at one input. -/
def polyAddsWrong : ChangeSpec := { name := "polyAdds", fn := fun _ => fun
  | [d1, d2, d3, d4, d5, d6] => { results := [.lit (.bool false)], args := [d1, d2, d3, d4, d5, d6] }
  | _ => none }
def PolyAddsWrongFalsely : Prop := polyAddsRow.holds Try.pinned (OpenSpec.ofChange polyAddsWrong)

/-- 'tripwirelaw03.PolyDivides': WHATEVER THE INPUT: true; the input reads as it did. -/
def polyDividesSpec : ChangeSpec := { name := "polyDivides", fn := fun _ => fun
  | [d1, d2, d3, d4] => { results := [.lit (.bool true)], args := [d1, d2, d3, d4] }
  | _ => none }
def polyDividesRow : OpenClaim := { program := "ytjlhbgkmebinjaa", sum := "2658616723176999dec4f9a9202051de508716bcf98f3a9830567fd1dc8b4985", func := "tripwire/tripwirelaw03.PolyDivides", spec := "polyDivides", unfollowed := true, recurses := true, apart := false }
def PolyDividesSaid : Prop := polyDividesRow.holds Try.pinned (OpenSpec.ofChange polyDividesSpec)

/-- ITS FALSE NEIGHBOUR: 'it returns false'. Refute it at one input. -/
def polyDividesWrong : ChangeSpec := { name := "polyDivides", fn := fun _ => fun
  | [d1, d2, d3, d4] => { results := [.lit (.bool false)], args := [d1, d2, d3, d4] }
  | _ => none }
def PolyDividesWrongFalsely : Prop := polyDividesRow.holds Try.pinned (OpenSpec.ofChange polyDividesWrong)

/-- 'tripwirelaw03.PolySeals': WHATEVER THE INPUT: true; the input reads as it did. -/
def polySealsSpec : ChangeSpec := { name := "polySeals", fn := fun _ => fun
  | [d1, d2, d3, d4, d5] => { results := [.lit (.bool true)], args := [d1, d2, d3, d4, d5] }
  | _ => none }
def polySealsRow : OpenClaim := { program := "ytjlhbgkmebinjaa", sum := "2658616723176999dec4f9a9202051de508716bcf98f3a9830567fd1dc8b4985", func := "tripwire/tripwirelaw03.PolySeals", spec := "polySeals", unfollowed := true, recurses := true, apart := false }
def PolySealsSaid : Prop := polySealsRow.holds Try.pinned (OpenSpec.ofChange polySealsSpec)

/-- ITS FALSE NEIGHBOUR: 'it returns false'. Refute it at one input. -/
def polySealsWrong : ChangeSpec := { name := "polySeals", fn := fun _ => fun
  | [d1, d2, d3, d4, d5] => { results := [.lit (.bool false)], args := [d1, d2, d3, d4, d5] }
  | _ => none }
def PolySealsWrongFalsely : Prop := polySealsRow.holds Try.pinned (OpenSpec.ofChange polySealsWrong)

/- THE SECOND FORM. 'bulk': how many values and letters a reading holds, each counted each time it is reached (what is shared counts as often as it is met; a slice's spare places count too). A statement '..UptoSaid' is the law's where the arguments, and the package variables that the reading takes, are together of bulk at most 1048576: NARROWER than '..Said'. Prove '..Said' where nothing that the law and all that it calls make is longer than what came in: it says more and counts as full. Else prove '..UptoSaid'. A law counts once. -/
mutual
def uptoBulk {H : Type} : DataW H → Nat
  | .lit (.string bytes) => bytes.length + 1
  | .lit _ => 1
  | .nil => 1
  | .ptr d => uptoBulk d + 1
  | .slice elems spare => uptoBulkAll elems + uptoBulkAll spare + 1
  | .agg parts => uptoBulkAll parts + 1
  | .iface _ d => uptoBulk d + 1
  | .map entries => uptoBulkEntries entries + 1
  | .held _ => 1
def uptoBulkAll {H : Type} : List (DataW H) → Nat
  | [] => 0
  | d :: r => uptoBulk d + uptoBulkAll r
def uptoBulkEntries {H : Type} : List (Lit × DataW H) → Nat
  | [] => 0
  | x :: r => uptoBulkEntry x + uptoBulkEntries r
def uptoBulkEntry {H : Type} : Lit × DataW H → Nat
  | (.string bytes, d) => bytes.length + uptoBulk d + 1
  | (_, d) => uptoBulk d + 1
 end
def uptoSmall : (H : Type) → List (DataW H) → Bool := fun _ ds => decide (uptoBulkAll ds ≤ 1048576)
def OpenSpec.upto (s : _root_.Go.ChangeSpec) : _root_.Go.OpenSpec := { _root_.Go.OpenSpec.ofChange s with cond := some uptoSmall }

/-- 'tripwirelaw03.PolyPieces', WHERE WHAT IT READS IS OF BULK AT MOST 1048576: true; the input reads as it did. -/
def polyPiecesUptoRow : OpenClaim := { program := "ytjlhbgkmebinjaa", sum := "2658616723176999dec4f9a9202051de508716bcf98f3a9830567fd1dc8b4985", func := "tripwire/tripwirelaw03.PolyPieces", spec := "polyPieces", unfollowed := true, recurses := true, apart := false, narrowed := true }
def PolyPiecesUptoSaid : Prop := polyPiecesUptoRow.holds Try.pinned (OpenSpec.upto polyPiecesSpec)

/-- 'tripwirelaw03.PolyChecks', WHERE WHAT IT READS IS OF BULK AT MOST 1048576: true; the input reads as it did. -/
def polyChecksUptoRow : OpenClaim := { program := "ytjlhbgkmebinjaa", sum := "2658616723176999dec4f9a9202051de508716bcf98f3a9830567fd1dc8b4985", func := "tripwire/tripwirelaw03.PolyChecks", spec := "polyChecks", unfollowed := true, recurses := true, apart := false, narrowed := true }
def PolyChecksUptoSaid : Prop := polyChecksUptoRow.holds Try.pinned (OpenSpec.upto polyChecksSpec)

/-- 'tripwirelaw03.PolyAdds', WHERE WHAT IT READS IS OF BULK AT MOST 1048576: true; the input reads as it did. -/
def polyAddsUptoRow : OpenClaim := { program := "ytjlhbgkmebinjaa", sum := "2658616723176999dec4f9a9202051de508716bcf98f3a9830567fd1dc8b4985", func := "tripwire/tripwirelaw03.PolyAdds", spec := "polyAdds", unfollowed := true, recurses := true, apart := false, narrowed := true }
def PolyAddsUptoSaid : Prop := polyAddsUptoRow.holds Try.pinned (OpenSpec.upto polyAddsSpec)

/-- 'tripwirelaw03.PolyDivides', WHERE WHAT IT READS IS OF BULK AT MOST 1048576: true; the input reads as it did. -/
def polyDividesUptoRow : OpenClaim := { program := "ytjlhbgkmebinjaa", sum := "2658616723176999dec4f9a9202051de508716bcf98f3a9830567fd1dc8b4985", func := "tripwire/tripwirelaw03.PolyDivides", spec := "polyDivides", unfollowed := true, recurses := true, apart := false, narrowed := true }
def PolyDividesUptoSaid : Prop := polyDividesUptoRow.holds Try.pinned (OpenSpec.upto polyDividesSpec)

/-- 'tripwirelaw03.PolySeals', WHERE WHAT IT READS IS OF BULK AT MOST 1048576: true; the input reads as it did. -/
def polySealsUptoRow : OpenClaim := { program := "ytjlhbgkmebinjaa", sum := "2658616723176999dec4f9a9202051de508716bcf98f3a9830567fd1dc8b4985", func := "tripwire/tripwirelaw03.PolySeals", spec := "polySeals", unfollowed := true, recurses := true, apart := false, narrowed := true }
def PolySealsUptoSaid : Prop := polySealsUptoRow.holds Try.pinned (OpenSpec.upto polySealsSpec)

end Rows
end Go.Proofs.Ytjlhbgkmebinjaa
