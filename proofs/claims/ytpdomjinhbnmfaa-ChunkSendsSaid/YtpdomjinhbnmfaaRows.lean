/-
  No cell of these rows narrows 'for every input' (looked for: loops, veiled, ifaces, maps, wideKeys, modest, calm, conditions, laid).
  DERIVED. THE GIVEN ROWS OF THIS SEAT. 3 by the template 'for every input the law returns true; each argument reads behind the call as it read before'; 0 by the template 'total and deterministic' (their statements: YtpdomjinhbnmfaaTotals.lean).
  GIVEN WITH THE SEED: the statements are not yours to turn. If you find one false, say at which input.
  Laid BY PROGRAM, IN A SANDBOX (cutbox-rows.mjs): the forced cells as the released guide's own fill.sh prints them over the translation c404c72dcc4839f6… (all of the seat's roots in one cut). By AI agents, Wed Nov 11 2026. No macro, syntax, notation, axiom, sorry.
-/
import Derived.Test.YtpdomjinhbnmfaaChecked
import GoSem.Claim
import GoSem.ClaimJoined
import GoSem.ClaimMapViews
import Derived.JoinedTies
import Derived.KernelRfl
namespace Go.Proofs.Ytpdomjinhbnmfaa
/- THE CELL 'sum', in the pinned program and in every row, IS THE sha256 OF THE DUMP (.gsa) THAT YtpdomjinhbnmfaaProg.lean LOADS. Nothing in Lean hashes anything: it is a label: what it is worth is what the hold of that sum in a sandbox is worth. -/
noncomputable def Try.pinned : Pinned := { name := "ytpdomjinhbnmfaa", sum := "c404c72dcc4839f6bf4caf9d8ef63573f48495fb722d5cf97777da69e3d46493", checked := Try.checked }
namespace Rows
def none {H : Type} : Left H := { results := [], args := [] }

/-- 'tripwirelaw18.ChunkSends': WHATEVER THE INPUT: true; the input reads as it did. -/
def chunkSendsSpec : ChangeSpec := { name := "chunkSends", fn := fun _ => fun
  | [d1, d2, d3] => { results := [.lit (.bool true)], args := [d1, d2, d3] }
  | _ => none }
def chunkSendsRow : OpenClaim := { program := "ytpdomjinhbnmfaa", sum := "c404c72dcc4839f6bf4caf9d8ef63573f48495fb722d5cf97777da69e3d46493", func := "tripwire/tripwirelaw18.ChunkSends", spec := "chunkSends", unfollowed := true, recurses := true, apart := false }
def ChunkSendsSaid : Prop := chunkSendsRow.holds Try.pinned (OpenSpec.ofChange chunkSendsSpec)

/-- ITS FALSE NEIGHBOUR: 'it returns false'. Refute it at one input. -/
def chunkSendsWrong : ChangeSpec := { name := "chunkSends", fn := fun _ => fun
  | [d1, d2, d3] => { results := [.lit (.bool false)], args := [d1, d2, d3] }
  | _ => none }
def ChunkSendsWrongFalsely : Prop := chunkSendsRow.holds Try.pinned (OpenSpec.ofChange chunkSendsWrong)

/-- 'tripwirelaw18.ChunkTakes': WHATEVER THE INPUT: true; the input reads as it did. -/
def chunkTakesSpec : ChangeSpec := { name := "chunkTakes", fn := fun _ => fun
  | [d1, d2, d3] => { results := [.lit (.bool true)], args := [d1, d2, d3] }
  | _ => none }
def chunkTakesRow : OpenClaim := { program := "ytpdomjinhbnmfaa", sum := "c404c72dcc4839f6bf4caf9d8ef63573f48495fb722d5cf97777da69e3d46493", func := "tripwire/tripwirelaw18.ChunkTakes", spec := "chunkTakes", unfollowed := true, recurses := true, apart := false }
def ChunkTakesSaid : Prop := chunkTakesRow.holds Try.pinned (OpenSpec.ofChange chunkTakesSpec)

/-- ITS FALSE NEIGHBOUR: 'it returns false'. Refute it at one input. -/
def chunkTakesWrong : ChangeSpec := { name := "chunkTakes", fn := fun _ => fun
  | [d1, d2, d3] => { results := [.lit (.bool false)], args := [d1, d2, d3] }
  | _ => none }
def ChunkTakesWrongFalsely : Prop := chunkTakesRow.holds Try.pinned (OpenSpec.ofChange chunkTakesWrong)

/-- 'tripwirelaw18.ChunkComes': WHATEVER THE INPUT: true; the input reads as it did. -/
def chunkComesSpec : ChangeSpec := { name := "chunkComes", fn := fun _ => fun
  | [d1, d2, d3] => { results := [.lit (.bool true)], args := [d1, d2, d3] }
  | _ => none }
def chunkComesRow : OpenClaim := { program := "ytpdomjinhbnmfaa", sum := "c404c72dcc4839f6bf4caf9d8ef63573f48495fb722d5cf97777da69e3d46493", func := "tripwire/tripwirelaw18.ChunkComes", spec := "chunkComes", unfollowed := true, recurses := true, apart := false }
def ChunkComesSaid : Prop := chunkComesRow.holds Try.pinned (OpenSpec.ofChange chunkComesSpec)

/-- ITS FALSE NEIGHBOUR: 'it returns false'. Refute it at one input. -/
def chunkComesWrong : ChangeSpec := { name := "chunkComes", fn := fun _ => fun
  | [d1, d2, d3] => { results := [.lit (.bool false)], args := [d1, d2, d3] }
  | _ => none }
def ChunkComesWrongFalsely : Prop := chunkComesRow.holds Try.pinned (OpenSpec.ofChange chunkComesWrong)

/- THE SECOND FORM. 'bulk': how many values and letters a reading holds, each counted each time it is reached (what is shared counts as often as it is met; a slice's spare places count too). A statement '..UptoSaid' is the law's where the arguments, and the package variables that the reading takes, are together of bulk at most 1048576: NARROWER than '..Said'. Prove '..Said' where nothing that the law and all that it calls make is longer than what came in: it says more and counts as full. Else prove '..UptoSaid'. A law counts once. -/
mutual
def uptoBulk {H : Type} : DataW H → Nat
  | .lit (.string bytes) => bytes.length + 1
  | .lit _ => 1
  | .nil => 1
  | .ptr d => uptoBulk d + 1
  | .slice elems spare => uptoBulkAll elems + uptoBulkAll spare + 1
  | .agg parts => uptoBulkAll parts + 1
  | .iface _ d => uptoBulk d + 1
  | .map entries => uptoBulkEntries entries + 1
  | .held _ => 1
def uptoBulkAll {H : Type} : List (DataW H) → Nat
  | [] => 0
  | d :: r => uptoBulk d + uptoBulkAll r
def uptoBulkEntries {H : Type} : List (Lit × DataW H) → Nat
  | [] => 0
  | x :: r => uptoBulkEntry x + uptoBulkEntries r
def uptoBulkEntry {H : Type} : Lit × DataW H → Nat
  | (.string bytes, d) => bytes.length + uptoBulk d + 1
  | (_, d) => uptoBulk d + 1
 end
def uptoSmall : (H : Type) → List (DataW H) → Bool := fun _ ds => decide (uptoBulkAll ds ≤ 1048576)
def OpenSpec.upto (s : _root_.Go.ChangeSpec) : _root_.Go.OpenSpec := { _root_.Go.OpenSpec.ofChange s with cond := some uptoSmall }

/-- 'tripwirelaw18.ChunkSends', WHERE WHAT IT READS IS OF BULK AT MOST 1048576: true; the input reads as it did. -/
def chunkSendsUptoRow : OpenClaim := { program := "ytpdomjinhbnmfaa", sum := "c404c72dcc4839f6bf4caf9d8ef63573f48495fb722d5cf97777da69e3d46493", func := "tripwire/tripwirelaw18.ChunkSends", spec := "chunkSends", unfollowed := true, recurses := true, apart := false, narrowed := true }
def ChunkSendsUptoSaid : Prop := chunkSendsUptoRow.holds Try.pinned (OpenSpec.upto chunkSendsSpec)

/-- 'tripwirelaw18.ChunkTakes', WHERE WHAT IT READS IS OF BULK AT MOST 1048576: true; the input reads as it did. -/
def chunkTakesUptoRow : OpenClaim := { program := "ytpdomjinhbnmfaa", sum := "c404c72dcc4839f6bf4caf9d8ef63573f48495fb722d5cf97777da69e3d46493", func := "tripwire/tripwirelaw18.ChunkTakes", spec := "chunkTakes", unfollowed := true, recurses := true, apart := false, narrowed := true }
def ChunkTakesUptoSaid : Prop := chunkTakesUptoRow.holds Try.pinned (OpenSpec.upto chunkTakesSpec)

/-- 'tripwirelaw18.ChunkComes', WHERE WHAT IT READS IS OF BULK AT MOST 1048576: true; the input reads as it did. -/
def chunkComesUptoRow : OpenClaim := { program := "ytpdomjinhbnmfaa", sum := "c404c72dcc4839f6bf4caf9d8ef63573f48495fb722d5cf97777da69e3d46493", func := "tripwire/tripwirelaw18.ChunkComes", spec := "chunkComes", unfollowed := true, recurses := true, apart := false, narrowed := true }
def ChunkComesUptoSaid : Prop := chunkComesUptoRow.holds Try.pinned (OpenSpec.upto chunkComesSpec)

end Rows
end Go.Proofs.Ytpdomjinhbnmfaa
