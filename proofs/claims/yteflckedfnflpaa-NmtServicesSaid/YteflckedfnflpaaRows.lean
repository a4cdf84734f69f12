/-
  No cell of these rows narrows 'for every input' (looked for: loops, veiled, ifaces, maps, wideKeys, modest, calm, conditions, laid).
  DERIVED. THE GIVEN ROWS OF THIS SEAT. 4 by the template 'for every input the law returns true; each argument reads behind the call as it read before'; 0 by the template 'total and deterministic' (their statements: YteflckedfnflpaaTotals.lean).
  GIVEN WITH THE SEED: the statements are not yours to turn. If you find one false, say at which input.
  Laid BY PROGRAM, IN A SANDBOX (cutbox-rows.mjs): the forced cells as the released guide's own fill.sh prints them over the translation 334231fa32d72182… (all of the seat's roots in one cut). By AI agents, Wed Nov 11 2026. No macro, syntax, notation, axiom, sorry.
-/
import Derived.Test.YteflckedfnflpaaChecked
import GoSem.Claim
import GoSem.ClaimJoined
import GoSem.ClaimMapViews
import Derived.JoinedTies
import Derived.KernelRfl
namespace Go.Proofs.Yteflckedfnflpaa
/- THE CELL 'sum', in the pinned program and in every row, IS THE sha256 OF THE DUMP (.gsa) THAT YteflckedfnflpaaProg.lean LOADS. Nothing in Lean hashes anything: it is a label: what it is worth is what the hold of that sum in a sandbox is worth. -/
noncomputable def Try.pinned : Pinned := { name := "yteflckedfnflpaa", sum := "334231fa32d72182e9c61a5607e61a5538bb5f19af07f385913c4b6820ffd6d3", checked := Try.checked }
namespace Rows
def none {H : Type} : Left H := { results := [], args := [] }

/-- 'tripwirelaw21.NmtObeys': WHATEVER THE INPUT: true; the input reads as it did. -/
def nmtObeysSpec : ChangeSpec := { name := "nmtObeys", fn := fun _ => fun
  | [d1, d2] => { results := [.lit (.bool true)], args := [d1, d2] }
  | _ => none }
def nmtObeysRow : OpenClaim := { program := "yteflckedfnflpaa", sum := "334231fa32d72182e9c61a5607e61a5538bb5f19af07f385913c4b6820ffd6d3", func := "tripwire/tripwirelaw21.NmtObeys", spec := "nmtObeys", apart := false }
def NmtObeysSaid : Prop := nmtObeysRow.holds Try.pinned (OpenSpec.ofChange nmtObeysSpec)

/-- ITS FALSE NEIGHBOUR: 'it returns false'. Refute it at one input. -/
def nmtObeysWrong : ChangeSpec := { name := "nmtObeys", fn := fun _ => fun
  | [d1, d2] => { results := [.lit (.bool false)], args := [d1, d2] }
  | _ => none }
def NmtObeysWrongFalsely : Prop := nmtObeysRow.holds Try.pinned (OpenSpec.ofChange nmtObeysWrong)

/-- 'tripwirelaw21.NmtTogether': WHATEVER THE INPUT: true; the input reads as it did. -/
def nmtTogetherSpec : ChangeSpec := { name := "nmtTogether", fn := fun _ => fun
  | [d1, d2, d3, d4] => { results := [.lit (.bool true)], args := [d1, d2, d3, d4] }
  | _ => none }
def nmtTogetherRow : OpenClaim := { program := "yteflckedfnflpaa", sum := "334231fa32d72182e9c61a5607e61a5538bb5f19af07f385913c4b6820ffd6d3", func := "tripwire/tripwirelaw21.NmtTogether", spec := "nmtTogether", apart := false }
def NmtTogetherSaid : Prop := nmtTogetherRow.holds Try.pinned (OpenSpec.ofChange nmtTogetherSpec)

/-- ITS FALSE NEIGHBOUR: 'it returns false'. Refute it at one input. -/
def nmtTogetherWrong : ChangeSpec := { name := "nmtTogether", fn := fun _ => fun
  | [d1, d2, d3, d4] => { results := [.lit (.bool false)], args := [d1, d2, d3, d4] }
  | _ => none }
def NmtTogetherWrongFalsely : Prop := nmtTogetherRow.holds Try.pinned (OpenSpec.ofChange nmtTogetherWrong)

/-- 'tripwirelaw21.NmtOrders': WHATEVER THE INPUT: true; the input reads as it did. -/
def nmtOrdersSpec : ChangeSpec := { name := "nmtOrders", fn := fun _ => fun
  | [d1, d2] => { results := [.lit (.bool true)], args := [d1, d2] }
  | _ => none }
def nmtOrdersRow : OpenClaim := { program := "yteflckedfnflpaa", sum := "334231fa32d72182e9c61a5607e61a5538bb5f19af07f385913c4b6820ffd6d3", func := "tripwire/tripwirelaw21.NmtOrders", spec := "nmtOrders", apart := false }
def NmtOrdersSaid : Prop := nmtOrdersRow.holds Try.pinned (OpenSpec.ofChange nmtOrdersSpec)

/-- ITS FALSE NEIGHBOUR: 'it returns false'. Refute it at one input. -/
def nmtOrdersWrong : ChangeSpec := { name := "nmtOrders", fn := fun _ => fun
  | [d1, d2] => { results := [.lit (.bool false)], args := [d1, d2] }
  | _ => none }
def NmtOrdersWrongFalsely : Prop := nmtOrdersRow.holds Try.pinned (OpenSpec.ofChange nmtOrdersWrong)

/-- 'tripwirelaw21.NmtServices': WHATEVER THE INPUT: true; the input reads as it did. -/
def nmtServicesSpec : ChangeSpec := { name := "nmtServices", fn := fun _ => fun
  | [d1, d2] => { results := [.lit (.bool true)], args := [d1, d2] }
  | _ => none }
def nmtServicesRow : OpenClaim := { program := "yteflckedfnflpaa", sum := "334231fa32d72182e9c61a5607e61a5538bb5f19af07f385913c4b6820ffd6d3", func := "tripwire/tripwirelaw21.NmtServices", spec := "nmtServices", unfollowed := true, recurses := true, apart := false }
def NmtServicesSaid : Prop := nmtServicesRow.holds Try.pinned (OpenSpec.ofChange nmtServicesSpec)

/-- ITS FALSE NEIGHBOUR: 'it returns false'. Refute it at one input. -/
def nmtServicesWrong : ChangeSpec := { name := "nmtServices", fn := fun _ => fun
  | [d1, d2] => { results := [.lit (.bool false)], args := [d1, d2] }
  | _ => none }
def NmtServicesWrongFalsely : Prop := nmtServicesRow.holds Try.pinned (OpenSpec.ofChange nmtServicesWrong)

/- THE SECOND FORM. 'bulk': how many values and letters a reading holds, each counted each time it is reached (what is shared counts as often as it is met; a slice's spare places count too). A statement '..UptoSaid' is the law's where the arguments, and the package variables that the reading takes, are together of bulk at most 1048576: NARROWER than '..Said'. Prove '..Said' where nothing that the law and all that it calls make is longer than what came in: it says more and counts as full. Else prove '..UptoSaid'. A law counts once. -/
mutual
def uptoBulk {H : Type} : DataW H → Nat
  | .lit (.string bytes) => bytes.length + 1
  | .lit _ => 1
  | .nil => 1
  | .ptr d => uptoBulk d + 1
  | .slice elems spare => uptoBulkAll elems + uptoBulkAll spare + 1
  | .agg parts => uptoBulkAll parts + 1
  | .iface _ d => uptoBulk d + 1
  | .map entries => uptoBulkEntries entries + 1
  | .held _ => 1
def uptoBulkAll {H : Type} : List (DataW H) → Nat
  | [] => 0
  | d :: r => uptoBulk d + uptoBulkAll r
def uptoBulkEntries {H : Type} : List (Lit × DataW H) → Nat
  | [] => 0
  | x :: r => uptoBulkEntry x + uptoBulkEntries r
def uptoBulkEntry {H : Type} : Lit × DataW H → Nat
  | (.string bytes, d) => bytes.length + uptoBulk d + 1
  | (_, d) => uptoBulk d + 1
 end
def uptoSmall : (H : Type) → List (DataW H) → Bool := fun _ ds => decide (uptoBulkAll ds ≤ 1048576)
def OpenSpec.upto (s : _root_.Go.ChangeSpec) : _root_.Go.OpenSpec := { _root_.Go.OpenSpec.ofChange s with cond := some uptoSmall }

/-- 'tripwirelaw21.NmtObeys', WHERE WHAT IT READS IS OF BULK AT MOST 1048576: true; the input reads as it did. -/
def nmtObeysUptoRow : OpenClaim := { program := "yteflckedfnflpaa", sum := "334231fa32d72182e9c61a5607e61a5538bb5f19af07f385913c4b6820ffd6d3", func := "tripwire/tripwirelaw21.NmtObeys", spec := "nmtObeys", apart := false, narrowed := true }
def NmtObeysUptoSaid : Prop := nmtObeysUptoRow.holds Try.pinned (OpenSpec.upto nmtObeysSpec)

/-- 'tripwirelaw21.NmtTogether', WHERE WHAT IT READS IS OF BULK AT MOST 1048576: true; the input reads as it did. -/
def nmtTogetherUptoRow : OpenClaim := { program := "yteflckedfnflpaa", sum := "334231fa32d72182e9c61a5607e61a5538bb5f19af07f385913c4b6820ffd6d3", func := "tripwire/tripwirelaw21.NmtTogether", spec := "nmtTogether", apart := false, narrowed := true }
def NmtTogetherUptoSaid : Prop := nmtTogetherUptoRow.holds Try.pinned (OpenSpec.upto nmtTogetherSpec)

/-- 'tripwirelaw21.NmtOrders', WHERE WHAT IT READS IS OF BULK AT MOST 1048576: true; the input reads as it did. -/
def nmtOrdersUptoRow : OpenClaim := { program := "yteflckedfnflpaa", sum := "334231fa32d72182e9c61a5607e61a5538bb5f19af07f385913c4b6820ffd6d3", func := "tripwire/tripwirelaw21.NmtOrders", spec := "nmtOrders", apart := false, narrowed := true }
def NmtOrdersUptoSaid : Prop := nmtOrdersUptoRow.holds Try.pinned (OpenSpec.upto nmtOrdersSpec)

/-- 'tripwirelaw21.NmtServices', WHERE WHAT IT READS IS OF BULK AT MOST 1048576: true; the input reads as it did. -/
def nmtServicesUptoRow : OpenClaim := { program := "yteflckedfnflpaa", sum := "334231fa32d72182e9c61a5607e61a5538bb5f19af07f385913c4b6820ffd6d3", func := "tripwire/tripwirelaw21.NmtServices", spec := "nmtServices", unfollowed := true, recurses := true, apart := false, narrowed := true }
def NmtServicesUptoSaid : Prop := nmtServicesUptoRow.holds Try.pinned (OpenSpec.upto nmtServicesSpec)

end Rows
end Go.Proofs.Yteflckedfnflpaa
