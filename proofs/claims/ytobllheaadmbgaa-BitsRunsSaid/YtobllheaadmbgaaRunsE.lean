/- The law BitsRuns: its entry. -/
import Derived.Test.YtobllheaadmbgaaRunsL
import Derived.Test.YtobllheaadmbgaaOpen
set_option linter.unusedSimpArgs false
set_option linter.unusedVariables false
namespace Go.Proofs.Ytobllheaadmbgaa
open Go.RowKit

theorem runs_entry (v0 v1 : Value) (W : World) {base : Nat} (h0 : Rd Try.prog W 22 v0.cells.toList) (o0 : Value.okWide Try.prog W .any base 22 v0)
    (h1 : Rd Try.prog W 5 v1.cells.toList) (o1 : Value.okWide Try.prog W .any base 5 v1) :
    Calls Try.prog 6 #[v0, v1] W fun e w' => e = .returned (.bool true) ∧ Below W.heap.size W w' := by
  obtain ⟨A, bl, o, l, c, rfl, hlc, _, hre, _, hrow, hb⟩ := opn_bytes Try.underlying22 Try.underlying5 (by kernel_rfl) (by kernel_rfl) h0 o0
  obtain ⟨m, rfl, hm⟩ := opn_int Try.underlying5 h1 o1
  have hl0 : l.length ≤ 9223372036854775000 := by unfold reachBytes at hre; omega
  by_cases hn : 0 < l.length
  · exact callsIn_wide.1 (runs_law A bl o c l m W hb hl0 hlc (wf_u8 hm).1 (wf_u8 hm).2 (.inl (hrow.2.1 hn).2) (fun _ => hrow.2.1 hn) hrow.2.2)
  · exact callsIn_wide.1 (runs_law A (W.heap.size + 6) o c l m W hb hl0 hlc (wf_u8 hm).1 (wf_u8 hm).2 (.inr rfl) (fun h => absurd h hn) (fun j hj => absurd (Nat.lt_of_le_of_lt (Nat.zero_le j) hj) hn))

end Go.Proofs.Ytobllheaadmbgaa
