/- The laws of layer 1 at any arguments: BitsStuffs, BitsNumbers, BitsTexts. -/
import Derived.Test.YtobllheaadmbgaaLaws
set_option linter.unusedSimpArgs false
set_option linter.unusedVariables false
namespace Go.Proofs.Ytobllheaadmbgaa
open Go.RowKit Go.Proofs.YtobllheaadmbgaaW.PrintWords Go.ChangeShapes Go.WideShapes Go.ChangeAt

/-- A row that came in. -/
theorem opn_bs {W : World} {base : Nat} {v : Value} (h : Rd Try.prog W 22 v.cells.toList) (o : Value.okWide Try.prog W .any base 22 v) : ∃ l, Bs W v l ∧ l.length ≤ reachBytes := by
  obtain ⟨A, bl, of, l, c, rfl, hlc, hcm, hre, _, hrow, hb⟩ := opn_bytes Try.underlying22 Try.underlying5 (by kernel_rfl) (by kernel_rfl) h o
  exact ⟨l, Bs.row hlc hrow hb, hre⟩

theorem stuffs_entry (v0 : Value) (W : World) {base : Nat} (h0 : Rd Try.prog W 22 v0.cells.toList) (o0 : Value.okWide Try.prog W .any base 22 v0) :
    Calls Try.prog 7 #[v0] W fun e w' => e = .returned (.bool true) ∧ Below W.heap.size W w' := by
  obtain ⟨l, hb, _⟩ := opn_bs h0 o0
  exact stuffs_c v0 l W hb

theorem numbers_entry (v0 v1 v2 : Value) (W : World) {base : Nat} (h0 : Rd Try.prog W 31 v0.cells.toList) (o0 : Value.okWide Try.prog W .any base 31 v0)
    (h1 : Rd Try.prog W 3 v1.cells.toList) (o1 : Value.okWide Try.prog W .any base 3 v1)
    (h2 : Rd Try.prog W 22 v2.cells.toList) (o2 : Value.okWide Try.prog W .any base 22 v2) :
    Calls Try.prog 4 #[v0, v1, v2] W fun e w' => e = .returned (.bool true) ∧ Below W.heap.size W w' := by
  obtain ⟨n, rfl, wn⟩ := opn_int Try.underlying31 h0 o0
  obtain ⟨y, rfl, _⟩ := opn_int Try.underlying3 h1 o1
  obtain ⟨l, hb, _⟩ := opn_bs h2 o2
  have := wf_u32 wn
  exact numbers_c v2 n y l W this.1 this.2 hb

theorem texts_entry (v0 v1 : Value) (W : World) {base : Nat} (h0 : Rd Try.prog W 22 v0.cells.toList) (o0 : Value.okWide Try.prog W .any base 22 v0)
    (h1 : Rd Try.prog W 9 v1.cells.toList) (o1 : Value.okWide Try.prog W .any base 9 v1) :
    Calls Try.prog 3 #[v0, v1] W fun e w' => e = .returned (.bool true) ∧ Below W.heap.size W w' := by
  obtain ⟨l, hb, _⟩ := opn_bs h0 o0
  obtain ⟨s, rfl, hs⟩ := opn_string Try.underlying9 h1 o1
  exact texts_c v0 l s W hb hs

end Go.Proofs.Ytobllheaadmbgaa
