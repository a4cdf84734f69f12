/- The law ProdTimes: its entry. -/
import Derived.Test.YtbjfhdkgbhkodaaPTimes
set_option linter.unusedSimpArgs false
set_option linter.unusedVariables false
namespace Go.Proofs.Ytbjfhdkgbhkodaa
open Go.RowKit Go.Proofs.YtbjfhdkgbhkodaaW.PrintWords

theorem times_entry (v0 v1 v2 v3 : Value) (W : World) {base : Nat} (h0 : Rd Try.prog W CT v0.cells.toList) (o0 : Value.okWide Try.prog W .any base CT v0)
    (h1 : Rd Try.prog W 43 v1.cells.toList) (o1 : Value.okWide Try.prog W .any base 43 v1)
    (h2 : Rd Try.prog W 44 v2.cells.toList) (o2 : Value.okWide Try.prog W .any base 44 v2)
    (h3 : Rd Try.prog W 5 v3.cells.toList) (o3 : Value.okWide Try.prog W .any base 5 v3) :
    Calls Try.prog 4 #[v0, v1, v2, v3] W fun e w' => e = .returned (.bool true) ∧ Below W.heap.size W w' := by
  obtain ⟨x, rfl⟩ := opn_ch h0 o0
  obtain ⟨fr, rfl, hf⟩ := opn_int Try.underlying43 h1 o1
  obtain ⟨A, bl, o, l, c, rfl, hlc, _, _, _, hrow, hP⟩ := opn_rows b8 B8 8 (by decide) Try.underlying44 (by kernel_rfl) dec_b8 h2 o2
  obtain ⟨st, rfl, hs⟩ := opn_int Try.underlying5 h3 o3
  have hfr := wf_u16 hf
  exact times_c x fr st A bl o c l W hfr.1 hfr.2 (wf_u8 hs).1 (wf_u8 hs).2 hrow hlc hP

end Go.Proofs.Ytbjfhdkgbhkodaa
