/- The law PairGoes: its entry. -/
import Derived.Test.YtfjmflkfnccohaaPGoes
import Derived.Test.YtfjmflkfnccohaaFrameOpen
set_option linter.unusedSimpArgs false
set_option linter.unusedVariables false
namespace Go.Proofs.Ytfjmflkfnccohaa
open Go.RowKit Go.Proofs.YtfjmflkfnccohaaW.PrintWords

theorem opn_a8 {W : World} {base : Nat} {r : Reach} {v : Value} (h : Rd Try.prog W A8 v.cells.toList) (hv : Value.okWide Try.prog W r base A8 v) :
    ∃ x0 x1 x2 x3 x4 x5 x6 x7, v = .agg #[.int .u8 x0, .int .u8 x1, .int .u8 x2, .int .u8 x3, .int .u8 x4, .int .u8 x5, .int .u8 x6, .int .u8 x7] ∧ Byt [x0, x1, x2, x3, x4, x5, x6, x7] := by
  obtain ⟨cs, rfl, hs, hd⟩ := opn_array Try.underlying44 h hv
  have hC : Try.prog.cellsOf A8 = 8 := by kernel_rfl
  rw [hC] at hs
  have key : ∀ j, j < 8 → ∃ n, cs.toList[j]? = some (.int .u8 n) ∧ (Lit.int .u8 n).wf = true := fun j hj => hd.elemInt Try.underlying44 Try.underlying5 (by kernel_rfl) j hj
  obtain ⟨d0, e0, g0⟩ := key 0 (by omega)
  obtain ⟨d1, e1, g1⟩ := key 1 (by omega)
  obtain ⟨d2, e2, g2⟩ := key 2 (by omega)
  obtain ⟨d3, e3, g3⟩ := key 3 (by omega)
  obtain ⟨d4, e4, g4⟩ := key 4 (by omega)
  obtain ⟨d5, e5, g5⟩ := key 5 (by omega)
  obtain ⟨d6, e6, g6⟩ := key 6 (by omega)
  obtain ⟨d7, e7, g7⟩ := key 7 (by omega)
  refine ⟨d0, d1, d2, d3, d4, d5, d6, d7, ?_, ?_⟩
  · have hl : cs.toList = [.int .u8 d0, .int .u8 d1, .int .u8 d2, .int .u8 d3, .int .u8 d4, .int .u8 d5, .int .u8 d6, .int .u8 d7] := by
      have hlen : cs.toList.length = 8 := by simpa using hs
      revert e0 e1 e2 e3 e4 e5 e6 e7 hlen
      generalize cs.toList = es
      intro e0 e1 e2 e3 e4 e5 e6 e7 hlen
      obtain ⟨a0, a1, a2, a3, a4, a5, a6, a7, rfl⟩ : ∃ a0 a1 a2 a3 a4 a5 a6 a7, es = [a0, a1, a2, a3, a4, a5, a6, a7] := by
        rcases es with _ | ⟨a0, _ | ⟨a1, _ | ⟨a2, _ | ⟨a3, _ | ⟨a4, _ | ⟨a5, _ | ⟨a6, _ | ⟨a7, _ | _⟩⟩⟩⟩⟩⟩⟩⟩ <;> simp at hlen
        exact ⟨_, _, _, _, _, _, _, _, rfl⟩
      simp at e0 e1 e2 e3 e4 e5 e6 e7
      simp [e0, e1, e2, e3, e4, e5, e6, e7]
    rw [← Array.toArray_toList (xs := cs), hl]
  · intro x hx
    simp only [List.mem_cons, List.not_mem_nil, or_false] at hx
    rcases hx with rfl | rfl | rfl | rfl | rfl | rfl | rfl | rfl
    all_goals (first | exact wf_u8 g0 | exact wf_u8 g1 | exact wf_u8 g2 | exact wf_u8 g3 | exact wf_u8 g4 | exact wf_u8 g5 | exact wf_u8 g6 | exact wf_u8 g7)

theorem goes_entry (v0 v1 v2 v3 v4 : Value) (W : World) {base : Nat} (h0 : Rd Try.prog W A8 v0.cells.toList) (o0 : Value.okWide Try.prog W .any base A8 v0)
    (h1 : Rd Try.prog W A8 v1.cells.toList) (o1 : Value.okWide Try.prog W .any base A8 v1)
    (h2 : Rd Try.prog W 5 v2.cells.toList) (o2 : Value.okWide Try.prog W .any base 5 v2)
    (h3 : Rd Try.prog W A8 v3.cells.toList) (o3 : Value.okWide Try.prog W .any base A8 v3)
    (h4 : Rd Try.prog W 4 v4.cells.toList) (o4 : Value.okWide Try.prog W .any base 4 v4) :
    Calls Try.prog 5 #[v0, v1, v2, v3, v4] W fun e w' => e = .returned (.bool true) ∧ Below W.heap.size W w' := by
  obtain ⟨a0, a1, a2, a3, a4, a5, a6, a7, rfl, hA⟩ := opn_a8 h0 o0
  obtain ⟨b0, b1, b2, b3, b4, b5, b6, b7, rfl, hB⟩ := opn_a8 h1 o1
  obtain ⟨size, rfl, hz⟩ := opn_int Try.underlying5 h2 o2
  obtain ⟨t0, t1, t2, t3, t4, t5, t6, t7, rfl, hT⟩ := opn_a8 h3 o3
  obtain ⟨second, rfl⟩ := opn_bool Try.underlying4 o4
  exact goes_c a0 a1 a2 a3 a4 a5 a6 a7 b0 b1 b2 b3 b4 b5 b6 b7 size t0 t1 t2 t3 t4 t5 t6 t7 second W hA hB hT (wf_u8 hz).1 (wf_u8 hz).2

end Go.Proofs.Ytfjmflkfnccohaa
