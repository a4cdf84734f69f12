/- A frame that came in, opened. -/
import Derived.Test.YtocogmboocjjaaaFrame3
import Derived.Test.YtocogmboocjjaaaOpen
set_option linter.unusedSimpArgs false
set_option linter.unusedVariables false
set_option maxRecDepth 100000
set_option linter.unnecessarySimpa false
namespace Go.Proofs.Ytocogmboocjjaaa
open Go.RowKit Go.Proofs.YtocogmboocjjaaaW.PrintWords

theorem dec_frame {W : World} (es : List Value) (hl : es.length = 11) (h : Rd Try.prog W FT es) : ∃ f : Fr, f.cells.toList = es ∧ Byt f.data ∧ (Lit.int .i64 f.id).wf = true ∧ (Lit.int .i64 f.len).wf = true := by
  obtain ⟨id, hid, w0⟩ := h.fieldInt Try.underlying43 0 rfl Try.underlying3 (by kernel_rfl)
  obtain ⟨rtr, hrtr⟩ := h.fieldBool Try.underlying43 1 rfl Try.underlying4 (by kernel_rfl)
  obtain ⟨len, hlen, w2⟩ := h.fieldInt Try.underlying43 2 rfl Try.underlying3 (by kernel_rfl)
  have hd := (h.struct Try.underlying43).2 3 _ rfl
  have hC : Try.prog.cellsOf 41 = 8 := by kernel_rfl
  change Rd Try.prog W 41 ((es.drop 3).take (Try.prog.cellsOf 41)) at hd
  rw [hC] at hd
  have key : ∀ j, j < 8 → ∃ n, ((es.drop 3).take 8)[j]? = some (.int .u8 n) ∧ (Lit.int .u8 n).wf = true := fun j hj => hd.elemInt Try.underlying41 Try.underlying5 (by kernel_rfl) j hj
  obtain ⟨d0, e0, g0⟩ := key 0 (by omega)
  obtain ⟨d1, e1, g1⟩ := key 1 (by omega)
  obtain ⟨d2, e2, g2⟩ := key 2 (by omega)
  obtain ⟨d3, e3, g3⟩ := key 3 (by omega)
  obtain ⟨d4, e4, g4⟩ := key 4 (by omega)
  obtain ⟨d5, e5, g5⟩ := key 5 (by omega)
  obtain ⟨d6, e6, g6⟩ := key 6 (by omega)
  obtain ⟨d7, e7, g7⟩ := key 7 (by omega)
  change es[0]? = some _ at hid
  change es[1]? = some _ at hrtr
  change es[2]? = some _ at hlen
  refine ⟨⟨id, rtr, len, d0, d1, d2, d3, d4, d5, d6, d7⟩, ?_, ?_, w0, w2⟩
  · obtain ⟨a0, a1, a2, a3, a4, a5, a6, a7, a8, a9, a10, rfl⟩ : ∃ a0 a1 a2 a3 a4 a5 a6 a7 a8 a9 a10, es = [a0, a1, a2, a3, a4, a5, a6, a7, a8, a9, a10] := by
      rcases es with _ | ⟨a0, _ | ⟨a1, _ | ⟨a2, _ | ⟨a3, _ | ⟨a4, _ | ⟨a5, _ | ⟨a6, _ | ⟨a7, _ | ⟨a8, _ | ⟨a9, _ | ⟨a10, _ | _⟩⟩⟩⟩⟩⟩⟩⟩⟩⟩⟩ <;> simp at hl
      exact ⟨_, _, _, _, _, _, _, _, _, _, _, rfl⟩
    simp at hid hrtr hlen e0 e1 e2 e3 e4 e5 e6 e7
    simp [Fr.cells, hid, hrtr, hlen, e0, e1, e2, e3, e4, e5, e6, e7]
  · intro x hx
    simp only [Fr.data, List.mem_cons, List.not_mem_nil, or_false] at hx
    rcases hx with rfl | rfl | rfl | rfl | rfl | rfl | rfl | rfl
    all_goals (first | exact wf_u8 g0 | exact wf_u8 g1 | exact wf_u8 g2 | exact wf_u8 g3 | exact wf_u8 g4 | exact wf_u8 g5 | exact wf_u8 g6 | exact wf_u8 g7)

theorem opn_frame {W : World} {base : Nat} {r : Reach} {v : Value} (h : Rd Try.prog W FT v.cells.toList) (hv : Value.okWide Try.prog W r base FT v) :
    ∃ f : Fr, v = f.val ∧ Byt f.data ∧ (Lit.int .i64 f.id).wf = true ∧ (Lit.int .i64 f.len).wf = true := by
  obtain ⟨cs, rfl, hs, h'⟩ := opn_struct Try.underlying43 h hv
  obtain ⟨f, hf, hb⟩ := dec_frame cs.toList (by simpa using hs.trans (by kernel_rfl)) h'
  refine ⟨f, ?_, hb⟩
  show Value.agg cs = .agg f.cells
  rw [← Array.toArray_toList (xs := cs), ← hf]

end Go.Proofs.Ytocogmboocjjaaa
