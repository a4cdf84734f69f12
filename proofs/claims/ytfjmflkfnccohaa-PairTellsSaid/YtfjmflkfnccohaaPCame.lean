/- Layer 27: the frames that come. -/
import Derived.Test.YtfjmflkfnccohaaStrB
import Derived.Test.YtfjmflkfnccohaaRowOf
set_option linter.unusedSimpArgs false
set_option linter.unusedVariables false
set_option linter.unnecessarySimpa false
namespace Go.Proofs.Ytfjmflkfnccohaa
open Go.RowKit Go.Proofs.YtfjmflkfnccohaaW.PrintWords

/-- A frame that comes. -/
structure Cm where
  turned : Bool
  clear : Bool
  fork : Bool
  v : Value
  b : List Int
def Cm.cells (c : Cm) : List Value := [.bool c.turned, .bool c.clear, .bool c.fork, c.v]
theorem dec_came {W : World} (es : List Value) (hl : es.length = 4) (h : Rd Try.prog W 29 es) : ∃ c : Cm, c.cells = es ∧ Bs W c.v c.b ∧ c.b.length ≤ reachBytes := by
  obtain ⟨b0, h0⟩ := h.fieldBool Try.underlying29 0 rfl Try.underlying4 (by kernel_rfl)
  obtain ⟨b1, h1⟩ := h.fieldBool Try.underlying29 1 rfl Try.underlying4 (by kernel_rfl)
  obtain ⟨b2, h2⟩ := h.fieldBool Try.underlying29 2 rfl Try.underlying4 (by kernel_rfl)
  have hd := (h.struct Try.underlying29).2 3 _ rfl
  have hC : Try.prog.cellsOf SB = 1 := by kernel_rfl
  change Rd Try.prog W SB ((es.drop 3).take (Try.prog.cellsOf SB)) at hd
  rw [hC] at hd
  obtain ⟨v, l, hv, hb, hn⟩ := hd.bytes
  change es[0]? = some _ at h0
  change es[1]? = some _ at h1
  change es[2]? = some _ at h2
  refine ⟨⟨b0, b1, b2, v, l⟩, ?_, hb, hn⟩
  obtain ⟨a0, a1, a2, a3, rfl⟩ : ∃ a0 a1 a2 a3, es = [a0, a1, a2, a3] := by
    rcases es with _ | ⟨a0, _ | ⟨a1, _ | ⟨a2, _ | ⟨a3, _ | _⟩⟩⟩⟩ <;> simp at hl
    exact ⟨_, _, _, _, rfl⟩
  simp at h0 h1 h2 hv
  simp [Cm.cells, h0, h1, h2, hv]

end Go.Proofs.Ytfjmflkfnccohaa
