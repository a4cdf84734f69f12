/- The steps of layer 29's laws. -/
import Derived.Test.YtbjfhdkgbhkodaaPTab
import Derived.Test.YtbjfhdkgbhkodaaRowOf
import Derived.Test.YtbjfhdkgbhkodaaOpen
import Derived.Test.YtbjfhdkgbhkodaaFrameOpen
set_option linter.unusedSimpArgs false
set_option linter.unusedVariables false
set_option linter.unnecessarySimpa false
namespace Go.Proofs.Ytbjfhdkgbhkodaa
open Go.RowKit Go.Proofs.YtbjfhdkgbhkodaaW.PrintWords

abbrev TKT : TypeId := 36
structure Tk where
  s : Int
  on : Bool
  other : Bool
  d0 : Int
  d1 : Int
  d2 : Int
  d3 : Int
  d4 : Int
  d5 : Int
  d6 : Int
  d7 : Int
  sh : Bool
def Tk.b (t : Tk) : List Int := [t.d0, t.d1, t.d2, t.d3, t.d4, t.d5, t.d6, t.d7]
def Tk.cells (t : Tk) : List Value := [.int .u8 t.s, .bool t.on, .bool t.other, .int .u8 t.d0, .int .u8 t.d1, .int .u8 t.d2, .int .u8 t.d3, .int .u8 t.d4, .int .u8 t.d5, .int .u8 t.d6, .int .u8 t.d7, .bool t.sh]
def Tk.ok (t : Tk) : Prop := 0 ≤ t.s ∧ t.s ≤ 255 ∧ Byt t.b
theorem dec_tick {W : World} (es : List Value) (hl : es.length = 12) (h : Rd Try.prog W TKT es) : ∃ t : Tk, t.cells = es ∧ t.ok := by
  obtain ⟨n, h0, g⟩ := h.fieldInt Try.underlying36 0 rfl Try.underlying5 (by kernel_rfl)
  obtain ⟨b1, h1⟩ := h.fieldBool Try.underlying36 1 rfl Try.underlying4 (by kernel_rfl)
  obtain ⟨b2, h2⟩ := h.fieldBool Try.underlying36 2 rfl Try.underlying4 (by kernel_rfl)
  obtain ⟨b4, h4⟩ := h.fieldBool Try.underlying36 4 rfl Try.underlying4 (by kernel_rfl)
  have hd := (h.struct Try.underlying36).2 3 _ rfl
  have hC : Try.prog.cellsOf 34 = 8 := by kernel_rfl
  change Rd Try.prog W 34 ((es.drop 3).take (Try.prog.cellsOf 34)) at hd
  rw [hC] at hd
  have key : ∀ j, j < 8 → ∃ n, ((es.drop 3).take 8)[j]? = some (.int .u8 n) ∧ (Lit.int .u8 n).wf = true := fun j hj => hd.elemInt Try.underlying34 Try.underlying5 (by kernel_rfl) j hj
  obtain ⟨d0, e0, g0⟩ := key 0 (by omega)
  obtain ⟨d1, e1, g1⟩ := key 1 (by omega)
  obtain ⟨d2, e2, g2⟩ := key 2 (by omega)
  obtain ⟨d3, e3, g3⟩ := key 3 (by omega)
  obtain ⟨d4, e4, g4⟩ := key 4 (by omega)
  obtain ⟨d5, e5, g5⟩ := key 5 (by omega)
  obtain ⟨d6, e6, g6⟩ := key 6 (by omega)
  obtain ⟨d7, e7, g7⟩ := key 7 (by omega)
  change es[0]? = some _ at h0
  change es[1]? = some _ at h1
  change es[2]? = some _ at h2
  change es[11]? = some _ at h4
  refine ⟨⟨n, b1, b2, d0, d1, d2, d3, d4, d5, d6, d7, b4⟩, ?_, (wf_u8 g).1, (wf_u8 g).2, ?_⟩
  · obtain ⟨a0, a1, a2, a3, a4, a5, a6, a7, a8, a9, a10, a11, rfl⟩ : ∃ a0 a1 a2 a3 a4 a5 a6 a7 a8 a9 a10 a11, es = [a0, a1, a2, a3, a4, a5, a6, a7, a8, a9, a10, a11] := by
      rcases es with _ | ⟨a0, _ | ⟨a1, _ | ⟨a2, _ | ⟨a3, _ | ⟨a4, _ | ⟨a5, _ | ⟨a6, _ | ⟨a7, _ | ⟨a8, _ | ⟨a9, _ | ⟨a10, _ | ⟨a11, _ | _⟩⟩⟩⟩⟩⟩⟩⟩⟩⟩⟩⟩ <;> simp at hl
      exact ⟨_, _, _, _, _, _, _, _, _, _, _, _, rfl⟩
    simp at h0 h1 h2 h4 e0 e1 e2 e3 e4 e5 e6 e7
    simp [Tk.cells, h0, h1, h2, h4, e0, e1, e2, e3, e4, e5, e6, e7]
  · intro x hx
    simp only [Tk.b, List.mem_cons, List.not_mem_nil, or_false] at hx
    rcases hx with rfl | rfl | rfl | rfl | rfl | rfl | rfl | rfl
    all_goals (first | exact wf_u8 g0 | exact wf_u8 g1 | exact wf_u8 g2 | exact wf_u8 g3 | exact wf_u8 g4 | exact wf_u8 g5 | exact wf_u8 g6 | exact wf_u8 g7)
/-- The bytes of a step. -/
theorem Tk.bs {w : World} {bl o : Nat} {t : Tk} (h : ∀ j v, t.cells[j]? = some v → w.cell? ⟨bl, o + j, none⟩ = some v) (hb : bl < w.heap.size) (ho : t.ok) {n : Nat} (hn : n ≤ 8) : Bs w (.slice (some ⟨bl, o + 3, none⟩) n 8) (t.b.take n) := by
  have hl : t.b.length = 8 := rfl
  refine Bs.of_row (bl := bl) (o := o + 3) (by rw [List.length_take]; omega) hn ⟨by rw [List.length_take]; omega, fun _ => ⟨rfl, hb⟩, fun i hi => ?_⟩ (ho.2.2.take n)
  rw [List.length_take] at hi
  rw [List.getD_eq_getElem?_getD, List.getElem?_take_of_lt (by omega), ← List.getD_eq_getElem?_getD, Nat.add_assoc]
  refine h (3 + i) _ ?_
  rcases (by omega : i = 0 ∨ i = 1 ∨ i = 2 ∨ i = 3 ∨ i = 4 ∨ i = 5 ∨ i = 6 ∨ i = 7) with rfl | rfl | rfl | rfl | rfl | rfl | rfl | rfl <;> rfl

end Go.Proofs.Ytbjfhdkgbhkodaa
