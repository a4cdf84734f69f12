/- ChunkTakes: the two receivers go alike. -/
import Derived.Test.YtpdomjinhbnmfaaRTe
set_option linter.unusedSimpArgs false
set_option linter.unusedVariables false
set_option linter.unnecessarySimpa false
set_option maxRecDepth 100000
namespace Go.Proofs.Ytpdomjinhbnmfaa
open Go.RowKit Go.Proofs.YtpdomjinhbnmfaaW.PrintWords

structure CI (t : Td) (r : Rk) : Prop where
  size : t.size = r.blk
  n : t.n = r.n
  b : t.b = flatB r.l
  last : t.last = r.last
  len : r.l.length ≤ 10
  n0 : 0 ≤ r.n
  n1 : r.n ≤ r.blk
  k1 : r.blk ≤ 127
  k0 : 1 ≤ r.blk
  ne : r.last = true → 1 ≤ r.l.length
  byt : ∀ a ∈ r.l, Byt a.l
theorem CI.start {k : Int} (h : mayN k = true) : CI ⟨k, 0, [], false⟩ ⟨[], 0, k, false⟩ := by
  unfold mayN at h
  simp only [Bool.and_eq_true, decide_eq_true_iff] at h
  exact ⟨rfl, rfl, rfl, rfl, by simp, by simp, by show (0 : Int) ≤ k; omega, h.2, h.1, (fun h => by cases h), (fun a ha => by cases ha)⟩
theorem CI.ack {t : Td} {r : Rk} (h : CI t r) : CI ⟨t.size, 0, t.b, t.last⟩ ⟨r.l, 0, r.blk, r.last⟩ :=
  ⟨h.size, rfl, h.b, h.last, h.len, by simp, by show (0 : Int) ≤ r.blk; have := h.k0; omega, h.k1, h.k0, h.ne, h.byt⟩
theorem CI.put {t : Td} {r : Rk} (h : CI t r) (x : Ln) (hx : Byt x.l) : CI (t.put x).1 (r.put x).1 ∧ (t.put x).2 = (r.put x).2 := by
  have hb : t.b.length = 7 * r.l.length := by rw [h.b, flatB_len]
  have hmod := Int.emod_nonneg (x.at 0) (show (128 : Int) ≠ 0 by decide)
  have hL := h.len
  unfold Td.put Rk.put
  rw [h.size, h.n, h.last]
  generalize x.at 0 % 128 = S at *
  by_cases q1 : r.last = true
  · rw [if_pos q1, if_pos q1]
    exact ⟨h, rfl⟩
  rw [if_neg q1, if_neg q1]
  by_cases q2 : S = 0 ∨ r.blk < S
  · have q2' : S < 1 ∨ r.blk < S := by omega
    rw [if_pos q2, if_pos q2']
    exact ⟨h, rfl⟩
  have q2' : ¬ (S < 1 ∨ r.blk < S) := by omega
  rw [if_neg q2, if_neg q2']
  by_cases q3 : S = r.n + 1
  · rw [if_pos q3, if_pos q3]
    by_cases q4 : r.l.length = 10
    · have q5 : 70 ≤ t.b.length := by omega
      rw [if_pos q5, if_pos q4]
      exact ⟨h, rfl⟩
    · have q5 : ¬ 70 ≤ t.b.length := by omega
      rw [if_neg q5, if_neg q4]
      refine ⟨⟨rfl, rfl, ?_, rfl, ?_, ?_, ?_, h.k1, h.k0, ?_, ?_⟩, rfl⟩
      · show t.b ++ x.l.drop 1 = flatB (r.l ++ [x])
        rw [flatB_snoc, h.b]
      · show (r.l ++ [x]).length ≤ 10
        simp; omega
      · show 0 ≤ r.n + 1
        have := h.n0; omega
      · show r.n + 1 ≤ r.blk
        omega
      · intro _
        show 1 ≤ (r.l ++ [x]).length
        simp
      · intro a ha
        rcases List.mem_append.1 ha with h1 | h1
        · exact h.byt a h1
        · obtain rfl := List.mem_singleton.1 h1
          exact hx
  · rw [if_neg q3, if_neg q3]
    exact ⟨h, rfl⟩

/-- A line that comes. -/
structure Cm where
  ack : Bool
  x : Ln
def Cm.cells (c : Cm) : List Value := .bool c.ack :: c.x.l.map (Value.int .u8)
def Cm.ok (c : Cm) : Prop := Byt c.x.l
theorem dec_came {W : World} (es : List Value) (hl : es.length = 9) (h : Rd Try.prog W 61 es) : ∃ c : Cm, c.cells = es ∧ c.ok := by
  obtain ⟨b0, h0⟩ := h.fieldBool Try.underlying61 0 rfl Try.underlying4 (by kernel_rfl)
  have hd := (h.struct Try.underlying61).2 1 _ rfl
  have hC : Try.prog.cellsOf LT = 8 := by kernel_rfl
  change Rd Try.prog W LT ((es.drop 1).take (Try.prog.cellsOf LT)) at hd
  rw [hC] at hd
  have ht : (es.drop 1).take 8 = es.drop 1 := List.take_of_length_le (by rw [List.length_drop, hl]; omega)
  rw [ht] at hd
  have key : ∀ j, j < 8 → ∃ n, (es.drop 1)[j]? = some (.int .u8 n) ∧ (Lit.int .u8 n).wf = true := fun j hj => hd.elemInt Try.underlying55 Try.underlying5 (by kernel_rfl) j hj
  obtain ⟨d0, e0, g0⟩ := key 0 (by omega)
  obtain ⟨d1, e1, g1⟩ := key 1 (by omega)
  obtain ⟨d2, e2, g2⟩ := key 2 (by omega)
  obtain ⟨d3, e3, g3⟩ := key 3 (by omega)
  obtain ⟨d4, e4, g4⟩ := key 4 (by omega)
  obtain ⟨d5, e5, g5⟩ := key 5 (by omega)
  obtain ⟨d6, e6, g6⟩ := key 6 (by omega)
  obtain ⟨d7, e7, g7⟩ := key 7 (by omega)
  change es[0]? = some _ at h0
  refine ⟨⟨b0, ⟨[d0, d1, d2, d3, d4, d5, d6, d7], rfl⟩⟩, ?_, ?_⟩
  · rcases es with _ | ⟨a, t⟩
    · simp at hl
    · simp only [List.drop_succ_cons, List.drop_zero] at e0 e1 e2 e3 e4 e5 e6 e7
      simp only [List.getElem?_cons_zero, Option.some.injEq] at h0
      simp only [List.length_cons] at hl
      have htl : t = [.int .u8 d0, .int .u8 d1, .int .u8 d2, .int .u8 d3, .int .u8 d4, .int .u8 d5, .int .u8 d6, .int .u8 d7] := by
        apply List.ext_getElem?
        intro j
        by_cases hj : j < 8
        · rcases (by omega : j = 0 ∨ j = 1 ∨ j = 2 ∨ j = 3 ∨ j = 4 ∨ j = 5 ∨ j = 6 ∨ j = 7) with rfl | rfl | rfl | rfl | rfl | rfl | rfl | rfl <;> assumption
        · rw [List.getElem?_eq_none (by omega), List.getElem?_eq_none (by simp; omega)]
      rw [h0, htl]
      rfl
  · intro y hy
    simp only [List.mem_cons, List.not_mem_nil, or_false] at hy
    rcases hy with rfl | rfl | rfl | rfl | rfl | rfl | rfl | rfl <;> first | exact wf_u8 g0 | exact wf_u8 g1 | exact wf_u8 g2 | exact wf_u8 g3 | exact wf_u8 g4 | exact wf_u8 g5 | exact wf_u8 g6 | exact wf_u8 g7

end Go.Proofs.Ytpdomjinhbnmfaa
