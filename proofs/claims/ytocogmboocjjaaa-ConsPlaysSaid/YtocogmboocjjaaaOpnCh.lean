/- A table that came in. -/
import Derived.Test.YtocogmboocjjaaaChan
import Derived.Test.YtocogmboocjjaaaOpen
set_option linter.unusedSimpArgs false
set_option linter.unusedVariables false
set_option maxRecDepth 100000
set_option linter.unnecessarySimpa false
namespace Go.Proofs.Ytocogmboocjjaaa
open Go.RowKit Go.Proofs.YtocogmboocjjaaaW.PrintWords

def vInt : Value → Int
  | .int _ n => n
  | _ => 0
theorem ints_ch {w : World} (cs : List Value) (hl : cs.length = 30) (h : Rd Try.prog w CT cs) : ∀ j, j < 30 → ∃ n, cs[j]? = some (.int .i64 n) := by
  obtain ⟨n0, h0, _⟩ := h.fieldInt Try.underlying30 0 rfl Try.underlying23 (by kernel_rfl)
  obtain ⟨n1, h1, _⟩ := h.fieldInt Try.underlying30 1 rfl Try.underlying3 (by kernel_rfl)
  obtain ⟨n2, h2, _⟩ := h.fieldInt Try.underlying30 2 rfl Try.underlying3 (by kernel_rfl)
  obtain ⟨n3, h3, _⟩ := h.fieldInt Try.underlying30 3 rfl Try.underlying3 (by kernel_rfl)
  obtain ⟨n4, h4, _⟩ := h.fieldInt Try.underlying30 4 rfl Try.underlying3 (by kernel_rfl)
  obtain ⟨n5, h5, _⟩ := h.fieldInt Try.underlying30 5 rfl Try.underlying3 (by kernel_rfl)
  change cs[0]? = some _ at h0
  change cs[1]? = some _ at h1
  change cs[2]? = some _ at h2
  change cs[3]? = some _ at h3
  change cs[4]? = some _ at h4
  change cs[5]? = some _ at h5
  have hd := (h.struct Try.underlying30).2 6 _ rfl
  have hC : Try.prog.cellsOf SMT = 24 := by kernel_rfl
  change Rd Try.prog w SMT ((cs.drop 6).take (Try.prog.cellsOf SMT)) at hd
  rw [hC] at hd
  have hCS : Try.prog.cellsOf SLT = 3 := by kernel_rfl
  have hCK : Try.prog.cellsOf 25 = 2 := by kernel_rfl
  have key : ∀ s, s < 8 → ∀ q, q < 3 → ∃ n, cs[6 + (s * 3 + q)]? = some (.int .i64 n) := by
    intro s hs q hq
    have h1 := (hd.array Try.underlying28).2 s hs
    rw [hCS] at h1
    have hk := (h1.struct Try.underlying27).2 0 _ rfl
    change Rd Try.prog w 25 (((((cs.drop 6).take 24).drop (s * 3)).take 3).drop 0 |>.take (Try.prog.cellsOf 25)) at hk
    rw [hCK] at hk
    obtain ⟨m0, k0, _⟩ := hk.fieldInt Try.underlying25 0 rfl Try.underlying3 (by kernel_rfl)
    obtain ⟨m1, k1, _⟩ := hk.fieldInt Try.underlying25 1 rfl Try.underlying3 (by kernel_rfl)
    obtain ⟨m2, k2, _⟩ := h1.fieldInt Try.underlying27 1 rfl Try.underlying3 (by kernel_rfl)
    change ((((((cs.drop 6).take 24).drop (s * 3)).take 3).drop 0).take 2)[0]? = some _ at k0
    change ((((((cs.drop 6).take 24).drop (s * 3)).take 3).drop 0).take 2)[1]? = some _ at k1
    change ((((cs.drop 6).take 24).drop (s * 3)).take 3)[2]? = some _ at k2
    have gen : ∀ j, j < 3 → ((((cs.drop 6).take 24).drop (s * 3)).take 3)[j]? = cs[6 + (s * 3 + j)]? := fun j hj => by
      rw [List.getElem?_take_of_lt hj, List.getElem?_drop, List.getElem?_take_of_lt (by omega), List.getElem?_drop]
    rcases (by omega : q = 0 ∨ q = 1 ∨ q = 2) with rfl | rfl | rfl
    · rw [List.getElem?_take_of_lt (by omega), List.drop_zero, gen 0 (by omega)] at k0
      exact ⟨_, k0⟩
    · rw [List.getElem?_take_of_lt (by omega), List.drop_zero, gen 1 (by omega)] at k1
      exact ⟨_, k1⟩
    · rw [gen 2 (by omega)] at k2
      exact ⟨_, k2⟩
  intro j hj
  by_cases h6 : j < 6
  · rcases (by omega : j = 0 ∨ j = 1 ∨ j = 2 ∨ j = 3 ∨ j = 4 ∨ j = 5) with rfl | rfl | rfl | rfl | rfl | rfl
    · exact ⟨_, h0⟩
    · exact ⟨_, h1⟩
    · exact ⟨_, h2⟩
    · exact ⟨_, h3⟩
    · exact ⟨_, h4⟩
    · exact ⟨_, h5⟩
  · obtain ⟨n, hn⟩ := key ((j - 6) / 3) (by omega) ((j - 6) % 3) (by omega)
    exact ⟨n, by rw [← hn]; congr 1; omega⟩
theorem ch_of (cs : List Value) (hl : cs.length = 30) (h : ∀ j, j < 30 → ∃ n, cs[j]? = some (.int .i64 n)) : ∃ c : Ch, c.cells.toList = cs := by
  refine ⟨⟨cs.map vInt, by rw [List.length_map]; exact hl⟩, ?_⟩
  apply List.ext_getElem?
  intro j
  simp only [Ch.cells, List.toList_toArray, List.getElem?_map]
  by_cases hj : j < 30
  · obtain ⟨n, hn⟩ := h j hj
    rw [hn]
    rfl
  · rw [List.getElem?_eq_none (by omega)]
    rfl
theorem opn_ch {W : World} {base : Nat} {r : Reach} {v : Value} (h : Rd Try.prog W CT v.cells.toList) (hv : Value.okWide Try.prog W r base CT v) : ∃ c : Ch, v = c.val := by
  obtain ⟨cs, rfl, hs, h'⟩ := opn_struct Try.underlying30 h hv
  have hl : cs.toList.length = 30 := by simpa using hs.trans (by kernel_rfl)
  obtain ⟨c, hc⟩ := ch_of cs.toList hl (ints_ch cs.toList hl h')
  refine ⟨c, ?_⟩
  show Value.agg cs = .agg c.cells
  rw [← Array.toArray_toList (xs := cs), ← hc]

end Go.Proofs.Ytocogmboocjjaaa
