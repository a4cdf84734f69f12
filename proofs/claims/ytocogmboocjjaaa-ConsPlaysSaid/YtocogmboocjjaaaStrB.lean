/- A text as bytes; slices that lie in records that came in. -/
import Derived.Test.YtocogmboocjjaaaFrV
import Derived.Laws.IdiomStrings
set_option linter.unusedSimpArgs false
set_option linter.unusedVariables false
set_option linter.unnecessarySimpa false
namespace Go.Proofs.Ytocogmboocjjaaa
open Go.RowKit Go.Proofs.YtocogmboocjjaaaW.PrintWords

noncomputable def cvB (v : Value) : Sem Value := convert 9 SB v
theorem cvB_in (v : Value) : convert 9 SB v = cvB v := rfl
noncomputable def sbV (w : World) (l : List Int) : Value := .slice (some ⟨w.heap.size, 0, none⟩) (mkS l).size (grownCap w (mkS l).size 0 U8)
noncomputable def sbW (w : World) (l : List Int) : World := w.drew.alloc (.cells (bytesRow (mkS l) (grownCap w (mkS l).size 0 U8)) U8 ((bytesRow (mkS l) (grownCap w (mkS l).size 0 U8)).size, (bytesRow (mkS l) (grownCap w (mkS l).size 0 U8)).size + 1))
theorem cvB_run (l : List Int) (w : World) : (cvB (.string (mkS l))).run Try.prog w = .ok (sbV w l) (sbW w l) :=
  run_bytes_of_string w 9 SB U8 (mkS l) Try.underlying9 Try.underlying38 Try.underlying5
theorem sbW_ext (w : World) (l : List Int) : Ext w (sbW w l) := Ext.alloc (Ext.drew (Ext.refl w))
theorem sbW_bs (w : World) (l : List Int) (h : Byt l) (hn : l.length ≤ 9223372036854775807) : Bs (sbW w l) (sbV w l) l := by
  have hge := grownCap_ge w (mkS l).size 0 U8
  refine ⟨some ⟨w.heap.size, 0, none⟩, w.heap.size, 0, grownCap w (mkS l).size 0 U8, by unfold sbV; rw [mkS_size], by rw [mkS_size] at hge ⊢; exact hge, ⟨hn, fun _ => ⟨rfl, by show w.heap.size < (w.heap.push _).size; simp⟩, fun i hi => ?_⟩, h⟩
  have hb : (sbW w l).heap[w.heap.size]? = some (.cells (bytesRow (mkS l) (grownCap w (mkS l).size 0 U8)) U8 ((bytesRow (mkS l) (grownCap w (mkS l).size 0 U8)).size, (bytesRow (mkS l) (grownCap w (mkS l).size 0 U8)).size + 1)) := by
    show (w.heap.push _)[w.heap.size]? = _
    simp
  have hi' : i < (mkS l).data.size := by have : (mkS l).data.size = l.length := mkS_size l; omega
  have hr := bytesRow_at (mkS l) (grownCap w (mkS l).size 0 U8) i hi'
  have hv : ((mkS l).data[i].toNat : Int) = l.getD i 0 := by
    have h2 := sb_at (mkS l) (i := i) (by rw [mkS_size]; exact hi)
    rw [sb_mkS h] at h2
    exact h2
  rw [hv] at hr
  rw [Nat.zero_add]
  simp only [World.cell?, hb]
  exact hr

/-- Slices of bytes that lie in a record. -/
theorem Rd.bytes {W : World} {cs : List Value} (h : Rd Try.prog W SB cs) : ∃ v l, cs = [v] ∧ Bs W v l ∧ l.length ≤ reachBytes := by
  obtain ⟨a, len, cap, rfl, hl, hc, hb, hn, hi⟩ := h.slice Try.underlying38
  have hC : Try.prog.cellsOf 5 = 1 := by kernel_rfl
  have hB : Try.prog.bytesOf 5 = 1 := by kernel_rfl
  rw [hB, Nat.mul_one] at hb
  by_cases h0 : 0 < len
  · obtain ⟨x, es, rfl, hlen, hat, hrd⟩ := hi 0 h0
    have h1 := hat 0 (by rw [hC]; omega)
    rw [Nat.zero_mul, List.getElem?_eq_getElem (by rw [hlen, hC]; omega)] at h1
    obtain ⟨hx, hlt⟩ := plain_of_cell h1
    have key : ∀ i, i < len → W.cell? ⟨x.block, x.off + i, none⟩ = some (.int .u8 (intAt W ⟨x.block, x.off + i, none⟩)) ∧ 0 ≤ intAt W ⟨x.block, x.off + i, none⟩ ∧ intAt W ⟨x.block, x.off + i, none⟩ ≤ 255 := by
      intro i hil
      obtain ⟨x', es, hx', hes, hat, hrd⟩ := hi i hil
      obtain rfl := Option.some.inj hx'
      rw [hC] at hes hat
      obtain ⟨n, hn, wn⟩ := hrd.int Try.underlying5
      subst hn
      have h1 := hat 0 (by omega)
      rw [hx, Go.Proofs.Ytocogmboocjjaaa.add_plain, Go.Proofs.Ytocogmboocjjaaa.add_plain, Nat.mul_one, Nat.add_zero] at h1
      have e : intAt W ⟨x.block, x.off + i, none⟩ = n := by simp [intAt, h1]
      rw [e]
      exact ⟨h1, wf_u8 wn⟩
    refine ⟨_, bytesAt W x.block x.off len, rfl, ⟨_, x.block, x.off, cap, by rw [bytesAt_len], by rw [bytesAt_len]; exact hl, ⟨?_, ?_, ?_⟩, ?_⟩, by rw [bytesAt_len]; exact hb⟩
    · rw [bytesAt_len]; unfold maxLen at hc; omega
    · exact fun _ => ⟨by rw [← hx], hlt⟩
    · intro i hi
      rw [bytesAt_len] at hi
      rw [bytesAt_get _ _ _ _ _ hi]
      exact (key i hi).1
    · intro y hy
      obtain ⟨i, hi, rfl⟩ := List.mem_map.1 hy
      exact (key i (List.mem_range.1 hi)).2
  · obtain rfl : len = 0 := by omega
    exact ⟨_, [], rfl, ⟨a, 0, 0, cap, rfl, by simp, Row8.nil, Byt.nil⟩, by simp⟩

end Go.Proofs.Ytocogmboocjjaaa
