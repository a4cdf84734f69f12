/- Rows of records that came in. -/
import Derived.Test.YtpdomjinhbnmfaaAuto
set_option linter.unusedSimpArgs false
set_option linter.unusedVariables false
set_option linter.unnecessarySimpa false
namespace Go.Proofs.Ytpdomjinhbnmfaa
open Go.RowKit Go.ChangeShapes Go.WideShapes Go.ChangeAt

/-- A slice of records of c cells each. -/
def RowOf {α : Type} (enc : α → List Value) (c : Nat) (w : World) (A : Option Addr) (bl o : Nat) (l : List α) : Prop :=
  l.length ≤ 9223372036854775807 ∧ (0 < l.length → A = some ⟨bl, o, none⟩ ∧ bl < w.heap.size) ∧ ∀ i x, l[i]? = some x → ∀ j v, (enc x)[j]? = some v → w.cell? ⟨bl, o + i * c + j, none⟩ = some v
theorem RowOf.ext {α : Type} {enc : α → List Value} {c : Nat} {a b : World} {A : Option Addr} {bl o : Nat} {l : List α} (h : RowOf enc c a A bl o l) (k : Ext a b) : RowOf enc c b A bl o l :=
  ⟨h.1, fun hn => ⟨(h.2.1 hn).1, Nat.lt_of_lt_of_le (h.2.1 hn).2 k.le⟩, fun i x hx j v hv => k.cell (h.2.2 i x hx j v hv)⟩
theorem RowOf.at {α : Type} {enc : α → List Value} {c : Nat} {a b : World} {A : Option Addr} {bl o : Nat} {l : List α} (h : RowOf enc c a A bl o l) (k : Ext a b) {i : Nat} (hi : i < l.length) :
    A = some ⟨bl, o, none⟩ ∧ ∀ j v, (enc l[i])[j]? = some v → b.cell? ⟨bl, o + i * c + j, none⟩ = some v :=
  ⟨(h.2.1 (by omega)).1, fun j v hv => k.cell (h.2.2 i _ (List.getElem?_eq_getElem hi) j v hv)⟩

theorem opn_rows {P : Program} {W : World} {base : Nat} {r : Reach} {t e : TypeId} {v : Value} {α : Type} (enc : α → List Value) (Pr : α → Prop) (c : Nat) (hc0 : 0 < c) (ht : P.underlying t = some (.slice e)) (hC : P.cellsOf e = c)
    (dec : ∀ es : List Value, es.length = c → Rd P W e es → ∃ x, enc x = es ∧ Pr x) (h : Rd P W t v.cells.toList) (hv : Value.okWide P W r base t v) :
    ∃ (A : Option Addr) (bl o : Nat) (l : List α) (cap : Nat), v = .slice A l.length cap ∧ l.length ≤ cap ∧ cap ≤ maxLen ∧ l.length * P.bytesOf e ≤ reachBytes ∧ (A = none → cap = 0) ∧ RowOf enc c W A bl o l ∧ ∀ x ∈ l, Pr x := by
  obtain ⟨A, bl, o, len, cap, rfl, hl, hc, hb, hn, hA, hi⟩ := opn_row ht (by omega) h hv
  have key : ∀ i : Fin len, ∃ x : α, (∀ j u, (enc x)[j]? = some u → W.cell? ⟨bl, o + i.val * c + j, none⟩ = some u) ∧ Pr x := by
    intro i
    obtain ⟨es, hes, hat, hrd⟩ := hi i.val i.isLt
    rw [hC] at hes hat
    obtain ⟨x, hx, hp⟩ := dec es hes hrd
    refine ⟨x, fun j u hu => ?_, hp⟩
    rw [hx] at hu
    have hj : j < c := by have := (List.getElem?_eq_some_iff.1 hu).1; omega
    rw [hat j hj, hu]
  have hlen : (List.ofFn fun i => Classical.choose (key i)).length = len := by simp
  refine ⟨A, bl, o, List.ofFn fun i => Classical.choose (key i), cap, by rw [hlen], by rw [hlen]; exact hl, hc, by rw [hlen]; exact hb, fun h => (hn h).2, ⟨by rw [hlen]; unfold maxLen at hc; omega, by rw [hlen]; exact hA, ?_⟩, ?_⟩
  · intro i x hx j u hu
    obtain ⟨hi', hx'⟩ := List.getElem?_eq_some_iff.1 hx
    rw [hlen] at hi'
    rw [List.getElem_ofFn] at hx'
    subst hx'
    exact (Classical.choose_spec (key ⟨i, hi'⟩)).1 j u hu
  · intro x hx
    obtain ⟨i, rfl⟩ := List.mem_ofFn.1 hx
    exact (Classical.choose_spec (key i)).2

end Go.Proofs.Ytpdomjinhbnmfaa
