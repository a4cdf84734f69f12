/- What the second form's bound gives. -/
import Derived.Test.YtobllheaadmbgaaRows
import Derived.Test.YtobllheaadmbgaaOpen
set_option linter.unusedSimpArgs false
set_option linter.unusedVariables false
namespace Go.Proofs.Ytobllheaadmbgaa
open Go.RowKit Go.ChangeShapes Go.WideShapes Go.ChangeAt

/-- It reads as data of its type, of bulk at most 1048576. -/
def RdU (P : Program) (w : World) (t : TypeId) (cs : List Value) : Prop :=
  ∃ (H : Type) (enc : TypeId × Value → H) (base : Nat) (spare : Nat → Bool) (held : Bool) (fuel : Nat) (x : DataW H × List MemPlace), DataW.trod enc P w base spare held fuel t cs = some x ∧ Rows.uptoBulk x.1 ≤ 1048576

theorem RdU.of {H : Type} {enc : TypeId × Value → H} {P : Program} {w : World} {base : Nat} {spare : Nat → Bool} {held : Bool} {ts : List TypeId} {ds : List (DataW H)} {j : Nat} {t : TypeId} {v : Value} {d : DataW H} {ps : List MemPlace} (_ : (DataW.weightsEach P ts ds).all (· ≤ reachBytes) = true) (_ : ts[j]? = some t) (_ : ds[j]? = some d)
    (h : DataW.Trod enc P w base spare held t v d ps) (hb : Rows.uptoBulk d ≤ 1048576) : RdU P w t v.cells.toList := by
  obtain ⟨fuel, h⟩ := h
  exact ⟨H, enc, base, spare, held, fuel, _, h, hb⟩

theorem bulk_one {H : Type} (d : DataW H) : 1 ≤ Rows.uptoBulk d := by
  cases d with
  | lit l => cases l <;> simp [Rows.uptoBulk]
  | nil => simp [Rows.uptoBulk]
  | ptr d => simp [Rows.uptoBulk]
  | slice elems spare => simp [Rows.uptoBulk]
  | agg parts => simp [Rows.uptoBulk]
  | iface t d => simp [Rows.uptoBulk]
  | map entries => simp [Rows.uptoBulk]
  | held h => simp [Rows.uptoBulk]
theorem bulk_len {H : Type} : ∀ l : List (DataW H), l.length ≤ Rows.uptoBulkAll l
  | [] => by simp [Rows.uptoBulkAll]
  | x :: r => by have := bulk_one x; have := bulk_len r; simp only [Rows.uptoBulkAll, List.length_cons]; omega

theorem RdU.slice {P : Program} {w : World} {t e : TypeId} {a : Option Addr} {len cap : Nat} (ht : P.underlying t = some (.slice e)) (h : RdU P w t [.slice a len cap]) : len ≤ 1048576 := by
  obtain ⟨H, enc, base, spare, held, fuel, x, h, hb⟩ := h
  cases fuel with
  | zero => simp [DataW.trod] at h
  | succ n =>
    unfold DataW.trod at h
    rw [ht] at h
    split at h <;> first | (simp_all; done) | skip
    all_goals first | (rename_i heq; simp only [List.cons.injEq, Value.slice.injEq] at heq; omega) | skip
    · rename_i e' a' len' cap' heq heq2
      simp only [Option.some.injEq, TypeDesc.slice.injEq] at heq
      subst heq
      simp only [List.cons.injEq, Value.slice.injEq, and_true] at heq2
      obtain ⟨_, rfl, rfl⟩ := heq2
      simp only at h
      split at h
      · obtain ⟨elems, he, hrest⟩ := Option.bind_eq_some_iff.1 h
        obtain ⟨rest, _, hxx⟩ := Option.map_eq_some_iff.1 hrest
        subst hxx
        have hel := mapM_some_length he
        simp only [List.length_range] at hel
        simp only [Rows.uptoBulk] at hb
        have := bulk_len (elems.map (·.1))
        simp at this
        omega
      · cases h

end Go.Proofs.Ytobllheaadmbgaa
