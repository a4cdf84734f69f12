/- Rows of frames. -/
import Derived.Test.YtocogmboocjjaaaFrV
import Derived.Deep.MidRow
set_option linter.unusedSimpArgs false
set_option linter.unusedVariables false
set_option linter.unnecessarySimpa false
namespace Go.Proofs.Ytocogmboocjjaaa
open Go.RowKit Go.Proofs.YtocogmboocjjaaaW.PrintWords

abbrev FSL : TypeId := 55

def fcs (l : List Fr) : List Value := l.flatMap fun f => f.cells.toList
theorem fcs_len (l : List Fr) : (fcs l).length = l.length * 11 := by
  induction l with
  | nil => rfl
  | cons f l ih => rw [fcs, List.flatMap_cons, List.length_append, ← fcs, ih, List.length_cons]; have : f.cells.toList.length = 11 := rfl; omega
theorem fcs_append (l m : List Fr) : fcs (l ++ m) = fcs l ++ fcs m := by simp [fcs]
theorem fcs_at : ∀ (l : List Fr) (i j : Nat) (f : Fr) (v : Value), l[i]? = some f → f.cells.toList[j]? = some v → (fcs l)[i * 11 + j]? = some v
  | [], i, j, f, v, h, _ => by simp at h
  | g :: l, 0, j, f, v, h, k => by
    simp only [List.getElem?_cons_zero, Option.some.injEq] at h
    subst h
    rw [fcs, List.flatMap_cons, List.getElem?_append_left (by have := (List.getElem?_eq_some_iff.1 k).1; omega)]
    simpa using k
  | g :: l, i + 1, j, f, v, h, k => by
    simp only [List.getElem?_cons_succ] at h
    have := fcs_at l i j f v h k
    rw [fcs, List.flatMap_cons, ← fcs, List.getElem?_append_right (by show 11 ≤ _; omega)]
    rw [← this]
    congr 1
    show (i + 1) * 11 + j - 11 = _
    omega

/-- A row of frames of the call's own. -/
def OwnF (w : World) (base : Nat) (v : Value) (l : List Fr) : Prop := w.ownsRow base FT 11 v l.length (fcs l)
/-- Frames that may be read, at whatever time. -/
def FrS (w : World) (v : Value) (l : List Fr) : Prop := ∃ g c, v = .slice (some ⟨g, 0, none⟩) l.length c ∧ l.length ≤ c ∧ ∀ (i : Nat) (f : Fr), l[i]? = some f → ∀ w', Ext w w' → (ldF (.pointer (some ⟨g, i * 11, none⟩))).run Try.prog w' = .ok f.val w'
theorem FrS.ext {a b : World} {v : Value} {l : List Fr} (h : FrS a v l) (k : Ext a b) : FrS b v l := by
  obtain ⟨g, c, hv, hc, hi⟩ := h
  exact ⟨g, c, hv, hc, fun i f hf w' k' => hi i f hf w' (k.trans k')⟩
theorem OwnF.nil (w : World) (base : Nat) : OwnF w base (.slice none 0 0) [] := ⟨rfl, .inl ⟨rfl, rfl⟩⟩
theorem ldF_mid {w : World} {b o : Nat} {f : Fr} (h : w.rangeAt b o f.cells.toList) : (ldF (.pointer (some ⟨b, o, none⟩))).run Try.prog w = .ok f.val w := by
  have := run_loadAt_mid (P := Try.prog) w b o FT f.cells.toList _ h Try.underlying43 rfl infoFT
  simpa [ldF, Fr.val] using this
theorem OwnF.frs {w : World} {base : Nat} {v : Value} {l : List Fr} (h : OwnF w base v l) (hl : l ≠ []) : FrS w v l := by
  obtain ⟨_, h⟩ := h
  rcases h with ⟨_, h0⟩ | ⟨g, cap, cur, rfl, _, hh, hc, _, hsz, ht⟩
  · exact absurd (List.eq_nil_of_length_eq_zero h0) hl
  · refine ⟨g, cap, rfl, hc, fun i f hf w' k => ldF_mid fun j v hv => k.cell ?_⟩
    have h1 := fcs_at l i j f v hf hv
    rw [← ht] at h1
    rw [List.getElem?_take] at h1
    split at h1
    · exact Blk.cell hh (i * 11 + j) v (by simpa using h1)
    · cases h1
theorem OwnF.below {a b : World} {base : Nat} {v : Value} {l : List Fr} (h : OwnF a base v l) (k : Ext a b) : OwnF b base v l := by
  obtain ⟨h0, h⟩ := h
  refine ⟨h0, ?_⟩
  rcases h with h | ⟨g, cap, cur, hv, hb, hh, r⟩
  · exact .inl h
  · exact .inr ⟨g, cap, cur, hv, hb, k.blk hh, r⟩
theorem infoFB : (Try.prog.info? FT).map (fun i => (i.zero, i.size, i.bytes)) = some (some Fr.zero.val, 11, 32) := by kernel_rfl

/-- Blocks of other kinds than frames stay whole. -/
def KeepF (a b : World) : Prop := a.heap.size ≤ b.heap.size ∧ ∀ g cs t, Blk a g cs t → t ≠ FT → Blk b g cs t
theorem KeepF.blk {a b : World} (h : KeepF a b) {g : Nat} {t : TypeId} {cs : Array Value} (hb : Blk a g cs t) (ht : t ≠ FT) : Blk b g cs t := h.2 g cs t hb ht
theorem ownF_apart {w : World} {B g : Nat} {v : Value} {l : List Fr} {t : TypeId} {cs : Array Value} (h : OwnF w B v l) (hb : Blk w g cs t) (ht : t ≠ FT) : v.ownBlock ≠ some g := by
  rcases h.2 with ⟨rfl, _⟩ | ⟨g', cap, cur, rfl, _, hh, _⟩
  · simp [Value.ownBlock]
  · intro he
    have : g' = g := by simpa [Value.ownBlock] using he
    subst this
    unfold Blk at hb
    rw [hh] at hb
    injection hb with hb
    injection hb with _ h2
    exact ht h2.symm
/-- One frame more behind a row of the call's own. -/
theorem appF {ops : Array Oper} {rest : List Oper} {o : Oper} {a : Act} {Q : Exit → Act → World → Prop} {W : World} (hgd : o.guard = none) (s x : Operand)
    (ho : o.op = .call { callee := .builtin .append, args := #[s, x], argTypes := #[FSL, FSL] }) (base : Nat) {v : Value} {l : List Fr} {f : Fr} (hs : a.eval s = v) {B : Nat} (hx : a.eval x = .slice (some ⟨B, 0, none⟩) 1 1) (hB : B = W.heap.size)
    (hown : OwnF W base v l) (hlen : l.length + 1 ≤ 1000000) (hbase : base ≤ W.heap.size)
    (h : ∀ v' w', OwnF w' base v' (l ++ [f]) → Below base W w' → KeepF W w' → wpList Try.prog ops Q rest (a.put o.dst v') w') : wpList Try.prog ops Q (o :: rest) a (W.alloc (.cells f.cells FT)) := by
  subst hB
  obtain ⟨i0, hi, hz0, hz1, hz2⟩ := info_parts infoFB
  refine wpList_append_own _ hgd s x FSL ho base FT i0 Fr.zero.val 11 32 Try.underlying55 hi hz0 hz1 hz2 rfl (by decide) v l.length (fcs l) hs (World.ownsRow.alloc hown _) ⟨W.heap.size, 0, none⟩ 1 1 f.cells.toList hx rfl ?_ ?_ ?_ ?_ ?_ ?_
  · intro j u hj
    have := (Blk.new W f.cells FT).cell j u (by simpa using hj)
    rw [Addr.add_mid]
    simpa using this
  · intro u hu
    have := f.one
    rw [Array.all_eq_true_iff_forall_mem] at this
    exact this u (by simpa using hu)
  · unfold maxLen; omega
  · omega
  · simp; omega
  · intro v' w' h1 hg _
    have hsz := hg.size
    refine h v' w' ?_ ?_ ⟨by simp at hsz; omega, fun g cs t hb ht => ?_⟩
    · show w'.ownsRow base FT 11 v' (l ++ [f]).length (fcs (l ++ [f]))
      rw [fcs_append]
      simpa [fcs] using h1
    · refine ((Below.refl base W).alloc hbase _).grown hg (by simp; omega) (fun k hk => ?_)
      rcases hown.2 with ⟨rfl, _⟩ | ⟨g', cap, cur, rfl, hb', _⟩
      · simp [Value.ownBlock] at hk
      · have : g' = k := by simpa [Value.ownBlock] using hk
        omega
    · have h2 := ownF_apart hown hb ht
      have hlt := hb.lt
      have := hg.block g (by simp; omega) (fun e => h2 e.symm)
      unfold Blk at hb ⊢
      rw [this, Below.heap_alloc _ _ _ hlt]
      exact hb

/-- Rows that are written out. -/
noncomputable def bsF (n : Nat) (l : Array (Nat × Value)) : Sem Value := Instr.buildSlice FSL n l
theorem bsF_in (n : Nat) (l : Array (Nat × Value)) : Instr.buildSlice FSL n l = bsF n l := rfl
theorem bsF_one (f : Fr) (w : World) : (bsF 1 #[(0, f.val)]).run Try.prog w = .ok (.slice (some ⟨w.heap.size, 0, none⟩) 1 1) (w.alloc (.cells f.cells FT)) := by
  obtain ⟨id, rtr, len, d0, d1, d2, d3, d4, d5, d6, d7⟩ := f
  kernel_rfl
theorem bsF_two (f g : Fr) (w : World) : (bsF 2 #[(0, f.val), (1, g.val)]).run Try.prog w = .ok (.slice (some ⟨w.heap.size, 0, none⟩) 2 2) (w.alloc (.cells (fcs [f, g]).toArray FT)) := by
  obtain ⟨id, rtr, len, d0, d1, d2, d3, d4, d5, d6, d7⟩ := f
  obtain ⟨id', rtr', len', d0', d1', d2', d3', d4', d5', d6', d7'⟩ := g
  kernel_rfl
theorem FrS.two (f g : Fr) (w : World) : FrS (w.alloc (.cells (fcs [f, g]).toArray FT)) (.slice (some ⟨w.heap.size, 0, none⟩) 2 2) [f, g] := by
  refine ⟨w.heap.size, 2, rfl, Nat.le_refl _, fun i h hf w' k => ldF_mid fun j v hv => k.cell ?_⟩
  exact (Blk.new w _ FT).cell _ _ (by simpa using fcs_at [f, g] i j h v hf hv)

end Go.Proofs.Ytocogmboocjjaaa
