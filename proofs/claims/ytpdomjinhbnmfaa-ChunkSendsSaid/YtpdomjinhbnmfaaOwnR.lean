/- Rows of records of the call's own: one more behind them; how they are read. -/
import Derived.Test.YtpdomjinhbnmfaaAuto
import Derived.Test.YtpdomjinhbnmfaaRowOf
import Derived.Deep.MidRow
set_option linter.unusedSimpArgs false
set_option linter.unusedVariables false
set_option linter.unnecessarySimpa false
namespace Go.Proofs.Ytpdomjinhbnmfaa
open Go.RowKit Go.Proofs.YtpdomjinhbnmfaaW.PrintWords

/-- How records of a kind are laid. -/
structure Lay (α : Type) where
  T : TypeId
  S : TypeId
  k : Nat
  bytes : Nat
  z : Value
  enc : α → List Value
  len : ∀ a, (enc a).length = k
  one : ∀ a, ∀ u ∈ enc a, u.oneCell' = true
  under : Try.prog.underlying S = some (.slice T)
  info : (Try.prog.info? T).map (fun i => (i.zero, i.size, i.bytes)) = some (some z, k, bytes)
  hz : z.cells.size = k
  hk : 0 < k
  hb : bytes ≤ 1000

variable {α : Type} (L : Lay α)
def Lay.cs (l : List α) : List Value := l.flatMap L.enc
theorem Lay.cs_len (l : List α) : (L.cs l).length = l.length * L.k := by
  induction l with
  | nil => simp [Lay.cs]
  | cons a l ih => rw [Lay.cs, List.flatMap_cons, List.length_append, ← Lay.cs, ih, List.length_cons, L.len, Nat.add_mul]; omega
theorem Lay.cs_append (l m : List α) : L.cs (l ++ m) = L.cs l ++ L.cs m := by simp [Lay.cs]
theorem Lay.cs_at : ∀ (l : List α) (i j : Nat) (a : α) (v : Value), l[i]? = some a → (L.enc a)[j]? = some v → (L.cs l)[i * L.k + j]? = some v
  | [], i, j, a, v, h, _ => by simp at h
  | b :: l, 0, j, a, v, h, k => by
    simp only [List.getElem?_cons_zero, Option.some.injEq] at h
    subst h
    rw [Lay.cs, List.flatMap_cons, List.getElem?_append_left (by have := (List.getElem?_eq_some_iff.1 k).1; omega)]
    simpa using k
  | b :: l, i + 1, j, a, v, h, k => by
    simp only [List.getElem?_cons_succ] at h
    have := Lay.cs_at l i j a v h k
    have e : (i + 1) * L.k = i * L.k + L.k := by rw [Nat.add_mul, Nat.one_mul]
    rw [Lay.cs, List.flatMap_cons, ← Lay.cs, List.getElem?_append_right (by rw [L.len, e]; omega), ← this, L.len]
    congr 1
    rw [e]; omega

/-- A row of the call's own. -/
def OwnR (w : World) (base : Nat) (v : Value) (l : List α) : Prop := w.ownsRow base L.T L.k v l.length (L.cs l)
variable {L}
theorem OwnR.nil (w : World) (base : Nat) : OwnR L w base (.slice none 0 0) [] := ⟨by simp [Lay.cs], .inl ⟨rfl, rfl⟩⟩
theorem OwnR.zero (w : World) (base : Nat) (h : base ≤ w.heap.size) : OwnR L (w.alloc (.cells #[] L.T)) base (.slice (some ⟨w.heap.size, 0, none⟩) 0 0) [] :=
  ⟨by simp [Lay.cs], .inr ⟨w.heap.size, 0, #[], rfl, h, Blk.new w #[] L.T, Nat.le_refl _, by unfold maxLen; omega, by simp, by simp [Lay.cs]⟩⟩
theorem OwnR.below {a b : World} {base : Nat} {v : Value} {l : List α} (h : OwnR L a base v l) (k : Ext a b) : OwnR L b base v l := by
  obtain ⟨h0, h⟩ := h
  refine ⟨h0, ?_⟩
  rcases h with h | ⟨g, cap, cur, hv, hb, hh, r⟩
  · exact .inl h
  · exact .inr ⟨g, cap, cur, hv, hb, k.blk hh, r⟩
theorem OwnR.form {w : World} {base : Nat} {v : Value} {l : List α} (h : OwnR L w base v l) : ∃ A c, v = .slice A l.length c := by
  rcases h.2 with ⟨rfl, h0⟩ | ⟨g, cap, cur, rfl, _⟩
  · exact ⟨none, 0, by rw [h0]⟩
  · exact ⟨_, _, rfl⟩
theorem OwnR.rows {w : World} {base : Nat} {v : Value} {l : List α} (h : OwnR L w base v l) (hn : l.length ≤ 1000000) : ∃ A bl c, v = .slice A l.length c ∧ l.length ≤ c ∧ RowOf L.enc L.k w A bl 0 l := by
  obtain ⟨_, h⟩ := h
  rcases h with ⟨rfl, h0⟩ | ⟨g, cap, cur, rfl, _, hh, hc, _, hsz, ht⟩
  · have : l = [] := List.eq_nil_of_length_eq_zero h0
    subst this
    exact ⟨none, 0, 0, rfl, Nat.le_refl _, by simp, fun h => absurd h (by simp), fun i x hx => by simp at hx⟩
  · refine ⟨_, g, cap, rfl, hc, by omega, fun _ => ⟨rfl, Blk.lt hh⟩, fun i x hx j v hv => ?_⟩
    have h1 := L.cs_at l i j x v hx hv
    rw [← ht, List.getElem?_take] at h1
    split at h1
    · rw [Nat.zero_add]
      exact Blk.cell hh (i * L.k + j) v (by simpa using h1)
    · cases h1
/-- Blocks of other kinds stay whole. -/
def KeepR (T : TypeId) (a b : World) : Prop := a.heap.size ≤ b.heap.size ∧ ∀ g cs t, Blk a g cs t → t ≠ T → Blk b g cs t
theorem KeepR.blk {T : TypeId} {a b : World} (h : KeepR T a b) {g : Nat} {t : TypeId} {cs : Array Value} (hb : Blk a g cs t) (ht : t ≠ T) : Blk b g cs t := h.2 g cs t hb ht
theorem OwnR.apart {w : World} {B g : Nat} {v : Value} {l : List α} {t : TypeId} {cs : Array Value} (h : OwnR L w B v l) (hb : Blk w g cs t) (ht : t ≠ L.T) : v.ownBlock ≠ some g := by
  rcases h.2 with ⟨rfl, _⟩ | ⟨g', cap, cur, rfl, _, hh, _⟩
  · simp [Value.ownBlock]
  · intro he
    have : g' = g := by simpa [Value.ownBlock] using he
    subst this
    unfold Blk at hb
    rw [hh] at hb
    injection hb with hb
    injection hb with _ h2
    exact ht h2.symm
variable (L)
/-- One more behind a row of the call's own. -/
theorem appR {ops : Array Oper} {rest : List Oper} {o : Oper} {a : Act} {Q : Exit → Act → World → Prop} {W : World} (hgd : o.guard = none) (s x : Operand)
    (ho : o.op = .call { callee := .builtin .append, args := #[s, x], argTypes := #[L.S, L.S] }) (base : Nat) {v : Value} {l : List α} {f : α} (hs : a.eval s = v) {B : Nat} (hx : a.eval x = .slice (some ⟨B, 0, none⟩) 1 1) (hB : B = W.heap.size)
    (hown : OwnR L W base v l) (hlen : l.length + 1 ≤ 1000000) (hbase : base ≤ W.heap.size)
    (h : ∀ v' w', OwnR L w' base v' (l ++ [f]) → Below base W w' → KeepR L.T W w' → wpList Try.prog ops Q rest (a.put o.dst v') w') : wpList Try.prog ops Q (o :: rest) a (W.alloc (.cells (L.enc f).toArray L.T)) := by
  subst hB
  obtain ⟨i0, hi, hz0, hz1, hz2⟩ := info_parts L.info
  refine wpList_append_own _ hgd s x L.S ho base L.T i0 L.z L.k L.bytes L.under hi hz0 hz1 hz2 L.hz L.hk v l.length (L.cs l) hs (World.ownsRow.alloc hown _) ⟨W.heap.size, 0, none⟩ 1 1 (L.enc f) hx (by rw [L.len, Nat.one_mul]) ?_ (L.one f) ?_ ?_ ?_ ?_
  · intro j u hj
    have := (Blk.new W (L.enc f).toArray L.T).cell j u (by simpa using hj)
    rw [Addr.add_mid]
    simpa using this
  · unfold maxLen; omega
  · have := Nat.mul_le_mul hlen L.hb
    omega
  · simp; omega
  · intro v' w' h1 hg _
    have hsz := hg.size
    refine h v' w' ?_ ?_ ⟨by simp at hsz; omega, fun g cs t hb ht => ?_⟩
    · show w'.ownsRow base L.T L.k v' (l ++ [f]).length (L.cs (l ++ [f]))
      rw [L.cs_append]
      simpa [Lay.cs] using h1
    · refine ((Below.refl base W).alloc hbase _).grown hg (by simp; omega) (fun k hk => ?_)
      rcases hown.2 with ⟨rfl, _⟩ | ⟨g', cap, cur, rfl, hb', _⟩
      · simp [Value.ownBlock] at hk
      · have : g' = k := by simpa [Value.ownBlock] using hk
        omega
    · have h2 := hown.apart hb ht
      have hlt := hb.lt
      have := hg.block g (by simp; omega) (fun e => h2 e.symm)
      unfold Blk at hb ⊢
      rw [this, Below.heap_alloc _ _ _ hlt]
      exact hb

end Go.Proofs.Ytpdomjinhbnmfaa
