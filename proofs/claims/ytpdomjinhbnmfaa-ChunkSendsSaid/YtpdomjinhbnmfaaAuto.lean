/- What stays while code runs: short words for walks. -/
import Derived.Test.YtpdomjinhbnmfaaBytes
import Derived.Deep.LoopGhost
import Derived.RegionTactic
import Derived.Deep.DeepCutAuto
import Derived.Deep.CutBlock
import Derived.Deep.QuietTactic
import Derived.BigQuiet
import Derived.WalkLawsBesides
import Derived.IntWalk
import Derived.OneCell
import Derived.Laws.BitsAllLaws
set_option linter.unusedSimpArgs false
set_option linter.unusedVariables false
set_option linter.unnecessarySimpa false
namespace Go.Proofs.Ytpdomjinhbnmfaa
open Go.RowKit Go.Proofs.YtpdomjinhbnmfaaW.PrintWords

/-- All that was there is there still, as it was. -/
def Ext (w w' : World) : Prop := Below w.heap.size w w'
theorem Ext.refl (w : World) : Ext w w := Below.refl _ _
theorem Ext.trans {a b c : World} (h : Ext a b) (k : Ext b c) : Ext a c := Below.trans h (Below.mono k h.size)
theorem Ext.alloc {a b : World} {o : Obj} (h : Ext a b) : Ext a (b.alloc o) := Below.alloc h h.size o
theorem Ext.drew {a b : World} (h : Ext a b) : Ext a b.drew := Below.drew h
theorem Ext.drewN {a b : World} {n : Nat} (h : Ext a b) : Ext a (b.drewN n) := ⟨h.os, h.tape, h.output, h.size, h.block⟩
theorem Ext.set {a b : World} {p : Addr} {v : Value} (h : Ext a b) (hp : a.heap.size ≤ p.block) : Ext a (b.setCell p v) := Below.setCell h hp v
theorem Ext.set' {a b : World} {g i : Nat} {v : Value} (h : Ext a b) (hp : a.heap.size ≤ g) : Ext a (b.setCell ⟨g, i, none⟩ v) := Below.setCell h (p := ⟨g, i, none⟩) hp v
theorem Ext.le {a b : World} (h : Ext a b) : a.heap.size ≤ b.heap.size := h.size
theorem Ext.of {a b : World} (h : Below a.heap.size a b) : Ext a b := h
theorem Ext.back {a b c : World} (h : Ext a b) (k : Below a.heap.size b c) : Ext a c := Below.trans h k
theorem Ext.cell {a b : World} (h : Ext a b) {p : Addr} {v : Value} (hc : a.cell? p = some v) : b.cell? p = some v := (Below.cell h (World.block_lt_of_cell? a p hc)).trans hc
theorem Ext.blk {a b : World} (k : Ext a b) {g : Nat} {t : TypeId} {cs : Array Value} (h : Blk a g cs t) : Blk b g cs t := Blk.below h k h.lt
theorem Ext.own {a b : World} (k : Ext a b) {B : Nat} {v : Value} {l : List Int} (h : Own8 a B v l) : Own8 b B v l := h.below k

theorem Ext.only {a b c : World} {g : Nat} (h : Ext a b) (k : Only g b c) (hg : a.heap.size ≤ g) : Ext a c :=
  Below.trans h ⟨k.os, k.tape, k.output, k.size, fun i hi => k.block i (Nat.lt_of_lt_of_le hi h.size) (by omega)⟩
theorem Only.of_ext {g : Nat} {a b : World} (h : Ext a b) : Only g a b := Only.of_below h
theorem Only.ext {g : Nat} {a b c : World} (h : Only g a b) (k : Ext b c) : Only g a c := h.trans (Only.of_below k)

/-! A region that draws its order, whose operations read and whose callees make memory: one walk, in the text's order. -/
structure After (w : World) where
  wd : World
  ext : Ext w wd
instance (w : World) : Nonempty (After w) := ⟨⟨w, Ext.refl w⟩⟩
theorem After.cell {w : World} {p : Addr} {v : Value} (h : w.cell? p = some v) (x : After w) : x.wd.cell? p = some v := x.ext.cell h
theorem wp_region_ext {P : Program} {id : Nat} {Q : Exit → Act → World → Prop} {a : Act} {w : World} {l : List Oper} (hm : P.follows .mixedOrders = true) (hB : Region.lexB .any l.toArray = true)
    (h : wpQuiet P l.toArray (fun w' => ∃ n : After w, w' = n.wd) (fun a' => ∀ w', (∃ n : After w, w' = n.wd) → Q .normal a' w') l a) : (Code.region id l.toArray true).wp P Q a w :=
  wp_region_quiet (C := fun w' => ∃ n : After w, w' = n.wd) hm hB ⟨⟨w.drew, (Ext.refl w).drew⟩, rfl⟩ (by simpa using h)
theorem Calls.ext_of {P : Program} {f : FuncId} {args : Array Value} {w : World} {n : After w} {v : Value}
    (h : Calls P f args n.wd fun e w' => e = .returned v ∧ Ext n.wd w') : Calls P f args n.wd fun e w'' => e = .returned v ∧ ∃ m : After w, w'' = m.wd :=
  h.mono fun _ w' ⟨he, hk⟩ => ⟨he, ⟨w', n.ext.trans hk⟩, rfl⟩

/-! Blocks' cells, for a walk. -/
theorem Blk.cells1 {w : World} {g : Nat} {t : TypeId} {a0 : Value} (h : Blk w g #[a0] t) : w.cell? ⟨g, 0, none⟩ = some a0 ∧ w.frozen? ⟨g, 0, none⟩ = false :=
  ⟨h.cell 0 a0 rfl, h.free 0⟩
theorem Blk.cells2 {w : World} {g : Nat} {t : TypeId} {a0 a1 : Value} (h : Blk w g #[a0, a1] t) : w.cell? ⟨g, 0, none⟩ = some a0 ∧ w.cell? ⟨g, 1, none⟩ = some a1 ∧ w.frozen? ⟨g, 0, none⟩ = false ∧ w.frozen? ⟨g, 1, none⟩ = false :=
  ⟨h.cell 0 a0 rfl, h.cell 1 a1 rfl, h.free 0, h.free 1⟩
theorem Blk.cells3 {w : World} {g : Nat} {t : TypeId} {a0 a1 a2 : Value} (h : Blk w g #[a0, a1, a2] t) : w.cell? ⟨g, 0, none⟩ = some a0 ∧ w.cell? ⟨g, 1, none⟩ = some a1 ∧ w.cell? ⟨g, 2, none⟩ = some a2 ∧ w.frozen? ⟨g, 0, none⟩ = false ∧ w.frozen? ⟨g, 1, none⟩ = false ∧ w.frozen? ⟨g, 2, none⟩ = false :=
  ⟨h.cell 0 a0 rfl, h.cell 1 a1 rfl, h.cell 2 a2 rfl, h.free 0, h.free 1, h.free 2⟩
theorem Blk.cells4 {w : World} {g : Nat} {t : TypeId} {a0 a1 a2 a3 : Value} (h : Blk w g #[a0, a1, a2, a3] t) : w.cell? ⟨g, 0, none⟩ = some a0 ∧ w.cell? ⟨g, 1, none⟩ = some a1 ∧ w.cell? ⟨g, 2, none⟩ = some a2 ∧ w.cell? ⟨g, 3, none⟩ = some a3 ∧ w.frozen? ⟨g, 0, none⟩ = false ∧ w.frozen? ⟨g, 1, none⟩ = false ∧ w.frozen? ⟨g, 2, none⟩ = false ∧ w.frozen? ⟨g, 3, none⟩ = false :=
  ⟨h.cell 0 a0 rfl, h.cell 1 a1 rfl, h.cell 2 a2 rfl, h.cell 3 a3 rfl, h.free 0, h.free 1, h.free 2, h.free 3⟩
theorem Blk.cells5 {w : World} {g : Nat} {t : TypeId} {a0 a1 a2 a3 a4 : Value} (h : Blk w g #[a0, a1, a2, a3, a4] t) : w.cell? ⟨g, 0, none⟩ = some a0 ∧ w.cell? ⟨g, 1, none⟩ = some a1 ∧ w.cell? ⟨g, 2, none⟩ = some a2 ∧ w.cell? ⟨g, 3, none⟩ = some a3 ∧ w.cell? ⟨g, 4, none⟩ = some a4 ∧ w.frozen? ⟨g, 0, none⟩ = false ∧ w.frozen? ⟨g, 1, none⟩ = false ∧ w.frozen? ⟨g, 2, none⟩ = false ∧ w.frozen? ⟨g, 3, none⟩ = false ∧ w.frozen? ⟨g, 4, none⟩ = false :=
  ⟨h.cell 0 a0 rfl, h.cell 1 a1 rfl, h.cell 2 a2 rfl, h.cell 3 a3 rfl, h.cell 4 a4 rfl, h.free 0, h.free 1, h.free 2, h.free 3, h.free 4⟩
theorem Blk.cells6 {w : World} {g : Nat} {t : TypeId} {a0 a1 a2 a3 a4 a5 : Value} (h : Blk w g #[a0, a1, a2, a3, a4, a5] t) : w.cell? ⟨g, 0, none⟩ = some a0 ∧ w.cell? ⟨g, 1, none⟩ = some a1 ∧ w.cell? ⟨g, 2, none⟩ = some a2 ∧ w.cell? ⟨g, 3, none⟩ = some a3 ∧ w.cell? ⟨g, 4, none⟩ = some a4 ∧ w.cell? ⟨g, 5, none⟩ = some a5 ∧ w.frozen? ⟨g, 0, none⟩ = false ∧ w.frozen? ⟨g, 1, none⟩ = false ∧ w.frozen? ⟨g, 2, none⟩ = false ∧ w.frozen? ⟨g, 3, none⟩ = false ∧ w.frozen? ⟨g, 4, none⟩ = false ∧ w.frozen? ⟨g, 5, none⟩ = false :=
  ⟨h.cell 0 a0 rfl, h.cell 1 a1 rfl, h.cell 2 a2 rfl, h.cell 3 a3 rfl, h.cell 4 a4 rfl, h.cell 5 a5 rfl, h.free 0, h.free 1, h.free 2, h.free 3, h.free 4, h.free 5⟩
theorem Blk.cells8 {w : World} {g : Nat} {t : TypeId} {a0 a1 a2 a3 a4 a5 a6 a7 : Value} (h : Blk w g #[a0, a1, a2, a3, a4, a5, a6, a7] t) : w.cell? ⟨g, 0, none⟩ = some a0 ∧ w.cell? ⟨g, 1, none⟩ = some a1 ∧ w.cell? ⟨g, 2, none⟩ = some a2 ∧ w.cell? ⟨g, 3, none⟩ = some a3 ∧ w.cell? ⟨g, 4, none⟩ = some a4 ∧ w.cell? ⟨g, 5, none⟩ = some a5 ∧ w.cell? ⟨g, 6, none⟩ = some a6 ∧ w.cell? ⟨g, 7, none⟩ = some a7 ∧ w.frozen? ⟨g, 0, none⟩ = false ∧ w.frozen? ⟨g, 1, none⟩ = false ∧ w.frozen? ⟨g, 2, none⟩ = false ∧ w.frozen? ⟨g, 3, none⟩ = false ∧ w.frozen? ⟨g, 4, none⟩ = false ∧ w.frozen? ⟨g, 5, none⟩ = false ∧ w.frozen? ⟨g, 6, none⟩ = false ∧ w.frozen? ⟨g, 7, none⟩ = false :=
  ⟨h.cell 0 a0 rfl, h.cell 1 a1 rfl, h.cell 2 a2 rfl, h.cell 3 a3 rfl, h.cell 4 a4 rfl, h.cell 5 a5 rfl, h.cell 6 a6 rfl, h.cell 7 a7 rfl, h.free 0, h.free 1, h.free 2, h.free 3, h.free 4, h.free 5, h.free 6, h.free 7⟩
theorem Blk.cells11 {w : World} {g : Nat} {t : TypeId} {a0 a1 a2 a3 a4 a5 a6 a7 a8 a9 a10 : Value} (h : Blk w g #[a0, a1, a2, a3, a4, a5, a6, a7, a8, a9, a10] t) : w.cell? ⟨g, 0, none⟩ = some a0 ∧ w.cell? ⟨g, 1, none⟩ = some a1 ∧ w.cell? ⟨g, 2, none⟩ = some a2 ∧ w.cell? ⟨g, 3, none⟩ = some a3 ∧ w.cell? ⟨g, 4, none⟩ = some a4 ∧ w.cell? ⟨g, 5, none⟩ = some a5 ∧ w.cell? ⟨g, 6, none⟩ = some a6 ∧ w.cell? ⟨g, 7, none⟩ = some a7 ∧ w.cell? ⟨g, 8, none⟩ = some a8 ∧ w.cell? ⟨g, 9, none⟩ = some a9 ∧ w.cell? ⟨g, 10, none⟩ = some a10 ∧ w.frozen? ⟨g, 0, none⟩ = false ∧ w.frozen? ⟨g, 1, none⟩ = false ∧ w.frozen? ⟨g, 2, none⟩ = false ∧ w.frozen? ⟨g, 3, none⟩ = false ∧ w.frozen? ⟨g, 4, none⟩ = false ∧ w.frozen? ⟨g, 5, none⟩ = false ∧ w.frozen? ⟨g, 6, none⟩ = false ∧ w.frozen? ⟨g, 7, none⟩ = false ∧ w.frozen? ⟨g, 8, none⟩ = false ∧ w.frozen? ⟨g, 9, none⟩ = false ∧ w.frozen? ⟨g, 10, none⟩ = false :=
  ⟨h.cell 0 a0 rfl, h.cell 1 a1 rfl, h.cell 2 a2 rfl, h.cell 3 a3 rfl, h.cell 4 a4 rfl, h.cell 5 a5 rfl, h.cell 6 a6 rfl, h.cell 7 a7 rfl, h.cell 8 a8 rfl, h.cell 9 a9 rfl, h.cell 10 a10 rfl, h.free 0, h.free 1, h.free 2, h.free 3, h.free 4, h.free 5, h.free 6, h.free 7, h.free 8, h.free 9, h.free 10⟩

/-- An equation that no walk looks into. -/
def Is {α : Type} (a b : α) : Prop := a = b
theorem Is.refl {α : Type} (a : α) : Is a a := rfl
theorem Is.mk {α : Type} {a b : α} (h : a = b) : Is a b := h
theorem Is.eq {α : Type} {a b : α} (h : Is a b) : a = b := h

def Byt (l : List Int) : Prop := ∀ x ∈ l, 0 ≤ x ∧ x ≤ 255
instance (l : List Int) : Decidable (Byt l) := inferInstanceAs (Decidable (∀ x ∈ l, 0 ≤ x ∧ x ≤ 255))
theorem Byt.nil : Byt [] := by intro x h; cases h
theorem Byt.at {l : List Int} (h : Byt l) {i : Nat} (hi : i < l.length) : 0 ≤ l.getD i 0 ∧ l.getD i 0 ≤ 255 := h _ (by rw [getD_at hi]; exact List.getElem_mem _)
theorem Byt.drop {l : List Int} (h : Byt l) (k : Nat) : Byt (l.drop k) := fun x hx => h x (List.mem_of_mem_drop hx)
theorem Byt.take {l : List Int} (h : Byt l) (k : Nat) : Byt (l.take k) := fun x hx => h x (List.mem_of_mem_take hx)
theorem Byt.append {l m : List Int} (h : Byt l) (k : Byt m) : Byt (l ++ m) := fun x hx => by
  rcases List.mem_append.1 hx with h' | h'
  · exact h x h'
  · exact k x h'
theorem Byt.one {x : Int} (h0 : 0 ≤ x) (h1 : x ≤ 255) : Byt [x] := fun y hy => by rw [List.mem_singleton.1 hy]; exact ⟨h0, h1⟩

/-- Blocks of other kinds than bytes stay whole. -/
def Keep8 (a b : World) : Prop := a.heap.size ≤ b.heap.size ∧ ∀ g cs t, Blk a g cs t → t ≠ U8 → Blk b g cs t
theorem Keep8.blk {a b : World} (h : Keep8 a b) {g : Nat} {t : TypeId} {cs : Array Value} (hb : Blk a g cs t) (ht : t ≠ U8) : Blk b g cs t := h.2 g cs t hb ht
theorem own_apart {w : World} {B g : Nat} {v : Value} {l : List Int} {t : TypeId} {cs : Array Value} (h : Own8 w B v l) (hb : Blk w g cs t) (ht : t ≠ U8) : v.ownBlock ≠ some g := by
  rcases h.2 with ⟨rfl, _⟩ | ⟨g', cap, cur, rfl, _, hh, _⟩
  · simp [Value.ownBlock]
  · intro he
    have : g' = g := by simpa [Value.ownBlock] using he
    subst this
    unfold Blk at hb
    rw [hh] at hb
    injection hb with hb
    injection hb with _ h2
    exact ht h2.symm

theorem Own8.far {w : World} {B g i : Nat} {v u : Value} {l : List Int} {t : TypeId} {cs : Array Value} (h : Own8 w B v l) (hb : Blk w g cs t) (ht : t ≠ U8) : Own8 (w.setCell ⟨g, i, none⟩ u) B v l :=
  ownsRow_setCell_other h (a := ⟨g, i, none⟩) (own_apart h hb ht) u

/-- One byte more behind a row of the call's own: 'append(out, x)'; what else there is stays. -/
theorem app8k {ops : Array Oper} {rest : List Oper} {o : Oper} {a : Act} {Q : Exit → Act → World → Prop} {W : World} (hgd : o.guard = none) (s x : Operand)
    (ho : o.op = .call { callee := .builtin .append, args := #[s, x], argTypes := #[22, 22] }) (base : Nat) {v : Value} {l : List Int} {n : Int} (hs : a.eval s = v) {B : Nat} (hx : a.eval x = .slice (some ⟨B, 0, none⟩) 1 1) (hB : B = W.heap.size)
    (hown : Own8 W base v l) (hlen : l.length + 1 ≤ 140737488355328) (hbase : base ≤ W.heap.size)
    (h : ∀ v' w', Own8 w' base v' (l ++ [n]) → Below base W w' → Keep8 W w' → wpList Try.prog ops Q rest (a.put o.dst v') w') : wpList Try.prog ops Q (o :: rest) a (W.alloc (.cells #[.int .u8 n] 5)) := by
  subst hB
  obtain ⟨i0, hi, hz0, hz1, hz2⟩ := info_parts infoU8
  refine wpList_append_own _ hgd s x 22 ho base 5 i0 (.int .u8 0) 1 1 Try.underlying22 hi hz0 hz1 hz2 rfl (by decide) v l.length (nums .u8 l) hs (World.ownsRow.alloc hown _) ⟨W.heap.size, 0, none⟩ 1 1 [.int .u8 n] hx rfl ?_ ?_ ?_ ?_ ?_ ?_
  · intro j u hj
    cases j with
    | zero =>
      simp only [List.getElem?_cons_zero, Option.some.injEq] at hj
      subst hj
      have := (Blk.new W #[.int .u8 n] U8).cell 0 (.int .u8 n) rfl
      simpa [Addr.add] using this
    | succ j => simp at hj
  · intro u hu
    rw [List.mem_singleton.1 hu]; rfl
  · unfold maxLen; omega
  · omega
  · simp; omega
  · intro v' w' h1 hg _
    have hsz := hg.size
    refine h v' w' ?_ ?_ ⟨by simp at hsz; omega, fun g cs t hb ht => ?_⟩
    · show w'.ownsRow base U8 1 v' (l ++ [n]).length (nums .u8 (l ++ [n]))
      rw [nums_append]
      simpa [nums] using h1
    · exact ((Below.refl base W).alloc hbase _).grown hg (by simp; omega) (fun k hk => own_base hown k hk)
    · have h2 := own_apart hown hb ht
      have hlt := hb.lt
      have := hg.block g (by simp; omega) (fun e => h2 e.symm)
      unfold Blk at hb ⊢
      rw [this, Below.heap_alloc _ _ _ hlt]
      exact hb

theorem own8_one (W : World) (base : Nat) (x : Int) (h : base ≤ W.heap.size) : Own8 (W.alloc (.cells #[.int .u8 x] U8)) base (.slice (some ⟨W.heap.size, 0, none⟩) 1 1) [x] :=
  ⟨rfl, .inr ⟨W.heap.size, 1, #[.int .u8 x], rfl, h, Blk.new W #[.int .u8 x] U8, Nat.le_refl _, by unfold maxLen; omega, rfl, rfl⟩⟩
theorem own8_new (W : World) (base : Nat) (h : base ≤ W.heap.size) : Own8 (W.alloc (.cells #[] U8)) base (.slice (some ⟨W.heap.size, 0, none⟩) 0 0) [] :=
  ⟨rfl, .inr ⟨W.heap.size, 0, #[], rfl, h, Blk.new W #[] U8, Nat.le_refl _, by unfold maxLen; omega, rfl, rfl⟩⟩

theorem own8_lit (W : World) (base : Nat) (l : List Int) (h : base ≤ W.heap.size) (hl : l.length ≤ 9223372036854775807) : Own8 (W.alloc (.cells (nums .u8 l).toArray U8)) base (.slice (some ⟨W.heap.size, 0, none⟩) l.length l.length) l :=
  ⟨by simp [nums], .inr ⟨W.heap.size, l.length, (nums .u8 l).toArray, rfl, h, Blk.new W (nums .u8 l).toArray U8, Nat.le_refl _, by unfold maxLen; omega, by simp [nums], by show List.take (l.length * 1) (nums .u8 l) = _; rw [List.take_of_length_le]; simp [nums]⟩⟩

/-- A row of the call's own that is not empty: where it lies; and how it is written. -/
theorem Own8.shape {w : World} {B : Nat} {v : Value} {l : List Int} (h : Own8 w B v l) (hn : 0 < l.length) : ∃ g c, v = .slice (some ⟨g, 0, none⟩) l.length c ∧ B ≤ g ∧ l.length ≤ c := by
  obtain ⟨g, c, hv, hg, _, hc, _⟩ := h.at_ hn
  exact ⟨g, c, hv, hg, hc⟩
theorem Own8.put {w : World} {B g n c : Nat} {l : List Int} (h : Own8 w B (.slice (some ⟨g, 0, none⟩) n c) l) {i : Nat} (hi : i < l.length) :
    w.cell? ⟨g, i, none⟩ = some (.int .u8 (l.getD i 0)) ∧ w.frozen? ⟨g, i, none⟩ = false ∧ ∀ y, Own8 (w.setCell ⟨g, i, none⟩ (.int .u8 y)) B (.slice (some ⟨g, 0, none⟩) n c) (l.set i y) := by
  obtain ⟨g', c', hv, _, _, _, hat⟩ := h.at_ (by omega)
  have : g' = g := by injection hv with h1 _ _; injection h1 with h1; injection h1 with h1 _ _; exact h1.symm
  subst this
  exact hat i hi

/-- A slice of bytes that may be read: what it holds. -/
def Bs (w : World) (v : Value) (l : List Int) : Prop :=
  ∃ A bl o c, v = .slice A l.length c ∧ l.length ≤ c ∧ Row8 w A bl o l ∧ Byt l
theorem Bs.ext {a b : World} {v : Value} {l : List Int} (h : Bs a v l) (k : Ext a b) : Bs b v l := by
  obtain ⟨A, bl, o, c, hv, hc, hr, hb⟩ := h
  exact ⟨A, bl, o, c, hv, hc, hr.below k, hb⟩
theorem Bs.own {w : World} {B : Nat} {v : Value} {l : List Int} (h : Own8 w B v l) (hb : Byt l) : Bs w v l := by
  obtain ⟨A, bl, o, c, hv, hc, hr, _⟩ := h.row
  exact ⟨A, bl, o, c, hv, hc, hr, hb⟩
theorem Bs.nil (w : World) : Bs w (.slice none 0 0) [] := ⟨none, 0, 0, 0, rfl, Nat.le_refl _, Row8.nil, Byt.nil⟩
theorem Bs.row {w : World} {A : Option Addr} {bl o c : Nat} {l : List Int} (hc : l.length ≤ c) (h : Row8 w A bl o l) (hb : Byt l) : Bs w (.slice A l.length c) l := ⟨A, bl, o, c, rfl, hc, h, hb⟩
theorem Bs.byt {w : World} {v : Value} {l : List Int} (h : Bs w v l) : Byt l := by obtain ⟨_, _, _, _, _, _, _, h⟩ := h; exact h
theorem Bs.len {w : World} {v : Value} {l : List Int} (h : Bs w v l) : l.length ≤ 9223372036854775807 := by obtain ⟨_, _, _, _, _, _, h, _⟩ := h; exact h.1

theorem Row8.ext {a b : World} {A : Option Addr} {bl o : Nat} {l : List Int} (h : Row8 a A bl o l) (k : Ext a b) : Row8 b A bl o l := h.below k
/-- One byte of a row, at a later world. -/
theorem Row8.cell {a b : World} {A : Option Addr} {bl o : Nat} {l : List Int} (h : Row8 a A bl o l) (k : Ext a b) {i : Nat} (hi : i < l.length) :
    A = some ⟨bl, o, none⟩ ∧ b.cell? ⟨bl, o + i, none⟩ = some (.int .u8 (l.getD i 0)) :=
  ⟨(h.2.1 (by omega)).1, k.cell (h.2.2 i hi)⟩

theorem Bs.of_row {w : World} {A : Option Addr} {bl o c n : Nat} {l : List Int} (hn : l.length = n) (hc : n ≤ c) (h : Row8 w A bl o l) (hb : Byt l) : Bs w (.slice A n c) l := by subst hn; exact ⟨A, bl, o, c, rfl, hc, h, hb⟩

/-- A whole row more behind a row of the call's own. -/
theorem app8r {ops : Array Oper} {rest : List Oper} {o : Oper} {a : Act} {Q : Exit → Act → World → Prop} {W : World} (hgd : o.guard = none) (s x : Operand)
    (ho : o.op = .call { callee := .builtin .append, args := #[s, x], argTypes := #[22, 22] }) (base : Nat) {v u : Value} {l m : List Int} (hs : a.eval s = v) (hx : a.eval x = u) (hu : Bs W u m)
    (hown : Own8 W base v l) (hlen : l.length + m.length ≤ 140737488355328) (hbase : base ≤ W.heap.size)
    (h : ∀ v' w', Own8 w' base v' (l ++ m) → Below base W w' → Keep8 W w' → wpList Try.prog ops Q rest (a.put o.dst v') w') : wpList Try.prog ops Q (o :: rest) a W := by
  obtain ⟨A, bl, of, c, rfl, _, hm, _⟩ := hu
  refine print_append_row (w0 := W) base hgd s x 22 U8 .u8 1 ho Try.underlying22 infoU8 (by omega) v l m A m.length c hs hx hown ⟨rfl, by have := hm.1; omega, fun h0 => ⟨⟨bl, of, none⟩, (hm.2.1 (by omega)).1, fun i hi => ?_⟩⟩ (Below.refl _ _) hbase (by omega) (fun v1 w1 h1 h2 h3 _ => h v1 w1 h1 h2 ⟨h3.size, fun g cs t hb ht => ?_⟩)
  · rw [Go.Proofs.Ytpdomjinhbnmfaa.add_plain]
    exact hm.2.2 i (by omega)
  · have h4 := own_apart hown hb ht
    have hlt := hb.lt
    have := h3.block g hlt (fun e => h4 e.symm)
    unfold Blk at hb ⊢
    rw [this]
    exact hb

theorem drop_cons {α : Type} {l : List α} {i : Nat} (h : i < l.length) : l.drop i = l[i] :: l.drop (i + 1) := List.drop_eq_getElem_cons h
theorem drop_getD {l : List Int} {i : Nat} (h : i < l.length) : l.drop i = l.getD i 0 :: l.drop (i + 1) := by rw [getD_at h]; exact List.drop_eq_getElem_cons h

theorem and1 {y : Int} (h0 : 0 ≤ y) (h1 : y ≤ 255) : Go.bits .and .u8 y 1 = y % 2 := by
  obtain ⟨q, rfl⟩ := Int.eq_ofNat_of_zero_le h0
  have : ∀ q : Fin 256, Go.bits .and .u8 ((q.val : Nat) : Int) 1 = ((q.val : Nat) : Int) % 2 := by decide +kernel
  exact this ⟨q, by omega⟩

theorem and1_32 {y : Int} (h0 : 0 ≤ y) (h1 : y ≤ 4294967295) : Go.bits .and .u32 y 1 = y % 2 := by
  rw [u32_and y 1 h0 (by omega) (by omega) (by omega), show (1 : Int).toNat = 1 from rfl, Nat.and_one_is_mod]
  omega
theorem or1_32 {y b : Int} (h0 : 0 ≤ y) (h1 : y ≤ 4294967295) (hy : y % 2 = 0) (hb0 : 0 ≤ b) (hb1 : b ≤ 1) : Go.bits .or .u32 y b = y + b := by
  obtain ⟨q, rfl⟩ := Int.eq_ofNat_of_zero_le h0
  obtain ⟨r, rfl⟩ := Int.eq_ofNat_of_zero_le hb0
  rw [u32_or_nat q r (by omega) (by omega)]
  obtain ⟨k, rfl⟩ : ∃ k, q = 2 * k := ⟨q / 2, by omega⟩
  have : 2 ^ 1 * k ||| r = 2 ^ 1 * k + r := (Nat.two_pow_add_eq_or_of_lt (i := 1) (by omega) k).symm
  rw [show 2 * k = 2 ^ 1 * k from by omega, this]
  omega

end Go.Proofs.Ytpdomjinhbnmfaa
