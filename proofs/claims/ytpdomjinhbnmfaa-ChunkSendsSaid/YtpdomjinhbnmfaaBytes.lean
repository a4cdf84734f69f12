/- Rows of bytes that are read: from the printed words' form and back. -/
import Derived.Test.YtpdomjinhbnmfaaRows
import Derived.Test.YtpdomjinhbnmfaaWWords
import Derived.Test.YtpdomjinhbnmfaaObjs
import Derived.Test.YtpdomjinhbnmfaaOpen
import Derived.Laws.AppendOwn
import Derived.Laws.OwnMore
import Derived.OwnWalk
import Derived.KernelRfl
set_option linter.unusedSimpArgs false
set_option linter.unusedVariables false
set_option linter.unnecessarySimpa false
namespace Go.Proofs.Ytpdomjinhbnmfaa
open Go.RowKit Go.Proofs.YtpdomjinhbnmfaaW.PrintWords Go.ChangeShapes Go.WideShapes Go.ChangeAt

/-- A slice of bytes is there to be read: where it lies, and what it holds. -/
def Row8 (w : World) (A : Option Addr) (bl o : Nat) (l : List Int) : Prop :=
  l.length ≤ 9223372036854775807 ∧ (0 < l.length → A = some ⟨bl, o, none⟩ ∧ bl < w.heap.size) ∧ ∀ i, i < l.length → w.cell? ⟨bl, o + i, none⟩ = some (.int .u8 (l.getD i 0))

theorem Row8.toC {w : World} {A : Option Addr} {bl o : Nat} {l : List Int} (h : Row8 w A bl o l) : Kd.C (Kd.int .u8) w A l.length l := by
  obtain ⟨h1, h2, h3⟩ := h
  refine ⟨rfl, h1, fun hn => ⟨⟨bl, o, none⟩, (h2 hn).1, fun j p hj => ?_⟩⟩
  have hlt : j < l.length := (List.getElem?_eq_some_iff.1 hj).1
  refine ⟨[.int .u8 p], rfl, rfl, fun i u hi => ?_⟩
  have h4 := h3 j hlt
  rw [List.getD_eq_getElem?_getD, hj] at h4
  cases i with
  | zero =>
    simp only [List.getElem?_cons_zero, Option.some.injEq] at hi
    subst hi
    rw [Go.Proofs.Ytpdomjinhbnmfaa.add_plain]
    show w.cell? ⟨bl, o + (j * 1 + 0), none⟩ = _
    rw [Nat.mul_one, Nat.add_zero]
    exact h4
  | succ i => simp at hi

theorem Row8.ofC {w : World} {A : Option Addr} {l : List Int} (h : Kd.C (Kd.int .u8) w A l.length l) : ∃ bl o, Row8 w A bl o l := by
  obtain ⟨_, h1, h2⟩ := h
  by_cases hn : 0 < l.length
  · obtain ⟨ad, rfl, hc⟩ := h2 hn
    have cell : ∀ i, i < l.length → w.cell? (ad.add i) = some (.int .u8 (l.getD i 0)) := by
      intro i hi
      obtain ⟨c, _, hk, hcell⟩ := hc i l[i] (List.getElem?_eq_getElem hi)
      have hk : c = [.int .u8 l[i]] := hk
      subst hk
      have := hcell 0 _ rfl
      rw [List.getD_eq_getElem?_getD, List.getElem?_eq_getElem hi]
      have e : (Kd.int .u8).sz = 1 := rfl
      rw [e, Nat.mul_one, Nat.add_zero] at this
      exact this
    have h0 := cell 0 hn
    obtain ⟨hp, hlt⟩ := plain_of_cell (x := ad) (by simpa [Addr.add] using h0)
    refine ⟨ad.block, ad.off, h1, fun _ => ⟨by rw [← hp], hlt⟩, fun i hi => ?_⟩
    have := cell i hi
    rw [hp, Go.Proofs.Ytpdomjinhbnmfaa.add_plain] at this
    exact this
  · exact ⟨0, 0, h1, fun h => absurd h hn, fun i hi => by omega⟩

theorem Row8.below {w w' : World} {A : Option Addr} {bl o : Nat} {l : List Int} (h : Row8 w A bl o l) (k : Below w.heap.size w w') : Row8 w' A bl o l :=
  ⟨h.1, fun hn => ⟨(h.2.1 hn).1, by have := (h.2.1 hn).2; have := k.size; omega⟩, fun i hi => (k.cell (p := ⟨bl, o + i, none⟩) (h.2.1 (by omega)).2).trans (h.2.2 i hi)⟩
theorem Row8.belowB {w w' : World} {B : Nat} {A : Option Addr} {bl o : Nat} {l : List Int} (h : Row8 w A bl o l) (k : Below B w w') (hb : 0 < l.length → bl < B) : Row8 w' A bl o l :=
  ⟨h.1, fun hn => ⟨(h.2.1 hn).1, by have := (h.2.1 hn).2; have := k.size; omega⟩, fun i hi => (k.cell (p := ⟨bl, o + i, none⟩) (hb (by omega))).trans (h.2.2 i hi)⟩
theorem Row8.take {w : World} {A : Option Addr} {bl o : Nat} {l : List Int} (h : Row8 w A bl o l) (k : Nat) : Row8 w A bl o (l.take k) := by
  refine ⟨by have := h.1; rw [List.length_take]; omega, fun hn => h.2.1 (by rw [List.length_take] at hn; omega), fun i hi => ?_⟩
  rw [List.length_take] at hi
  have := h.2.2 i (by omega)
  rw [this, List.getD_eq_getElem?_getD, List.getD_eq_getElem?_getD, List.getElem?_take, if_pos (by omega)]
theorem Row8.drop {w : World} {A : Option Addr} {bl o : Nat} {l : List Int} (h : Row8 w A bl o l) (k : Nat) : Row8 w (some ⟨bl, o + k, none⟩) bl (o + k) (l.drop k) := by
  refine ⟨by have := h.1; rw [List.length_drop]; omega, fun hn => ⟨rfl, (h.2.1 (by rw [List.length_drop] at hn; omega)).2⟩, fun i hi => ?_⟩
  rw [List.length_drop] at hi
  have := h.2.2 (k + i) (by omega)
  rw [← Nat.add_assoc] at this
  rw [this, List.getD_eq_getElem?_getD, List.getD_eq_getElem?_getD, List.getElem?_drop]
theorem Row8.nil {w : World} {A : Option Addr} {bl o : Nat} : Row8 w A bl o [] := ⟨by simp, fun h => by simp at h, fun i hi => by simp at hi⟩

theorem getD_at {l : List Int} {i : Nat} (h : i < l.length) : l.getD i 0 = l[i] := by rw [List.getD_eq_getElem?_getD, List.getElem?_eq_getElem h]; rfl
/-- The bytes of an argument. -/
def bytesAt (w : World) (bl o len : Nat) : List Int := (List.range len).map fun i => intAt w ⟨bl, o + i, none⟩
theorem bytesAt_len (w : World) (bl o len : Nat) : (bytesAt w bl o len).length = len := by simp [bytesAt]
theorem bytesAt_get (w : World) (bl o len i : Nat) (h : i < len) : (bytesAt w bl o len).getD i 0 = intAt w ⟨bl, o + i, none⟩ := by
  simp [bytesAt, List.getD_eq_getElem?_getD, List.getElem?_map, List.getElem?_range, h]

theorem opn_bytes {P : Program} {W : World} {base : Nat} {r : Reach} {t e : TypeId} {v : Value} (ht : P.underlying t = some (.slice e)) (he : P.underlying e = some (.int .u8)) (hC : P.cellsOf e = 1) (hB : P.bytesOf e = 1) (h : Rd P W t v.cells.toList) (hv : Value.okWide P W r base t v) :
    ∃ (A : Option Addr) (bl o : Nat) (l : List Int) (cap : Nat), v = .slice A l.length cap ∧ l.length ≤ cap ∧ cap ≤ maxLen ∧ l.length ≤ reachBytes ∧ (A = none → cap = 0) ∧ Row8 W A bl o l ∧ ∀ x ∈ l, 0 ≤ x ∧ x ≤ 255 := by
  obtain ⟨A, bl, o, len, cap, rfl, hl, hc, hb, hn, hA, hi⟩ := opn_row ht (by omega) h hv
  rw [hB, Nat.mul_one] at hb
  have key : ∀ i, i < len → W.cell? ⟨bl, o + i, none⟩ = some (.int .u8 (intAt W ⟨bl, o + i, none⟩)) ∧ 0 ≤ intAt W ⟨bl, o + i, none⟩ ∧ intAt W ⟨bl, o + i, none⟩ ≤ 255 := by
    intro i hil
    obtain ⟨es, hes, hat, hrd⟩ := hi i hil
    rw [hC] at hes hat
    obtain ⟨n, hn, wn⟩ := hrd.int he
    subst hn
    have h1 := hat 0 (by omega)
    rw [Nat.mul_one, Nat.add_zero] at h1
    have e : intAt W ⟨bl, o + i, none⟩ = n := by simp [intAt, h1]
    rw [e]
    exact ⟨h1, wf_u8 wn⟩
  refine ⟨A, bl, o, bytesAt W bl o len, cap, by rw [bytesAt_len], by rw [bytesAt_len]; exact hl, hc, by rw [bytesAt_len]; exact hb, fun h => (hn h).2, ⟨?_, ?_, ?_⟩, ?_⟩
  · rw [bytesAt_len]; unfold maxLen at hc; omega
  · rw [bytesAt_len]; exact hA
  · intro i hi
    rw [bytesAt_len] at hi
    rw [bytesAt_get _ _ _ _ _ hi]
    exact (key i hi).1
  · intro x hx
    obtain ⟨i, hi, rfl⟩ := List.mem_map.1 hx
    exact (key i (List.mem_range.1 hi)).2

/-! Rows of bytes that the call made itself. -/
abbrev U8 : TypeId := 5
abbrev S8 : TypeId := 22
theorem infoU8 : (Try.prog.info? 5).map (fun i => (i.zero, i.size, i.bytes)) = some (some (.int .u8 0), 1, 1) := by kernel_rfl

def Own8 (w : World) (base : Nat) (v : Value) (l : List Int) : Prop := w.ownsRow base U8 1 v l.length (nums .u8 l)

theorem Own8.nil (w : World) (base : Nat) : Own8 w base (.slice none 0 0) [] := own_nil w base U8 1
theorem Own8.ofR {w : World} {base : Nat} {ok : Nat → Prop} {v : Value} {l : List Int} (h : Kd.R (Kd.int .u8) U8 w base ok v l) : Own8 w base v l := by
  obtain ⟨_, inner, ho, hr⟩ := h
  have e : inner = nums .u8 l := by
    have hl : inner.length = l.length := by have := hr.1; simpa [Kd.int, Kd.scalar] using this
    apply List.ext_getElem?
    intro i
    by_cases hi : i < l.length
    · have h2 := hr.2 i l[i] (List.getElem?_eq_getElem hi)
      have h2 : (inner.drop (i * 1)).take 1 = [.int .u8 l[i]] := h2
      rw [Nat.mul_one] at h2
      have h3 := congrArg (fun z : List Value => z[0]?) h2
      simp [List.getElem?_take, List.getElem?_drop] at h3
      rw [h3]
      simp [nums, hi]
    · rw [List.getElem?_eq_none (by omega), List.getElem?_eq_none (by rw [nums_length]; omega)]
  subst e
  exact ho
theorem Own8.toR {w : World} {base : Nat} {v : Value} {l : List Int} (h : Own8 w base v l) : Kd.R (Kd.int .u8) U8 w base (fun _ => True) v l := by
  refine ⟨fun _ _ => trivial, nums .u8 l, h, by simp [nums, Kd.int, Kd.scalar], fun j p hj => ?_⟩
  show ((nums .u8 l).drop (j * 1)).take 1 = [.int .u8 p]
  have hlt := (List.getElem?_eq_some_iff.1 hj).1
  rw [Nat.mul_one]
  have : (nums .u8 l)[j]? = some (.int .u8 p) := by simp [nums, hj]
  rw [List.drop_eq_getElem_cons (by rw [nums_length]; exact hlt)]
  have h2 := (List.getElem?_eq_some_iff.1 this).2
  simp [h2]
theorem Own8.row {w : World} {base : Nat} {v : Value} {l : List Int} (h : Own8 w base v l) : ∃ A bl o c, v = .slice A l.length c ∧ l.length ≤ c ∧ Row8 w A bl o l ∧ (0 < l.length → base ≤ bl) := by
  obtain ⟨A, c, rfl, hc, hC⟩ := Kd.R_reads h.toR
  obtain ⟨bl, o, hr⟩ := Row8.ofC hC
  refine ⟨A, bl, o, c, rfl, hc, hr, fun hn => ?_⟩
  obtain ⟨rfl, _⟩ := hr.2.1 hn
  exact own_base h _ rfl
theorem Own8.len {w : World} {base : Nat} {v : Value} {l : List Int} (h : Own8 w base v l) : l.length ≤ 9223372036854775807 := by
  obtain ⟨A, bl, o, c, _, _, hr, _⟩ := h.row
  exact hr.1
theorem Own8.alloc {w : World} {base : Nat} {v : Value} {l : List Int} (h : Own8 w base v l) (o : Obj) : Own8 (w.alloc o) base v l := World.ownsRow.alloc h o
theorem Own8.drew {w : World} {base : Nat} {v : Value} {l : List Int} (h : Own8 w base v l) : Own8 w.drew base v l := h
theorem Own8.below {w w' : World} {base : Nat} {v : Value} {l : List Int} (h : Own8 w base v l) (k : Below w.heap.size w w') : Own8 w' base v l := pw_own_below h k
theorem Own8.lower {w : World} {base b : Nat} {v : Value} {l : List Int} (h : Own8 w base v l) (hb : b ≤ base) : Own8 w b v l := own_weaken h hb

/-- One byte more behind a row of the call's own: 'append(out, x)'. -/
theorem app8_one {ops : Array Oper} {rest : List Oper} {o : Oper} {a : Act} {Q : Exit → Act → World → Prop} {W : World} (hgd : o.guard = none) (s x : Operand)
    (ho : o.op = .call { callee := .builtin .append, args := #[s, x], argTypes := #[22, 22] }) (base : Nat) {v : Value} {l : List Int} {n : Int} (hs : a.eval s = v) (hx : a.eval x = .slice (some ⟨W.heap.size, 0, none⟩) 1 1)
    (hown : Own8 W base v l) (hlen : l.length + 1 ≤ 140737488355328) (hbase : base ≤ W.heap.size)
    (h : ∀ v' w', Own8 w' base v' (l ++ [n]) → Below base W w' → wpList Try.prog ops Q rest (a.put o.dst v') w') : wpList Try.prog ops Q (o :: rest) a (W.alloc (.cells #[.int .u8 n] 5)) := by
  obtain ⟨i0, hi, hz0, hz1, hz2⟩ := info_parts infoU8
  refine wpList_append_own _ hgd s x 22 ho base 5 i0 (.int .u8 0) 1 1 Try.underlying22 hi hz0 hz1 hz2 rfl (by decide) v l.length (nums .u8 l) hs (World.ownsRow.alloc hown _) ⟨W.heap.size, 0, none⟩ 1 1 [.int .u8 n] hx rfl ?_ ?_ ?_ ?_ ?_ ?_
  · intro j u hj
    cases j with
    | zero =>
      simp only [List.getElem?_cons_zero, Option.some.injEq] at hj
      subst hj
      have := (Blk.new W #[.int .u8 n] U8).cell 0 (.int .u8 n) rfl
      simpa [Addr.add] using this
    | succ j => simp at hj
  · intro u hu
    rw [List.mem_singleton.1 hu]; rfl
  · unfold maxLen; omega
  · omega
  · simp; omega
  · intro v' w' h1 hg _
    refine h v' w' ?_ ?_
    · show w'.ownsRow base U8 1 v' (l ++ [n]).length (nums .u8 (l ++ [n]))
      rw [nums_append]
      simpa [nums] using h1
    · exact ((Below.refl base W).alloc hbase _).grown hg (by simp; omega) (fun k hk => own_base hown k hk)

/-- A whole row more behind a row of the call's own: 'append(out, b...)'. -/
theorem app8_all {ops : Array Oper} {rest : List Oper} {o : Oper} {a : Act} {Q : Exit → Act → World → Prop} {W : World} (hgd : o.guard = none) (s x : Operand)
    (ho : o.op = .call { callee := .builtin .append, args := #[s, x], argTypes := #[22, 22] }) (base : Nat) {v : Value} {l m : List Int} {bl of c : Nat} (hs : a.eval s = v) (hx : a.eval x = .slice (some ⟨bl, of, none⟩) m.length c)
    (hown : Own8 W base v l) (hm : ∀ i, i < m.length → W.cell? ⟨bl, of + i, none⟩ = some (.int .u8 (m.getD i 0))) (hlen : l.length + m.length ≤ 140737488355328) (hbase : base ≤ W.heap.size)
    (h : ∀ v' w', Own8 w' base v' (l ++ m) → Below base W w' → W.grownBy w' v.ownBlock → wpList Try.prog ops Q rest (a.put o.dst v') w') : wpList Try.prog ops Q (o :: rest) a W := by
  obtain ⟨i0, hi, hz0, hz1, hz2⟩ := info_parts infoU8
  refine wpList_append_own _ hgd s x 22 ho base 5 i0 (.int .u8 0) 1 1 Try.underlying22 hi hz0 hz1 hz2 rfl (by decide) v l.length (nums .u8 l) hs hown ⟨bl, of, none⟩ m.length c (nums .u8 m) hx (by simp [nums]) ?_ ?_ ?_ ?_ hbase ?_
  · intro j u hj
    have hlt : j < m.length := by have := (List.getElem?_eq_some_iff.1 hj).1; rwa [nums_length] at this
    rw [Go.Proofs.Ytpdomjinhbnmfaa.add_plain, hm j hlt, ← hj]
    simp [nums, hlt, List.getD_eq_getElem?_getD]
  · intro u hu
    simp only [nums, List.mem_map] at hu
    obtain ⟨n, _, rfl⟩ := hu
    rfl
  · unfold maxLen; omega
  · omega
  · intro v' w' h1 hg _
    refine h v' w' ?_ ((Below.refl base W).grown hg hbase (fun k hk => own_base hown k hk)) hg
    show w'.ownsRow base U8 1 v' (l ++ m).length (nums .u8 (l ++ m))
    rw [nums_append, List.length_append]
    exact h1

/-- The same at a step of a region that draws its order. -/
theorem step_app8 {ops : Array Oper} {o : Oper} {a : Act} {K : Act → World → Prop} {Q : Exit → Act → World → Prop} {E : Prop} {W : World} (hgd : o.guard = none) (s x : Operand)
    (ho : o.op = .call { callee := .builtin .append, args := #[s, x], argTypes := #[22, 22] }) (base : Nat) {v : Value} {l m : List Int} {A : Option Addr} {bl of c : Nat} (hs : a.eval s = v) (hx : a.eval x = .slice A m.length c)
    (hown : Own8 W base v l) (hm : Row8 W A bl of m) (hm0 : 0 < m.length) (hlen : l.length + m.length ≤ 140737488355328) (hbase : base ≤ W.heap.size)
    (h : ∀ v' w', Own8 w' base v' (l ++ m) → Below base W w' → K (a.put o.dst v') w') : if Region.wanted o (yielded ops a.tmps) = true then Oper.wp Try.prog o a W K Q else E := by
  have hw : Region.wanted o (yielded ops a.tmps) = true := by simp [Region.wanted, hgd]
  rw [if_pos hw]
  obtain ⟨rfl, _⟩ := hm.2.1 hm0
  obtain ⟨i0, hi, hz0, hz1, hz2⟩ := info_parts infoU8
  refine wp_append_own _ s x 22 ho base 5 i0 (.int .u8 0) 1 1 Try.underlying22 hi hz0 hz1 hz2 rfl (by decide) v l.length (nums .u8 l) hs hown ⟨bl, of, none⟩ m.length c (nums .u8 m) hx (by simp [nums]) ?_ ?_ ?_ ?_ hbase ?_
  · intro j u hj
    have hlt : j < m.length := by have := (List.getElem?_eq_some_iff.1 hj).1; rwa [nums_length] at this
    rw [Go.Proofs.Ytpdomjinhbnmfaa.add_plain, hm.2.2 j hlt, ← hj]
    simp [nums, hlt, List.getD_eq_getElem?_getD]
  · intro u hu
    simp only [nums, List.mem_map] at hu
    obtain ⟨n, _, rfl⟩ := hu
    rfl
  · unfold maxLen; omega
  · omega
  · intro v' w' h1 hg _
    refine h v' w' ?_ ((Below.refl base W).grown hg hbase (fun k hk => own_base hown k hk))
    show w'.ownsRow base U8 1 v' (l ++ m).length (nums .u8 (l ++ m))
    rw [nums_append, List.length_append]
    exact h1

/-- 'make([]byte, 0, n)'. -/
theorem mk8_own {ops : Array Oper} {rest : List Oper} {o : Oper} {a : Act} {Q : Exit → Act → World → Prop} {w : World} (hg : o.guard = none) (l c : Operand) (hop : o.op = Op.makeSlice 22 l c) (base : Nat)
    {kl kc : IntKind} {C : Int} (n : Nat) (hl : a.eval l = .int kl 0) (hc : a.eval c = .int kc C) (hC : C = (n : Int)) (hn : n ≤ 281474976710656) (hb : base ≤ w.heap.size)
    (hK : ∀ v w', Own8 w' base v [] → Below w.heap.size w w' → v = .slice (some ⟨w.heap.size, 0, none⟩) 0 n → wpList Try.prog ops Q rest (a.put o.dst v) w') : wpList Try.prog ops Q (o :: rest) a w := by
  obtain ⟨i0, hi, hz0, hz1, hz2⟩ := info_parts infoU8
  refine wpList_make_own w hg l c 22 hop base 5 i0 (.int .u8 0) 1 Try.underlying22 hi hz0 hz1 kl kc C n hl hc hC (by rw [hz2]; omega) (by unfold maxLen; omega) hb ?_
  intro w' h1 h2
  exact hK _ w' h1 ((Below.refl _ _).grown h2 (Nat.le_refl _) (fun k hk => by cases hk)) rfl

theorem madeCells_nums (n : Nat) : (madeCells (Value.int .u8 0).cells (n * 1)).toList = nums .u8 (List.replicate n 0) := by
  apply List.ext_getElem?
  intro i
  by_cases h : i < n
  · simp [madeCells, nums, Value.cells, h, List.getElem?_replicate]
    simp [Nat.mod_one]
  · rw [List.getElem?_eq_none (by simp [madeCells]; omega), List.getElem?_eq_none (by simp [nums]; omega)]

/-- 'make([]byte, n)'. -/
theorem mk8_full {ops : Array Oper} {rest : List Oper} {o : Oper} {a : Act} {Q : Exit → Act → World → Prop} {w : World} (hg : o.guard = none) (l c : Operand) (hop : o.op = Op.makeSlice 22 l c) (base : Nat)
    {kl kc : IntKind} {C D : Int} (n : Nat) (hl : a.eval l = .int kl D) (hc : a.eval c = .int kc C) (hD : D = (n : Int)) (hC : C = (n : Int)) (hn : n ≤ 281474976710656) (hb : base ≤ w.heap.size)
    (hK : ∀ v w', Own8 w' base v (List.replicate n 0) → Below w.heap.size w w' → v = .slice (some ⟨w.heap.size, 0, none⟩) n n → wpList Try.prog ops Q rest (a.put o.dst v) w') : wpList Try.prog ops Q (o :: rest) a w := by
  obtain ⟨i0, hi, hz0, hz1, hz2⟩ := info_parts infoU8
  refine wpList_make_full w hg l c 22 hop base 5 i0 (.int .u8 0) 1 Try.underlying22 hi hz0 hz1 kl kc D C n hl hc hD hC (by rw [hz2]; omega) (by unfold maxLen; omega) hb ?_
  intro w' h1 h2
  refine hK _ w' ?_ ((Below.refl _ _).grown h2 (Nat.le_refl _) (fun k hk => by cases hk)) rfl
  show w'.ownsRow base U8 1 _ (List.replicate n (0 : Int)).length _
  rw [← madeCells_nums, List.length_replicate]
  exact h1

/-- One byte of a row of the call's own is written. -/
theorem Own8.at_ {w : World} {base : Nat} {v : Value} {l : List Int} (h : Own8 w base v l) (hn : 0 < l.length) : ∃ g c, v = .slice (some ⟨g, 0, none⟩) l.length c ∧ base ≤ g ∧ g < w.heap.size ∧ l.length ≤ c ∧
    ∀ i, i < l.length → w.cell? ⟨g, i, none⟩ = some (.int .u8 (l.getD i 0)) ∧ w.frozen? ⟨g, i, none⟩ = false ∧ ∀ y, Own8 (w.setCell ⟨g, i, none⟩ (.int .u8 y)) base v (l.set i y) := by
  have h' := h
  rcases h'.2 with ⟨_, h0⟩ | ⟨g, cap, cur, rfl, hb, hg, hc, _⟩
  · omega
  · refine ⟨g, cap, rfl, hb, (Array.getElem?_eq_some_iff.1 hg).1, hc, fun i hi => ⟨?_, World.ownsRow.frozenAt h i, fun y => ?_⟩⟩
    · rw [World.ownsRow.cellAt h i (by omega)]
      simp [nums, hi, List.getD_eq_getElem?_getD]
    · have h2 := (World.ownsRow.stored h i (.int .u8 y)).1
      show World.ownsRow _ base U8 1 _ (l.set i y).length (nums .u8 (l.set i y))
      rw [List.length_set]
      have e : nums .u8 (l.set i y) = (nums .u8 l).set i (.int .u8 y) := by simp [nums, List.map_set]
      rw [e]
      exact h2

/-- Rows of ints that are read. -/
def Row64 (w : World) (A : Option Addr) (bl o : Nat) (l : List Int) : Prop :=
  l.length ≤ 9223372036854775807 ∧ (0 < l.length → A = some ⟨bl, o, none⟩ ∧ bl < w.heap.size) ∧ ∀ i, i < l.length → w.cell? ⟨bl, o + i, none⟩ = some (.int .i64 (l.getD i 0))
theorem Row64.nil {w : World} {A : Option Addr} {bl o : Nat} : Row64 w A bl o [] := ⟨by simp, fun h => by simp at h, fun i hi => by simp at hi⟩

/-- For a region that draws its order: what is known at each world on the way. -/
theorem ext_next {X : Prop} {N : Nat} {wc w1 w2 : World} (h : Hid (Below N wc w1) ∧ X) (hN : N ≤ wc.heap.size) (k : Below w1.heap.size w1 w2) : Hid (Below N wc w2) :=
  h.1.out.trans (k.mono (Nat.le_trans hN h.1.out.size))
theorem row_ext {X : Prop} {A : Option Addr} {bl o : Nat} {l : List Int} {w1 w2 : World} (h : Hid (Row8 w1 A bl o l)) (k : Hid (Below w1.heap.size w1 w2) ∧ X) : Row8 w2 A bl o l := h.out.below k.1.out
theorem ext_end {B : Nat} {w w1 w2 : World} (K : Hid (Below B w w1)) (hB : B ≤ w1.heap.size) (h : Hid (Below w1.heap.size w1 w2)) : Below B w w2 := K.out.trans (h.out.mono hB)
theorem ext_hid {B : Nat} {w w1 w2 : World} (K : Hid (Below B w w1)) (hB : B ≤ w1.heap.size) (h : Hid (Below w1.heap.size w1 w2)) : Hid (Below B w w2) := ext_end K hB h
theorem blk_ext {w1 w2 : World} {b : Nat} {cs : Array Value} {t : TypeId} (K : Hid (Blk w1 b cs t)) (h : Hid (Below w1.heap.size w1 w2)) : Hid (Blk w2 b cs t) := K.out.below h.out K.out.lt
theorem own_ext {X : Prop} {N : Nat} {wc w1 w2 : World} {v : Value} {l : List Int} (h : Hid (Below N wc w1) ∧ X) (hN : N ≤ wc.heap.size) (ho : Own8 w2 w1.heap.size v l) : Hid (Own8 w2 N v l) := ho.lower (Nat.le_trans hN h.1.out.size)
theorem ext_size {X : Prop} {N : Nat} {wc w1 : World} (h : Hid (Below N wc w1) ∧ X) (hN : N ≤ wc.heap.size) : N ≤ w1.heap.size := Nat.le_trans hN h.1.out.size
theorem ext_next' {X : Prop} {N : Nat} {wc w1 w2 : World} (h : Hid (Below N wc w1) ∧ X) (k : Below N w1 w2) : Hid (Below N wc w2) := h.1.out.trans k
theorem ext_drew {N : Nat} {wc w1 : World} (h : Hid (Below N wc w1)) : Hid (Below N wc w1.drew) := h.out.drew

end Go.Proofs.Ytpdomjinhbnmfaa
