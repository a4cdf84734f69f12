import Derived.WalkKit
import Derived.WalkSpells
import Derived.ProofKit
import Derived.OpenShut
import Derived.ShutString
import Derived.ChangeOld
import Derived.Below
import Derived.SizedLaws
import Derived.ChangeSame
set_option linter.unusedSimpArgs false
set_option linter.unusedVariables false
namespace Go.Proofs.Ytpdomjinhbnmfaa
open Go.RowKit Go.ChangeShapes Go.WideShapes Go.ChangeAt

section
variable {H : Type} {enc : TypeId × Value → H} {P : Program} {w : World} {base : Nat} {spare : Nat → Bool} {held : Bool}

/-- It reads as data of its type, and no slice and no string in it is longer than it may be. -/
def Rd (P : Program) (w : World) (t : TypeId) (cs : List Value) : Prop :=
  ∃ (H : Type) (enc : TypeId × Value → H) (base : Nat) (spare : Nat → Bool) (held : Bool) (fuel : Nat) (x : DataW H × List MemPlace), DataW.trod enc P w base spare held fuel t cs = some x ∧ ∀ n ∈ x.1.weights P t, n ≤ reachBytes

theorem Rd.of {ts : List TypeId} {ds : List (DataW H)} {j : Nat} {t : TypeId} {v : Value} {d : DataW H} {ps : List MemPlace} (hsz : (DataW.weightsEach P ts ds).all (· ≤ reachBytes) = true) (ht : ts[j]? = some t) (hd : ds[j]? = some d)
    (h : DataW.Trod enc P w base spare held t v d ps) : Rd P w t v.cells.toList := by
  obtain ⟨fuel, h⟩ := h
  refine ⟨H, enc, base, spare, held, fuel, _, h, fun n hn => ?_⟩
  have := List.all_eq_true.1 hsz _ (DataW.weights_mem_each ht hd n hn)
  simpa using this

theorem weights_mem_all {t : TypeId} : ∀ {l : List (DataW H)} {i : Nat} {d : DataW H}, l[i]? = some d → ∀ n ∈ d.weights P t, n ∈ DataW.weightsAll P t l
  | d0 :: l, 0, d, h, n, hn => by
    simp only [List.getElem?_cons_zero, Option.some.injEq] at h
    subst h
    simp only [DataW.weightsAll, List.mem_append]
    exact Or.inl hn
  | d0 :: l, i + 1, d, h, n, hn => by
    simp only [List.getElem?_cons_succ] at h
    simp only [DataW.weightsAll, List.mem_append]
    exact Or.inr (weights_mem_all h n hn)
  | [], _, _, h, _, _ => by simp at h

theorem Rd.bool {t : TypeId} {cs : List Value} (ht : P.underlying t = some .bool) (h : Rd P w t cs) : ∃ b, cs = [.bool b] := by
  obtain ⟨H, enc, base, spare, held, fuel, x, h, _⟩ := h
  cases fuel with
  | zero => simp [DataW.trod] at h
  | succ n =>
    unfold DataW.trod at h
    rw [ht] at h
    split at h <;> simp_all

theorem Rd.int {t : TypeId} {k : IntKind} {cs : List Value} (ht : P.underlying t = some (.int k)) (h : Rd P w t cs) : ∃ n, cs = [.int k n] ∧ (Lit.int k n).wf = true := by
  obtain ⟨H, enc, base, spare, held, fuel, x, h, _⟩ := h
  cases fuel with
  | zero => simp [DataW.trod] at h
  | succ n =>
    unfold DataW.trod at h
    rw [ht] at h
    split at h <;> simp_all

theorem Rd.string {t : TypeId} {cs : List Value} (ht : P.underlying t = some .string) (h : Rd P w t cs) : ∃ s, cs = [.string s] ∧ s.size ≤ reachBytes := by
  obtain ⟨H, enc, base, spare, held, fuel, x, h, hw⟩ := h
  cases fuel with
  | zero => simp [DataW.trod] at h
  | succ n =>
    unfold DataW.trod at h
    rw [ht] at h
    split at h <;> first | (simp_all; done) | skip
    rename_i s heq
    split at h
    · simp only [Option.some.injEq] at h
      subst h
      exact ⟨s, rfl, by simpa using hw s.data.toList.length (by simp [DataW.weights])⟩
    · cases h

theorem Rd.struct {t : TypeId} {fs : Array Field} {cs : List Value} (ht : P.underlying t = some (.struct fs)) (h : Rd P w t cs) :
    cs.length = P.cellsOf t ∧ ∀ (i : Nat) (f : Field), fs[i]? = some f → Rd P w f.type ((cs.drop f.offset).take (P.cellsOf f.type)) := by
  obtain ⟨H, enc, base, spare, held, fuel, x, h, hw⟩ := h
  cases fuel with
  | zero => simp [DataW.trod] at h
  | succ n =>
    unfold DataW.trod at h
    rw [ht] at h
    split at h <;> first | (simp_all; done) | skip
    rename_i fs' cs' heq
    simp only [Option.some.injEq, TypeDesc.struct.injEq] at heq
    subst heq
    split at h
    · rename_i hlen
      obtain ⟨xs, hx, hxx⟩ := Option.map_eq_some_iff.1 h
      refine ⟨hlen, fun i f hf => ?_⟩
      have hf' : fs.toList[i]? = some f := by simpa using hf
      have hg := mapM_some_get hx i f hf'
      have hl := mapM_some_length hx
      have hi : i < fs.toList.length := (List.getElem?_eq_some_iff.1 hf').1
      obtain ⟨y, hy⟩ : ∃ y, xs[i]? = some y := ⟨_, List.getElem?_eq_getElem (by omega)⟩
      rw [hy] at hg
      refine ⟨H, enc, base, spare, held, n, y, hg, fun m hm => hw m ?_⟩
      subst hxx
      simp only [DataW.weights, ht]
      exact DataW.weights_mem_each (j := i) (by simp [hf']) (by simp [hy]) m hm
    · cases h

theorem Rd.array {t e : TypeId} {k : Nat} {cs : List Value} (ht : P.underlying t = some (.array k e)) (h : Rd P w t cs) :
    cs.length = P.cellsOf t ∧ ∀ i, i < k → Rd P w e ((cs.drop (i * P.cellsOf e)).take (P.cellsOf e)) := by
  obtain ⟨H, enc, base, spare, held, fuel, x, h, hw⟩ := h
  cases fuel with
  | zero => simp [DataW.trod] at h
  | succ n =>
    unfold DataW.trod at h
    rw [ht] at h
    split at h <;> first | (simp_all; done) | skip
    rename_i k' e' cs' heq
    simp only [Option.some.injEq, TypeDesc.array.injEq] at heq
    obtain ⟨rfl, rfl⟩ := heq
    split at h
    · rename_i hlen
      obtain ⟨xs, hx, hxx⟩ := Option.map_eq_some_iff.1 h
      refine ⟨hlen, fun i hi => ?_⟩
      have hg := mapM_some_get hx i i (by simp [hi])
      have hl := mapM_some_length hx
      simp only [List.length_range] at hl
      obtain ⟨y, hy⟩ : ∃ y, xs[i]? = some y := ⟨_, List.getElem?_eq_getElem (by omega)⟩
      rw [hy] at hg
      refine ⟨H, enc, base, spare, held, n, y, hg, fun m hm => hw m ?_⟩
      subst hxx
      simp only [DataW.weights, ht]
      exact weights_mem_all (i := i) (by simp [hy]) m hm
    · cases h

theorem Rd.slice {t e : TypeId} {cs : List Value} (ht : P.underlying t = some (.slice e)) (h : Rd P w t cs) :
    ∃ (a : Option Addr) (len cap : Nat), cs = [.slice a len cap] ∧ len ≤ cap ∧ cap ≤ maxLen ∧ len * P.bytesOf e ≤ reachBytes ∧ (a = none → len = 0 ∧ cap = 0) ∧
      ∀ i, i < len → ∃ (x : Addr) (es : List Value), a = some x ∧ es.length = P.cellsOf e ∧ (∀ j, j < P.cellsOf e → w.cell? ((x.add (i * P.cellsOf e)).add j) = es[j]?) ∧ Rd P w e es := by
  obtain ⟨H, enc, base, spare, held, fuel, x, h, hw⟩ := h
  cases fuel with
  | zero => simp [DataW.trod] at h
  | succ n =>
    unfold DataW.trod at h
    rw [ht] at h
    split at h <;> first | (simp_all; done) | skip
    · exact ⟨none, 0, 0, rfl, by simp, by simp, by simp, fun _ => ⟨rfl, rfl⟩, fun i hi => by omega⟩
    · rename_i e' a len cap heq
      simp only [Option.some.injEq, TypeDesc.slice.injEq] at heq
      subst heq
      simp only at h
      split at h
      · rename_i hc
        obtain ⟨hb, hl, hm⟩ := hc
        obtain ⟨elems, he, hrest⟩ := Option.bind_eq_some_iff.1 h
        obtain ⟨rest, _, hxx⟩ := Option.map_eq_some_iff.1 hrest
        subst hxx
        have hel := mapM_some_length he
        simp only [List.length_range] at hel
        have hw1 := hw ((elems.length + rest.length) * P.bytesOf e) (by simp [DataW.weights, ht])
        refine ⟨some a, len, cap, rfl, hl, hm, Nat.le_trans (Nat.mul_le_mul_right _ (by omega)) hw1, by simp, fun i hi => ?_⟩
        have hg := mapM_some_get he i i (by simp [hi])
        obtain ⟨y, hy⟩ : ∃ y, elems[i]? = some y := ⟨_, List.getElem?_eq_getElem (by omega)⟩
        rw [hy] at hg
        obtain ⟨es, hes, hty⟩ := Option.bind_eq_some_iff.1 hg
        obtain ⟨_, hlen, hat⟩ := World.cells?_some hes
        refine ⟨a, es, rfl, hlen, hat, ⟨H, enc, base, spare, held, n, y, hty, fun m hm => hw m ?_⟩⟩
        simp only [DataW.weights, ht, List.mem_cons, List.mem_append]
        exact Or.inr (Or.inl (weights_mem_all (i := i) (by simp [hy]) m hm))
      · cases h

theorem opn_int {r : Reach} {t : TypeId} {k : IntKind} {v : Value} (ht : P.underlying t = some (.int k)) (h : Rd P w t v.cells.toList) (hv : Value.okWide P w r base t v) : ∃ n, v = .int k n ∧ (Lit.int k n).wf = true := by
  obtain ⟨n, rfl⟩ := okWide_int ht hv
  obtain ⟨n', e, wf⟩ := h.int ht
  simp [Value.cells] at e
  subst e
  exact ⟨n, rfl, wf⟩
theorem opn_bool {r : Reach} {t : TypeId} {v : Value} (ht : P.underlying t = some .bool) (hv : Value.okWide P w r base t v) : ∃ b, v = .bool b := okWide_bool ht hv
theorem opn_string {r : Reach} {t : TypeId} {v : Value} (ht : P.underlying t = some .string) (h : Rd P w t v.cells.toList) (hv : Value.okWide P w r base t v) : ∃ s, v = .string s ∧ s.size ≤ reachBytes := by
  obtain ⟨s, rfl⟩ := okWide_string ht hv
  obtain ⟨s', e, wf⟩ := h.string ht
  simp [Value.cells] at e
  subst e
  exact ⟨s, rfl, wf⟩
theorem opn_struct {r : Reach} {t : TypeId} {fs : Array Field} {v : Value} (ht : P.underlying t = some (.struct fs)) (h : Rd P w t v.cells.toList) (hv : Value.okWide P w r base t v) : ∃ cs, v = .agg cs ∧ cs.size = P.cellsOf t ∧ Rd P w t cs.toList := by
  obtain ⟨cs, rfl, hs⟩ := okWide_struct ht hv
  exact ⟨cs, rfl, hs, h⟩
theorem opn_array {r : Reach} {t e : TypeId} {k : Nat} {v : Value} (ht : P.underlying t = some (.array k e)) (h : Rd P w t v.cells.toList) (hv : Value.okWide P w r base t v) : ∃ cs, v = .agg cs ∧ cs.size = P.cellsOf t ∧ Rd P w t cs.toList := by
  unfold Value.okWide at hv
  rw [ht] at hv
  obtain ⟨cs, rfl, hs, _⟩ := hv
  exact ⟨cs, rfl, hs, h⟩
theorem opn_slice {r : Reach} {t e : TypeId} {v : Value} (ht : P.underlying t = some (.slice e)) (h : Rd P w t v.cells.toList) (hv : Value.okWide P w r base t v) :
    ∃ (a : Option Addr) (len cap : Nat), v = .slice a len cap ∧ len ≤ cap ∧ cap ≤ maxLen ∧ len * P.bytesOf e ≤ reachBytes ∧ (a = none → len = 0 ∧ cap = 0) ∧
      ∀ i, i < len → ∃ (x : Addr) (es : List Value), a = some x ∧ es.length = P.cellsOf e ∧ (∀ j, j < P.cellsOf e → w.cell? ((x.add (i * P.cellsOf e)).add j) = es[j]?) ∧ Rd P w e es := by
  obtain ⟨a0, l0, c0, rfl⟩ := okWide_slice ht hv
  obtain ⟨a, len, cap, e, rest⟩ := h.slice ht
  simp [Value.cells] at e
  obtain ⟨rfl, rfl, rfl⟩ := e
  exact ⟨_, _, _, rfl, rest⟩

/-- The place from which a row begins is a plain one. -/
theorem plain_of_cell {x : Addr} {v : Value} (h : w.cell? ((x.add 0).add 0) = some v) : x = ⟨x.block, x.off, none⟩ ∧ x.block < w.heap.size := by
  have h' : w.cell? x = some v := by simpa [Addr.add] using h
  refine ⟨?_, World.block_lt_of_cell? w x h'⟩
  obtain ⟨b, o, sp⟩ := x
  cases sp with
  | none => rfl
  | some q =>
    simp only [World.cell?] at h'
    split at h' <;> simp at h'

theorem add_plain {b o i : Nat} : (⟨b, o, none⟩ : Addr).add i = ⟨b, o + i, none⟩ := by
  unfold Addr.add
  split
  · simp_all
  · rfl

/-- A slice whose elements are one cell each, or more: where it begins, and what its cells are. -/
theorem opn_row {r : Reach} {t e : TypeId} {v : Value} (ht : P.underlying t = some (.slice e)) (hC : 0 < P.cellsOf e) (h : Rd P w t v.cells.toList) (hv : Value.okWide P w r base t v) :
    ∃ (a : Option Addr) (bl o len cap : Nat), v = .slice a len cap ∧ len ≤ cap ∧ cap ≤ maxLen ∧ len * P.bytesOf e ≤ reachBytes ∧ (a = none → len = 0 ∧ cap = 0) ∧
      (0 < len → a = some ⟨bl, o, none⟩ ∧ bl < w.heap.size) ∧
      ∀ i, i < len → ∃ es : List Value, es.length = P.cellsOf e ∧ (∀ j, j < P.cellsOf e → w.cell? ⟨bl, o + i * P.cellsOf e + j, none⟩ = es[j]?) ∧ Rd P w e es := by
  obtain ⟨a, len, cap, rfl, hl, hc, hb, hn, hi⟩ := opn_slice ht h hv
  by_cases h0 : 0 < len
  · obtain ⟨x, es, rfl, hlen, hat, hrd⟩ := hi 0 h0
    have h1 := hat 0 hC
    rw [Nat.zero_mul, List.getElem?_eq_getElem (by omega)] at h1
    obtain ⟨hx, hlt⟩ := plain_of_cell h1
    refine ⟨_, x.block, x.off, len, cap, rfl, hl, hc, hb, hn, fun _ => ⟨by rw [← hx], hlt⟩, fun i him => ?_⟩
    obtain ⟨x', es', hx', hlen', hat', hrd'⟩ := hi i him
    obtain rfl := Option.some.inj hx'
    refine ⟨es', hlen', fun j hj => ?_, hrd'⟩
    rw [← hat' j hj]
    rw [hx, add_plain, add_plain]
  · exact ⟨a, 0, 0, len, cap, rfl, hl, hc, hb, hn, fun h => absurd h h0, fun i him => by omega⟩

/-- One field, one element, of one cell. -/
theorem take_one {cs : List Value} {i : Nat} {v : Value} (h : (cs.drop i).take 1 = [v]) : cs[i]? = some v := by
  have h2 := congrArg (fun l : List Value => l[0]?) h
  simpa [List.getElem?_take, List.getElem?_drop] using h2
theorem Rd.fieldInt {t : TypeId} {fs : Array Field} {cs : List Value} (ht : P.underlying t = some (.struct fs)) (h : Rd P w t cs) (i : Nat) {f : Field} {k : IntKind} (hf : fs[i]? = some f) (hk : P.underlying f.type = some (.int k)) (hC : P.cellsOf f.type = 1) :
    ∃ n, cs[f.offset]? = some (.int k n) ∧ (Lit.int k n).wf = true := by
  have h1 := (h.struct ht).2 i f hf
  rw [hC] at h1
  obtain ⟨n, e, wf⟩ := h1.int hk
  exact ⟨n, take_one e, wf⟩
theorem Rd.fieldBool {t : TypeId} {fs : Array Field} {cs : List Value} (ht : P.underlying t = some (.struct fs)) (h : Rd P w t cs) (i : Nat) {f : Field} (hf : fs[i]? = some f) (hk : P.underlying f.type = some .bool) (hC : P.cellsOf f.type = 1) :
    ∃ b, cs[f.offset]? = some (.bool b) := by
  have h1 := (h.struct ht).2 i f hf
  rw [hC] at h1
  obtain ⟨b, e⟩ := h1.bool hk
  exact ⟨b, take_one e⟩
theorem Rd.elemInt {t e : TypeId} {m : Nat} {cs : List Value} (ht : P.underlying t = some (.array m e)) (h : Rd P w t cs) {k : IntKind} (hk : P.underlying e = some (.int k)) (hC : P.cellsOf e = 1) (j : Nat) (hj : j < m) :
    ∃ n, cs[j]? = some (.int k n) ∧ (Lit.int k n).wf = true := by
  have h1 := (h.array ht).2 j hj
  rw [hC, Nat.mul_one] at h1
  obtain ⟨n, e, wf⟩ := h1.int hk
  exact ⟨n, take_one e, wf⟩

theorem wf_u8 {n : Int} (h : (Lit.int .u8 n).wf = true) : 0 ≤ n ∧ n ≤ 255 := by
  have a : IntKind.u8.min = 0 := by decide
  have b : IntKind.u8.max = 255 := by decide
  simp only [Lit.wf, Bool.and_eq_true, decide_eq_true_eq, a, b] at h
  exact h
theorem wf_u16 {n : Int} (h : (Lit.int .u16 n).wf = true) : 0 ≤ n ∧ n ≤ 65535 := by
  have a : IntKind.u16.min = 0 := by decide
  have b : IntKind.u16.max = 65535 := by decide
  simp only [Lit.wf, Bool.and_eq_true, decide_eq_true_eq, a, b] at h
  exact h
theorem wf_u32 {n : Int} (h : (Lit.int .u32 n).wf = true) : 0 ≤ n ∧ n ≤ 4294967295 := by
  have a : IntKind.u32.min = 0 := by decide
  have b : IntKind.u32.max = 4294967295 := by decide
  simp only [Lit.wf, Bool.and_eq_true, decide_eq_true_eq, a, b] at h
  exact h
theorem wf_u64 {n : Int} (h : (Lit.int .u64 n).wf = true) : 0 ≤ n ∧ n ≤ 18446744073709551615 := by
  have a : IntKind.u64.min = 0 := by decide
  have b : IntKind.u64.max = 18446744073709551615 := by decide
  simp only [Lit.wf, Bool.and_eq_true, decide_eq_true_eq, a, b] at h
  exact h
theorem wf_i64 {n : Int} (h : (Lit.int .i64 n).wf = true) : -9223372036854775808 ≤ n ∧ n ≤ 9223372036854775807 := by
  have a : IntKind.i64.min = -9223372036854775808 := by decide
  have b : IntKind.i64.max = 9223372036854775807 := by decide
  simp only [Lit.wf, Bool.and_eq_true, decide_eq_true_eq, a, b] at h
  exact h
theorem wf_i32 {n : Int} (h : (Lit.int .i32 n).wf = true) : -2147483648 ≤ n ∧ n ≤ 2147483647 := by
  have a : IntKind.i32.min = -2147483648 := by decide
  have b : IntKind.i32.max = 2147483647 := by decide
  simp only [Lit.wf, Bool.and_eq_true, decide_eq_true_eq, a, b] at h
  exact h

/-- What a cell's whole number is. -/
def intAt (w : World) (a : Addr) : Int := match w.cell? a with | some (.int _ n) => n | _ => 0
def boolAt (w : World) (a : Addr) : Bool := match w.cell? a with | some (.bool b) => b | _ => false

end
end Go.Proofs.Ytpdomjinhbnmfaa
