/- The makers of layer 29 and its reference, as whole records. -/
import Derived.Test.YtbjfhdkgbhkodaaPSends
import Derived.Test.YtbjfhdkgbhkodaaPMakeK
import Derived.Deep.MidRow
set_option linter.unusedSimpArgs false
set_option linter.unusedVariables false
set_option linter.unnecessarySimpa false
namespace Go.Proofs.Ytbjfhdkgbhkodaa
open Go.RowKit Go.Proofs.YtbjfhdkgbhkodaaW.PrintWords

def Ch.zero : Ch := ⟨List.replicate 30 0, rfl⟩
abbrev MT : TypeId := 65
structure Mk where
  works : Bool
  x : Ch
  last : Int
  sent : Int
def Mk.tail (m : Mk) : List Value := m.x.l.map (Value.int .i64) ++ [.int .i64 m.last, .int .i64 m.sent]
def Mk.cells (m : Mk) : Array Value := (.bool m.works :: m.tail).toArray
def Mk.val (m : Mk) : Value := .agg m.cells
def Mk.zero : Mk := ⟨false, Ch.zero, 0, 0⟩
theorem Mk.size (m : Mk) : m.cells.size = 33 := by simp [Mk.cells, Mk.tail, m.x.h]
theorem one_ints (l : List Int) : ∀ x ∈ l.map (Value.int .i64), x.oneCell' = true := by
  intro x hx
  obtain ⟨a, _, rfl⟩ := List.mem_map.1 hx
  rfl
theorem Mk.one (m : Mk) : m.cells.all (·.oneCell') = true := by
  rw [Array.all_eq_true_iff_forall_mem]
  intro x hx
  simp only [Mk.cells, Mk.tail, List.mem_toArray, List.mem_cons, List.mem_append, List.not_mem_nil, or_false] at hx
  rcases hx with rfl | hx | rfl | rfl
  · rfl
  · exact one_ints _ x hx
  · rfl
  · rfl
theorem Mk.c0 (m : Mk) : m.cells[0]? = some (.bool m.works) := rfl
theorem Mk.c31 (m : Mk) : m.cells[31]? = some (.int .i64 m.last) := by
  simp only [Mk.cells, Mk.tail, List.getElem?_toArray, List.getElem?_cons_succ]
  rw [List.getElem?_append_right (by simp [m.x.h])]
  simp [m.x.h]
theorem Mk.c32 (m : Mk) : m.cells[32]? = some (.int .i64 m.sent) := by
  simp only [Mk.cells, Mk.tail, List.getElem?_toArray, List.getElem?_cons_succ]
  rw [List.getElem?_append_right (by simp [m.x.h])]
  simp [m.x.h]
theorem Mk.cx (m : Mk) {j : Nat} (hj : j < 30) : m.cells[1 + j]? = some (.int .i64 (m.x.at j)) := by
  have h := m.x.cell hj
  rw [Nat.add_comm]
  simp only [Mk.cells, Mk.tail, List.getElem?_toArray, List.getElem?_cons_succ]
  rw [List.getElem?_append_left (by simp [m.x.h, hj])]
  simpa [Ch.cells] using h
theorem Mk.p0 (m : Mk) (v : Bool) : m.cells.setIfInBounds 0 (.bool v) = (Mk.cells ⟨v, m.x, m.last, m.sent⟩) := by simp [Mk.cells, Mk.tail]
theorem Mk.p31 (m : Mk) (v : Int) : m.cells.setIfInBounds 31 (.int .i64 v) = (Mk.cells ⟨m.works, m.x, v, m.sent⟩) := by
  simp [Mk.cells, Mk.tail, List.set_append, m.x.h]
theorem Mk.p32 (m : Mk) (v : Int) : m.cells.setIfInBounds 32 (.int .i64 v) = (Mk.cells ⟨m.works, m.x, m.last, v⟩) := by
  simp [Mk.cells, Mk.tail, List.set_append, m.x.h]
theorem setAll_app : ∀ (M : List Value) (A L B : List Value), L.length = M.length → setAll (A ++ (L ++ B)).toArray A.length M = (A ++ (M ++ B)).toArray
  | [], A, L, B, h => by
    have : L = [] := List.eq_nil_of_length_eq_zero h
    subst this
    rfl
  | v :: M, A, [], B, h => by cases h
  | v :: M, A, u :: L, B, h => by
    have h' : L.length = M.length := by simpa using h
    have ih := setAll_app M (A ++ [v]) L B h'
    rw [List.length_append, List.length_singleton] at ih
    show setAll ((A ++ (u :: L ++ B)).toArray.setIfInBounds A.length v) (A.length + 1) M = _
    have e0 : (A ++ (u :: L ++ B)).toArray.setIfInBounds A.length v = (A ++ [v] ++ (L ++ B)).toArray := by simp [List.set_append]
    have e2 : A ++ (v :: M ++ B) = A ++ [v] ++ (M ++ B) := by simp
    rw [e0, e2, ih]
theorem Mk.px (m : Mk) (c : Ch) : setAll m.cells 1 c.cells.toList = (Mk.cells ⟨m.works, c, m.last, m.sent⟩) := by
  have := setAll_app (c.l.map (Value.int .i64)) [.bool m.works] (m.x.l.map (Value.int .i64)) [.int .i64 m.last, .int .i64 m.sent] (by simp [m.x.h, c.h])
  simpa [Mk.cells, Mk.tail, Ch.cells] using this

/-- Words for whole records of type Mk. -/
noncomputable def ldM (p : Value) : Sem Value := Instr.loadAt MT p
noncomputable def bxM (v : Value) : Sem Value := Instr.box MT v
noncomputable def stM (p v : Value) : Sem Unit := Instr.storeAt MT p v
noncomputable def alM : Sem Value := Instr.alloc MT true (.tuple #[])
theorem ldM_in (p : Value) : Instr.loadAt MT p = ldM p := rfl
theorem bxM_in (v : Value) : Instr.box MT v = bxM v := rfl
theorem stM_in (p v : Value) : Instr.storeAt MT p v = stM p v := rfl
theorem alM_in : Instr.alloc MT true (.tuple #[]) = alM := rfl
theorem infoM : (Try.prog.info? MT).map (·.size) = some 33 := by kernel_rfl
theorem bxM_v (w : World) (m : Mk) : (bxM m.val).run Try.prog w = .ok (.pointer (some ⟨w.heap.size, 0, none⟩)) (w.alloc (.cells m.cells MT)) := rfl
theorem alM_v (w : World) : alM.run Try.prog w = .ok (.pointer (some ⟨w.heap.size, 0, none⟩)) (w.alloc (.cells Mk.zero.cells MT)) := by kernel_rfl
theorem ldM_blk {w : World} {b : Nat} {m : Mk} (h : Blk w b m.cells MT) : (ldM (.pointer (some ⟨b, 0, none⟩))).run Try.prog w = .ok m.val w := by
  have := run_loadAt_mid (P := Try.prog) w b 0 MT m.cells.toList _ (fun j v hv => by rw [Nat.zero_add]; exact h.cell j v (by simpa using hv)) Try.underlying65 rfl (by rw [infoM, Array.length_toList, m.size])
  simpa [ldM, Mk.val] using this
theorem ldM_new (w : World) (m : Mk) : (ldM (.pointer (some ⟨w.heap.size, 0, none⟩))).run Try.prog (w.alloc (.cells m.cells MT)) = .ok m.val (w.alloc (.cells m.cells MT)) := ldM_blk (Blk.new w m.cells MT)
def MB (w : World) (b : Nat) : Prop := ∃ m : Mk, Blk w b m.cells MT
def putM (w : World) (b : Nat) (m : Mk) : World := w.setRow b m.cells
theorem stM_put (w : World) (b : Nat) (m : Mk) (h : MB w b) : (stM (.pointer (some ⟨b, 0, none⟩)) m.val).run Try.prog w = .ok () (putM w b m) := by
  obtain ⟨g, h⟩ := h
  have hs := run_storeVar_row (P := Try.prog) w b MT MT g.cells m.cells h (by rw [infoM, m.size]) (by rw [g.size, m.size]) m.one
  unfold stM
  simp only [Instr.storeAt, Instr.sureAddr, Sem.run_bind, Sem.run_pure, Result.andThen_ok]
  exact hs
theorem putM_blk {w : World} {b : Nat} (m : Mk) (h : MB w b) : Blk (putM w b m) b m.cells MT := by
  obtain ⟨g, h⟩ := h
  exact setRow_heap w b _ _ _ _ h
theorem putM_only (w : World) (b : Nat) (m : Mk) : Only b w (putM w b m) :=
  ⟨rfl, rfl, rfl, by simp [putM, World.setRow], fun k _ hb => by
    show (w.heap.modify b _)[k]? = _
    rw [Array.getElem?_modify, if_neg (fun e => hb e.symm)]⟩
theorem stM_new (w : World) (m g : Mk) : (stM (.pointer (some ⟨w.heap.size, 0, none⟩)) m.val).run Try.prog (w.alloc (.cells g.cells MT)) = .ok () (w.alloc (.cells m.cells MT)) := by
  rw [stM_put _ _ _ ⟨g, Blk.new w g.cells MT⟩]
  unfold putM
  rw [set_row_last]

/-- A table is laid into a maker. -/
def putC (w : World) (b : Nat) (c : Ch) : World := w.setCells b 1 c.cells.toList
theorem stC_mk (w : World) (b : Nat) (c : Ch) (h : MB w b) : (stC (.pointer (some ⟨b, 1, none⟩)) c.val).run Try.prog w = .ok () (putC w b c) := by
  obtain ⟨m, h⟩ := h
  exact run_storeAt_mid (P := Try.prog) w b 1 CT c.cells (fun j hj => by
    rw [c.size] at hj
    exact ⟨by rw [h.cell (1 + j) _ (m.cx hj)]; rfl, h.free _⟩) (by rw [infoCT, c.size]) c.one
theorem putC_blk {w : World} {b : Nat} {m : Mk} (c : Ch) (h : Blk w b m.cells MT) : Blk (putC w b c) b (Mk.cells ⟨m.works, c, m.last, m.sent⟩) MT := by
  rw [← m.px c]
  exact Blk.setCells _ _ _ _ h
theorem setCells_only (b : Nat) : ∀ (vs : List Value) (o : Nat) (w : World), Only b w (w.setCells b o vs)
  | [], o, w => Only.refl b w
  | v :: vs, o, w => by
    rw [setCells_cons]
    exact ((Only.refl b w).set o v).trans (setCells_only b vs (o + 1) _)
theorem putC_only (w : World) (b : Nat) (c : Ch) : Only b w (putC w b c) := setCells_only b _ _ _
theorem ldC_mk {w : World} {b : Nat} {m : Mk} (h : Blk w b m.cells MT) : (ldC (.pointer (some ⟨b, 1, none⟩))).run Try.prog w = .ok m.x.val w :=
  ldC_mid (fun j v hv => by
    have hj : j < 30 := by have := (List.getElem?_eq_some_iff.1 hv).1; rw [Array.length_toList, m.x.size] at this; exact this
    have h1 := m.x.cell hj
    rw [Array.getElem?_toList] at hv
    rw [h1] at hv
    injection hv with hv
    subst hv
    exact h.cell _ _ (m.cx hj))
noncomputable def bdM (l : Array (Nat × Value)) : Sem Value := Instr.build MT l
theorem bdM_in (l : Array (Nat × Value)) : Instr.build MT l = bdM l := rfl
theorem bdM_none (w : World) : (bdM #[]).run Try.prog w = .ok Mk.zero.val w := by kernel_rfl

/-- The reference's maker. -/
abbrev RT : TypeId := 57
structure Rm where
  last : Int
  x : Ch
  sent : Int
def Rm.cells (m : Rm) : Array Value := (.int .i64 m.last :: (m.x.l.map (Value.int .i64) ++ [.int .i64 m.sent])).toArray
def Rm.val (m : Rm) : Value := .agg m.cells
def Rm.zero : Rm := ⟨0, Ch.zero, 0⟩
theorem Rm.size (m : Rm) : m.cells.size = 32 := by simp [Rm.cells, m.x.h]
theorem Rm.one (m : Rm) : m.cells.all (·.oneCell') = true := by
  rw [Array.all_eq_true_iff_forall_mem]
  intro x hx
  simp only [Rm.cells, List.mem_toArray, List.mem_cons, List.mem_append, List.not_mem_nil, or_false] at hx
  rcases hx with rfl | hx | rfl
  · rfl
  · exact one_ints _ x hx
  · rfl
theorem Rm.c0 (m : Rm) : m.cells[0]? = some (.int .i64 m.last) := rfl
theorem Rm.c31 (m : Rm) : m.cells[31]? = some (.int .i64 m.sent) := by
  simp only [Rm.cells, List.getElem?_toArray, List.getElem?_cons_succ]
  rw [List.getElem?_append_right (by simp [m.x.h])]
  simp [m.x.h]
theorem Rm.cx (m : Rm) {j : Nat} (hj : j < 30) : m.cells[1 + j]? = some (.int .i64 (m.x.at j)) := by
  have h := m.x.cell hj
  rw [Nat.add_comm]
  simp only [Rm.cells, List.getElem?_toArray, List.getElem?_cons_succ]
  rw [List.getElem?_append_left (by simp [m.x.h, hj])]
  simpa [Ch.cells] using h
theorem Rm.p0 (m : Rm) (v : Int) : m.cells.setIfInBounds 0 (.int .i64 v) = (Rm.cells ⟨v, m.x, m.sent⟩) := by simp [Rm.cells]

/-- Words for whole records of type Rm. -/
noncomputable def ldR (p : Value) : Sem Value := Instr.loadAt RT p
noncomputable def bxR (v : Value) : Sem Value := Instr.box RT v
noncomputable def stR (p v : Value) : Sem Unit := Instr.storeAt RT p v
noncomputable def alR : Sem Value := Instr.alloc RT true (.tuple #[])
theorem ldR_in (p : Value) : Instr.loadAt RT p = ldR p := rfl
theorem bxR_in (v : Value) : Instr.box RT v = bxR v := rfl
theorem stR_in (p v : Value) : Instr.storeAt RT p v = stR p v := rfl
theorem alR_in : Instr.alloc RT true (.tuple #[]) = alR := rfl
theorem infoR : (Try.prog.info? RT).map (·.size) = some 32 := by kernel_rfl
theorem bxR_v (w : World) (m : Rm) : (bxR m.val).run Try.prog w = .ok (.pointer (some ⟨w.heap.size, 0, none⟩)) (w.alloc (.cells m.cells RT)) := rfl
theorem alR_v (w : World) : alR.run Try.prog w = .ok (.pointer (some ⟨w.heap.size, 0, none⟩)) (w.alloc (.cells Rm.zero.cells RT)) := by kernel_rfl
theorem ldR_blk {w : World} {b : Nat} {m : Rm} (h : Blk w b m.cells RT) : (ldR (.pointer (some ⟨b, 0, none⟩))).run Try.prog w = .ok m.val w := by
  have := run_loadAt_mid (P := Try.prog) w b 0 RT m.cells.toList _ (fun j v hv => by rw [Nat.zero_add]; exact h.cell j v (by simpa using hv)) Try.underlying57 rfl (by rw [infoR, Array.length_toList, m.size])
  simpa [ldR, Rm.val] using this
theorem ldR_new (w : World) (m : Rm) : (ldR (.pointer (some ⟨w.heap.size, 0, none⟩))).run Try.prog (w.alloc (.cells m.cells RT)) = .ok m.val (w.alloc (.cells m.cells RT)) := ldR_blk (Blk.new w m.cells RT)
def RB (w : World) (b : Nat) : Prop := ∃ m : Rm, Blk w b m.cells RT
def putR (w : World) (b : Nat) (m : Rm) : World := w.setRow b m.cells
theorem stR_put (w : World) (b : Nat) (m : Rm) (h : RB w b) : (stR (.pointer (some ⟨b, 0, none⟩)) m.val).run Try.prog w = .ok () (putR w b m) := by
  obtain ⟨g, h⟩ := h
  have hs := run_storeVar_row (P := Try.prog) w b RT RT g.cells m.cells h (by rw [infoR, m.size]) (by rw [g.size, m.size]) m.one
  unfold stR
  simp only [Instr.storeAt, Instr.sureAddr, Sem.run_bind, Sem.run_pure, Result.andThen_ok]
  exact hs
theorem putR_blk {w : World} {b : Nat} (m : Rm) (h : RB w b) : Blk (putR w b m) b m.cells RT := by
  obtain ⟨g, h⟩ := h
  exact setRow_heap w b _ _ _ _ h
theorem putR_only (w : World) (b : Nat) (m : Rm) : Only b w (putR w b m) :=
  ⟨rfl, rfl, rfl, by simp [putR, World.setRow], fun k _ hb => by
    show (w.heap.modify b _)[k]? = _
    rw [Array.getElem?_modify, if_neg (fun e => hb e.symm)]⟩
theorem stR_new (w : World) (m g : Rm) : (stR (.pointer (some ⟨w.heap.size, 0, none⟩)) m.val).run Try.prog (w.alloc (.cells g.cells RT)) = .ok () (w.alloc (.cells m.cells RT)) := by
  rw [stR_put _ _ _ ⟨g, Blk.new w g.cells RT⟩]
  unfold putR
  rw [set_row_last]

theorem ldC_rm {w : World} {b : Nat} {m : Rm} (h : Blk w b m.cells RT) : (ldC (.pointer (some ⟨b, 1, none⟩))).run Try.prog w = .ok m.x.val w :=
  ldC_mid (fun j v hv => by
    have hj : j < 30 := by have := (List.getElem?_eq_some_iff.1 hv).1; rw [Array.length_toList, m.x.size] at this; exact this
    have h1 := m.x.cell hj
    rw [Array.getElem?_toList] at hv
    rw [h1] at hv
    injection hv with hv
    subst hv
    exact h.cell _ _ (m.cx hj))
noncomputable def bdR (l : Array (Nat × Value)) : Sem Value := Instr.build RT l
theorem bdR_in (l : Array (Nat × Value)) : Instr.build RT l = bdR l := rfl
theorem Ch.form (c : Ch) : ∃ x0 x1 x2 x3 x4 x5 x6 x7 x8 x9 x10 x11 x12 x13 x14 x15 x16 x17 x18 x19 x20 x21 x22 x23 x24 x25 x26 x27 x28 x29, ∃ h, c = ⟨[x0, x1, x2, x3, x4, x5, x6, x7, x8, x9, x10, x11, x12, x13, x14, x15, x16, x17, x18, x19, x20, x21, x22, x23, x24, x25, x26, x27, x28, x29], h⟩ :=
  ⟨c.l.getD 0 0, c.l.getD 1 0, c.l.getD 2 0, c.l.getD 3 0, c.l.getD 4 0, c.l.getD 5 0, c.l.getD 6 0, c.l.getD 7 0, c.l.getD 8 0, c.l.getD 9 0, c.l.getD 10 0, c.l.getD 11 0, c.l.getD 12 0, c.l.getD 13 0, c.l.getD 14 0, c.l.getD 15 0, c.l.getD 16 0, c.l.getD 17 0, c.l.getD 18 0, c.l.getD 19 0, c.l.getD 20 0, c.l.getD 21 0, c.l.getD 22 0, c.l.getD 23 0, c.l.getD 24 0, c.l.getD 25 0, c.l.getD 26 0, c.l.getD 27 0, c.l.getD 28 0, c.l.getD 29 0, rfl, Ch.ext c.spell⟩
theorem bdR_30 (x0 x1 x2 x3 x4 x5 x6 x7 x8 x9 x10 x11 x12 x13 x14 x15 x16 x17 x18 x19 x20 x21 x22 x23 x24 x25 x26 x27 x28 x29 a b : Int) (w : World) : (bdR #[(0, .int .i64 a), (1, .agg #[.int .i64 x0, .int .i64 x1, .int .i64 x2, .int .i64 x3, .int .i64 x4, .int .i64 x5, .int .i64 x6, .int .i64 x7, .int .i64 x8, .int .i64 x9, .int .i64 x10, .int .i64 x11, .int .i64 x12, .int .i64 x13, .int .i64 x14, .int .i64 x15, .int .i64 x16, .int .i64 x17, .int .i64 x18, .int .i64 x19, .int .i64 x20, .int .i64 x21, .int .i64 x22, .int .i64 x23, .int .i64 x24, .int .i64 x25, .int .i64 x26, .int .i64 x27, .int .i64 x28, .int .i64 x29]), (2, .int .i64 b)]).run Try.prog w = .ok (.agg #[.int .i64 a, .int .i64 x0, .int .i64 x1, .int .i64 x2, .int .i64 x3, .int .i64 x4, .int .i64 x5, .int .i64 x6, .int .i64 x7, .int .i64 x8, .int .i64 x9, .int .i64 x10, .int .i64 x11, .int .i64 x12, .int .i64 x13, .int .i64 x14, .int .i64 x15, .int .i64 x16, .int .i64 x17, .int .i64 x18, .int .i64 x19, .int .i64 x20, .int .i64 x21, .int .i64 x22, .int .i64 x23, .int .i64 x24, .int .i64 x25, .int .i64 x26, .int .i64 x27, .int .i64 x28, .int .i64 x29, .int .i64 b]) w := by
  kernel_rfl
theorem bdR_v (w : World) (a b : Int) (c : Ch) : (bdR #[(0, .int .i64 a), (1, c.val), (2, .int .i64 b)]).run Try.prog w = .ok (Rm.val ⟨a, c, b⟩) w := by
  obtain ⟨x0, x1, x2, x3, x4, x5, x6, x7, x8, x9, x10, x11, x12, x13, x14, x15, x16, x17, x18, x19, x20, x21, x22, x23, x24, x25, x26, x27, x28, x29, h, rfl⟩ := c.form
  exact bdR_30 x0 x1 x2 x3 x4 x5 x6 x7 x8 x9 x10 x11 x12 x13 x14 x15 x16 x17 x18 x19 x20 x21 x22 x23 x24 x25 x26 x27 x28 x29 a b w
theorem res_rm {fn : Func} {p q : Tmp} {tmps : Array Value} {w : World} {b : Nat} {m : Rm} {v : Value} (h : fn.results = #[.cell p RT, .tmp q]) (hp : tmps.getD p undef = .pointer (some ⟨b, 0, none⟩)) (hq : tmps.getD q undef = v) (hb : Blk w b m.cells RT) : (results fn tmps).run Try.prog w = .ok (.tuple #[m.val, v]) w := by
  have hp' : tmps[p]?.getD undef = .pointer (some ⟨b, 0, none⟩) := by simpa using hp
  have hq' : tmps[q]?.getD undef = v := by simpa using hq
  have hl : (loadVar RT ⟨b, 0, none⟩).run Try.prog w = .ok (.agg m.cells) w := run_loadVar_row w b RT RT m.cells (0, 0) _ hb Try.underlying57 rfl (by rw [infoR, m.size])
  simp [results, h, hp', hq', asAddr, hl, Rm.val]
theorem res_ch {fn : Func} {p : Tmp} {tmps : Array Value} {w : World} {b : Nat} {c : Ch} (h : fn.results = #[.cell p CT]) (hp : tmps.getD p undef = .pointer (some ⟨b, 0, none⟩)) (hb : Blk w b c.cells CT) : (results fn tmps).run Try.prog w = .ok c.val w :=
  results_cell_row h tmps w b CT c.cells (0, 0) _ hp hb Try.underlying30 rfl (by rw [infoCT, c.size])
/-- A table's cell of a maker; of the reference's. -/
theorem Blk.mk0 {w : World} {b : Nat} {m : Mk} (h : Blk w b m.cells MT) : w.cell? ⟨b, 0, none⟩ = some (.bool m.works) := h.cell 0 _ m.c0

end Go.Proofs.Ytbjfhdkgbhkodaa
