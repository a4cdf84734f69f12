/- The reference's taker as a whole record. -/
import Derived.Test.YtocogmboocjjaaaTab
import Derived.Test.YtocogmboocjjaaaGrR
import Derived.Deep.MidRow
set_option linter.unusedSimpArgs false
set_option linter.unusedVariables false
set_option linter.unnecessarySimpa false
set_option maxRecDepth 100000
namespace Go.Proofs.Ytocogmboocjjaaa
open Go.RowKit Go.Proofs.YtocogmboocjjaaaW.PrintWords

abbrev QT : TypeId := 65
structure Qt where
  works : Bool
  x : Ch
  g : Rf
  half : Bool
  came : List Int
  value : List Int
  failed : Int
def Qt.tail (m : Qt) : List Value := [.int .i64 m.g.time, .int .i64 m.g.gap, .int .i64 m.g.since, .int .i64 m.g.first, .bool m.half, .string (mkS m.came), .string (mkS m.value), .int .i64 m.failed]
def Qt.cells (m : Qt) : Array Value := (.bool m.works :: (m.x.l.map (Value.int .i64) ++ m.tail)).toArray
def Qt.val (m : Qt) : Value := .agg m.cells
def Qt.rest (f : Int) : Qt := ⟨false, Ch.zero, ⟨0, 0, 0, 0⟩, false, [], [], f⟩
theorem Qt.size (m : Qt) : m.cells.size = 39 := by simp [Qt.cells, Qt.tail, m.x.h]
theorem Qt.one (m : Qt) : m.cells.all (·.oneCell') = true := by
  rw [Array.all_eq_true_iff_forall_mem]
  intro x hx
  simp only [Qt.cells, Qt.tail, List.mem_toArray, List.mem_cons, List.mem_append, List.not_mem_nil, or_false] at hx
  rcases hx with rfl | hx | rfl | rfl | rfl | rfl | rfl | rfl | rfl | rfl
  · rfl
  · exact one_ints _ x hx
  all_goals rfl
theorem Qt.at0 (m : Qt) : m.cells[0]? = some (.bool m.works) := rfl
theorem Qt.tl (m : Qt) (j : Nat) : m.cells[31 + j]? = m.tail[j]? := by
  simp only [Qt.cells, List.getElem?_toArray]
  rw [show 31 + j = (30 + j) + 1 by omega, List.getElem?_cons_succ, List.getElem?_append_right (by simp [m.x.h])]
  simp [m.x.h]
theorem Qt.cx (m : Qt) {j : Nat} (hj : j < 30) : m.cells[1 + j]? = some (.int .i64 (m.x.at j)) := by
  have h := m.x.cell hj
  rw [Nat.add_comm]
  simp only [Qt.cells, List.getElem?_toArray, List.getElem?_cons_succ]
  rw [List.getElem?_append_left (by simp [m.x.h, hj])]
  simpa [Ch.cells] using h
theorem Qt.put (m : Qt) (j : Nat) (v : Value) : m.cells.setIfInBounds (31 + j) v = (.bool m.works :: (m.x.l.map (Value.int .i64) ++ m.tail.set j v)).toArray := by
  simp only [Qt.cells, List.setIfInBounds_toArray]
  rw [show 31 + j = (30 + j) + 1 by omega, List.set_cons_succ, List.set_append, if_neg (by rw [List.length_map, m.x.h]; omega)]
  simp [m.x.h]
theorem Qt.p_half (m : Qt) (v : Bool) : m.cells.setIfInBounds 35 (.bool v) = (Qt.cells ⟨m.works, m.x, m.g, v, m.came, m.value, m.failed⟩) := by
  have := m.put 4 (.bool v)
  simpa [Qt.cells, Qt.tail] using this
theorem Qt.p_came (m : Qt) (v : List Int) : m.cells.setIfInBounds 36 (.string (mkS v)) = (Qt.cells ⟨m.works, m.x, m.g, m.half, v, m.value, m.failed⟩) := by
  have := m.put 5 (.string (mkS v))
  simpa [Qt.cells, Qt.tail] using this
theorem Qt.p_value (m : Qt) (v : List Int) : m.cells.setIfInBounds 37 (.string (mkS v)) = (Qt.cells ⟨m.works, m.x, m.g, m.half, m.came, v, m.failed⟩) := by
  have := m.put 6 (.string (mkS v))
  simpa [Qt.cells, Qt.tail] using this
theorem Qt.p_g (m : Qt) (r : Rf) : (((m.cells.setIfInBounds 31 (.int .i64 r.time)).setIfInBounds 32 (.int .i64 r.gap)).setIfInBounds 33 (.int .i64 r.since)).setIfInBounds 34 (.int .i64 r.first) = (Qt.cells ⟨m.works, m.x, r, m.half, m.came, m.value, m.failed⟩) := by
  have e1 : m.cells.setIfInBounds 31 (.int .i64 r.time) = (Qt.cells ⟨m.works, m.x, ⟨r.time, m.g.gap, m.g.since, m.g.first⟩, m.half, m.came, m.value, m.failed⟩) := by
    have := m.put 0 (.int .i64 r.time)
    simpa [Qt.cells, Qt.tail] using this
  rw [e1]
  have e2 : (Qt.cells ⟨m.works, m.x, ⟨r.time, m.g.gap, m.g.since, m.g.first⟩, m.half, m.came, m.value, m.failed⟩).setIfInBounds 32 (.int .i64 r.gap) = (Qt.cells ⟨m.works, m.x, ⟨r.time, r.gap, m.g.since, m.g.first⟩, m.half, m.came, m.value, m.failed⟩) := by
    have := Qt.put ⟨m.works, m.x, ⟨r.time, m.g.gap, m.g.since, m.g.first⟩, m.half, m.came, m.value, m.failed⟩ 1 (.int .i64 r.gap)
    simpa [Qt.cells, Qt.tail] using this
  rw [e2]
  have e3 : (Qt.cells ⟨m.works, m.x, ⟨r.time, r.gap, m.g.since, m.g.first⟩, m.half, m.came, m.value, m.failed⟩).setIfInBounds 33 (.int .i64 r.since) = (Qt.cells ⟨m.works, m.x, ⟨r.time, r.gap, r.since, m.g.first⟩, m.half, m.came, m.value, m.failed⟩) := by
    have := Qt.put ⟨m.works, m.x, ⟨r.time, r.gap, m.g.since, m.g.first⟩, m.half, m.came, m.value, m.failed⟩ 2 (.int .i64 r.since)
    simpa [Qt.cells, Qt.tail] using this
  rw [e3]
  have := Qt.put ⟨m.works, m.x, ⟨r.time, r.gap, r.since, m.g.first⟩, m.half, m.came, m.value, m.failed⟩ 3 (.int .i64 r.first)
  simpa [Qt.cells, Qt.tail] using this

noncomputable def ldQ (p : Value) : Sem Value := Instr.loadAt QT p
noncomputable def bxQ (v : Value) : Sem Value := Instr.box QT v
noncomputable def stQ (p v : Value) : Sem Unit := Instr.storeAt QT p v
noncomputable def alQ : Sem Value := Instr.alloc QT true (.tuple #[])
theorem ldQ_in (p : Value) : Instr.loadAt QT p = ldQ p := rfl
theorem bxQ_in (v : Value) : Instr.box QT v = bxQ v := rfl
theorem stQ_in (p v : Value) : Instr.storeAt QT p v = stQ p v := rfl
theorem alQ_in : Instr.alloc QT true (.tuple #[]) = alQ := rfl
theorem infoQ : (Try.prog.info? QT).map (·.size) = some 39 := by kernel_rfl
theorem bxQ_v (w : World) (m : Qt) : (bxQ m.val).run Try.prog w = .ok (.pointer (some ⟨w.heap.size, 0, none⟩)) (w.alloc (.cells m.cells QT)) := rfl
theorem alQ_v (w : World) : alQ.run Try.prog w = .ok (.pointer (some ⟨w.heap.size, 0, none⟩)) (w.alloc (.cells (Qt.rest 0).cells QT)) := by kernel_rfl
theorem ldQ_blk {w : World} {b : Nat} {m : Qt} (h : Blk w b m.cells QT) : (ldQ (.pointer (some ⟨b, 0, none⟩))).run Try.prog w = .ok m.val w := by
  have := run_loadAt_mid (P := Try.prog) w b 0 QT m.cells.toList _ (fun j v hv => by rw [Nat.zero_add]; exact h.cell j v (by simpa using hv)) Try.underlying65 rfl (by rw [infoQ, Array.length_toList, m.size])
  simpa [ldQ, Qt.val] using this
theorem ldQ_new (w : World) (m : Qt) : (ldQ (.pointer (some ⟨w.heap.size, 0, none⟩))).run Try.prog (w.alloc (.cells m.cells QT)) = .ok m.val (w.alloc (.cells m.cells QT)) := ldQ_blk (Blk.new w m.cells QT)
def QB (w : World) (b : Nat) : Prop := ∃ m : Qt, Blk w b m.cells QT
def putQ (w : World) (b : Nat) (m : Qt) : World := w.setRow b m.cells
theorem stQ_put (w : World) (b : Nat) (m : Qt) (h : QB w b) : (stQ (.pointer (some ⟨b, 0, none⟩)) m.val).run Try.prog w = .ok () (putQ w b m) := by
  obtain ⟨g, h⟩ := h
  have hs := run_storeVar_row (P := Try.prog) w b QT QT g.cells m.cells h (by rw [infoQ, m.size]) (by rw [g.size, m.size]) m.one
  unfold stQ
  simp only [Instr.storeAt, Instr.sureAddr, Sem.run_bind, Sem.run_pure, Result.andThen_ok]
  exact hs
theorem putQ_blk {w : World} {b : Nat} (m : Qt) (h : QB w b) : Blk (putQ w b m) b m.cells QT := by
  obtain ⟨g, h⟩ := h
  exact setRow_heap w b _ _ _ _ h
theorem putQ_only (w : World) (b : Nat) (m : Qt) : Only b w (putQ w b m) :=
  ⟨rfl, rfl, rfl, by simp [putQ, World.setRow], fun k _ hb => by
    show (w.heap.modify b _)[k]? = _
    rw [Array.getElem?_modify, if_neg (fun e => hb e.symm)]⟩
theorem stQ_new (w : World) (m g : Qt) : (stQ (.pointer (some ⟨w.heap.size, 0, none⟩)) m.val).run Try.prog (w.alloc (.cells g.cells QT)) = .ok () (w.alloc (.cells m.cells QT)) := by
  rw [stQ_put _ _ _ ⟨g, Blk.new w g.cells QT⟩]
  unfold putQ
  rw [set_row_last]
theorem ldC_qt {w : World} {b : Nat} {m : Qt} (h : Blk w b m.cells QT) : (ldC (.pointer (some ⟨b, 1, none⟩))).run Try.prog w = .ok m.x.val w :=
  ldC_mid (fun j v hv => by
    have hj : j < 30 := by have := (List.getElem?_eq_some_iff.1 hv).1; rw [Array.length_toList, m.x.size] at this; exact this
    have h1 := m.x.cell hj
    rw [Array.getElem?_toList] at hv
    rw [h1] at hv
    injection hv with hv
    subst hv
    exact h.cell _ _ (m.cx hj))
/-- The reference's guard as a whole. -/
noncomputable def ldG (p : Value) : Sem Value := Instr.loadAt RT p
noncomputable def stG (p v : Value) : Sem Unit := Instr.storeAt RT p v
theorem ldG_in (p : Value) : Instr.loadAt RT p = ldG p := rfl
theorem stG_in (p v : Value) : Instr.storeAt RT p v = stG p v := rfl
theorem infoG : (Try.prog.info? RT).map (·.size) = some 4 := by kernel_rfl
theorem ldG_qt {w : World} {b : Nat} {m : Qt} (h : Blk w b m.cells QT) : (ldG (.pointer (some ⟨b, 31, none⟩))).run Try.prog w = .ok (.agg m.g.cells) w := by
  have := run_loadAt_mid (P := Try.prog) w b 31 RT m.g.cells.toList _ (fun j v hv => h.cell (31 + j) v (by
    rw [m.tl]
    have hj : j < 4 := (List.getElem?_eq_some_iff.1 hv).1
    rcases (by omega : j = 0 ∨ j = 1 ∨ j = 2 ∨ j = 3) with rfl | rfl | rfl | rfl <;> exact hv)) Try.underlying63 rfl (by rw [infoG]; rfl)
  simpa [ldG] using this
theorem stG_qt {w : World} {b : Nat} {m : Qt} (r : Rf) (h : Blk w b m.cells QT) : (stG (.pointer (some ⟨b, 31, none⟩)) (.agg r.cells)).run Try.prog w = .ok () (w.setCells b 31 r.cells.toList) :=
  run_storeAt_mid (P := Try.prog) w b 31 RT r.cells (fun j hj => by
    have hj' : j < 4 := hj
    refine ⟨?_, h.free _⟩
    have : ∃ v, m.cells[31 + j]? = some v := by
      rw [m.tl]
      rcases (by omega : j = 0 ∨ j = 1 ∨ j = 2 ∨ j = 3) with rfl | rfl | rfl | rfl <;> exact ⟨_, rfl⟩
    obtain ⟨v, hv⟩ := this
    rw [h.cell _ _ hv]
    rfl) (by rw [infoG]; rfl) (by simp [Rf.cells, Value.oneCell'])
theorem stG_blk {w : World} {b : Nat} {m : Qt} (r : Rf) (h : Blk w b m.cells QT) : Blk (w.setCells b 31 r.cells.toList) b (Qt.cells ⟨m.works, m.x, r, m.half, m.came, m.value, m.failed⟩) QT := by
  rw [← m.p_g r]
  exact ((((h.set 31 _).set 32 _).set 33 _).set 34 _)
theorem setCells_only (b : Nat) : ∀ (vs : List Value) (o : Nat) (w : World), Only b w (w.setCells b o vs)
  | [], o, w => Only.refl b w
  | v :: vs, o, w => by
    rw [setCells_cons]
    exact ((Only.refl b w).set o v).trans (setCells_only b vs (o + 1) _)
noncomputable def bdQ (l : Array (Nat × Value)) : Sem Value := Instr.build QT l
theorem bdQ_in (l : Array (Nat × Value)) : Instr.build QT l = bdQ l := rfl
theorem bdQ_none (w : World) : (bdQ #[]).run Try.prog w = .ok (Qt.rest 0).val w := by kernel_rfl
theorem bdQ_failed (f : Int) (w : World) : (bdQ #[(6, .int .i64 f)]).run Try.prog w = .ok (Qt.rest f).val w := by kernel_rfl
theorem bdQ_30 (a b c d : Int) (x0 x1 x2 x3 x4 x5 x6 x7 x8 x9 x10 x11 x12 x13 x14 x15 x16 x17 x18 x19 x20 x21 x22 x23 x24 x25 x26 x27 x28 x29 : Int) (w : World) : (bdQ #[(0, .bool true), (1, .agg #[.int .i64 x0, .int .i64 x1, .int .i64 x2, .int .i64 x3, .int .i64 x4, .int .i64 x5, .int .i64 x6, .int .i64 x7, .int .i64 x8, .int .i64 x9, .int .i64 x10, .int .i64 x11, .int .i64 x12, .int .i64 x13, .int .i64 x14, .int .i64 x15, .int .i64 x16, .int .i64 x17, .int .i64 x18, .int .i64 x19, .int .i64 x20, .int .i64 x21, .int .i64 x22, .int .i64 x23, .int .i64 x24, .int .i64 x25, .int .i64 x26, .int .i64 x27, .int .i64 x28, .int .i64 x29]), (2, .agg #[.int .i64 a, .int .i64 b, .int .i64 c, .int .i64 d])]).run Try.prog w = .ok (.agg #[.bool true, .int .i64 x0, .int .i64 x1, .int .i64 x2, .int .i64 x3, .int .i64 x4, .int .i64 x5, .int .i64 x6, .int .i64 x7, .int .i64 x8, .int .i64 x9, .int .i64 x10, .int .i64 x11, .int .i64 x12, .int .i64 x13, .int .i64 x14, .int .i64 x15, .int .i64 x16, .int .i64 x17, .int .i64 x18, .int .i64 x19, .int .i64 x20, .int .i64 x21, .int .i64 x22, .int .i64 x23, .int .i64 x24, .int .i64 x25, .int .i64 x26, .int .i64 x27, .int .i64 x28, .int .i64 x29, .int .i64 a, .int .i64 b, .int .i64 c, .int .i64 d, .bool false, .string (mkS []), .string (mkS []), .int .i64 0]) w := by
  kernel_rfl
theorem bdQ_v (w : World) (c : Ch) (r : Rf) : (bdQ #[(0, .bool true), (1, c.val), (2, .agg r.cells)]).run Try.prog w = .ok (Qt.val ⟨true, c, r, false, [], [], 0⟩) w := by
  obtain ⟨x0, x1, x2, x3, x4, x5, x6, x7, x8, x9, x10, x11, x12, x13, x14, x15, x16, x17, x18, x19, x20, x21, x22, x23, x24, x25, x26, x27, x28, x29, h, rfl⟩ := c.form
  obtain ⟨a, b, c, d⟩ := r
  exact bdQ_30 a b c d x0 x1 x2 x3 x4 x5 x6 x7 x8 x9 x10 x11 x12 x13 x14 x15 x16 x17 x18 x19 x20 x21 x22 x23 x24 x25 x26 x27 x28 x29 w
theorem res_qt {fn : Func} {p q : Tmp} {tmps : Array Value} {w : World} {b : Nat} {m : Qt} {v : Value} (h : fn.results = #[.cell p QT, .tmp q]) (hp : tmps.getD p undef = .pointer (some ⟨b, 0, none⟩)) (hq : tmps.getD q undef = v) (hb : Blk w b m.cells QT) : (results fn tmps).run Try.prog w = .ok (.tuple #[m.val, v]) w := by
  have hp' : tmps[p]?.getD undef = .pointer (some ⟨b, 0, none⟩) := by simpa using hp
  have hq' : tmps[q]?.getD undef = v := by simpa using hq
  have hl : (loadVar QT ⟨b, 0, none⟩).run Try.prog w = .ok (.agg m.cells) w := run_loadVar_row w b QT QT m.cells (0, 0) _ hb Try.underlying65 rfl (by rw [infoQ, m.size])
  simp [results, h, hp', hq', asAddr, hl, Qt.val]
theorem res_qt3 {fn : Func} {p q r : Tmp} {tmps : Array Value} {w : World} {b : Nat} {m : Qt} {v u : Value} (h : fn.results = #[.cell p QT, .tmp q, .tmp r]) (hp : tmps.getD p undef = .pointer (some ⟨b, 0, none⟩)) (hq : tmps.getD q undef = v) (hr : tmps.getD r undef = u) (hb : Blk w b m.cells QT) : (results fn tmps).run Try.prog w = .ok (.tuple #[m.val, v, u]) w := by
  have hp' : tmps[p]?.getD undef = .pointer (some ⟨b, 0, none⟩) := by simpa using hp
  have hq' : tmps[q]?.getD undef = v := by simpa using hq
  have hr' : tmps[r]?.getD undef = u := by simpa using hr
  have hl : (loadVar QT ⟨b, 0, none⟩).run Try.prog w = .ok (.agg m.cells) w := run_loadVar_row w b QT QT m.cells (0, 0) _ hb Try.underlying65 rfl (by rw [infoQ, m.size])
  simp [results, h, hp', hq', hr', asAddr, hl, Qt.val]

end Go.Proofs.Ytocogmboocjjaaa
