/- cons.Taker as a whole record: words; what a taker is in memory; takes. -/
import Derived.Test.YtocogmboocjjaaaPSize
import Derived.Test.YtocogmboocjjaaaPair3
import Derived.Test.YtocogmboocjjaaaGrd
import Derived.Deep.MidRow
set_option linter.unusedSimpArgs false
set_option linter.unusedVariables false
set_option linter.unnecessarySimpa false
namespace Go.Proofs.Ytocogmboocjjaaa
open Go.RowKit Go.Proofs.YtocogmboocjjaaaW.PrintWords

def Ch.zero : Ch := ⟨List.replicate 30 0, rfl⟩
theorem Ch.form (c : Ch) : ∃ x0 x1 x2 x3 x4 x5 x6 x7 x8 x9 x10 x11 x12 x13 x14 x15 x16 x17 x18 x19 x20 x21 x22 x23 x24 x25 x26 x27 x28 x29, ∃ h, c = ⟨[x0, x1, x2, x3, x4, x5, x6, x7, x8, x9, x10, x11, x12, x13, x14, x15, x16, x17, x18, x19, x20, x21, x22, x23, x24, x25, x26, x27, x28, x29], h⟩ :=
  ⟨c.l.getD 0 0, c.l.getD 1 0, c.l.getD 2 0, c.l.getD 3 0, c.l.getD 4 0, c.l.getD 5 0, c.l.getD 6 0, c.l.getD 7 0, c.l.getD 8 0, c.l.getD 9 0, c.l.getD 10 0, c.l.getD 11 0, c.l.getD 12 0, c.l.getD 13 0, c.l.getD 14 0, c.l.getD 15 0, c.l.getD 16 0, c.l.getD 17 0, c.l.getD 18 0, c.l.getD 19 0, c.l.getD 20 0, c.l.getD 21 0, c.l.getD 22 0, c.l.getD 23 0, c.l.getD 24 0, c.l.getD 25 0, c.l.getD 26 0, c.l.getD 27 0, c.l.getD 28 0, c.l.getD 29 0, rfl, Ch.ext c.spell⟩
abbrev TT : TypeId := 77
abbrev WT : TypeId := 75
structure Tr where
  c : Option Addr
  g : Option Addr
  x : Ch
  works : Bool
  failed : Int
def Tr.cells (m : Tr) : Array Value := (.pointer m.c :: .pointer m.g :: (m.x.l.map (Value.int .i64) ++ [.bool m.works, .int .i64 m.failed])).toArray
def Tr.val (m : Tr) : Value := .agg m.cells
def Tr.rest (f : Int) : Tr := ⟨none, none, Ch.zero, false, f⟩
theorem Tr.size (m : Tr) : m.cells.size = 34 := by simp [Tr.cells, m.x.h]
theorem one_ints (l : List Int) : ∀ x ∈ l.map (Value.int .i64), x.oneCell' = true := by
  intro x hx
  obtain ⟨a, _, rfl⟩ := List.mem_map.1 hx
  rfl
theorem Tr.one (m : Tr) : m.cells.all (·.oneCell') = true := by
  rw [Array.all_eq_true_iff_forall_mem]
  intro x hx
  simp only [Tr.cells, List.mem_toArray, List.mem_cons, List.mem_append, List.not_mem_nil, or_false] at hx
  rcases hx with rfl | rfl | hx | rfl | rfl
  · rfl
  · rfl
  · exact one_ints _ x hx
  · rfl
  · rfl
theorem Tr.c0 (m : Tr) : m.cells[0]? = some (.pointer m.c) := rfl
theorem Tr.c1 (m : Tr) : m.cells[1]? = some (.pointer m.g) := rfl
theorem Tr.c32 (m : Tr) : m.cells[32]? = some (.bool m.works) := by
  simp only [Tr.cells, List.getElem?_toArray, List.getElem?_cons_succ]
  rw [List.getElem?_append_right (by simp [m.x.h])]
  simp [m.x.h]
theorem Tr.c33 (m : Tr) : m.cells[33]? = some (.int .i64 m.failed) := by
  simp only [Tr.cells, List.getElem?_toArray, List.getElem?_cons_succ]
  rw [List.getElem?_append_right (by simp [m.x.h])]
  simp [m.x.h]
theorem Tr.cx (m : Tr) {j : Nat} (hj : j < 30) : m.cells[2 + j]? = some (.int .i64 (m.x.at j)) := by
  have h := m.x.cell hj
  rw [Nat.add_comm]
  simp only [Tr.cells, List.getElem?_toArray, List.getElem?_cons_succ]
  rw [List.getElem?_append_left (by simp [m.x.h, hj])]
  simpa [Ch.cells] using h

noncomputable def ldT (p : Value) : Sem Value := Instr.loadAt TT p
noncomputable def bxT (v : Value) : Sem Value := Instr.box TT v
noncomputable def stT (p v : Value) : Sem Unit := Instr.storeAt TT p v
noncomputable def alT : Sem Value := Instr.alloc TT true (.tuple #[])
theorem ldT_in (p : Value) : Instr.loadAt TT p = ldT p := rfl
theorem bxT_in (v : Value) : Instr.box TT v = bxT v := rfl
theorem stT_in (p v : Value) : Instr.storeAt TT p v = stT p v := rfl
theorem alT_in : Instr.alloc TT true (.tuple #[]) = alT := rfl
theorem infoT : (Try.prog.info? TT).map (·.size) = some 34 := by kernel_rfl
theorem bxT_v (w : World) (m : Tr) : (bxT m.val).run Try.prog w = .ok (.pointer (some ⟨w.heap.size, 0, none⟩)) (w.alloc (.cells m.cells TT)) := rfl
theorem alT_v (w : World) : alT.run Try.prog w = .ok (.pointer (some ⟨w.heap.size, 0, none⟩)) (w.alloc (.cells (Tr.rest 0).cells TT)) := by kernel_rfl
theorem ldT_blk {w : World} {b : Nat} {m : Tr} (h : Blk w b m.cells TT) : (ldT (.pointer (some ⟨b, 0, none⟩))).run Try.prog w = .ok m.val w := by
  have := run_loadAt_mid (P := Try.prog) w b 0 TT m.cells.toList _ (fun j v hv => by rw [Nat.zero_add]; exact h.cell j v (by simpa using hv)) Try.underlying77 rfl (by rw [infoT, Array.length_toList, m.size])
  simpa [ldT, Tr.val] using this
def TB (w : World) (b : Nat) : Prop := ∃ m : Tr, Blk w b m.cells TT
def putT (w : World) (b : Nat) (m : Tr) : World := w.setRow b m.cells
theorem stT_put (w : World) (b : Nat) (m : Tr) (h : TB w b) : (stT (.pointer (some ⟨b, 0, none⟩)) m.val).run Try.prog w = .ok () (putT w b m) := by
  obtain ⟨g, h⟩ := h
  have hs := run_storeVar_row (P := Try.prog) w b TT TT g.cells m.cells h (by rw [infoT, m.size]) (by rw [g.size, m.size]) m.one
  unfold stT
  simp only [Instr.storeAt, Instr.sureAddr, Sem.run_bind, Sem.run_pure, Result.andThen_ok]
  exact hs
theorem putT_blk {w : World} {b : Nat} (m : Tr) (h : TB w b) : Blk (putT w b m) b m.cells TT := by
  obtain ⟨g, h⟩ := h
  exact setRow_heap w b _ _ _ _ h
theorem putT_only (w : World) (b : Nat) (m : Tr) : Only b w (putT w b m) :=
  ⟨rfl, rfl, rfl, by simp [putT, World.setRow], fun k _ hb => by
    show (w.heap.modify b _)[k]? = _
    rw [Array.getElem?_modify, if_neg (fun e => hb e.symm)]⟩
theorem stT_new (w : World) (m g : Tr) : (stT (.pointer (some ⟨w.heap.size, 0, none⟩)) m.val).run Try.prog (w.alloc (.cells g.cells TT)) = .ok () (w.alloc (.cells m.cells TT)) := by
  rw [stT_put _ _ _ ⟨g, Blk.new w g.cells TT⟩]
  unfold putT
  rw [set_row_last]
theorem ldC_tr {w : World} {b : Nat} {m : Tr} (h : Blk w b m.cells TT) : (ldC (.pointer (some ⟨b, 2, none⟩))).run Try.prog w = .ok m.x.val w :=
  ldC_mid (fun j v hv => by
    have hj : j < 30 := by have := (List.getElem?_eq_some_iff.1 hv).1; rw [Array.length_toList, m.x.size] at this; exact this
    have h1 := m.x.cell hj
    rw [Array.getElem?_toList] at hv
    rw [h1] at hv
    injection hv with hv
    subst hv
    exact h.cell _ _ (m.cx hj))
noncomputable def bdT (l : Array (Nat × Value)) : Sem Value := Instr.build TT l
theorem bdT_in (l : Array (Nat × Value)) : Instr.build TT l = bdT l := rfl
theorem bdT_none (w : World) : (bdT #[]).run Try.prog w = .ok (Tr.rest 0).val w := by kernel_rfl
theorem bdT_failed (f : Int) (w : World) : (bdT #[(3, .int .i64 f)]).run Try.prog w = .ok (Tr.rest f).val w := by kernel_rfl
theorem bdT_30 (p q : Option Addr) (x0 x1 x2 x3 x4 x5 x6 x7 x8 x9 x10 x11 x12 x13 x14 x15 x16 x17 x18 x19 x20 x21 x22 x23 x24 x25 x26 x27 x28 x29 : Int) (w : World) : (bdT #[(0, .agg #[.pointer p, .pointer q]), (1, .agg #[.int .i64 x0, .int .i64 x1, .int .i64 x2, .int .i64 x3, .int .i64 x4, .int .i64 x5, .int .i64 x6, .int .i64 x7, .int .i64 x8, .int .i64 x9, .int .i64 x10, .int .i64 x11, .int .i64 x12, .int .i64 x13, .int .i64 x14, .int .i64 x15, .int .i64 x16, .int .i64 x17, .int .i64 x18, .int .i64 x19, .int .i64 x20, .int .i64 x21, .int .i64 x22, .int .i64 x23, .int .i64 x24, .int .i64 x25, .int .i64 x26, .int .i64 x27, .int .i64 x28, .int .i64 x29]), (2, .bool true)]).run Try.prog w = .ok (.agg #[.pointer p, .pointer q, .int .i64 x0, .int .i64 x1, .int .i64 x2, .int .i64 x3, .int .i64 x4, .int .i64 x5, .int .i64 x6, .int .i64 x7, .int .i64 x8, .int .i64 x9, .int .i64 x10, .int .i64 x11, .int .i64 x12, .int .i64 x13, .int .i64 x14, .int .i64 x15, .int .i64 x16, .int .i64 x17, .int .i64 x18, .int .i64 x19, .int .i64 x20, .int .i64 x21, .int .i64 x22, .int .i64 x23, .int .i64 x24, .int .i64 x25, .int .i64 x26, .int .i64 x27, .int .i64 x28, .int .i64 x29, .bool true, .int .i64 0]) w := by
  kernel_rfl
theorem bdT_v (w : World) (p q : Option Addr) (c : Ch) : (bdT #[(0, .agg #[.pointer p, .pointer q]), (1, c.val), (2, .bool true)]).run Try.prog w = .ok (Tr.val ⟨p, q, c, true, 0⟩) w := by
  obtain ⟨x0, x1, x2, x3, x4, x5, x6, x7, x8, x9, x10, x11, x12, x13, x14, x15, x16, x17, x18, x19, x20, x21, x22, x23, x24, x25, x26, x27, x28, x29, h, rfl⟩ := c.form
  exact bdT_30 p q x0 x1 x2 x3 x4 x5 x6 x7 x8 x9 x10 x11 x12 x13 x14 x15 x16 x17 x18 x19 x20 x21 x22 x23 x24 x25 x26 x27 x28 x29 w
noncomputable def bdW (l : Array (Nat × Value)) : Sem Value := Instr.build WT l
theorem bdW_in (l : Array (Nat × Value)) : Instr.build WT l = bdW l := rfl
theorem bdW_v (p q : Option Addr) (w : World) : (bdW #[(0, .pointer p), (1, .pointer q)]).run Try.prog w = .ok (.agg #[.pointer p, .pointer q]) w := by kernel_rfl

/-- A taker: at rest, for a reason or none, or at work. -/
structure Ts where
  works : Bool
  x : Ch
  failed : Int
  ck : Ck
  gd : Gd
def Ts.rest (f : Int) : Ts := ⟨false, Ch.zero, f, ⟨0, false, [], []⟩, ⟨false, 0, 0, false, 0, 0⟩⟩
def TkAt (w : World) (b cb gb : Nat) (t : Ts) : Prop :=
  (t.works = true ∧ Blk w b (Tr.cells ⟨some ⟨cb, 0, none⟩, some ⟨gb, 0, none⟩, t.x, true, 0⟩) TT ∧ CkAt w cb t.ck ∧ Blk w gb t.gd.cells GT ∧ t.failed = 0 ∧ t.gd.Ok ∧ t.ck.b.length ≤ 8 ∧ t.ck.value.length ≤ 8) ∨
  (t.works = false ∧ Blk w b (Tr.cells (Tr.rest t.failed)) TT ∧ cb = b ∧ gb = b)
/-- Three blocks may turn. -/
structure O3 (b c g : Nat) (w w' : World) : Prop where
  os : w'.os = w.os
  tape : w'.tape = w.tape
  output : w'.output = w.output
  size : w.heap.size ≤ w'.heap.size
  block : ∀ k, k < w.heap.size → k ≠ b → k ≠ c → k ≠ g → w'.heap[k]? = w.heap[k]?
theorem O3.of_ext {b c g : Nat} {w w' : World} (h : Ext w w') : O3 b c g w w' := ⟨h.os, h.tape, h.output, h.size, fun k hk _ _ _ => h.block k hk⟩
theorem O3.of1 {b c g : Nat} {w w' : World} (h : Only b w w') : O3 b c g w w' := ⟨h.os, h.tape, h.output, h.size, fun k hk h1 _ _ => h.block k hk h1⟩
theorem O3.of2 {b c g : Nat} {w w' : World} (h : Only c w w') : O3 b c g w w' := ⟨h.os, h.tape, h.output, h.size, fun k hk _ h1 _ => h.block k hk h1⟩
theorem O3.of3 {b c g : Nat} {w w' : World} (h : Only g w w') : O3 b c g w w' := ⟨h.os, h.tape, h.output, h.size, fun k hk _ _ h1 => h.block k hk h1⟩
theorem O3.trans {b c g : Nat} {w1 w2 w3 : World} (h : O3 b c g w1 w2) (k : O3 b c g w2 w3) : O3 b c g w1 w3 :=
  ⟨k.os.trans h.os, k.tape.trans h.tape, k.output.trans h.output, Nat.le_trans h.size k.size, fun i hi h1 h2 h3 => (k.block i (Nat.lt_of_lt_of_le hi h.size) h1 h2 h3).trans (h.block i hi h1 h2 h3)⟩
theorem O3.below {b c g B : Nat} {w w' : World} (h : O3 b c g w w') (hb : B ≤ b) (hc : B ≤ c) (hg : B ≤ g) (hs : B ≤ w.heap.size) : Below B w w' := ⟨h.os, h.tape, h.output, h.size, fun k hk => h.block k (by omega) (by omega) (by omega) (by omega)⟩
theorem O3.ext {b c g : Nat} {a w w' : World} (k : Ext a w) (h : O3 b c g w w') (hb : a.heap.size ≤ b) (hc : a.heap.size ≤ c) (hg : a.heap.size ≤ g) : Ext a w' := Below.trans k (h.below hb hc hg k.le)
theorem Blk.only_type {w : World} {a b : Nat} {cs ds : Array Value} {t s : TypeId} (h : Blk w a cs t) (k : Blk w b ds s) (hn : t ≠ s) : a ≠ b := by
  rintro rfl
  unfold Blk at h k
  rw [h] at k
  injection k with k
  injection k with _ k _
  exact hn k
theorem CkAt.blk {w : World} {c : Nat} {s : Ck} (h : CkAt w c s) : ∃ cs, Blk w c cs KT := by
  obtain ⟨vb, vv, h1, _⟩ := h
  exact ⟨_, h1⟩
/-- What is of another kind stays whole. -/
theorem TkAt.keep {w w' : World} {b cb gb k : Nat} {t : Ts} {cs : Array Value} {s : TypeId} (h : TkAt w b cb gb t) (o : O3 b cb gb w w') (hk : Blk w k cs s) (h1 : s ≠ TT) (h2 : s ≠ KT) (h3 : s ≠ GT) : Blk w' k cs s := by
  rcases h with ⟨_, hb, hc, hg, _⟩ | ⟨_, hb, rfl, rfl⟩
  · obtain ⟨ds, hc⟩ := hc.blk
    exact (o.block k hk.lt (hk.only_type hb h1) (hk.only_type hc h2) (hk.only_type hg h3)).trans hk
  · have hn := hk.only_type hb h1
    exact (o.block k hk.lt hn hn hn).trans hk
theorem TkAt.bt {w w' : World} {b cb gb : Nat} {t : Ts} {v : Value} {l : List Int} (h : TkAt w b cb gb t) (o : O3 b cb gb w w') (hv : Bt w v l) : Bt w' v l :=
  hv.keep (fun g cs hg => h.keep o hg (by decide) (by decide) (by decide))
theorem Gd.ext {a b : World} {g : Nat} {d : Gd} (h : Blk a g d.cells GT) (k : Ext a b) : Blk b g d.cells GT := k.blk h
theorem TkAt.ext {a w : World} {b cb gb : Nat} {t : Ts} (h : TkAt a b cb gb t) (k : Ext a w) : TkAt w b cb gb t := by
  rcases h with ⟨h1, h2, h3, h4, h5⟩ | ⟨h1, h2, h3⟩
  · exact .inl ⟨h1, k.blk h2, h3.ext k, k.blk h4, h5⟩
  · exact .inr ⟨h1, k.blk h2, h3⟩
/-- Another taker's doing leaves this one. -/
theorem TkAt.far {a w : World} {b cb gb b' cb' gb' : Nat} {t : Ts} (h : TkAt a b cb gb t) (o : O3 b' cb' gb' a w) (k : (∀ g cs, Blk a g cs U8 → Blk w g cs U8))
    (h1 : b ≠ b' ∧ b ≠ cb' ∧ b ≠ gb') (h2 : cb ≠ b' ∧ cb ≠ cb' ∧ cb ≠ gb') (h3 : gb ≠ b' ∧ gb ≠ cb' ∧ gb ≠ gb') : TkAt w b cb gb t := by
  rcases h with ⟨g1, g2, ⟨vb, vv, g3, g3', g3''⟩, g4, g5⟩ | ⟨g1, g2, g3⟩
  · exact .inl ⟨g1, (o.block _ g2.lt h1.1 h1.2.1 h1.2.2).trans g2, ⟨vb, vv, (o.block _ g3.lt h2.1 h2.2.1 h2.2.2).trans g3, g3'.keep k, g3''.keep k⟩, (o.block _ g4.lt h3.1 h3.2.1 h3.2.2).trans g4, g5⟩
  · exact .inr ⟨g1, (o.block _ g2.lt h1.1 h1.2.1 h1.2.2).trans g2, g3⟩

end Go.Proofs.Ytocogmboocjjaaa
