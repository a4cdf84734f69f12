/- Lines (eight bytes) as whole values: words for walks. -/
import Derived.Test.YtpdomjinhbnmfaaEq
import Derived.Test.YtpdomjinhbnmfaaBytext
import Derived.Test.YtpdomjinhbnmfaaOwnR
import Derived.Test.YtpdomjinhbnmfaaOrd
import Derived.Deep.MidRow
import Derived.Laws.Tables
import Derived.Laws.CopyOwn
import Derived.Laws.IdiomStrings
import Derived.Laws.BytesArg
import Derived.Deep.RegionWith
set_option linter.unusedSimpArgs false
set_option linter.unusedVariables false
set_option linter.unnecessarySimpa false
set_option maxRecDepth 100000
namespace Go.Proofs.Ytpdomjinhbnmfaa
open Go.RowKit Go.Proofs.YtpdomjinhbnmfaaW.PrintWords

abbrev LT : TypeId := 55
abbrev LR : TypeId := 29
structure Ln where
  l : List Int
  h : l.length = 8
def Ln.at (c : Ln) (j : Nat) : Int := c.l.getD j 0
def Ln.cells (c : Ln) : Array Value := (c.l.map (Value.int .u8)).toArray
def Ln.val (c : Ln) : Value := .agg c.cells
def Ln.zero : Ln := ⟨[0, 0, 0, 0, 0, 0, 0, 0], rfl⟩
def lnEq (a b : Ln) : Bool := decide (a.l = b.l)
theorem lnEq_refl (a : Ln) : lnEq a a = true := by simp [lnEq]
theorem Ln.ext {a b : Ln} (h : a.l = b.l) : a = b := by
  cases a
  cases b
  cases h
  rfl
theorem Ln.spell (c : Ln) : c.l = [c.l.getD 0 0, c.l.getD 1 0, c.l.getD 2 0, c.l.getD 3 0, c.l.getD 4 0, c.l.getD 5 0, c.l.getD 6 0, c.l.getD 7 0] := by
  have h := c.h
  refine List.ext_getElem (by rw [h]; rfl) (fun i h1 h2 => ?_)
  have e : c.l[i] = c.l.getD i 0 := by rw [List.getD_eq_getElem?_getD, List.getElem?_eq_getElem h1]; rfl
  rw [e]
  have : i < 8 := by omega
  rcases (by omega : i = 0 ∨ i = 1 ∨ i = 2 ∨ i = 3 ∨ i = 4 ∨ i = 5 ∨ i = 6 ∨ i = 7) with rfl | rfl | rfl | rfl | rfl | rfl | rfl | rfl <;> rfl
theorem Ln.size (c : Ln) : c.cells.size = 8 := by simp [Ln.cells, c.h]
theorem Ln.one (c : Ln) : c.cells.all (·.oneCell') = true := by
  rw [Array.all_eq_true_iff_forall_mem]
  intro x hx
  simp only [Ln.cells, List.mem_toArray, List.mem_map] at hx
  obtain ⟨a, _, rfl⟩ := hx
  rfl
theorem Ln.cell (c : Ln) {j : Nat} (hj : j < 8) : c.cells[j]? = some (.int .u8 (c.at j)) := by
  have : j < c.l.length := by rw [c.h]; exact hj
  simp [Ln.cells, Ln.at, List.getD_eq_getElem?_getD, List.getElem?_eq_getElem this]
theorem infoLT : (Try.prog.info? LT).map (·.size) = some 8 := by kernel_rfl
theorem infoLT8 : (Try.prog.info? U8).map (·.size) = some 1 := by kernel_rfl
theorem run_eq_ln (a0 a1 a2 a3 a4 a5 a6 a7 b0 b1 b2 b3 b4 b5 b6 b7 : Int) (w : World) :
    (Op.equalIn 10000 LT (.agg #[.int .u8 a0, .int .u8 a1, .int .u8 a2, .int .u8 a3, .int .u8 a4, .int .u8 a5, .int .u8 a6, .int .u8 a7]) (.agg #[.int .u8 b0, .int .u8 b1, .int .u8 b2, .int .u8 b3, .int .u8 b4, .int .u8 b5, .int .u8 b6, .int .u8 b7])).run Try.prog w =
      .ok (a0 == b0 && (a1 == b1 && (a2 == b2 && (a3 == b3 && (a4 == b4 && (a5 == b5 && (a6 == b6 && (a7 == b7 && true)))))))) w := by
  cases hi : Try.prog.info? U8 with
  | none => have := infoLT8; rw [hi] at this; cases this
  | some i =>
    rw [run_equalIn_array w 9999 _ _ Try.underlying55 hi, (by kernel_rfl : Try.prog.cellsOf U8 = 1), (by decide : List.range 8 = [0, 1, 2, 3, 4, 5, 6, 7])]
    exact (eqI_cons (by kernel_rfl) (by kernel_rfl) (run_equalIn_int w _ _ .u8 _ _ _ Try.underlying5) (eqI_cons (by kernel_rfl) (by kernel_rfl) (run_equalIn_int w _ _ .u8 _ _ _ Try.underlying5) (eqI_cons (by kernel_rfl) (by kernel_rfl) (run_equalIn_int w _ _ .u8 _ _ _ Try.underlying5) (eqI_cons (by kernel_rfl) (by kernel_rfl) (run_equalIn_int w _ _ .u8 _ _ _ Try.underlying5) (eqI_cons (by kernel_rfl) (by kernel_rfl) (run_equalIn_int w _ _ .u8 _ _ _ Try.underlying5) (eqI_cons (by kernel_rfl) (by kernel_rfl) (run_equalIn_int w _ _ .u8 _ _ _ Try.underlying5) (eqI_cons (by kernel_rfl) (by kernel_rfl) (run_equalIn_int w _ _ .u8 _ _ _ Try.underlying5) (eqI_cons (by kernel_rfl) (by kernel_rfl) (run_equalIn_int w _ _ .u8 _ _ _ Try.underlying5) eqI_nil))))))))
theorem eqb_ln (a0 a1 a2 a3 a4 a5 a6 a7 b0 b1 b2 b3 b4 b5 b6 b7 : Int) : (a0 == b0 && (a1 == b1 && (a2 == b2 && (a3 == b3 && (a4 == b4 && (a5 == b5 && (a6 == b6 && (a7 == b7 && true)))))))) = decide ([a0, a1, a2, a3, a4, a5, a6, a7] = [b0, b1, b2, b3, b4, b5, b6, b7]) := by
  rw [Bool.eq_iff_iff]
  simp only [Bool.and_eq_true, beq_iff_eq, and_true, decide_eq_true_iff, List.cons.injEq, and_assoc]
theorem Ln.val_spell (c : Ln) : c.val = .agg #[.int .u8 (c.l.getD 0 0), .int .u8 (c.l.getD 1 0), .int .u8 (c.l.getD 2 0), .int .u8 (c.l.getD 3 0), .int .u8 (c.l.getD 4 0), .int .u8 (c.l.getD 5 0), .int .u8 (c.l.getD 6 0), .int .u8 (c.l.getD 7 0)] := by
  unfold Ln.val Ln.cells
  have h := c.spell
  generalize c.l.getD 0 0 = x0 at *
  generalize c.l.getD 1 0 = x1 at *
  generalize c.l.getD 2 0 = x2 at *
  generalize c.l.getD 3 0 = x3 at *
  generalize c.l.getD 4 0 = x4 at *
  generalize c.l.getD 5 0 = x5 at *
  generalize c.l.getD 6 0 = x6 at *
  generalize c.l.getD 7 0 = x7 at *
  rw [h]
  rfl
theorem eq_ln (a b : Ln) (w : World) : (Op.equalIn 10000 LT a.val b.val).run Try.prog w = .ok (lnEq a b) w := by
  have h := run_eq_ln (a.l.getD 0 0) (a.l.getD 1 0) (a.l.getD 2 0) (a.l.getD 3 0) (a.l.getD 4 0) (a.l.getD 5 0) (a.l.getD 6 0) (a.l.getD 7 0) (b.l.getD 0 0) (b.l.getD 1 0) (b.l.getD 2 0) (b.l.getD 3 0) (b.l.getD 4 0) (b.l.getD 5 0) (b.l.getD 6 0) (b.l.getD 7 0) w
  rw [eqb_ln] at h
  rw [a.val_spell, b.val_spell]
  unfold lnEq
  rw [a.spell, b.spell]
  exact h

noncomputable def ldL (p : Value) : Sem Value := Instr.loadAt LT p
noncomputable def ldLV (p : Addr) : Sem Value := loadVar LT p
noncomputable def bxL (v : Value) : Sem Value := Instr.box LT v
noncomputable def stL (p v : Value) : Sem Unit := Instr.storeAt LT p v
noncomputable def alL : Sem Value := Instr.alloc LT true (.tuple #[])
noncomputable def bdL (l : Array (Nat × Value)) : Sem Value := Instr.build LT l
theorem ldL_in (p : Value) : Instr.loadAt LT p = ldL p := rfl
theorem bxL_in (v : Value) : Instr.box LT v = bxL v := rfl
theorem stL_in (p v : Value) : Instr.storeAt LT p v = stL p v := rfl
theorem alL_in : Instr.alloc LT true (.tuple #[]) = alL := rfl
theorem bdL_in (l : Array (Nat × Value)) : Instr.build LT l = bdL l := rfl
theorem alL_v (w : World) : alL.run Try.prog w = .ok (.pointer (some ⟨w.heap.size, 0, none⟩)) (w.alloc (.cells Ln.zero.cells LT)) := by kernel_rfl
theorem bdL_none (w : World) : (bdL #[]).run Try.prog w = .ok Ln.zero.val w := by kernel_rfl
theorem bdL_one (n : Int) (w : World) : (bdL #[(0, .int .u8 n)]).run Try.prog w = .ok (Ln.val ⟨[n, 0, 0, 0, 0, 0, 0, 0], rfl⟩) w := by kernel_rfl
theorem bxL_ln (w : World) (c : Ln) : (bxL c.val).run Try.prog w = .ok (.pointer (some ⟨w.heap.size, 0, none⟩)) (w.alloc (.cells c.cells LT)) := rfl
theorem ldL_mid {w : World} {b o : Nat} {c : Ln} (h : w.rangeAt b o c.cells.toList) : (ldL (.pointer (some ⟨b, o, none⟩))).run Try.prog w = .ok c.val w := by
  have := run_loadAt_mid (P := Try.prog) w b o LT c.cells.toList _ h Try.underlying55 rfl (by rw [infoLT, Array.length_toList, c.size])
  simpa [ldL, Ln.val] using this
theorem ldL_blk {w : World} {b : Nat} {c : Ln} (h : Blk w b c.cells LT) : (ldL (.pointer (some ⟨b, 0, none⟩))).run Try.prog w = .ok c.val w :=
  ldL_mid (fun j v hv => by rw [Nat.zero_add]; exact h.cell j v (by simpa using hv))
theorem Blk.lnat {w : World} {b : Nat} {c : Ln} (h : Blk w b c.cells LT) {j : Nat} (hj : j < 8) : w.cell? ⟨b, j, none⟩ = some (.int .u8 (c.at j)) := h.cell j _ (c.cell hj)
def LB (w : World) (b : Nat) : Prop := ∃ m : Ln, Blk w b m.cells LT
def putL (w : World) (b : Nat) (m : Ln) : World := w.setRow b m.cells
theorem stL_put (w : World) (b : Nat) (m : Ln) (h : LB w b) : (stL (.pointer (some ⟨b, 0, none⟩)) m.val).run Try.prog w = .ok () (putL w b m) := by
  obtain ⟨g, h⟩ := h
  have hs := run_storeVar_row (P := Try.prog) w b LT LT g.cells m.cells h (by rw [infoLT, m.size]) (by rw [g.size, m.size]) m.one
  unfold stL
  simp only [Instr.storeAt, Instr.sureAddr, Sem.run_bind, Sem.run_pure, Result.andThen_ok]
  exact hs
theorem putL_blk {w : World} {b : Nat} (m : Ln) (h : LB w b) : Blk (putL w b m) b m.cells LT := by
  obtain ⟨g, h⟩ := h
  exact setRow_heap w b _ _ _ _ h
theorem putL_only (w : World) (b : Nat) (m : Ln) : Only b w (putL w b m) :=
  ⟨rfl, rfl, rfl, by simp [putL, World.setRow], fun k _ hb => by
    show (w.heap.modify b _)[k]? = _
    rw [Array.getElem?_modify, if_neg (fun e => hb e.symm)]⟩
theorem lnguard_eq (x y : Operand) (a b : Ln) (w : World) : (eqGuard .eql LT x y a.val b.val).run Try.prog w = .ok () w := by
  show (eqGuard .eql LT x y (.agg a.cells) (.agg b.cells)).run Try.prog w = .ok () w
  simp [eqGuard, Try.eqGuardType55]
theorem lnguard_ne (x y : Operand) (a b : Ln) (w : World) : (eqGuard .neq LT x y a.val b.val).run Try.prog w = .ok () w := by
  show (eqGuard .neq LT x y (.agg a.cells) (.agg b.cells)).run Try.prog w = .ok () w
  simp [eqGuard, Try.eqGuardType55]
theorem lnbin_eq (a b : Ln) (w : World) : (binOp .eql LT a.val b.val).run Try.prog w = .ok (.bool (lnEq a b)) w := by
  have e : binOp .eql LT a.val b.val = (do pure (.bool (← Op.equal LT a.val b.val))) := rfl
  rw [e]
  simp [Op.equal, Op.maxDepth, eq_ln]
theorem lnbin_ne (a b : Ln) (w : World) : (binOp .neq LT a.val b.val).run Try.prog w = .ok (.bool (!lnEq a b)) w := by
  have e : binOp .neq LT a.val b.val = (do pure (.bool (!(← Op.equal LT a.val b.val)))) := rfl
  rw [e]
  simp [Op.equal, Op.maxDepth, eq_ln]
/-- Results that are a line and a reason. -/
theorem res_ln2 {fn : Func} {p q : Tmp} {tmps : Array Value} {w : World} {b : Nat} {f : Ln} {v : Value} (h : fn.results = #[.cell p LT, .tmp q]) (hp : tmps.getD p undef = .pointer (some ⟨b, 0, none⟩)) (hq : tmps.getD q undef = v) (hb : Blk w b f.cells LT) : (results fn tmps).run Try.prog w = .ok (.tuple #[f.val, v]) w := by
  have hp' : tmps[p]?.getD undef = .pointer (some ⟨b, 0, none⟩) := by simpa using hp
  have hq' : tmps[q]?.getD undef = v := by simpa using hq
  have hl : (loadVar LT ⟨b, 0, none⟩).run Try.prog w = .ok (.agg f.cells) w := run_loadVar_row w b LT LT f.cells (0, 0) _ hb Try.underlying55 rfl (by rw [infoLT, f.size])
  simp [results, h, hp', hq', asAddr, hl, Ln.val]
/-- A row of bytes as a text. -/
noncomputable def cvS (v : Value) : Sem Value := convert 22 9 v
theorem cvS_in (v : Value) : convert 22 9 v = cvS v := rfl
theorem Bs.str {w : World} {v : Value} {l : List Int} (h : Bs w v l) : (cvS v).run Try.prog w = .ok (.string (mkS l)) w := by
  obtain ⟨A, bl, o, c, rfl, hlc, hrow, hb⟩ := h
  unfold cvS
  by_cases h0 : l.length = 0
  · have : l = [] := List.eq_nil_of_length_eq_zero h0
    subst this
    rcases A with _ | a
    · exact run_convert_bytes_nil w 22 U8 Try.underlying22 Try.underlying5 0 c 9 Try.underlying9
    · exact run_convert_bytes_back (P := Try.prog) w 22 9 U8 a c [] Try.underlying22 Try.underlying5 Try.underlying9 (fun j hj => absurd hj (by simp))
  · obtain ⟨rfl, hbl⟩ := hrow.2.1 (by omega)
    have hl : (u8s l).length = l.length := by simp [u8s]
    have := run_convert_bytes_back (P := Try.prog) w 22 9 U8 ⟨bl, o, none⟩ c (u8s l) Try.underlying22 Try.underlying5 Try.underlying9 (fun j hj => by
      rw [hl] at hj
      rw [Go.Proofs.Ytpdomjinhbnmfaa.add_plain, hrow.2.2 j hj]
      have hx := hb (l.getD j 0) (by rw [getD_at hj]; exact List.getElem_mem _)
      have : (u8s l)[j] = (l.getD j 0).toNat.toUInt8 := by rw [getD_at hj]; simp [u8s]
      rw [this, u8_back hx.1 hx.2])
    rw [hl] at this
    exact this
theorem Bs.form {w : World} {v : Value} {l : List Int} (h : Bs w v l) : ∃ A c, v = .slice A l.length c := by
  obtain ⟨A, bl, o, c, rfl, _⟩ := h
  exact ⟨A, c, rfl⟩
/-- Rows of lines. -/
def lnLay : Lay Ln := ⟨LT, LR, 8, 8, Ln.zero.val, fun a => a.l.map (Value.int .u8), fun a => by simp [a.h], fun a u hu => by obtain ⟨x, _, rfl⟩ := List.mem_map.1 hu; rfl, Try.underlying29, by kernel_rfl, rfl, by decide, by decide⟩

end Go.Proofs.Ytpdomjinhbnmfaa
