/- Safety channels' tables as whole values: words for walks that never look into a table. -/
import Derived.Test.YtocogmboocjjaaaEq
import Derived.Deep.MidRow
import Derived.Laws.Tables
set_option linter.unusedSimpArgs false
set_option linter.unusedVariables false
set_option linter.unnecessarySimpa false
namespace Go.Proofs.Ytocogmboocjjaaa
open Go.RowKit Go.Proofs.YtocogmboocjjaaaW.PrintWords

abbrev CT : TypeId := 30
abbrev SLT : TypeId := 27
abbrev SMT : TypeId := 28

/-- A table: its thirty numbers. -/
structure Ch where
  l : List Int
  h : l.length = 30
def Ch.at (c : Ch) (j : Nat) : Int := c.l.getD j 0
def Ch.cells (c : Ch) : Array Value := (c.l.map (Value.int .i64)).toArray
def Ch.val (c : Ch) : Value := .agg c.cells
def chEq (a b : Ch) : Bool := decide (a.l = b.l)
theorem chEq_refl (a : Ch) : chEq a a = true := by simp [chEq]
theorem Ch.ext {a b : Ch} (h : a.l = b.l) : a = b := by
  cases a
  cases b
  cases h
  rfl
theorem chEq_iff {a b : Ch} : chEq a b = true ↔ a = b := by
  unfold chEq
  rw [decide_eq_true_iff]
  exact ⟨Ch.ext, fun e => by rw [e]⟩
theorem Ch.spell (c : Ch) : c.l = [c.l.getD 0 0, c.l.getD 1 0, c.l.getD 2 0, c.l.getD 3 0, c.l.getD 4 0, c.l.getD 5 0, c.l.getD 6 0, c.l.getD 7 0, c.l.getD 8 0, c.l.getD 9 0, c.l.getD 10 0, c.l.getD 11 0, c.l.getD 12 0, c.l.getD 13 0, c.l.getD 14 0, c.l.getD 15 0, c.l.getD 16 0, c.l.getD 17 0, c.l.getD 18 0, c.l.getD 19 0, c.l.getD 20 0, c.l.getD 21 0, c.l.getD 22 0, c.l.getD 23 0, c.l.getD 24 0, c.l.getD 25 0, c.l.getD 26 0, c.l.getD 27 0, c.l.getD 28 0, c.l.getD 29 0] := by
  have h := c.h
  refine List.ext_getElem (by rw [h]; rfl) (fun i h1 h2 => ?_)
  have e : c.l[i] = c.l.getD i 0 := by rw [List.getD_eq_getElem?_getD, List.getElem?_eq_getElem h1]; rfl
  rw [e]
  have : i < 30 := by omega
  rcases (by omega : i = 0 ∨ i = 1 ∨ i = 2 ∨ i = 3 ∨ i = 4 ∨ i = 5 ∨ i = 6 ∨ i = 7 ∨ i = 8 ∨ i = 9 ∨ i = 10 ∨ i = 11 ∨ i = 12 ∨ i = 13 ∨ i = 14 ∨ i = 15 ∨ i = 16 ∨ i = 17 ∨ i = 18 ∨ i = 19 ∨ i = 20 ∨ i = 21 ∨ i = 22 ∨ i = 23 ∨ i = 24 ∨ i = 25 ∨ i = 26 ∨ i = 27 ∨ i = 28 ∨ i = 29) with rfl | rfl | rfl | rfl | rfl | rfl | rfl | rfl | rfl | rfl | rfl | rfl | rfl | rfl | rfl | rfl | rfl | rfl | rfl | rfl | rfl | rfl | rfl | rfl | rfl | rfl | rfl | rfl | rfl | rfl <;> rfl
theorem Ch.size (c : Ch) : c.cells.size = 30 := by simp [Ch.cells, c.h]
theorem Ch.one (c : Ch) : c.cells.all (·.oneCell') = true := by
  rw [Array.all_eq_true_iff_forall_mem]
  intro x hx
  simp only [Ch.cells, List.mem_toArray, List.mem_map] at hx
  obtain ⟨a, _, rfl⟩ := hx
  rfl
theorem Ch.cell (c : Ch) {j : Nat} (hj : j < 30) : c.cells[j]? = some (.int .i64 (c.at j)) := by
  have : j < c.l.length := by rw [c.h]; exact hj
  simp [Ch.cells, Ch.at, List.getD_eq_getElem?_getD, List.getElem?_eq_getElem this]
theorem infoCT : (Try.prog.info? CT).map (·.size) = some 30 := by kernel_rfl

theorem run_eq_key (a s a' s' : Int) (w : World) :
    (Op.equalIn 9997 25 (.agg #[.int .i64 a, .int .i64 s]) (.agg #[.int .i64 a', .int .i64 s'])).run Try.prog w = .ok (a == a' && (s == s' && true)) w :=
  eqS Try.underlying25 (by kernel_rfl) (eqF_cons (by kernel_rfl) (by kernel_rfl) (by kernel_rfl) (run_equalIn_int w _ _ .i64 _ _ _ Try.underlying3) (eqF_cons (by kernel_rfl) (by kernel_rfl) (by kernel_rfl) (run_equalIn_int w _ _ .i64 _ _ _ Try.underlying3) eqF_nil))
theorem run_eq_slot (a s b a' s' b' : Int) (w : World) :
    (Op.equalIn 9998 SLT (.agg #[.int .i64 a, .int .i64 s, .int .i64 b]) (.agg #[.int .i64 a', .int .i64 s', .int .i64 b'])).run Try.prog w = .ok ((a == a' && (s == s' && true)) && (b == b' && true)) w :=
  eqS Try.underlying27 (by kernel_rfl) (eqF_cons (by kernel_rfl) (by kernel_rfl) (by kernel_rfl)
    (run_eq_key a s a' s' w)
    (eqF_cons (by kernel_rfl) (by kernel_rfl) (by kernel_rfl) (run_equalIn_int w _ _ .i64 _ _ _ Try.underlying3) eqF_nil))
theorem infoSL : (Try.prog.info? SLT).map (·.size) = some 3 := by kernel_rfl
theorem run_eq_map (a6 a7 a8 a9 a10 a11 a12 a13 a14 a15 a16 a17 a18 a19 a20 a21 a22 a23 a24 a25 a26 a27 a28 a29 b6 b7 b8 b9 b10 b11 b12 b13 b14 b15 b16 b17 b18 b19 b20 b21 b22 b23 b24 b25 b26 b27 b28 b29 : Int) (w : World) :
    (Op.equalIn 9999 SMT (.agg #[.int .i64 a6, .int .i64 a7, .int .i64 a8, .int .i64 a9, .int .i64 a10, .int .i64 a11, .int .i64 a12, .int .i64 a13, .int .i64 a14, .int .i64 a15, .int .i64 a16, .int .i64 a17, .int .i64 a18, .int .i64 a19, .int .i64 a20, .int .i64 a21, .int .i64 a22, .int .i64 a23, .int .i64 a24, .int .i64 a25, .int .i64 a26, .int .i64 a27, .int .i64 a28, .int .i64 a29]) (.agg #[.int .i64 b6, .int .i64 b7, .int .i64 b8, .int .i64 b9, .int .i64 b10, .int .i64 b11, .int .i64 b12, .int .i64 b13, .int .i64 b14, .int .i64 b15, .int .i64 b16, .int .i64 b17, .int .i64 b18, .int .i64 b19, .int .i64 b20, .int .i64 b21, .int .i64 b22, .int .i64 b23, .int .i64 b24, .int .i64 b25, .int .i64 b26, .int .i64 b27, .int .i64 b28, .int .i64 b29])).run Try.prog w = .ok (((a6 == b6 && (a7 == b7 && true)) && (a8 == b8 && true)) && (((a9 == b9 && (a10 == b10 && true)) && (a11 == b11 && true)) && (((a12 == b12 && (a13 == b13 && true)) && (a14 == b14 && true)) && (((a15 == b15 && (a16 == b16 && true)) && (a17 == b17 && true)) && (((a18 == b18 && (a19 == b19 && true)) && (a20 == b20 && true)) && (((a21 == b21 && (a22 == b22 && true)) && (a23 == b23 && true)) && (((a24 == b24 && (a25 == b25 && true)) && (a26 == b26 && true)) && (((a27 == b27 && (a28 == b28 && true)) && (a29 == b29 && true)) && true)))))))) w := by
  cases hi : Try.prog.info? SLT with
  | none => have := infoSL; rw [hi] at this; cases this
  | some i =>
    rw [run_equalIn_array w 9998 _ _ Try.underlying28 hi, (by kernel_rfl : Try.prog.cellsOf SLT = 3), (by decide : List.range 8 = [0, 1, 2, 3, 4, 5, 6, 7])]
    exact (eqI_cons (by kernel_rfl) (by kernel_rfl) (run_eq_slot a6 a7 a8 b6 b7 b8 w) (eqI_cons (by kernel_rfl) (by kernel_rfl) (run_eq_slot a9 a10 a11 b9 b10 b11 w) (eqI_cons (by kernel_rfl) (by kernel_rfl) (run_eq_slot a12 a13 a14 b12 b13 b14 w) (eqI_cons (by kernel_rfl) (by kernel_rfl) (run_eq_slot a15 a16 a17 b15 b16 b17 w) (eqI_cons (by kernel_rfl) (by kernel_rfl) (run_eq_slot a18 a19 a20 b18 b19 b20 w) (eqI_cons (by kernel_rfl) (by kernel_rfl) (run_eq_slot a21 a22 a23 b21 b22 b23 w) (eqI_cons (by kernel_rfl) (by kernel_rfl) (run_eq_slot a24 a25 a26 b24 b25 b26 w) (eqI_cons (by kernel_rfl) (by kernel_rfl) (run_eq_slot a27 a28 a29 b27 b28 b29 w) eqI_nil))))))))
theorem run_eq_ch (a0 a1 a2 a3 a4 a5 a6 a7 a8 a9 a10 a11 a12 a13 a14 a15 a16 a17 a18 a19 a20 a21 a22 a23 a24 a25 a26 a27 a28 a29 b0 b1 b2 b3 b4 b5 b6 b7 b8 b9 b10 b11 b12 b13 b14 b15 b16 b17 b18 b19 b20 b21 b22 b23 b24 b25 b26 b27 b28 b29 : Int) (w : World) :
    (Op.equalIn 10000 CT (.agg #[.int .i64 a0, .int .i64 a1, .int .i64 a2, .int .i64 a3, .int .i64 a4, .int .i64 a5, .int .i64 a6, .int .i64 a7, .int .i64 a8, .int .i64 a9, .int .i64 a10, .int .i64 a11, .int .i64 a12, .int .i64 a13, .int .i64 a14, .int .i64 a15, .int .i64 a16, .int .i64 a17, .int .i64 a18, .int .i64 a19, .int .i64 a20, .int .i64 a21, .int .i64 a22, .int .i64 a23, .int .i64 a24, .int .i64 a25, .int .i64 a26, .int .i64 a27, .int .i64 a28, .int .i64 a29]) (.agg #[.int .i64 b0, .int .i64 b1, .int .i64 b2, .int .i64 b3, .int .i64 b4, .int .i64 b5, .int .i64 b6, .int .i64 b7, .int .i64 b8, .int .i64 b9, .int .i64 b10, .int .i64 b11, .int .i64 b12, .int .i64 b13, .int .i64 b14, .int .i64 b15, .int .i64 b16, .int .i64 b17, .int .i64 b18, .int .i64 b19, .int .i64 b20, .int .i64 b21, .int .i64 b22, .int .i64 b23, .int .i64 b24, .int .i64 b25, .int .i64 b26, .int .i64 b27, .int .i64 b28, .int .i64 b29])).run Try.prog w = .ok (a0 == b0 && (a1 == b1 && (a2 == b2 && (a3 == b3 && (a4 == b4 && (a5 == b5 && ((((a6 == b6 && (a7 == b7 && true)) && (a8 == b8 && true)) && (((a9 == b9 && (a10 == b10 && true)) && (a11 == b11 && true)) && (((a12 == b12 && (a13 == b13 && true)) && (a14 == b14 && true)) && (((a15 == b15 && (a16 == b16 && true)) && (a17 == b17 && true)) && (((a18 == b18 && (a19 == b19 && true)) && (a20 == b20 && true)) && (((a21 == b21 && (a22 == b22 && true)) && (a23 == b23 && true)) && (((a24 == b24 && (a25 == b25 && true)) && (a26 == b26 && true)) && (((a27 == b27 && (a28 == b28 && true)) && (a29 == b29 && true)) && true)))))))) && true))))))) w :=
  eqS Try.underlying30 (by kernel_rfl) (eqF_cons (by kernel_rfl) (by kernel_rfl) (by kernel_rfl) (run_equalIn_int w _ _ .i64 _ _ _ Try.underlying23) (eqF_cons (by kernel_rfl) (by kernel_rfl) (by kernel_rfl) (run_equalIn_int w _ _ .i64 _ _ _ Try.underlying3) (eqF_cons (by kernel_rfl) (by kernel_rfl) (by kernel_rfl) (run_equalIn_int w _ _ .i64 _ _ _ Try.underlying3) (eqF_cons (by kernel_rfl) (by kernel_rfl) (by kernel_rfl) (run_equalIn_int w _ _ .i64 _ _ _ Try.underlying3) (eqF_cons (by kernel_rfl) (by kernel_rfl) (by kernel_rfl) (run_equalIn_int w _ _ .i64 _ _ _ Try.underlying3) (eqF_cons (by kernel_rfl) (by kernel_rfl) (by kernel_rfl) (run_equalIn_int w _ _ .i64 _ _ _ Try.underlying3) (eqF_cons (by kernel_rfl) (by kernel_rfl) (by kernel_rfl) (run_eq_map a6 a7 a8 a9 a10 a11 a12 a13 a14 a15 a16 a17 a18 a19 a20 a21 a22 a23 a24 a25 a26 a27 a28 a29 b6 b7 b8 b9 b10 b11 b12 b13 b14 b15 b16 b17 b18 b19 b20 b21 b22 b23 b24 b25 b26 b27 b28 b29 w) eqF_nil)))))))
theorem eqb_ch (a0 a1 a2 a3 a4 a5 a6 a7 a8 a9 a10 a11 a12 a13 a14 a15 a16 a17 a18 a19 a20 a21 a22 a23 a24 a25 a26 a27 a28 a29 b0 b1 b2 b3 b4 b5 b6 b7 b8 b9 b10 b11 b12 b13 b14 b15 b16 b17 b18 b19 b20 b21 b22 b23 b24 b25 b26 b27 b28 b29 : Int) : (a0 == b0 && (a1 == b1 && (a2 == b2 && (a3 == b3 && (a4 == b4 && (a5 == b5 && ((((a6 == b6 && (a7 == b7 && true)) && (a8 == b8 && true)) && (((a9 == b9 && (a10 == b10 && true)) && (a11 == b11 && true)) && (((a12 == b12 && (a13 == b13 && true)) && (a14 == b14 && true)) && (((a15 == b15 && (a16 == b16 && true)) && (a17 == b17 && true)) && (((a18 == b18 && (a19 == b19 && true)) && (a20 == b20 && true)) && (((a21 == b21 && (a22 == b22 && true)) && (a23 == b23 && true)) && (((a24 == b24 && (a25 == b25 && true)) && (a26 == b26 && true)) && (((a27 == b27 && (a28 == b28 && true)) && (a29 == b29 && true)) && true)))))))) && true))))))) = decide ([a0, a1, a2, a3, a4, a5, a6, a7, a8, a9, a10, a11, a12, a13, a14, a15, a16, a17, a18, a19, a20, a21, a22, a23, a24, a25, a26, a27, a28, a29] = [b0, b1, b2, b3, b4, b5, b6, b7, b8, b9, b10, b11, b12, b13, b14, b15, b16, b17, b18, b19, b20, b21, b22, b23, b24, b25, b26, b27, b28, b29]) := by
  rw [Bool.eq_iff_iff]
  simp only [Bool.and_eq_true, beq_iff_eq, and_true, decide_eq_true_iff, List.cons.injEq, and_assoc]
theorem Ch.val_spell (c : Ch) : c.val = .agg ([c.l.getD 0 0, c.l.getD 1 0, c.l.getD 2 0, c.l.getD 3 0, c.l.getD 4 0, c.l.getD 5 0, c.l.getD 6 0, c.l.getD 7 0, c.l.getD 8 0, c.l.getD 9 0, c.l.getD 10 0, c.l.getD 11 0, c.l.getD 12 0, c.l.getD 13 0, c.l.getD 14 0, c.l.getD 15 0, c.l.getD 16 0, c.l.getD 17 0, c.l.getD 18 0, c.l.getD 19 0, c.l.getD 20 0, c.l.getD 21 0, c.l.getD 22 0, c.l.getD 23 0, c.l.getD 24 0, c.l.getD 25 0, c.l.getD 26 0, c.l.getD 27 0, c.l.getD 28 0, c.l.getD 29 0].map (Value.int .i64)).toArray := by
  unfold Ch.val Ch.cells
  rw [← c.spell]
theorem eq_ch (a b : Ch) (w : World) : (Op.equalIn 10000 CT a.val b.val).run Try.prog w = .ok (chEq a b) w := by
  have h := run_eq_ch (a.l.getD 0 0) (a.l.getD 1 0) (a.l.getD 2 0) (a.l.getD 3 0) (a.l.getD 4 0) (a.l.getD 5 0) (a.l.getD 6 0) (a.l.getD 7 0) (a.l.getD 8 0) (a.l.getD 9 0) (a.l.getD 10 0) (a.l.getD 11 0) (a.l.getD 12 0) (a.l.getD 13 0) (a.l.getD 14 0) (a.l.getD 15 0) (a.l.getD 16 0) (a.l.getD 17 0) (a.l.getD 18 0) (a.l.getD 19 0) (a.l.getD 20 0) (a.l.getD 21 0) (a.l.getD 22 0) (a.l.getD 23 0) (a.l.getD 24 0) (a.l.getD 25 0) (a.l.getD 26 0) (a.l.getD 27 0) (a.l.getD 28 0) (a.l.getD 29 0) (b.l.getD 0 0) (b.l.getD 1 0) (b.l.getD 2 0) (b.l.getD 3 0) (b.l.getD 4 0) (b.l.getD 5 0) (b.l.getD 6 0) (b.l.getD 7 0) (b.l.getD 8 0) (b.l.getD 9 0) (b.l.getD 10 0) (b.l.getD 11 0) (b.l.getD 12 0) (b.l.getD 13 0) (b.l.getD 14 0) (b.l.getD 15 0) (b.l.getD 16 0) (b.l.getD 17 0) (b.l.getD 18 0) (b.l.getD 19 0) (b.l.getD 20 0) (b.l.getD 21 0) (b.l.getD 22 0) (b.l.getD 23 0) (b.l.getD 24 0) (b.l.getD 25 0) (b.l.getD 26 0) (b.l.getD 27 0) (b.l.getD 28 0) (b.l.getD 29 0) w
  rw [eqb_ch] at h
  rw [a.val_spell, b.val_spell]
  unfold chEq
  rw [a.spell, b.spell]
  exact h

/-- What a load, a store, a box of a whole table gives: words that no walk opens. -/
noncomputable def ldC (p : Value) : Sem Value := Instr.loadAt CT p
noncomputable def bxC (v : Value) : Sem Value := Instr.box CT v
noncomputable def stC (p v : Value) : Sem Unit := Instr.storeAt CT p v
theorem ldC_in (p : Value) : Instr.loadAt CT p = ldC p := rfl
theorem bxC_in (v : Value) : Instr.box CT v = bxC v := rfl
theorem stC_in (p v : Value) : Instr.storeAt CT p v = stC p v := rfl
theorem bxC_ch (w : World) (c : Ch) : (bxC c.val).run Try.prog w = .ok (.pointer (some ⟨w.heap.size, 0, none⟩)) (w.alloc (.cells c.cells CT)) := rfl
theorem ldC_mid {w : World} {b o : Nat} {c : Ch} (h : w.rangeAt b o c.cells.toList) : (ldC (.pointer (some ⟨b, o, none⟩))).run Try.prog w = .ok c.val w := by
  have := run_loadAt_mid (P := Try.prog) w b o CT c.cells.toList _ h Try.underlying30 rfl (by rw [infoCT, Array.length_toList, c.size])
  simpa [ldC, Ch.val] using this
theorem ldC_blk {w : World} {b : Nat} {c : Ch} (h : Blk w b c.cells CT) : (ldC (.pointer (some ⟨b, 0, none⟩))).run Try.prog w = .ok c.val w :=
  ldC_mid (fun j v hv => by rw [Nat.zero_add]; exact h.cell j v (by simpa using hv))
theorem ldC_all {W : World} {b : Nat} {c : Ch} (h : Blk W b c.cells CT) (w : World) (k : Ext W w) : (ldC (.pointer (some ⟨b, 0, none⟩))).run Try.prog w = .ok c.val w := ldC_blk (k.blk h)
theorem ldC_new (w : World) (c : Ch) : (ldC (.pointer (some ⟨w.heap.size, 0, none⟩))).run Try.prog (w.alloc (.cells c.cells CT)) = .ok c.val (w.alloc (.cells c.cells CT)) := ldC_blk (Blk.new w c.cells CT)
theorem Blk.chat {w : World} {b : Nat} {c : Ch} (h : Blk w b c.cells CT) {j : Nat} (hj : j < 30) : w.cell? ⟨b, j, none⟩ = some (.int .i64 (c.at j)) := h.cell j _ (c.cell hj)
theorem chguard_eq (x y : Operand) (a b : Ch) (w : World) : (eqGuard .eql CT x y a.val b.val).run Try.prog w = .ok () w := by
  show (eqGuard .eql CT x y (.agg a.cells) (.agg b.cells)).run Try.prog w = .ok () w
  simp [eqGuard, Try.eqGuardType30]
theorem chguard_ne (x y : Operand) (a b : Ch) (w : World) : (eqGuard .neq CT x y a.val b.val).run Try.prog w = .ok () w := by
  show (eqGuard .neq CT x y (.agg a.cells) (.agg b.cells)).run Try.prog w = .ok () w
  simp [eqGuard, Try.eqGuardType30]
theorem chbin_eq (a b : Ch) (w : World) : (binOp .eql CT a.val b.val).run Try.prog w = .ok (.bool (chEq a b)) w := by
  have e : binOp .eql CT a.val b.val = (do pure (.bool (← Op.equal CT a.val b.val))) := rfl
  rw [e]
  simp [Op.equal, Op.maxDepth, eq_ch]
theorem chbin_ne (a b : Ch) (w : World) : (binOp .neq CT a.val b.val).run Try.prog w = .ok (.bool (!chEq a b)) w := by
  have e : binOp .neq CT a.val b.val = (do pure (.bool (!(← Op.equal CT a.val b.val)))) := rfl
  rw [e]
  simp [Op.equal, Op.maxDepth, eq_ch]

end Go.Proofs.Ytocogmboocjjaaa
