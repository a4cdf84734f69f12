/- Frames as whole values: words for walks that never look into a frame. -/
import Derived.Test.YtocogmboocjjaaaFrame3
import Derived.Test.YtocogmboocjjaaaBytext
import Derived.Laws.IdiomStrings
import Derived.Laws.BytesArg
set_option linter.unusedSimpArgs false
set_option linter.unusedVariables false
set_option linter.unnecessarySimpa false
namespace Go.Proofs.Ytocogmboocjjaaa
open Go.RowKit Go.Proofs.YtocogmboocjjaaaW.PrintWords

theorem Fr.size (f : Fr) : f.cells.size = 11 := rfl
theorem Fr.one (f : Fr) : f.cells.all (·.oneCell') = true := by simp [Fr.cells, Value.oneCell']
theorem infoFT : (Try.prog.info? FT).map (·.size) = some 11 := by kernel_rfl

/-- What a load, a store, a box of a whole frame gives: words that no walk opens. -/
noncomputable def ldF (p : Value) : Sem Value := Instr.loadAt FT p
noncomputable def ldV (p : Addr) : Sem Value := loadVar FT p
noncomputable def bxF (v : Value) : Sem Value := Instr.box FT v
noncomputable def stF (p v : Value) : Sem Unit := Instr.storeAt FT p v
theorem ldF_in (p : Value) : Instr.loadAt FT p = ldF p := rfl
theorem ldV_in (p : Addr) : loadVar FT p = ldV p := rfl
theorem bxF_in (v : Value) : Instr.box FT v = bxF v := rfl
theorem stF_in (p v : Value) : Instr.storeAt FT p v = stF p v := rfl
theorem ldV_blk {w : World} {b : Nat} {f : Fr} (h : Blk w b f.cells FT) : (ldV ⟨b, 0, none⟩).run Try.prog w = .ok f.val w :=
  run_loadVar_row w b FT FT f.cells (0, 0) _ h Try.underlying43 rfl infoFT
theorem ldF_blk {w : World} {b : Nat} {f : Fr} (h : Blk w b f.cells FT) : (ldF (.pointer (some ⟨b, 0, none⟩))).run Try.prog w = .ok f.val w := by
  unfold ldF
  simp only [Instr.loadAt, Instr.sureAddr, Sem.run_bind, Sem.run_pure, Result.andThen_ok]
  exact ldV_blk h
theorem bxF_fr (w : World) (f : Fr) : (bxF f.val).run Try.prog w = .ok (.pointer (some ⟨w.heap.size, 0, none⟩)) (w.alloc (.cells f.cells FT)) := by
  obtain ⟨id, rtr, len, d0, d1, d2, d3, d4, d5, d6, d7⟩ := f
  kernel_rfl
theorem bxF_fr0 (w : World) (id : Int) (rtr : Bool) (len d0 d1 d2 d3 d4 d5 d6 d7 : Int) : (bxF (.agg #[.int .i64 id, .bool rtr, .int .i64 len, .int .u8 d0, .int .u8 d1, .int .u8 d2, .int .u8 d3, .int .u8 d4, .int .u8 d5, .int .u8 d6, .int .u8 d7])).run Try.prog w = .ok (.pointer (some ⟨w.heap.size, 0, none⟩)) (w.alloc (.cells #[.int .i64 id, .bool rtr, .int .i64 len, .int .u8 d0, .int .u8 d1, .int .u8 d2, .int .u8 d3, .int .u8 d4, .int .u8 d5, .int .u8 d6, .int .u8 d7] FT)) := by
  kernel_rfl
theorem set_row_last (w : World) (c c' : Array Value) (t : TypeId) : (w.alloc (.cells c t)).setRow w.heap.size c' = w.alloc (.cells c' t) := by
  simp only [World.setRow, World.alloc]
  congr 1
  apply Array.ext_getElem?
  intro i
  rw [Array.getElem?_modify]
  by_cases h : w.heap.size = i
  · subst h
    simp
  · have h' : ¬ i = w.heap.size := fun e => h e.symm
    simp [h, h', Array.getElem?_push]
noncomputable def alF : Sem Value := Instr.alloc FT true (.tuple #[])
theorem alF_in : Instr.alloc FT true (.tuple #[]) = alF := rfl
theorem alF_fr (w : World) : alF.run Try.prog w = .ok (.pointer (some ⟨w.heap.size, 0, none⟩)) (w.alloc (.cells Fr.zero.cells FT)) := by kernel_rfl
noncomputable def bdF (l : Array (Nat × Value)) : Sem Value := Instr.build FT l
theorem bdF_in (l : Array (Nat × Value)) : Instr.build FT l = bdF l := rfl
theorem bdF_none (w : World) : (bdF #[]).run Try.prog w = .ok Fr.zero.val w := by kernel_rfl
theorem bdF_ask (id len : Int) (rtr : Bool) (w : World) : (bdF #[(0, .int .i64 id), (1, .bool rtr), (2, .int .i64 len)]).run Try.prog w = .ok (Fr.val ⟨id, rtr, len, 0, 0, 0, 0, 0, 0, 0, 0⟩) w := by kernel_rfl
theorem bdF_len (id len : Int) (w : World) : (bdF #[(0, .int .i64 id), (2, .int .i64 len)]).run Try.prog w = .ok (Fr.val ⟨id, false, len, 0, 0, 0, 0, 0, 0, 0, 0⟩) w := by kernel_rfl
theorem bdF_dat (id len d0 d1 d2 d3 d4 d5 d6 d7 : Int) (w : World) : (bdF #[(0, .int .i64 id), (2, .int .i64 len), (3, .agg #[.int .u8 d0, .int .u8 d1, .int .u8 d2, .int .u8 d3, .int .u8 d4, .int .u8 d5, .int .u8 d6, .int .u8 d7])]).run Try.prog w = .ok (Fr.val ⟨id, false, len, d0, d1, d2, d3, d4, d5, d6, d7⟩) w := by kernel_rfl
theorem cells_val (f : Fr) : Value.cells f.val = f.cells := rfl
theorem stF_fr (w : World) (f g : Fr) : (stF (.pointer (some ⟨w.heap.size, 0, none⟩)) f.val).run Try.prog (w.alloc (.cells g.cells FT)) = .ok () (w.alloc (.cells f.cells FT)) := by
  have hs := run_storeVar_row (P := Try.prog) (w.alloc (.cells g.cells FT)) w.heap.size FT FT g.cells f.cells (Blk.new w _ FT) infoFT rfl f.one
  unfold stF
  simp only [Instr.storeAt, Instr.sureAddr, Sem.run_bind, Sem.run_pure, Result.andThen_ok]
  show (storeVar FT _ (.agg f.cells)).run _ _ = _
  rw [hs, set_row_last]
theorem stF_fr2 (w : World) (o : Obj) (f g : Fr) : (stF (.pointer (some ⟨w.heap.size + 1, 0, none⟩)) f.val).run Try.prog ((w.alloc o).alloc (.cells g.cells FT)) = .ok () ((w.alloc o).alloc (.cells f.cells FT)) := by
  have h := stF_fr (w.alloc o) f g
  rw [World.size_alloc] at h
  exact h
theorem eq_fr (a b : Fr) (w : World) : (Op.equalIn 10000 FT a.val b.val).run Try.prog w = .ok (frEq a b) w := by
  obtain ⟨a0, a1, a2, a3, a4, a5, a6, a7, a8, a9, a10⟩ := a
  obtain ⟨b0, b1, b2, b3, b4, b5, b6, b7, b8, b9, b10⟩ := b
  exact run_eq_fr ..
theorem eq_fr1 (a : Fr) (b0 : Int) (b1 : Bool) (b2 b3 b4 b5 b6 b7 b8 b9 b10 : Int) (w : World) : (Op.equalIn 10000 FT a.val (.agg #[.int .i64 b0, .bool b1, .int .i64 b2, .int .u8 b3, .int .u8 b4, .int .u8 b5, .int .u8 b6, .int .u8 b7, .int .u8 b8, .int .u8 b9, .int .u8 b10])).run Try.prog w = .ok (frEq a ⟨b0, b1, b2, b3, b4, b5, b6, b7, b8, b9, b10⟩) w := by
  obtain ⟨a0, a1, a2, a3, a4, a5, a6, a7, a8, a9, a10⟩ := a
  exact run_eq_fr ..
theorem eq_fr2 (a : Fr) (b0 : Int) (b1 : Bool) (b2 b3 b4 b5 b6 b7 b8 b9 b10 : Int) (w : World) : (Op.equalIn 10000 FT (.agg #[.int .i64 b0, .bool b1, .int .i64 b2, .int .u8 b3, .int .u8 b4, .int .u8 b5, .int .u8 b6, .int .u8 b7, .int .u8 b8, .int .u8 b9, .int .u8 b10]) a.val).run Try.prog w = .ok (frEq ⟨b0, b1, b2, b3, b4, b5, b6, b7, b8, b9, b10⟩ a) w := by
  obtain ⟨a0, a1, a2, a3, a4, a5, a6, a7, a8, a9, a10⟩ := a
  exact run_eq_fr ..

theorem Fr.fold (id : Int) (rtr : Bool) (len d0 d1 d2 d3 d4 d5 d6 d7 : Int) : Value.agg #[.int .i64 id, .bool rtr, .int .i64 len, .int .u8 d0, .int .u8 d1, .int .u8 d2, .int .u8 d3, .int .u8 d4, .int .u8 d5, .int .u8 d6, .int .u8 d7] = Fr.val (⟨id, rtr, len, d0, d1, d2, d3, d4, d5, d6, d7⟩ : Fr) := rfl
theorem guard_eq (x y : Operand) (a b : Fr) (w : World) : (eqGuard .eql FT x y a.val b.val).run Try.prog w = .ok () w := by
  show (eqGuard .eql FT x y (.agg a.cells) (.agg b.cells)).run Try.prog w = .ok () w
  simp [eqGuard, Try.eqGuardType43]
theorem guard_ne (x y : Operand) (a b : Fr) (w : World) : (eqGuard .neq FT x y a.val b.val).run Try.prog w = .ok () w := by
  show (eqGuard .neq FT x y (.agg a.cells) (.agg b.cells)).run Try.prog w = .ok () w
  simp [eqGuard, Try.eqGuardType43]
theorem bin_eq (a b : Fr) (w : World) : (binOp .eql FT a.val b.val).run Try.prog w = .ok (.bool (frEq a b)) w := by
  have e : binOp .eql FT a.val b.val = (do pure (.bool (← Op.equal FT a.val b.val))) := rfl
  rw [e]
  simp [Op.equal, Op.maxDepth, eq_fr]
theorem bin_ne (a b : Fr) (w : World) : (binOp .neq FT a.val b.val).run Try.prog w = .ok (.bool (!frEq a b)) w := by
  have e : binOp .neq FT a.val b.val = (do pure (.bool (!(← Op.equal FT a.val b.val)))) := rfl
  rw [e]
  simp [Op.equal, Op.maxDepth, eq_fr]

/-- A frame lies there whole; a frame is laid there. -/
def FrB (w : World) (b : Nat) : Prop := ∃ g : Fr, Blk w b g.cells FT
def putF (w : World) (b : Nat) (f : Fr) : World := w.setRow b f.cells
theorem FrB.of {w : World} {b : Nat} {g : Fr} (h : Blk w b g.cells FT) : FrB w b := ⟨g, h⟩
theorem stF_put (w : World) (b : Nat) (f : Fr) (h : FrB w b) : (stF (.pointer (some ⟨b, 0, none⟩)) f.val).run Try.prog w = .ok () (putF w b f) := by
  obtain ⟨g, h⟩ := h
  have hs := run_storeVar_row (P := Try.prog) w b FT FT g.cells f.cells h infoFT rfl f.one
  unfold stF
  simp only [Instr.storeAt, Instr.sureAddr, Sem.run_bind, Sem.run_pure, Result.andThen_ok]
  exact hs
theorem putF_blk {w : World} {b : Nat} (f : Fr) (h : FrB w b) : Blk (putF w b f) b f.cells FT := by
  obtain ⟨g, h⟩ := h
  exact setRow_heap w b _ _ _ _ h
theorem putF_only (w : World) (b : Nat) (f : Fr) : Only b w (putF w b f) :=
  ⟨rfl, rfl, rfl, by simp [putF, World.setRow], fun k _ hb => by
    show (w.heap.modify b _)[k]? = _
    rw [Array.getElem?_modify, if_neg (fun e => hb e.symm)]⟩
theorem ldF_put (w : World) (b : Nat) (f : Fr) (h : FrB w b) : (ldF (.pointer (some ⟨b, 0, none⟩))).run Try.prog (putF w b f) = .ok f.val (putF w b f) := ldF_blk (putF_blk f h)
theorem ldV_put (w : World) (b : Nat) (f : Fr) (h : FrB w b) : (ldV ⟨b, 0, none⟩).run Try.prog (putF w b f) = .ok f.val (putF w b f) := ldV_blk (putF_blk f h)
theorem Ext.putF {a w : World} {b : Nat} {f : Fr} (h : Ext a w) (hb : a.heap.size ≤ b) : Ext a (putF w b f) := Ext.only h (putF_only w b f) hb

/-- Results that are frames in cells of their own. -/
theorem res_fr {fn : Func} {p : Tmp} {tmps : Array Value} {w : World} {b : Nat} {f : Fr} (h : fn.results = #[.cell p FT]) (hp : tmps.getD p undef = .pointer (some ⟨b, 0, none⟩)) (hb : Blk w b f.cells FT) : (results fn tmps).run Try.prog w = .ok f.val w :=
  results_cell_row h tmps w b FT f.cells (0, 0) _ hp hb Try.underlying43 rfl infoFT
theorem res_fr2 {fn : Func} {p q : Tmp} {tmps : Array Value} {w : World} {b : Nat} {f : Fr} {v : Value} (h : fn.results = #[.cell p FT, .tmp q]) (hp : tmps.getD p undef = .pointer (some ⟨b, 0, none⟩)) (hq : tmps.getD q undef = v) (hb : Blk w b f.cells FT) : (results fn tmps).run Try.prog w = .ok (.tuple #[f.val, v]) w := by
  have hp' : tmps[p]?.getD undef = .pointer (some ⟨b, 0, none⟩) := by simpa using hp
  have hq' : tmps[q]?.getD undef = v := by simpa using hq
  have hl := ldV_blk hb
  unfold ldV at hl
  simp [results, h, hp', hq', asAddr, hl]

/-- What was made lies there behind whatever comes. -/
theorem ldF_aft {W : World} {b : Nat} {f : Fr} (h : Blk W b f.cells FT) (x : After W) : (ldF (.pointer (some ⟨b, 0, none⟩))).run Try.prog x.wd = .ok f.val x.wd := ldF_blk (x.ext.blk h)
theorem ldF_new (w : World) (f : Fr) : (ldF (.pointer (some ⟨w.heap.size, 0, none⟩))).run Try.prog (w.alloc (.cells f.cells FT)) = .ok f.val (w.alloc (.cells f.cells FT)) := ldF_blk (Blk.new w f.cells FT)
theorem ldF_ext {W w : World} {b : Nat} {f : Fr} (h : Blk W b f.cells FT) (k : Ext W w) : (ldF (.pointer (some ⟨b, 0, none⟩))).run Try.prog w = .ok f.val w := ldF_blk (k.blk h)

theorem ldF_all {W : World} {b : Nat} {f : Fr} (h : Blk W b f.cells FT) (w : World) (k : Ext W w) : (ldF (.pointer (some ⟨b, 0, none⟩))).run Try.prog w = .ok f.val w := ldF_blk (k.blk h)

theorem check_v (f : Fr) (w : World) : Calls Try.prog 30 #[f.val] w fun e w' => e = .returned (.int .i64 f.chk) ∧ Ext w w' := by
  obtain ⟨id, rtr, len, d0, d1, d2, d3, d4, d5, d6, d7⟩ := f
  exact check_c id rtr len d0 d1 d2 d3 d4 d5 d6 d7 w
theorem rcheck_v (f : Fr) (w : World) : Calls Try.prog 16 #[f.val] w fun e w' => e = .returned (.int .i64 f.chk) ∧ Ext w w' := by
  obtain ⟨id, rtr, len, d0, d1, d2, d3, d4, d5, d6, d7⟩ := f
  exact rcheck_c id rtr len d0 d1 d2 d3 d4 d5 d6 d7 w
theorem bytes_v (f : Fr) (w : World) (hd : Byt f.data) : Calls Try.prog 32 #[f.val] w fun e w' => ∃ v, e = .returned v ∧ Own8 w' w.heap.size v f.bytes ∧ Ext w w' := by
  obtain ⟨id, rtr, len, d0, d1, d2, d3, d4, d5, d6, d7⟩ := f
  exact bytes_c id rtr len d0 d1 d2 d3 d4 d5 d6 d7 w hd

/-- A row of bytes as a text. -/
noncomputable def cvS (v : Value) : Sem Value := convert SB 9 v
theorem cvS_in (v : Value) : convert SB 9 v = cvS v := rfl
theorem Bs.str {w : World} {v : Value} {l : List Int} (h : Bs w v l) : (cvS v).run Try.prog w = .ok (.string (mkS l)) w := by
  obtain ⟨A, bl, o, c, rfl, hlc, hrow, hb⟩ := h
  unfold cvS
  by_cases h0 : l.length = 0
  · have : l = [] := List.eq_nil_of_length_eq_zero h0
    subst this
    rcases A with _ | a
    · exact run_convert_bytes_nil w SB U8 Try.underlying38 Try.underlying5 0 c 9 Try.underlying9
    · exact run_convert_bytes_back (P := Try.prog) w SB 9 U8 a c [] Try.underlying38 Try.underlying5 Try.underlying9 (fun j hj => absurd hj (by simp))
  · obtain ⟨rfl, hbl⟩ := hrow.2.1 (by omega)
    have hl : (u8s l).length = l.length := by simp [u8s]
    have := run_convert_bytes_back (P := Try.prog) w SB 9 U8 ⟨bl, o, none⟩ c (u8s l) Try.underlying38 Try.underlying5 Try.underlying9 (fun j hj => by
      rw [hl] at hj
      rw [Go.Proofs.Ytocogmboocjjaaa.add_plain, hrow.2.2 j hj]
      have hx := hb (l.getD j 0) (by rw [getD_at hj]; exact List.getElem_mem _)
      have : (u8s l)[j] = (l.getD j 0).toNat.toUInt8 := by rw [getD_at hj]; simp [u8s]
      rw [this, u8_back hx.1 hx.2])
    rw [hl] at this
    exact this

/-- A text's byte. -/
noncomputable def ixS (x i : Value) : Sem Value := Instr.index 9 x i
theorem ixS_in (x i : Value) : Instr.index 9 x i = ixS x i := rfl
theorem ixS_at (s : ByteArray) (i : Nat) (k : IntKind) (h : i < s.size) (w : World) : (ixS (.string s) (.int k (i : Int))).run Try.prog w = .ok (.int .u8 ((sb s).getD i 0)) w := by
  have h1 : s[i]? = some s[i] := getElem?_pos s i h
  have h2 := sb_at s h
  have h0 : (0 : Int) ≤ (i : Int) := by omega
  unfold ixS
  simp [Instr.index, asIntOf, run_underlying (Try.underlying9), h0, h1]
  rw [h2]
  simp

theorem ext_alloc {a b : World} {o : Obj} (h : Ext a b) : Ext a (b.alloc o) := Ext.alloc h
theorem ext_drew' {a b : World} (h : Ext a b) : Ext a b.drew := Ext.drew h

end Go.Proofs.Ytocogmboocjjaaa
