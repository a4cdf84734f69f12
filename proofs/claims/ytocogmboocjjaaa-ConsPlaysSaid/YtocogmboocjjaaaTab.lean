/- The laws' tables; what must be whatever is asked. -/
import Derived.Test.YtocogmboocjjaaaHear
set_option linter.unusedSimpArgs false
set_option linter.unusedVariables false
set_option linter.unnecessarySimpa false
namespace Go.Proofs.Ytocogmboocjjaaa
open Go.RowKit Go.Proofs.YtocogmboocjjaaaW.PrintWords
attribute [local go_sem] max2_max min2_min max_of_two min_of_two bxF_fr stF_fr stF_fr2 stF_put ldF_put ldV_put ldF_new guard_eq guard_ne bin_eq bin_ne alF_fr bdF_none bdF_ask bdF_len bdF_dat ext_drew' ext_alloc
attribute [local go_sem ↓] ldF_in ldV_in bxF_in stF_in cvS_in alF_in bdF_in ixS_in
attribute [local go_sem] bxC_ch chguard_eq chguard_ne chbin_eq chbin_ne ldC_new bxT_v alT_v stT_put stT_new bdT_none bdT_failed bdT_v bdW_v gUpon gStill
attribute [local go_sem ↓] ldC_in bxC_in stC_in ldT_in bxT_in stT_in alT_in bdT_in bdW_in

theorem res_ch {fn : Func} {p : Tmp} {tmps : Array Value} {w : World} {b : Nat} {c : Ch} (h : fn.results = #[.cell p CT]) (hp : tmps.getD p undef = .pointer (some ⟨b, 0, none⟩)) (hb : Blk w b c.cells CT) : (results fn tmps).run Try.prog w = .ok c.val w :=
  results_cell_row h tmps w b CT c.cells (0, 0) _ hp hb Try.underlying30 rfl (by rw [infoCT, c.size])
noncomputable def alC : Sem Value := Instr.alloc CT true (.tuple #[])
theorem alC_in : Instr.alloc CT true (.tuple #[]) = alC := rfl
theorem alC_v (w : World) : alC.run Try.prog w = .ok (.pointer (some ⟨w.heap.size, 0, none⟩)) (w.alloc (.cells Ch.zero.cells CT)) := by kernel_rfl
noncomputable def bdC (l : Array (Nat × Value)) : Sem Value := Instr.build CT l
theorem bdC_in (l : Array (Nat × Value)) : Instr.build CT l = bdC l := rfl
def tab0 (t : Int) : Ch := ⟨[1, t, 5, 257, 258, 1, 0, 0, 0, 0, 0, 0, 0, 0, 0, 0, 0, 0, 0, 0, 0, 0, 0, 0, 0, 0, 0, 0, 0, 0], rfl⟩
/-- The law's table. -/
def tab (t : Int) : Ch := ⟨[1, t, 5, 257, 258, 1, 8192, 1, 8, 0, 0, 0, 0, 0, 0, 0, 0, 0, 0, 0, 0, 0, 0, 0, 0, 0, 0, 0, 0, 0], rfl⟩
theorem bdC_tab (t : Int) (w : World) : (bdC #[(0, .int .i64 1), (1, .int .i64 t), (2, .int .i64 5), (3, .int .i64 257), (4, .int .i64 258), (5, .int .i64 1)]).run Try.prog w = .ok (tab0 t).val w := by kernel_rfl
def CB (w : World) (b : Nat) : Prop := ∃ m : Ch, Blk w b m.cells CT
def putK (w : World) (b : Nat) (m : Ch) : World := w.setRow b m.cells
theorem stC_put (w : World) (b : Nat) (m : Ch) (h : CB w b) : (stC (.pointer (some ⟨b, 0, none⟩)) m.val).run Try.prog w = .ok () (putK w b m) := by
  obtain ⟨g, h⟩ := h
  have hs := run_storeVar_row (P := Try.prog) w b CT CT g.cells m.cells h (by rw [infoCT, m.size]) (by rw [g.size, m.size]) m.one
  unfold stC
  simp only [Instr.storeAt, Instr.sureAddr, Sem.run_bind, Sem.run_pure, Result.andThen_ok]
  exact hs
theorem putK_blk {w : World} {b : Nat} (m : Ch) (h : CB w b) : Blk (putK w b m) b m.cells CT := by
  obtain ⟨g, h⟩ := h
  exact setRow_heap w b _ _ _ _ h
theorem putK_only (w : World) (b : Nat) (m : Ch) : Only b w (putK w b m) :=
  ⟨rfl, rfl, rfl, by simp [putK, World.setRow], fun k _ hb => by
    show (w.heap.modify b _)[k]? = _
    rw [Array.getElem?_modify, if_neg (fun e => hb e.symm)]⟩
theorem stC_new (w : World) (m g : Ch) : (stC (.pointer (some ⟨w.heap.size, 0, none⟩)) m.val).run Try.prog (w.alloc (.cells g.cells CT)) = .ok () (w.alloc (.cells m.cells CT)) := by
  rw [stC_put _ _ _ ⟨g, Blk.new w g.cells CT⟩]
  unfold putK
  rw [set_row_last]
theorem stC_new1 (w : World) (o : Obj) (m g : Ch) : (stC (.pointer (some ⟨w.heap.size + 1, 0, none⟩)) m.val).run Try.prog ((w.alloc o).alloc (.cells g.cells CT)) = .ok () ((w.alloc o).alloc (.cells m.cells CT)) := by
  have h := stC_new (w.alloc o) m g
  rw [World.size_alloc] at h
  exact h
noncomputable def stS (p v : Value) : Sem Unit := Instr.storeAt SLT p v
theorem stS_in (p v : Value) : Instr.storeAt SLT p v = stS p v := rfl
theorem set_last (w : World) (cs : Array Value) (t : TypeId) (i : Nat) (v : Value) : (w.alloc (.cells cs t)).setCell ⟨w.heap.size, i, none⟩ v = w.alloc (.cells (cs.setIfInBounds i v) t) := by
  simp only [World.setCell, World.alloc]
  congr 1
  apply Array.ext_getElem?
  intro k
  rw [Array.getElem?_modify]
  by_cases h : w.heap.size = k
  · subst h
    simp
  · have h' : ¬ k = w.heap.size := fun e => h e.symm
    simp [h, h', Array.getElem?_push]
theorem stS_tab (w : World) (o : Obj) (t : Int) : (stS (.pointer (some ⟨w.heap.size + 1, 6, none⟩)) (.agg #[.int .i64 8192, .int .i64 1, .int .i64 8])).run Try.prog ((w.alloc o).alloc (.cells (tab0 t).cells CT)) = .ok () ((w.alloc o).alloc (.cells (tab t).cells CT)) := by
  have hb := Blk.new (w.alloc o) (tab0 t).cells CT
  rw [World.size_alloc] at hb
  have h := run_storeAt_mid (P := Try.prog) ((w.alloc o).alloc (.cells (tab0 t).cells CT)) (w.heap.size + 1) 6 SLT #[.int .i64 8192, .int .i64 1, .int .i64 8] (fun j hj => by
    have hj' : j < 3 := hj
    exact ⟨by rw [hb.chat (by omega)]; rfl, hb.free _⟩) (by kernel_rfl) (by simp [Value.oneCell'])
  refine h.trans ?_
  have e : ∀ (cs : Array Value) (i : Nat) (v : Value), ((w.alloc o).alloc (.cells cs CT)).setCell ⟨w.heap.size + 1, i, none⟩ v = (w.alloc o).alloc (.cells (cs.setIfInBounds i v) CT) := fun cs i v => by
    have := set_last (w.alloc o) cs CT i v
    rwa [World.size_alloc] at this
  show Result.ok () ((((((w.alloc o).alloc (.cells (tab0 t).cells CT))).setCell ⟨w.heap.size + 1, 6, none⟩ _).setCell ⟨w.heap.size + 1, 7, none⟩ _).setCell ⟨w.heap.size + 1, 8, none⟩ _) = _
  rw [e, e, e]
  rfl
theorem stC_old (w : World) (o : Obj) (m g : Ch) : (stC (.pointer (some ⟨w.heap.size, 0, none⟩)) m.val).run Try.prog ((w.alloc (.cells g.cells CT)).alloc o) = .ok () (putK ((w.alloc (.cells g.cells CT)).alloc o) w.heap.size m) := stC_put _ _ _ ⟨g, (Blk.new w g.cells CT).alloc o⟩
theorem ldC_new1 (w : World) (o : Obj) (c : Ch) : (ldC (.pointer (some ⟨w.heap.size + 1, 0, none⟩))).run Try.prog ((w.alloc o).alloc (.cells c.cells CT)) = .ok c.val ((w.alloc o).alloc (.cells c.cells CT)) := by
  have := ldC_new (w.alloc o) c
  rwa [World.size_alloc] at this
attribute [local go_sem] alC_v bdC_tab stC_new stC_new1 stS_tab stC_old ldC_new1
attribute [local go_sem ↓] alC_in bdC_in stS_in

set_option maxRecDepth 100000 in
set_option maxHeartbeats 1000000 in
theorem table_c (t : Int) (w : World) : Calls Try.prog 25 #[.int .i64 t] w fun e w' => e = .returned (tab t).val ∧ Ext w w' := by
  have p2 : CB ((w.alloc (.cells Ch.zero.cells CT)).alloc (.cells (tab t).cells CT)) w.heap.size := ⟨_, (Blk.new w Ch.zero.cells CT).alloc _⟩
  have HP := hid (putK_blk (tab t) p2)
  have KK : Ext w ((w.alloc (.cells Ch.zero.cells CT)).alloc (.cells (tab t).cells CT)) := (by repeat (first | with_reducible exact Ext.refl _ | with_reducible assumption | with_reducible apply Ext.alloc | with_reducible apply Ext.drew | with_reducible apply Ext.drewN | (with_reducible refine Ext.set' ?_ (by first | omega | (simp only [World.size_alloc, World.size_setCell]; omega))) | (with_reducible refine Ext.trans ?_ (by with_reducible assumption)) | (with_reducible refine Ext.only ?_ (by with_reducible assumption) (by omega))))
  have KP := Ext.only KK (putK_only _ w.heap.size (tab t)) (Nat.le_refl _)
  clear p2 KK
  go_enter Try.func25, Try.ntmps25
  go_wp2_with fail
  exact bodyPost_ret (res_ch (Try.results25) rfl HP.out) rfl ⟨rfl, KP⟩


/-- The law's table that takes. -/
def tab2 (t g : Int) : Ch := ⟨[2, t, g, 257, 258, 1, 8192, 1, 8, 0, 0, 0, 0, 0, 0, 0, 0, 0, 0, 0, 0, 0, 0, 0, 0, 0, 0, 0, 0, 0], rfl⟩
set_option maxRecDepth 100000 in
set_option maxHeartbeats 1000000 in
theorem table2_c (t g : Int) (w : World) : Calls Try.prog 7 #[.int .i64 t, .int .i64 g] w fun e w' => e = .returned (tab2 t g).val ∧ Ext w w' := by
  have HB := hid (Blk.new w Ch.zero.cells CT)
  have K0 : Ext w (w.alloc (.cells Ch.zero.cells CT)) := (by repeat (first | with_reducible exact Ext.refl _ | with_reducible assumption | with_reducible apply Ext.alloc | with_reducible apply Ext.drew | with_reducible apply Ext.drewN | (with_reducible refine Ext.set' ?_ (by first | omega | (simp only [World.size_alloc, World.size_setCell]; omega))) | (with_reducible refine Ext.trans ?_ (by with_reducible assumption)) | (with_reducible refine Ext.only ?_ (by with_reducible assumption) (by omega))))
  go_enter Try.func7, Try.ntmps7
  go_wp2_with fail
  (with_reducible refine (table_c t _).mono ?_); rintro e w1 ⟨rfl, k1⟩
  have HB1 := hid (k1.blk HB.out)
  have K1 := K0.trans k1
  have HN := Blk.new w1 (tab t).cells CT
  have c0 : (w1.alloc (.cells (tab t).cells CT)).cell? ⟨w1.heap.size, 0, none⟩ = some (.int .i64 1) := HN.chat (j := 0) (by omega)
  have c2 : (w1.alloc (.cells (tab t).cells CT)).cell? ⟨w1.heap.size, 2, none⟩ = some (.int .i64 5) := HN.chat (j := 2) (by omega)
  have f0 := HN.free 0
  have f2 := HN.free 2
  have e0 : ((tab t).cells.setIfInBounds 0 (.int .i64 2)).setIfInBounds 2 (.int .i64 g) = (tab2 t g).cells := rfl
  have KN : Ext w (w1.alloc (.cells (tab2 t g).cells CT)) := K1.alloc
  have hb0 := HB1.out.alloc (.cells (tab2 t g).cells CT)
  have sp := stC_put _ w.heap.size (tab2 t g) ⟨_, hb0⟩
  have HP := hid (putK_blk (tab2 t g) ⟨_, hb0⟩)
  have KP := hid (Ext.only KN (putK_only _ w.heap.size (tab2 t g)) (Nat.le_refl _))
  have HE := hid e0
  clear k1 HB HB1 K0 K1 HN KN hb0 e0
  go_wp2_with fail
  rw [HE.out, ldC_new]
  simp only [Result.andThen_ok]
  go_wp2_with fail
  exact bodyPost_ret (res_ch (Try.results7) rfl HP.out) rfl ⟨rfl, KP.out⟩

end Go.Proofs.Ytocogmboocjjaaa
