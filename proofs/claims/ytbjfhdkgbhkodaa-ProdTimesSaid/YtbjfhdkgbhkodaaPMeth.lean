/- Package prod: a maker's methods. -/
import Derived.Test.YtbjfhdkgbhkodaaPRec
set_option linter.unusedSimpArgs false
set_option linter.unusedVariables false
set_option linter.unnecessarySimpa false
namespace Go.Proofs.Ytbjfhdkgbhkodaa
open Go.RowKit Go.Proofs.YtbjfhdkgbhkodaaW.PrintWords
attribute [local go_sem] max2_max min2_min max_of_two min_of_two bxF_fr stF_fr stF_fr2 stF_put ldF_put ldV_put ldF_new guard_eq guard_ne bin_eq bin_ne alF_fr bdF_none bdF_ask bdF_len bdF_dat ext_drew' ext_alloc
attribute [local go_sem ↓] ldF_in ldV_in bxF_in stF_in cvS_in alF_in bdF_in ixS_in
attribute [local go_sem] bxC_ch chguard_eq chguard_ne chbin_eq chbin_ne ldC_new bxM_v alM_v stM_put stM_new bxR_v alR_v stR_put stR_new ldM_new ldR_new bdM_none bdR_v stC_mk gUpon gStill
attribute [local go_sem ↓] ldC_in bxC_in stC_in ldM_in bxM_in stM_in alM_in ldR_in bxR_in stR_in alR_in bdM_in bdR_in

theorem mnew_c (w : World) : Calls Try.prog 7 #[] w fun e w' => ∃ g, e = .returned (.pointer (some ⟨g, 0, none⟩)) ∧ Blk w' g Mk.zero.cells MT ∧ w.heap.size ≤ g ∧ Ext w w' := by
  have HB := hid (Blk.new w Mk.zero.cells MT)
  go_enter Try.func7, Try.ntmps7
  go_wp2_with fail
  go_ret
  exact ⟨_, rfl, HB.out, Nat.le_refl _, (by repeat (first | with_reducible exact Ext.refl _ | with_reducible assumption | with_reducible apply Ext.alloc | with_reducible apply Ext.drew | with_reducible apply Ext.drewN | (with_reducible refine Ext.set' ?_ (by first | omega | (simp only [World.size_alloc, World.size_setCell]; omega))) | (with_reducible refine Ext.trans ?_ (by with_reducible assumption)) | (with_reducible refine Ext.only ?_ (by with_reducible assumption) (by omega))))⟩
theorem mfork_nil (w : World) : Calls Try.prog 8 #[.pointer none] w fun e w' => e = .returned (.pointer none) ∧ Ext w w' := by
  go_enter Try.func8, Try.ntmps8
  go_wp2_with fail
  go_ret
  exact ⟨rfl, (by repeat (first | with_reducible exact Ext.refl _ | with_reducible assumption | with_reducible apply Ext.alloc | with_reducible apply Ext.drew | with_reducible apply Ext.drewN | (with_reducible refine Ext.set' ?_ (by first | omega | (simp only [World.size_alloc, World.size_setCell]; omega))) | (with_reducible refine Ext.trans ?_ (by with_reducible assumption)) | (with_reducible refine Ext.only ?_ (by with_reducible assumption) (by omega))))⟩
theorem mfork_c (b : Nat) (k : Mk) (w : World) (h : Blk w b k.cells MT) : Calls Try.prog 8 #[.pointer (some ⟨b, 0, none⟩)] w fun e w' => ∃ g, e = .returned (.pointer (some ⟨g, 0, none⟩)) ∧ Blk w' g k.cells MT ∧ w.heap.size ≤ g ∧ Ext w w' := by
  have l0 := ldM_blk h
  have HB := hid (Blk.new w k.cells MT)
  go_enter Try.func8, Try.ntmps8
  go_wp2_with fail
  go_ret
  exact ⟨_, rfl, HB.out, Nat.le_refl _, (by repeat (first | with_reducible exact Ext.refl _ | with_reducible assumption | with_reducible apply Ext.alloc | with_reducible apply Ext.drew | with_reducible apply Ext.drewN | (with_reducible refine Ext.set' ?_ (by first | omega | (simp only [World.size_alloc, World.size_setCell]; omega))) | (with_reducible refine Ext.trans ?_ (by with_reducible assumption)) | (with_reducible refine Ext.only ?_ (by with_reducible assumption) (by omega))))⟩
theorem sent_nil (w : World) : Calls Try.prog 20 #[.pointer none] w fun e w' => e = .returned (.int .i64 0) ∧ Ext w w' := by
  go_enter Try.func20, Try.ntmps20
  go_wp2_with fail
  go_ret
  exact ⟨rfl, (by repeat (first | with_reducible exact Ext.refl _ | with_reducible assumption | with_reducible apply Ext.alloc | with_reducible apply Ext.drew | with_reducible apply Ext.drewN | (with_reducible refine Ext.set' ?_ (by first | omega | (simp only [World.size_alloc, World.size_setCell]; omega))) | (with_reducible refine Ext.trans ?_ (by with_reducible assumption)) | (with_reducible refine Ext.only ?_ (by with_reducible assumption) (by omega))))⟩
theorem sent_c (b : Nat) (k : Mk) (w : World) (h : Blk w b k.cells MT) : Calls Try.prog 20 #[.pointer (some ⟨b, 0, none⟩)] w fun e w' => e = .returned (.int .i64 k.sent) ∧ Ext w w' := by
  have c32 := h.cell 32 _ k.c32
  go_enter Try.func20, Try.ntmps20
  go_wp2_with fail
  go_ret
  exact ⟨rfl, (by repeat (first | with_reducible exact Ext.refl _ | with_reducible assumption | with_reducible apply Ext.alloc | with_reducible apply Ext.drew | with_reducible apply Ext.drewN | (with_reducible refine Ext.set' ?_ (by first | omega | (simp only [World.size_alloc, World.size_setCell]; omega))) | (with_reducible refine Ext.trans ?_ (by with_reducible assumption)) | (with_reducible refine Ext.only ?_ (by with_reducible assumption) (by omega))))⟩

/-- Must a pair go now? -/
def Mk.due (k : Mk) (now : Int) (x : Ch) : Bool := !k.works || (!chEq k.x x || decide (x.at 1 ≤ now - k.last))
set_option maxRecDepth 100000 in
set_option maxHeartbeats 1000000 in
theorem due_c (b : Nat) (k : Mk) (now : Int) (x : Ch) (w : World) (h : Blk w b k.cells MT) (hn0 : 0 ≤ now) (hn1 : now ≤ 2147483647) (hl0 : 0 ≤ k.last) (hl1 : k.last ≤ 2147483647) :
    Calls Try.prog 23 #[.pointer (some ⟨b, 0, none⟩), .int .i64 now, x.val] w fun e w' => e = .returned (.bool (k.due now x)) ∧ Ext w w' := by
  have K0 : Ext w (w.alloc (.cells x.cells CT)) := (by repeat (first | with_reducible exact Ext.refl _ | with_reducible assumption | with_reducible apply Ext.alloc | with_reducible apply Ext.drew | with_reducible apply Ext.drewN | (with_reducible refine Ext.set' ?_ (by first | omega | (simp only [World.size_alloc, World.size_setCell]; omega))) | (with_reducible refine Ext.trans ?_ (by with_reducible assumption)) | (with_reducible refine Ext.only ?_ (by with_reducible assumption) (by omega))))
  have hb := (K0.drew.blk h)
  have hx : Blk (w.alloc (.cells x.cells CT)).drew w.heap.size x.cells CT := (Ext.refl _).drew.blk (Blk.new w x.cells CT)
  have c0 := hb.cell 0 _ k.c0
  have c31 := hb.cell 31 _ k.c31
  have lk := ldC_mk hb
  have lx := ldC_blk hx
  have c1 := hx.chat (j := 1) (by omega)
  have hw : IntKind.i64.wrap (now - k.last) = now - k.last := IntWalk.i64_in _ (by omega)
  obtain ⟨wk, x0, last, sent⟩ := k
  simp only at c0 c31 lk hw hl0 hl1
  unfold Mk.due
  simp only
  obtain ⟨eq, heq⟩ : ∃ e, Is (chEq x0 x) e := ⟨_, Is.refl _⟩
  obtain ⟨dd, hd⟩ : ∃ e, Is (decide (x.at 1 ≤ now - last)) e := ⟨_, Is.refl _⟩
  rw [heq.eq, hd.eq]
  have e1 := heq.eq
  have e2 := hd.eq
  generalize x.at 1 = t at *
  have KD : Ext w (w.alloc (.cells x.cells CT)).drew := K0.drew
  clear hb hx h K0 heq hd hl0 hl1 hn0 hn1
  cases wk
  · go_enter Try.func23, Try.ntmps23
    go_wp2_with fail
    go_region
    go_wp2_with fail
    go_ret
    exact ⟨rfl, KD⟩
  · cases eq
    · go_enter Try.func23, Try.ntmps23
      go_wp2_with fail
      go_region
      go_wp2_with fail
      go_ret
      exact ⟨rfl, KD⟩
    · cases dd
      all_goals
        go_enter Try.func23, Try.ntmps23
        go_wp2_with fail
        go_region
        go_wp2_with fail
        go_ret
        exact ⟨rfl, KD⟩

end Go.Proofs.Ytbjfhdkgbhkodaa
