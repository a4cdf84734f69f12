/- The law's table of one byte; are two lists of frames the same; what must be whatever is asked. -/
import Derived.Test.YtbjfhdkgbhkodaaPStep
set_option linter.unusedSimpArgs false
set_option linter.unusedVariables false
set_option linter.unnecessarySimpa false
namespace Go.Proofs.Ytbjfhdkgbhkodaa
open Go.RowKit Go.Proofs.YtbjfhdkgbhkodaaW.PrintWords
attribute [local go_sem] max2_max min2_min max_of_two min_of_two bxF_fr stF_fr stF_fr2 stF_put ldF_put ldV_put ldF_new guard_eq guard_ne bin_eq bin_ne alF_fr bdF_none bdF_ask bdF_len bdF_dat ext_drew' ext_alloc
attribute [local go_sem ↓] ldF_in ldV_in bxF_in stF_in cvS_in alF_in bdF_in ixS_in
attribute [local go_sem] bxC_ch chguard_eq chguard_ne chbin_eq chbin_ne ldC_new bxM_v alM_v stM_put stM_new bxR_v alR_v stR_put stR_new ldM_new ldR_new bdM_none bdR_v stC_mk gUpon gStill
attribute [local go_sem ↓] ldC_in bxC_in stC_in ldM_in bxM_in stM_in alM_in ldR_in bxR_in stR_in alR_in bdM_in bdR_in

noncomputable def alC : Sem Value := Instr.alloc CT true (.tuple #[])
theorem alC_in : Instr.alloc CT true (.tuple #[]) = alC := rfl
theorem alC_v (w : World) : alC.run Try.prog w = .ok (.pointer (some ⟨w.heap.size, 0, none⟩)) (w.alloc (.cells Ch.zero.cells CT)) := by kernel_rfl
noncomputable def bdC (l : Array (Nat × Value)) : Sem Value := Instr.build CT l
theorem bdC_in (l : Array (Nat × Value)) : Instr.build CT l = bdC l := rfl
def tab0 (t : Int) : Ch := ⟨[1, t, 5, 257, 258, 1, 0, 0, 0, 0, 0, 0, 0, 0, 0, 0, 0, 0, 0, 0, 0, 0, 0, 0, 0, 0, 0, 0, 0, 0], rfl⟩
/-- The law's table. -/
def tab (t : Int) : Ch := ⟨[1, t, 5, 257, 258, 1, 8192, 1, 8, 0, 0, 0, 0, 0, 0, 0, 0, 0, 0, 0, 0, 0, 0, 0, 0, 0, 0, 0, 0, 0], rfl⟩
theorem bdC_tab (t : Int) (w : World) : (bdC #[(0, .int .i64 1), (1, .int .i64 t), (2, .int .i64 5), (3, .int .i64 257), (4, .int .i64 258), (5, .int .i64 1)]).run Try.prog w = .ok (tab0 t).val w := by kernel_rfl
def CB (w : World) (b : Nat) : Prop := ∃ m : Ch, Blk w b m.cells CT
def putK (w : World) (b : Nat) (m : Ch) : World := w.setRow b m.cells
theorem stC_put (w : World) (b : Nat) (m : Ch) (h : CB w b) : (stC (.pointer (some ⟨b, 0, none⟩)) m.val).run Try.prog w = .ok () (putK w b m) := by
  obtain ⟨g, h⟩ := h
  have hs := run_storeVar_row (P := Try.prog) w b CT CT g.cells m.cells h (by rw [infoCT, m.size]) (by rw [g.size, m.size]) m.one
  unfold stC
  simp only [Instr.storeAt, Instr.sureAddr, Sem.run_bind, Sem.run_pure, Result.andThen_ok]
  exact hs
theorem putK_blk {w : World} {b : Nat} (m : Ch) (h : CB w b) : Blk (putK w b m) b m.cells CT := by
  obtain ⟨g, h⟩ := h
  exact setRow_heap w b _ _ _ _ h
theorem putK_only (w : World) (b : Nat) (m : Ch) : Only b w (putK w b m) :=
  ⟨rfl, rfl, rfl, by simp [putK, World.setRow], fun k _ hb => by
    show (w.heap.modify b _)[k]? = _
    rw [Array.getElem?_modify, if_neg (fun e => hb e.symm)]⟩
theorem stC_new (w : World) (m g : Ch) : (stC (.pointer (some ⟨w.heap.size, 0, none⟩)) m.val).run Try.prog (w.alloc (.cells g.cells CT)) = .ok () (w.alloc (.cells m.cells CT)) := by
  rw [stC_put _ _ _ ⟨g, Blk.new w g.cells CT⟩]
  unfold putK
  rw [set_row_last]
theorem stC_new1 (w : World) (o : Obj) (m g : Ch) : (stC (.pointer (some ⟨w.heap.size + 1, 0, none⟩)) m.val).run Try.prog ((w.alloc o).alloc (.cells g.cells CT)) = .ok () ((w.alloc o).alloc (.cells m.cells CT)) := by
  have h := stC_new (w.alloc o) m g
  rw [World.size_alloc] at h
  exact h
noncomputable def stS (p v : Value) : Sem Unit := Instr.storeAt SLT p v
theorem stS_in (p v : Value) : Instr.storeAt SLT p v = stS p v := rfl
theorem set_last (w : World) (cs : Array Value) (t : TypeId) (i : Nat) (v : Value) : (w.alloc (.cells cs t)).setCell ⟨w.heap.size, i, none⟩ v = w.alloc (.cells (cs.setIfInBounds i v) t) := by
  simp only [World.setCell, World.alloc]
  congr 1
  apply Array.ext_getElem?
  intro k
  rw [Array.getElem?_modify]
  by_cases h : w.heap.size = k
  · subst h
    simp
  · have h' : ¬ k = w.heap.size := fun e => h e.symm
    simp [h, h', Array.getElem?_push]
theorem stS_tab (w : World) (o : Obj) (t : Int) : (stS (.pointer (some ⟨w.heap.size + 1, 6, none⟩)) (.agg #[.int .i64 8192, .int .i64 1, .int .i64 8])).run Try.prog ((w.alloc o).alloc (.cells (tab0 t).cells CT)) = .ok () ((w.alloc o).alloc (.cells (tab t).cells CT)) := by
  have hb := Blk.new (w.alloc o) (tab0 t).cells CT
  rw [World.size_alloc] at hb
  have h := run_storeAt_mid (P := Try.prog) ((w.alloc o).alloc (.cells (tab0 t).cells CT)) (w.heap.size + 1) 6 SLT #[.int .i64 8192, .int .i64 1, .int .i64 8] (fun j hj => by
    have hj' : j < 3 := hj
    exact ⟨by rw [hb.chat (by omega)]; rfl, hb.free _⟩) (by kernel_rfl) (by simp [Value.oneCell'])
  refine h.trans ?_
  have e : ∀ (cs : Array Value) (i : Nat) (v : Value), ((w.alloc o).alloc (.cells cs CT)).setCell ⟨w.heap.size + 1, i, none⟩ v = (w.alloc o).alloc (.cells (cs.setIfInBounds i v) CT) := fun cs i v => by
    have := set_last (w.alloc o) cs CT i v
    rwa [World.size_alloc] at this
  show Result.ok () ((((((w.alloc o).alloc (.cells (tab0 t).cells CT))).setCell ⟨w.heap.size + 1, 6, none⟩ _).setCell ⟨w.heap.size + 1, 7, none⟩ _).setCell ⟨w.heap.size + 1, 8, none⟩ _) = _
  rw [e, e, e]
  rfl
theorem stC_old (w : World) (o : Obj) (m g : Ch) : (stC (.pointer (some ⟨w.heap.size, 0, none⟩)) m.val).run Try.prog ((w.alloc (.cells g.cells CT)).alloc o) = .ok () (putK ((w.alloc (.cells g.cells CT)).alloc o) w.heap.size m) := stC_put _ _ _ ⟨g, (Blk.new w g.cells CT).alloc o⟩
theorem ldC_new1 (w : World) (o : Obj) (c : Ch) : (ldC (.pointer (some ⟨w.heap.size + 1, 0, none⟩))).run Try.prog ((w.alloc o).alloc (.cells c.cells CT)) = .ok c.val ((w.alloc o).alloc (.cells c.cells CT)) := by
  have := ldC_new (w.alloc o) c
  rwa [World.size_alloc] at this
attribute [local go_sem] alC_v bdC_tab stC_new stC_new1 stS_tab stC_old ldC_new1
attribute [local go_sem ↓] alC_in bdC_in stS_in

set_option maxRecDepth 100000 in
set_option maxHeartbeats 1000000 in
theorem table_c (t : Int) (w : World) : Calls Try.prog 6 #[.int .i64 t] w fun e w' => e = .returned (tab t).val ∧ Ext w w' := by
  have p2 : CB ((w.alloc (.cells Ch.zero.cells CT)).alloc (.cells (tab t).cells CT)) w.heap.size := ⟨_, (Blk.new w Ch.zero.cells CT).alloc _⟩
  have HP := hid (putK_blk (tab t) p2)
  have KK : Ext w ((w.alloc (.cells Ch.zero.cells CT)).alloc (.cells (tab t).cells CT)) := (by repeat (first | with_reducible exact Ext.refl _ | with_reducible assumption | with_reducible apply Ext.alloc | with_reducible apply Ext.drew | with_reducible apply Ext.drewN | (with_reducible refine Ext.set' ?_ (by first | omega | (simp only [World.size_alloc, World.size_setCell]; omega))) | (with_reducible refine Ext.trans ?_ (by with_reducible assumption)) | (with_reducible refine Ext.only ?_ (by with_reducible assumption) (by omega))))
  have KP := Ext.only KK (putK_only _ w.heap.size (tab t)) (Nat.le_refl _)
  clear p2 KK
  go_enter Try.func6, Try.ntmps6
  go_wp2_with fail
  exact bodyPost_ret (res_ch (Try.results6) rfl HP.out) rfl ⟨rfl, KP⟩

set_option maxRecDepth 100000 in
set_option maxHeartbeats 1000000 in
theorem same_c (u v : Value) (L : List Fr) (B C : Nat) (w : World) (hu : FrO w B u L) (hv : FrO w C v L) (hn : L.length ≤ 1000000) :
    Calls Try.prog 10 #[u, v] w fun e w' => e = .returned (.bool true) ∧ Ext w w' := by
  have K0 := Ext.refl w
  rcases hu with ⟨rfl, rfl⟩ | ⟨hne, hu⟩
  · rcases hv with ⟨_, rfl⟩ | ⟨h, _⟩
    · go_enter Try.func10, Try.ntmps10
      go_wp2_with fail
      go_loopg [5] 0 (fun g u5 wr => u5 = .int .i64 0 ∧ wr = w)
      case atStart => exact ⟨rfl, rfl⟩
      case round =>
        obtain ⟨rfl, rfl⟩ := hrel
        go_wp2_with fail
        go_ret
        exact ⟨rfl, K0⟩
    · exact absurd rfl h
  · rcases hv with ⟨h, _⟩ | ⟨_, hv⟩
    · exact absurd h hne
    · obtain ⟨g1, c1, rfl, _, h1⟩ := hu.frs hne
      obtain ⟨g2, c2, rfl, _, h2⟩ := hv.frs hne
      have H1 := hid h1
      have H2 := hid h2
      clear h1 h2 hu hv hne
      have e0 : ((L.length : Int) == (L.length : Int)) = true := by simp
      have e0' : ((L.length : Int) != (L.length : Int)) = false := by simp
      go_enter Try.func10, Try.ntmps10
      go_wp2_with fail
      go_loopg [5] L.length (fun g u5 wr => ∃ i : Nat, i + g = L.length ∧ u5 = .int .i64 i ∧ Ext w wr)
      case atStart => exact ⟨0, by omega, rfl, K0⟩
      case round =>
        clear K0
        obtain ⟨i, hig, rfl, K⟩ := hrel
        by_cases hlt : i < L.length
        · have e1 : decide ((i : Int) < (L.length : Int)) = true := by simp; omega
          have i0 : (0 : Int) ≤ (i : Int) := by omega
          have i1 : (i : Int) < (L.length : Int) := by omega
          have hf : L[i]? = some L[i] := List.getElem?_eq_getElem hlt
          have l1 := H1.out i _ hf _ K.drew
          have l2 := H2.out i _ hf _ K.drew
          generalize L[i] = f at *
          have f1 := frEq_refl f
          clear hf
          go_wp2_with fail
          go_region
          go_wp2_with fail
          go_roundg (gk - 1)
          case rel => exact ⟨i + 1, by omega, by go_num, K.drew⟩
          case measure => omega
        · obtain rfl : i = L.length := by omega
          have e1 : decide ((L.length : Int) < (L.length : Int)) = false := by simp
          go_wp2_with fail
          go_ret
          exact ⟨rfl, K⟩

theorem OwnF.ld {w : World} {base g n c : Nat} {L : List Fr} (h : OwnF w base (.slice (some ⟨g, 0, none⟩) n c) L) {i : Nat} {f : Fr} (hf : L[i]? = some f) (w' : World) (k : Ext w w') : (ldF (.pointer (some ⟨g, i * 11, none⟩))).run Try.prog w' = .ok f.val w' := by
  obtain ⟨g', c', e, _, h1⟩ := h.frs (by intro e; subst e; simp at hf)
  injection e with e
  injection e with e
  injection e with e
  subst e
  exact h1 i f hf w' k
theorem live_step : Mk.zero.step 3 true (tab 10) [5] = (⟨true, tab 10, 3, 1⟩, two (tab 10) [5]) := by kernel_rfl
theorem live_step2 : Mk.step ⟨true, tab 10, 3, 1⟩ 4 true (tab 10) [5] = (⟨true, tab 10, 3, 1⟩, []) := by kernel_rfl
set_option maxRecDepth 100000 in
set_option maxHeartbeats 2000000 in
theorem live_c (w : World) : Calls Try.prog 11 #[] w fun e w' => e = .returned (.bool true) ∧ Ext w w' := by
  have TB := hid (fun w => table_c 10 w)
  have S1 := hid live_step
  have S2 := hid live_step2
  have K0 := Ext.refl w
  go_enter Try.func11, Try.ntmps11
  go_wp2_with fail
  (with_reducible refine (mnew_c _).mono ?_); rintro e w1 ⟨g, rfl, hb, hg, k1⟩
  have HB := hid hb
  clear hb
  go_wp2_with fail
  (with_reducible refine (TB.out _).mono ?_); rintro e w2 ⟨rfl, k2⟩
  have K2 : Ext w w2 := k1.trans k2
  have HA := hid (Bs.own (own8_one w2 w2.heap.size 5 (Nat.le_refl _)) (Byt.one (x := 5) (by omega) (by omega)))
  have HB2 := hid ((k2.blk HB.out).alloc (.cells #[.int .u8 5] U8))
  have K2' : Ext w (w2.alloc (.cells #[.int .u8 5] U8)) := (by repeat (first | with_reducible exact Ext.refl _ | with_reducible assumption | with_reducible apply Ext.alloc | with_reducible apply Ext.drew | with_reducible apply Ext.drewN | (with_reducible refine Ext.set' ?_ (by first | omega | (simp only [World.size_alloc, World.size_setCell]; omega))) | (with_reducible refine Ext.trans ?_ (by with_reducible assumption)) | (with_reducible refine Ext.only ?_ (by with_reducible assumption) (by omega))))
  go_wp2_with fail
  (with_reducible refine (step_c g Mk.zero 3 true (tab 10) _ [5] _ HB2.out HA.out (by decide) (by decide) (by decide) (by decide)).mono ?_); rintro e w3 ⟨u, rfl, hu, hb3, k3⟩
  rw [S1.out] at hu hb3
  simp only at hu hb3
  rcases hu with ⟨h, _⟩ | ⟨hne, hu⟩
  · exact absurd h (by unfold two; simp)
  obtain ⟨gf, cf, rfl, _, hf⟩ := hu.frs hne
  have HU := hid hu
  have hl2 : (two (tab 10) [5]).length = 2 := rfl
  rw [hl2]
  have K3 : Ext w w3 := Ext.only K2' k3 hg
  have HB3 := hid hb3
  have hgb : g < (w2.alloc (.cells #[.int .u8 5] U8)).heap.size := HB2.out.lt
  clear hf hu hne hb3 k3 k1 k2 K2 K2' HB HB2 hl2
  go_wp2_with fail
  (with_reducible refine (TB.out _).mono ?_); rintro e w4 ⟨rfl, k4⟩
  have HA4 := hid (Bs.own (own8_one w4 w4.heap.size 5 (Nat.le_refl _)) (Byt.one (x := 5) (by omega) (by omega)))
  have HB4 := hid ((k4.blk HB3.out).alloc (.cells #[.int .u8 5] U8))
  have k34 : Ext w3 (w4.alloc (.cells #[.int .u8 5] U8)) := (by repeat (first | with_reducible exact Ext.refl _ | with_reducible assumption | with_reducible apply Ext.alloc | with_reducible apply Ext.drew | with_reducible apply Ext.drewN | (with_reducible refine Ext.set' ?_ (by first | omega | (simp only [World.size_alloc, World.size_setCell]; omega))) | (with_reducible refine Ext.trans ?_ (by with_reducible assumption)) | (with_reducible refine Ext.only ?_ (by with_reducible assumption) (by omega))))
  have K4 : Ext w (w4.alloc (.cells #[.int .u8 5] U8)) := K3.trans k34
  go_wp2_with fail
  (with_reducible refine (step_c g ⟨true, tab 10, 3, 1⟩ 4 true (tab 10) _ [5] _ HB4.out HA4.out (by decide) (by decide) (by decide) (by decide)).mono ?_); rintro e w5 ⟨u5, rfl, hu5, hb5, k5⟩
  rw [S2.out] at hu5 hb5
  simp only at hu5 hb5
  rcases hu5 with ⟨_, rfl⟩ | ⟨h, _⟩
  · have hu2 := (HU.out.below k34).only k5 hgb
    have K5 : Ext w w5 := Ext.only K4 k5 hg
    have LF : ∀ w', Ext w5 w' → (ldF (.pointer (some ⟨gf, 0, none⟩))).run Try.prog w' = .ok (Fr.val ⟨257, false, 1, 5, 0, 0, 0, 0, 0, 0, 0⟩) w' := fun w' k => by
      have := hu2.ld (i := 0) rfl w' k
      rw [Nat.zero_mul] at this
      exact this
    have E5 := Ext.refl w5
    have f1 := frEq_refl ⟨257, false, 1, 5, 0, 0, 0, 0, 0, 0, 0⟩
    have HB5 := hid hb5
    clear hu2 hb5 k34 k5 K4 K3
    go_wp2_with fail
    (with_reducible refine (sent_c g _ _ HB5.out).mono ?_); rintro e w6 ⟨rfl, k6⟩
    have K6 := K5.trans k6
    go_wp2_with fail
    go_ret
    exact ⟨rfl, K6⟩
  · exact absurd rfl h

end Go.Proofs.Ytbjfhdkgbhkodaa
