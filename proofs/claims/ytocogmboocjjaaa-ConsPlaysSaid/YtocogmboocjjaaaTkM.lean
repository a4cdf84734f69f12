/- Package cons: a taker's methods but for Hear. -/
import Derived.Test.YtocogmboocjjaaaTakes
set_option linter.unusedSimpArgs false
set_option linter.unusedVariables false
set_option linter.unnecessarySimpa false
namespace Go.Proofs.Ytocogmboocjjaaa
open Go.RowKit Go.Proofs.YtocogmboocjjaaaW.PrintWords
attribute [local go_sem] max2_max min2_min max_of_two min_of_two bxF_fr stF_fr stF_fr2 stF_put ldF_put ldV_put ldF_new guard_eq guard_ne bin_eq bin_ne alF_fr bdF_none bdF_ask bdF_len bdF_dat ext_drew' ext_alloc
attribute [local go_sem ↓] ldF_in ldV_in bxF_in stF_in cvS_in alF_in bdF_in ixS_in
attribute [local go_sem] bxC_ch chguard_eq chguard_ne chbin_eq chbin_ne ldC_new bxT_v alT_v stT_put stT_new bdT_none bdT_failed bdT_v bdW_v gUpon gStill
attribute [local go_sem ↓] ldC_in bxC_in stC_in ldT_in bxT_in stT_in alT_in bdT_in bdW_in

theorem cnew_c (w : World) : Calls Try.prog 8 #[] w fun e w' => ∃ b, e = .returned (.pointer (some ⟨b, 0, none⟩)) ∧ TkAt w' b b b (Ts.rest 0) ∧ w.heap.size ≤ b ∧ Ext w w' := by
  have HB := hid (Blk.new w (Tr.rest 0).cells TT)
  go_enter Try.func8, Try.ntmps8
  go_wp2_with fail
  go_ret
  exact ⟨_, rfl, .inr ⟨rfl, HB.out, rfl, rfl⟩, Nat.le_refl _, (by repeat (first | with_reducible exact Ext.refl _ | with_reducible assumption | with_reducible apply Ext.alloc | with_reducible apply Ext.drew | with_reducible apply Ext.drewN | (with_reducible refine Ext.set' ?_ (by first | omega | (simp only [World.size_alloc, World.size_setCell]; omega))) | (with_reducible refine Ext.trans ?_ (by with_reducible assumption)) | (with_reducible refine Ext.only ?_ (by with_reducible assumption) (by omega))))⟩
theorem TkAt.tb {w : World} {b cb gb : Nat} {t : Ts} (h : TkAt w b cb gb t) : TB w b := by
  rcases h with ⟨_, h, _⟩ | ⟨_, h, _⟩ <;> exact ⟨_, h⟩
theorem TkAt.cw {w : World} {b cb gb : Nat} {t : Ts} (h : TkAt w b cb gb t) : w.cell? ⟨b, 32, none⟩ = some (.bool t.works) := by
  rcases h with ⟨h1, h, _⟩ | ⟨h1, h, _⟩ <;> rw [h1] <;> exact h.cell 32 _ (Tr.c32 _)
theorem TkAt.cf {w : World} {b cb gb : Nat} {t : Ts} (h : TkAt w b cb gb t) : w.cell? ⟨b, 33, none⟩ = some (.int .i64 t.failed) := by
  rcases h with ⟨h1, h, _, _, h2, _⟩ | ⟨h1, h, _⟩
  · rw [h2]; exact h.cell 33 _ (Tr.c33 _)
  · exact h.cell 33 _ (Tr.c33 _)
theorem hb_lt {w : World} {b : Nat} (h : TB w b) : b < w.heap.size := by
  obtain ⟨m, h⟩ := h
  exact h.lt
theorem TB.ext {a w : World} {b : Nat} (h : TB a b) (k : Ext a w) : TB w b := by
  obtain ⟨m, h⟩ := h
  exact ⟨m, k.blk h⟩
theorem works_c (b : Nat) (q : Bool) (w : World) (h : w.cell? ⟨b, 32, none⟩ = some (.bool q)) : Calls Try.prog 12 #[.pointer (some ⟨b, 0, none⟩)] w fun e w' => e = .returned (.bool q) ∧ w = w' := by
  go_enter Try.func12, Try.ntmps12
  go_wp2_with fail
  go_ret
  exact ⟨rfl, rfl⟩
theorem works_nil (w : World) : Calls Try.prog 12 #[.pointer none] w fun e w' => e = .returned (.bool false) ∧ w = w' := by
  go_enter Try.func12, Try.ntmps12
  go_wp2_with fail
  go_ret
  exact ⟨rfl, rfl⟩
theorem failed_c (b : Nat) (q : Int) (w : World) (h : w.cell? ⟨b, 33, none⟩ = some (.int .i64 q)) : Calls Try.prog 11 #[.pointer (some ⟨b, 0, none⟩)] w fun e w' => e = .returned (.int .i64 q) ∧ w = w' := by
  go_enter Try.func11, Try.ntmps11
  go_wp2_with fail
  go_ret
  exact ⟨rfl, rfl⟩
theorem failed_nil (w : World) : Calls Try.prog 11 #[.pointer none] w fun e w' => e = .returned (.int .i64 0) ∧ w = w' := by
  go_enter Try.func11, Try.ntmps11
  go_wp2_with fail
  go_ret
  exact ⟨rfl, rfl⟩
theorem reset_c (b : Nat) (w : World) (h : TB w b) : Calls Try.prog 23 #[.pointer (some ⟨b, 0, none⟩)] w fun e w' => e = .returned (.tuple #[]) ∧ TkAt w' b b b (Ts.rest 0) ∧ Only b w w' := by
  have HP := hid (putT_blk (Tr.rest 0) h)
  have KP := hid (putT_only w b (Tr.rest 0))
  go_enter Try.func23, Try.ntmps23
  go_wp2_with fail
  go_end0
  exact ⟨rfl, .inr ⟨rfl, HP.out, rfl, rfl⟩, KP.out⟩
theorem reset_nil (w : World) : Calls Try.prog 23 #[.pointer none] w fun e w' => e = .returned (.tuple #[]) ∧ w = w' := by
  go_enter Try.func23, Try.ntmps23
  go_wp2_with fail
  go_end0
  exact ⟨rfl, rfl⟩
theorem fail0_c (b : Nat) (w : World) : Calls Try.prog 28 #[.pointer (some ⟨b, 0, none⟩), .int .i64 0] w fun e w' => e = .returned (.int .i64 0) ∧ w = w' := by
  go_enter Try.func28, Try.ntmps28
  go_wp2_with fail
  go_ret
  exact ⟨rfl, rfl⟩
theorem fail1_c (b : Nat) (c : Int) (w : World) (hc : c ≠ 0) (h : TB w b) : Calls Try.prog 28 #[.pointer (some ⟨b, 0, none⟩), .int .i64 c] w fun e w' => e = .returned (.int .i64 c) ∧ TkAt w' b b b (Ts.rest c) ∧ Only b w w' := by
  have e1 : (c != 0) = true := by simpa using hc
  have HP := hid (putT_blk (Tr.rest c) h)
  have KP := hid (putT_only w b (Tr.rest c))
  clear hc
  go_enter Try.func28, Try.ntmps28
  go_wp2_with fail
  go_ret
  exact ⟨rfl, .inr ⟨rfl, HP.out, rfl, rfl⟩, KP.out⟩
def Ts.start (now : Int) (x : Ch) : Ts := ⟨true, x, 0, ⟨x.sz, false, [], []⟩, (Gd.wake ⟨false, 0, x.at 1, false, 0, x.at 2⟩ now)⟩
theorem tks_in {x : Ch} (h : x.tks = true) : x.at 0 = 2 ∧ mayB (x.at 1) = true ∧ mayB (x.at 2) = true ∧ 1 ≤ x.sz ∧ x.sz ≤ 8 ∧ x.at 3 ≠ x.at 4 ∧ idB (x.at 3) = true ∧ idB (x.at 4) = true := by
  unfold Ch.tks at h
  simp only [Bool.and_eq_true, Bool.not_eq_true', decide_eq_true_iff, decide_eq_false_iff_not] at h
  exact h

set_option maxRecDepth 100000 in
set_option maxHeartbeats 1000000 in
theorem start_c (b : Nat) (now : Int) (x : Ch) (w : World) (hx : x.tks = true) (h : TB w b) :
    Calls Try.prog 27 #[.pointer (some ⟨b, 0, none⟩), .int .i64 now, x.val] w fun e w' => ∃ cb gb, e = .returned (.tuple #[]) ∧ TkAt w' b cb gb (Ts.start now x) ∧ Only b w w' ∧ w.heap.size ≤ cb ∧ w.heap.size ≤ gb := by
  obtain ⟨_, m1, m2, z1, z2, _⟩ := tks_in hx
  have HB := hid (Blk.new w x.cells CT)
  have K0 : Ext w (w.alloc (.cells x.cells CT)) := (by repeat (first | with_reducible exact Ext.refl _ | with_reducible assumption | with_reducible apply Ext.alloc | with_reducible apply Ext.drew | with_reducible apply Ext.drewN | (with_reducible refine Ext.set' ?_ (by first | omega | (simp only [World.size_alloc, World.size_setCell]; omega))) | (with_reducible refine Ext.trans ?_ (by with_reducible assumption)) | (with_reducible refine Ext.only ?_ (by with_reducible assumption) (by omega))))
  have lx := ldC_blk HB.out
  have SZ := hid (fun w => psize_c x w)
  have KN := hid (fun w => (by have := knew_c x.sz w; simp only [if_neg (show ¬ (x.sz < 1 ∨ 8 < x.sz) by omega)] at this; exact this :
    Calls Try.prog 51 #[.int .i64 x.sz] w fun e w' => ∃ g, e = .returned (.tuple #[.pointer (some ⟨g, 0, none⟩), .int .i64 0]) ∧ CkAt w' g ⟨x.sz, false, [], []⟩ ∧ w.heap.size ≤ g ∧ Ext w w'))
  have GN := hid (fun w => new_yes (x.at 1) (x.at 2) w m1 m2)
  have OK := hid (Gd.Ok.wake (Gd.Ok.mk0 m1 m2) now)
  have HT := hid h
  clear h m1 m2 z1 z2 hx
  go_enter Try.func27, Try.ntmps27
  go_wp2_with fail
  (with_reducible refine (SZ.out _).mono ?_); rintro e w1 ⟨rfl, k1⟩
  have K1 := K0.trans k1
  have HB1 := hid (k1.blk HB.out)
  clear k1 SZ HB lx K0
  go_wp2_with fail
  (with_reducible refine (KN.out _).mono ?_); rintro e w2 ⟨cb, rfl, hck, hcb, k2⟩
  have K2 := K1.trans k2
  have HB2 := k2.blk HB1.out
  have c1 : w2.cell? ⟨w.heap.size, 1, none⟩ = _ := HB2.chat (j := 1) (by omega)
  have c2 : w2.cell? ⟨w.heap.size, 2, none⟩ = _ := HB2.chat (j := 2) (by omega)
  have HB2' := hid HB2
  have hcb' : w.heap.size ≤ cb := Nat.le_trans K1.le hcb
  have HCK := hid hck
  have hcl : cb < w2.heap.size := by obtain ⟨cs, h⟩ := hck.blk; exact h.lt
  clear k2 KN HB1 HB2 K1 hcb hck
  go_wp2_with fail
  (with_reducible refine (GN.out _).mono ?_); rintro e w3 ⟨rfl, hg, k3⟩
  have K3 : Ext w w3 := K2.trans k3
  have HC3 := hid (HCK.out.ext k3)
  have HB3 := hid (Ext.blk k3 HB2'.out)
  have hg' : w.heap.size ≤ w2.heap.size := K2.le
  have HG := hid hg
  generalize w2.heap.size = gb at *
  clear k3 GN K2 HCK HB2' hg c1 c2
  go_wp2_with fail
  (with_reducible refine (wake_any gb _ now w3 HG.out).mono ?_); rintro e w4 ⟨rfl, hg4, k4⟩
  have HG4 := hid hg4
  have hne : cb ≠ gb := by omega
  have K4 : Ext w w4 := Ext.only K3 k4 hg'
  have HC4 : Hid (CkAt w4 cb ⟨x.sz, false, [], []⟩) := hid (by
    obtain ⟨vb, vv, h1, h2, h3⟩ := HC3.out
    exact ⟨vb, vv, h1.kept k4 hne, h2.only HG.out (by decide) k4, h3.only HG.out (by decide) k4⟩)
  have hbl := hb_lt HT.out
  have HT4 : TB w4 b := HT.out.ext K4
  have lx4 := ldC_blk (HB3.out.kept k4 (by omega))
  have HP := hid (putT_blk ⟨some ⟨cb, 0, none⟩, some ⟨gb, 0, none⟩, x, true, 0⟩ HT4)
  have KP := hid (putT_only w4 b ⟨some ⟨cb, 0, none⟩, some ⟨gb, 0, none⟩, x, true, 0⟩)
  have KW := hid K4
  clear hg4 k4 HC3 HB3 HG K3 K4
  go_wp2_with fail
  go_end0
  refine ⟨cb, gb, rfl, .inl ⟨rfl, HP.out, ?_, HG4.out.kept KP.out (by omega), rfl, OK.out, by show (0 : Nat) ≤ 8; omega, by show (0 : Nat) ≤ 8; omega⟩, (Only.of_ext KW.out).trans KP.out, hcb', hg'⟩
  obtain ⟨m, hm⟩ := HT4
  obtain ⟨vb, vv, h1, h2, h3⟩ := HC4.out
  exact ⟨vb, vv, h1.kept KP.out (by omega), h2.only hm (by decide) KP.out, h3.only hm (by decide) KP.out⟩

end Go.Proofs.Ytocogmboocjjaaa
