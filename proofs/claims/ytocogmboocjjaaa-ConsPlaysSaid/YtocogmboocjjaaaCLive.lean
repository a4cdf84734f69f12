/- What must be whatever is asked (layer 30). -/
import Derived.Test.YtocogmboocjjaaaTab
set_option linter.unusedSimpArgs false
set_option linter.unusedVariables false
set_option linter.unnecessarySimpa false
namespace Go.Proofs.Ytocogmboocjjaaa
open Go.RowKit Go.Proofs.YtocogmboocjjaaaW.PrintWords
attribute [local go_sem] max2_max min2_min max_of_two min_of_two bxF_fr stF_fr stF_fr2 stF_put ldF_put ldV_put ldF_new guard_eq guard_ne bin_eq bin_ne alF_fr bdF_none bdF_ask bdF_len bdF_dat ext_drew' ext_alloc
attribute [local go_sem ↓] ldF_in ldV_in bxF_in stF_in cvS_in alF_in bdF_in ixS_in
attribute [local go_sem] bxC_ch chguard_eq chguard_ne chbin_eq chbin_ne ldC_new bxT_v alT_v stT_put stT_new bdT_none bdT_failed bdT_v bdW_v gUpon gStill
attribute [local go_sem ↓] ldC_in bxC_in stC_in ldT_in bxT_in stT_in alT_in bdT_in bdW_in
attribute [local go_sem] alC_v bdC_tab stC_new stC_new1 stS_tab stC_old ldC_new1
attribute [local go_sem ↓] alC_in bdC_in stS_in

def A1 : Ts := ⟨true, tab2 10 2, 0, ⟨1, false, [], []⟩, ⟨true, 3, 10, false, 0, 2⟩⟩
def A2 : Ts := ⟨true, tab2 10 2, 0, ⟨1, true, [5], []⟩, ⟨true, 3, 10, true, 5, 2⟩⟩
def A3 : Ts := ⟨true, tab2 10 2, 0, ⟨1, false, [], [5]⟩, ⟨true, 6, 10, false, 5, 2⟩⟩
theorem live1 : (Ts.rest 0).begin 3 true (tab2 10 2) = (A1, 0) := by kernel_rfl
theorem live2 : A1.hear 5 ⟨257, false, 1, 5, 0, 0, 0, 0, 0, 0, 0⟩ = (A2, [], 0) := by kernel_rfl
theorem live3 : A2.hear 6 ⟨258, false, 1, 250, 0, 0, 0, 0, 0, 0, 0⟩ = (A3, [5], 0) := by kernel_rfl
theorem live4 : A3.begin 16 true (tab2 10 2) = (A3, 0) := by kernel_rfl
theorem live5 : A3.begin 17 true (tab2 10 2) = (Ts.rest 4, 4) := by kernel_rfl
theorem byt8 (d : Int) (h0 : 0 ≤ d) (h1 : d ≤ 255) (id : Int) : Byt (Fr.data ⟨id, false, 1, d, 0, 0, 0, 0, 0, 0, 0⟩) := by
  intro x hx
  simp only [Fr.data, List.mem_cons, List.not_mem_nil, or_false] at hx
  rcases hx with rfl | rfl | rfl | rfl | rfl | rfl | rfl | rfl <;> omega
theorem Nx.le {w : World} {b c c' B : Nat} (h : Nx w b c c') (hb : B ≤ b) (hc : B ≤ c) (hs : B ≤ w.heap.size) : B ≤ c' := by
  rcases h with rfl | rfl | h
  · exact hc
  · exact hb
  · omega

set_option maxRecDepth 100000 in
set_option maxHeartbeats 4000000 in
theorem clive_c (w : World) : Calls Try.prog 10 #[] w fun e w' => e = .returned (.bool true) ∧ Ext w w' := by
  have hstr : mkS [5] = ⟨#[5]⟩ := rfl
  go_enter Try.func10, Try.ntmps10
  go_wp2_with fail
  (with_reducible refine (cnew_c _).mono ?_); rintro e w1 ⟨b, rfl, ht, hb, k1⟩
  have HT := hid ht
  have K1 : Ext w w1 := k1
  have hb1 : w.heap.size ≤ b := hb
  clear ht hb k1
  go_wp2_with fail
  (with_reducible refine (table2_c 10 2 _).mono ?_); rintro e w2 ⟨rfl, k2⟩
  have HT2 := hid ((HT.out.ext k2).ext ((Ext.refl w2).alloc (o := .cells (tab2 10 2).cells CT)))
  have HX2 := hid (Blk.new w2 (tab2 10 2).cells CT)
  have lx2 := ldC_blk HX2.out
  have K2 : Ext w (w2.alloc (.cells (tab2 10 2).cells CT)) := (K1.trans k2).alloc
  clear HT K1 k2
  go_wp2_with fail
  generalize hxb : w2.heap.size = xb at *
  generalize (w2.alloc (.cells (tab2 10 2).cells CT)) = w3 at *
  have B1 := hid (begin_c b b b _ 3 true (tab2 10 2) w3 HT2.out)
  rw [live1] at B1
  (with_reducible refine (B1.out).mono ?_); rintro e w4 ⟨rfl, cb, gb, ht, o4, n1, n2⟩
  simp only at ht
  have HT4 := hid ht
  have HX4 := hid (HT2.out.keep o4 HX2.out (by decide) (by decide) (by decide))
  have hc4 : w.heap.size ≤ cb := n1.le hb1 hb1 K2.le
  have hg4 : w.heap.size ≤ gb := n2.le hb1 hb1 K2.le
  have K4 : Ext w w4 := o4.ext K2 hb1 hb1 hb1
  clear ht HT2 HX2 o4 n1 n2 B1 lx2 K2 hxb
  go_wp2_with fail
  have H1 := hid (hear_c b cb gb A1 5 ⟨257, false, 1, 5, 0, 0, 0, 0, 0, 0, 0⟩ w4 HT4.out (byt8 5 (by omega) (by omega) 257))
  rw [live2] at H1
  (with_reducible refine (H1.out).mono ?_); rintro e w5 ⟨u5, rfl, -, ⟨cb5, gb5, ht, n1, n2⟩, o5⟩
  simp only at ht
  have HT5 := hid ht
  have HX5 := hid (HT4.out.keep o5 HX4.out (by decide) (by decide) (by decide))
  have hc5 : w.heap.size ≤ cb5 := n1.le hb1 hc4 K4.le
  have hg5 : w.heap.size ≤ gb5 := n2.le hb1 hg4 K4.le
  have K5 : Ext w w5 := o5.ext K4 hb1 hc4 hg4
  clear ht HT4 HX4 o5 n1 n2 H1 K4 hc4 hg4
  go_wp2_with fail
  have H2 := hid (hear_c b cb5 gb5 A2 6 ⟨258, false, 1, 250, 0, 0, 0, 0, 0, 0, 0⟩ w5 HT5.out (byt8 250 (by omega) (by omega) 258))
  rw [live3] at H2
  (with_reducible refine (H2.out).mono ?_); rintro e w6 ⟨u6, rfl, hu, ⟨cb6, gb6, ht, n1, n2⟩, o6⟩
  simp only at ht hu
  have HT6 := hid ht
  have HX6 := hid (HT5.out.keep o6 HX5.out (by decide) (by decide) (by decide))
  have hc6 : w.heap.size ≤ cb6 := n1.le hb1 hc5 K5.le
  have hg6 : w.heap.size ≤ gb6 := n2.le hb1 hg5 K5.le
  have K6 : Ext w w6 := o6.ext K5 hb1 hc5 hg5
  have hs6 := hu.bs.str
  rw [hstr] at hs6
  have lx6 := ldC_blk HX6.out
  clear ht HT5 HX5 o6 n1 n2 H2 K5 hc5 hg5 hu hstr
  go_wp2_with fail
  have B2 := hid (begin_c b cb6 gb6 A3 16 true (tab2 10 2) w6 HT6.out)
  rw [live4] at B2
  (with_reducible refine (B2.out).mono ?_); rintro e w7 ⟨rfl, cb7, gb7, ht, o7, n1, n2⟩
  simp only at ht
  have HT7 := hid ht
  have HX7 := hid (HT6.out.keep o7 HX6.out (by decide) (by decide) (by decide))
  have hc7 : w.heap.size ≤ cb7 := n1.le hb1 hc6 K6.le
  have hg7 : w.heap.size ≤ gb7 := n2.le hb1 hg6 K6.le
  have K7 : Ext w w7 := o7.ext K6 hb1 hc6 hg6
  have lx7 := ldC_blk HX7.out
  clear ht HT6 HX6 o7 n1 n2 B2 K6 hc6 hg6 hs6 lx6
  go_wp2_with fail
  have B3 := hid (begin_c b cb7 gb7 A3 17 true (tab2 10 2) w7 HT7.out)
  rw [live5] at B3
  (with_reducible refine (B3.out).mono ?_); rintro e w8 ⟨rfl, cb8, gb8, ht, o8, n1, n2⟩
  simp only at ht
  have FC := hid (failed_c b 4 w8 ht.cf)
  have K8 : Ext w w8 := o8.ext K7 hb1 hc7 hg7
  clear ht HT7 HX7 o8 n1 n2 B3 K7 hc7 hg7 lx7
  go_wp2_with fail
  (with_reducible refine (FC.out).mono ?_); rintro e w9 ⟨rfl, rfl⟩
  go_wp2_with fail
  go_ret
  exact ⟨rfl, K8⟩

end Go.Proofs.Ytocogmboocjjaaa
