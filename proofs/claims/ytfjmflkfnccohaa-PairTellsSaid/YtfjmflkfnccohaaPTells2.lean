/- The law PairTells: its walk. -/
import Derived.Test.YtfjmflkfnccohaaPTells
set_option linter.unusedSimpArgs false
set_option linter.unusedVariables false
set_option linter.unnecessarySimpa false
namespace Go.Proofs.Ytfjmflkfnccohaa
open Go.RowKit Go.Proofs.YtfjmflkfnccohaaW.PrintWords
attribute [local go_sem] max2_max min2_min max_of_two min_of_two bxF_fr stF_fr stF_fr2 stF_put ldF_put ldV_put ldF_new guard_eq guard_ne bin_eq bin_ne alF_fr bdF_none bdF_ask bdF_len bdF_dat ext_drew' ext_alloc
attribute [local go_sem ↓] ldF_in ldV_in bxF_in stF_in cvS_in alF_in bdF_in ixS_in
attribute [local go_sem] gUpon cvB_run
attribute [local go_sem ↓] cvB_in

set_option maxRecDepth 100000 in
set_option maxHeartbeats 4000000 in
theorem tells_no (size : Int) (A : Option Addr) (c n : Nat) (w : World) (h : size < 1 ∨ 8 < size) :
    Calls Try.prog 4 #[.int .i64 size, .slice A n c] w fun e w' => e = .returned (.bool true) ∧ Ext w w' := by
  have hcase : decide (size < 1) = true ∨ (decide (size < 1) = false ∧ decide (8 < size) = true) := by
    by_cases h' : size < 1
    · exact .inl (by simpa using h')
    · exact .inr ⟨by simpa using h', by simp; omega⟩
  have H := hid h
  clear h
  rcases hcase with e1 | ⟨e1, e2⟩
  all_goals
    go_enter Try.func4, Try.ntmps4
    go_wp2_with fail
    (with_reducible refine (knew_c size _).mono ?_); rintro e w1 hk
    rw [if_pos H.out] at hk
    obtain ⟨rfl, k1⟩ := hk
    go_wp2_with fail
    (with_reducible refine (clear_nil _).mono ?_); rintro e w2 ⟨rfl, k2⟩
    have K2 := k1.trans k2
    clear k1 k2
    go_wp2_with fail
    (with_reducible refine (live_c _).mono ?_); rintro e w3 ⟨rfl, k3⟩
    have K3 := K2.trans k3
    clear K2 k3
    go_wp2_with fail
    (with_reducible refine (plain_nil _ _).mono ?_); rintro e w4 ⟨rfl, k4⟩
    have K4 := K3.trans k4
    clear K3 k4
    go_wp2_with fail
    (with_reducible refine (turned_nil _ _).mono ?_); rintro e w5 ⟨rfl, k5⟩
    have K5 := K4.trans k5
    clear K4 k5
    go_wp2_with fail
    (with_reducible refine (half_nil _).mono ?_); rintro e w6 ⟨rfl, k6⟩
    have K6 := K5.trans k6
    clear K5 k6
    go_wp2_with fail
    (with_reducible refine (value_nil _).mono ?_); rintro e w7 ⟨rfl, k7⟩
    have K7 := K6.trans k7
    clear K6 k7
    go_wp2_with fail
    (with_reducible refine (fork_nil _).mono ?_); rintro e w8 ⟨rfl, k8⟩
    have K8 := K7.trans k8
    clear K7 k8
    go_wp2_with fail
    go_ret
    exact ⟨rfl, K8⟩

end Go.Proofs.Ytfjmflkfnccohaa
