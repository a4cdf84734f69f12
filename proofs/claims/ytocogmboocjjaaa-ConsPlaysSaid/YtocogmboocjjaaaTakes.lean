/- Does a table take? The small functions. -/
import Derived.Test.YtocogmboocjjaaaTk
set_option linter.unusedSimpArgs false
set_option linter.unusedVariables false
set_option linter.unnecessarySimpa false
namespace Go.Proofs.Ytocogmboocjjaaa
open Go.RowKit Go.Proofs.YtocogmboocjjaaaW.PrintWords
attribute [local go_sem] max2_max min2_min max_of_two min_of_two bxF_fr stF_fr stF_fr2 stF_put ldF_put ldV_put ldF_new guard_eq guard_ne bin_eq bin_ne alF_fr bdF_none bdF_ask bdF_len bdF_dat ext_drew' ext_alloc
attribute [local go_sem ↓] ldF_in ldV_in bxF_in stF_in cvS_in alF_in bdF_in ixS_in
attribute [local go_sem] bxC_ch chguard_eq chguard_ne chbin_eq chbin_ne ldC_new bxT_v alT_v stT_put stT_new bdT_none bdT_failed bdT_v bdW_v gUpon gStill
attribute [local go_sem ↓] ldC_in bxC_in stC_in ldT_in bxT_in stT_in alT_in bdT_in bdW_in

def idB (n : Int) : Bool := decide (0 ≤ n) && decide (n ≤ 2047)
def tkB (n : Int) : Bool := decide (0 ≤ n) && decide (n ≤ 2147483647)
def Ch.tks (c : Ch) : Bool := decide (c.at 0 = 2) && (mayB (c.at 1) && (mayB (c.at 2) && (decide (1 ≤ c.sz) && (decide (c.sz ≤ 8) && (!decide (c.at 3 = c.at 4) && (idB (c.at 3) && idB (c.at 4)))))))
theorem ctime_c (n : Int) (w : World) : Calls Try.prog 40 #[.int .i64 n] w fun e w' => e = .returned (.bool (mayB n)) ∧ w = w' := by
  by_cases h0 : 1 ≤ n
  · have e1 : decide (1 ≤ n) = true := by simpa using h0
    by_cases h1 : n ≤ 65535
    · have e2 : decide (n ≤ 65535) = true := by simpa using h1
      have e3 : mayB n = true := by unfold mayB; rw [e1, e2]; rfl
      rw [e3]
      clear e3 h0 h1
      go_enter Try.func40, Try.ntmps40
      go_wp2_with fail
      go_ret
      exact ⟨rfl, rfl⟩
    · have e2 : decide (n ≤ 65535) = false := by simpa using h1
      have e3 : mayB n = false := by unfold mayB; rw [e1, e2]; rfl
      rw [e3]
      clear e3 h0 h1
      go_enter Try.func40, Try.ntmps40
      go_wp2_with fail
      go_ret
      exact ⟨rfl, rfl⟩
  · have e1 : decide (1 ≤ n) = false := by simpa using h0
    have e3 : mayB n = false := by unfold mayB; rw [e1]; rfl
    rw [e3]
    clear e3 h0
    go_enter Try.func40, Try.ntmps40
    go_wp2_with fail
    go_ret
    exact ⟨rfl, rfl⟩
theorem cid_c (n : Int) (w : World) : Calls Try.prog 41 #[.int .i64 n] w fun e w' => e = .returned (.bool (idB n)) ∧ w = w' := by
  by_cases h0 : 0 ≤ n
  · have e1 : decide (0 ≤ n) = true := by simpa using h0
    by_cases h1 : n ≤ 2047
    · have e2 : decide (n ≤ 2047) = true := by simpa using h1
      have e3 : idB n = true := by unfold idB; rw [e1, e2]; rfl
      rw [e3]
      clear e3 h0 h1
      go_enter Try.func41, Try.ntmps41
      go_wp2_with fail
      go_ret
      exact ⟨rfl, rfl⟩
    · have e2 : decide (n ≤ 2047) = false := by simpa using h1
      have e3 : idB n = false := by unfold idB; rw [e1, e2]; rfl
      rw [e3]
      clear e3 h0 h1
      go_enter Try.func41, Try.ntmps41
      go_wp2_with fail
      go_ret
      exact ⟨rfl, rfl⟩
  · have e1 : decide (0 ≤ n) = false := by simpa using h0
    have e3 : idB n = false := by unfold idB; rw [e1]; rfl
    rw [e3]
    clear e3 h0
    go_enter Try.func41, Try.ntmps41
    go_wp2_with fail
    go_ret
    exact ⟨rfl, rfl⟩
theorem ctick_c (n : Int) (w : World) : Calls Try.prog 26 #[.int .i64 n] w fun e w' => e = .returned (.bool (tkB n)) ∧ w = w' := by
  by_cases h0 : 0 ≤ n
  · have e1 : decide (0 ≤ n) = true := by simpa using h0
    by_cases h1 : n ≤ 2147483647
    · have e2 : decide (n ≤ 2147483647) = true := by simpa using h1
      have e3 : tkB n = true := by unfold tkB; rw [e1, e2]; rfl
      rw [e3]
      clear e3 h0 h1
      go_enter Try.func26, Try.ntmps26
      go_wp2_with fail
      go_ret
      exact ⟨rfl, rfl⟩
    · have e2 : decide (n ≤ 2147483647) = false := by simpa using h1
      have e3 : tkB n = false := by unfold tkB; rw [e1, e2]; rfl
      rw [e3]
      clear e3 h0 h1
      go_enter Try.func26, Try.ntmps26
      go_wp2_with fail
      go_ret
      exact ⟨rfl, rfl⟩
  · have e1 : decide (0 ≤ n) = false := by simpa using h0
    have e3 : tkB n = false := by unfold tkB; rw [e1]; rfl
    rw [e3]
    clear e3 h0
    go_enter Try.func26, Try.ntmps26
    go_wp2_with fail
    go_ret
    exact ⟨rfl, rfl⟩
theorem rtime_c (n : Int) (w : World) : Calls Try.prog 43 #[.int .i64 n] w fun e w' => e = .returned (.bool (mayB n)) ∧ w = w' := by
  by_cases h0 : 1 ≤ n
  · have e1 : decide (1 ≤ n) = true := by simpa using h0
    by_cases h1 : n ≤ 65535
    · have e2 : decide (n ≤ 65535) = true := by simpa using h1
      have e3 : mayB n = true := by unfold mayB; rw [e1, e2]; rfl
      rw [e3]
      clear e3 h0 h1
      go_enter Try.func43, Try.ntmps43
      go_wp2_with fail
      go_ret
      exact ⟨rfl, rfl⟩
    · have e2 : decide (n ≤ 65535) = false := by simpa using h1
      have e3 : mayB n = false := by unfold mayB; rw [e1, e2]; rfl
      rw [e3]
      clear e3 h0 h1
      go_enter Try.func43, Try.ntmps43
      go_wp2_with fail
      go_ret
      exact ⟨rfl, rfl⟩
  · have e1 : decide (1 ≤ n) = false := by simpa using h0
    have e3 : mayB n = false := by unfold mayB; rw [e1]; rfl
    rw [e3]
    clear e3 h0
    go_enter Try.func43, Try.ntmps43
    go_wp2_with fail
    go_ret
    exact ⟨rfl, rfl⟩
set_option maxRecDepth 100000 in
set_option maxHeartbeats 4000000 in
theorem ptakes_c (c : Ch) (w : World) : Calls Try.prog 19 #[c.val] w fun e w' => e = .returned (.bool c.tks) ∧ Ext w w' := by
  have HB := hid (Blk.new w c.cells CT)
  have K0 : Ext w (w.alloc (.cells c.cells CT)) := (by repeat (first | with_reducible exact Ext.refl _ | with_reducible assumption | with_reducible apply Ext.alloc | with_reducible apply Ext.drew | with_reducible apply Ext.drewN | (with_reducible refine Ext.set' ?_ (by first | omega | (simp only [World.size_alloc, World.size_setCell]; omega))) | (with_reducible refine Ext.trans ?_ (by with_reducible assumption)) | (with_reducible refine Ext.only ?_ (by with_reducible assumption) (by omega))))
  obtain ⟨R, hR⟩ : ∃ R, Is c.tks R := ⟨_, Is.refl _⟩
  rw [hR.eq]
  have lx := ldC_blk HB.out
  have SZ := hid (fun w => psize_c c w)
  go_enter Try.func19, Try.ntmps19
  go_wp2_with fail
  (with_reducible refine (SZ.out _).mono ?_); rintro e w1 ⟨rfl, k1⟩
  have K1 := K0.trans k1
  have HB1 := k1.blk HB.out
  have c0 : w1.cell? ⟨w.heap.size, 0, none⟩ = _ := HB1.chat (j := 0) (by omega)
  have c1 : w1.cell? ⟨w.heap.size, 1, none⟩ = _ := HB1.chat (j := 1) (by omega)
  have c2 : w1.cell? ⟨w.heap.size, 2, none⟩ = _ := HB1.chat (j := 2) (by omega)
  have c3 : w1.cell? ⟨w.heap.size, 3, none⟩ = _ := HB1.chat (j := 3) (by omega)
  have c4 : w1.cell? ⟨w.heap.size, 4, none⟩ = _ := HB1.chat (j := 4) (by omega)
  have hT := hR.eq
  unfold Ch.tks at hT
  have HT := hid hT
  clear hT hR k1 HB HB1 lx K0 SZ
  generalize c.at 0 = a0 at *
  generalize c.at 1 = a1 at *
  generalize c.at 2 = a2 at *
  generalize c.at 3 = a3 at *
  generalize c.at 4 = a4 at *
  generalize c.sz = sz at *
  by_cases q0 : a0 = 2
  · have t0 : decide (a0 = 2) = true := by simpa using q0
    have e0_0 : (a0 == 2) = true := by simpa using q0
    by_cases q1 : mayB a1 = true
    · have t1 : mayB a1 = true := q1
      by_cases q2 : mayB a2 = true
      · have t2 : mayB a2 = true := q2
        by_cases q3 : 1 ≤ sz
        · have t3 : decide (1 ≤ sz) = true := by simpa using q3
          by_cases q4 : sz ≤ 8
          · have t4 : decide (sz ≤ 8) = true := by simpa using q4
            by_cases q5 : ¬ a3 = a4
            · have t5 : (!decide (a3 = a4)) = true := by simpa using q5
              have e5_0 : (a3 != a4) = true := by simpa using q5
              by_cases q6 : idB a3 = true
              · have t6 : idB a3 = true := q6
                by_cases q7 : idB a4 = true
                · have t7 : idB a4 = true := q7
                  obtain rfl : R = true := by rw [← HT.out]; simp only [t0, t1, t2, t3, t4, t5, t6, t7]; rfl
                  clear HT q0 q1 q2 q3 q4 q5 q6 q7
                  go_wp2_with (first | (go_at_call 40; (with_reducible refine (ctime_c _ _).mono ?_); rintro e w2 ⟨rfl, rfl⟩) | (go_at_call 41; (with_reducible refine (cid_c _ _).mono ?_); rintro e w2 ⟨rfl, rfl⟩) | fail)
                  go_ret
                  exact ⟨rfl, K1⟩
                · have t7 : idB a4 = false := by simpa using q7
                  obtain rfl : R = false := by rw [← HT.out]; simp only [t0, t1, t2, t3, t4, t5, t6, t7]; rfl
                  clear HT q0 q1 q2 q3 q4 q5 q6 q7
                  go_wp2_with (first | (go_at_call 40; (with_reducible refine (ctime_c _ _).mono ?_); rintro e w2 ⟨rfl, rfl⟩) | (go_at_call 41; (with_reducible refine (cid_c _ _).mono ?_); rintro e w2 ⟨rfl, rfl⟩) | fail)
                  go_ret
                  exact ⟨rfl, K1⟩
              · have t6 : idB a3 = false := by simpa using q6
                obtain rfl : R = false := by rw [← HT.out]; simp only [t0, t1, t2, t3, t4, t5, t6]; rfl
                clear HT q0 q1 q2 q3 q4 q5 q6
                go_wp2_with (first | (go_at_call 40; (with_reducible refine (ctime_c _ _).mono ?_); rintro e w2 ⟨rfl, rfl⟩) | (go_at_call 41; (with_reducible refine (cid_c _ _).mono ?_); rintro e w2 ⟨rfl, rfl⟩) | fail)
                go_ret
                exact ⟨rfl, K1⟩
            · have t5 : (!decide (a3 = a4)) = false := by simpa using q5
              have e5_0 : (a3 != a4) = false := by simpa using q5
              obtain rfl : R = false := by rw [← HT.out]; simp only [t0, t1, t2, t3, t4, t5]; rfl
              clear HT q0 q1 q2 q3 q4 q5
              go_wp2_with (first | (go_at_call 40; (with_reducible refine (ctime_c _ _).mono ?_); rintro e w2 ⟨rfl, rfl⟩) | (go_at_call 41; (with_reducible refine (cid_c _ _).mono ?_); rintro e w2 ⟨rfl, rfl⟩) | fail)
              go_ret
              exact ⟨rfl, K1⟩
          · have t4 : decide (sz ≤ 8) = false := by simpa using q4
            obtain rfl : R = false := by rw [← HT.out]; simp only [t0, t1, t2, t3, t4]; rfl
            clear HT q0 q1 q2 q3 q4
            go_wp2_with (first | (go_at_call 40; (with_reducible refine (ctime_c _ _).mono ?_); rintro e w2 ⟨rfl, rfl⟩) | (go_at_call 41; (with_reducible refine (cid_c _ _).mono ?_); rintro e w2 ⟨rfl, rfl⟩) | fail)
            go_ret
            exact ⟨rfl, K1⟩
        · have t3 : decide (1 ≤ sz) = false := by simpa using q3
          obtain rfl : R = false := by rw [← HT.out]; simp only [t0, t1, t2, t3]; rfl
          clear HT q0 q1 q2 q3
          go_wp2_with (first | (go_at_call 40; (with_reducible refine (ctime_c _ _).mono ?_); rintro e w2 ⟨rfl, rfl⟩) | (go_at_call 41; (with_reducible refine (cid_c _ _).mono ?_); rintro e w2 ⟨rfl, rfl⟩) | fail)
          go_ret
          exact ⟨rfl, K1⟩
      · have t2 : mayB a2 = false := by simpa using q2
        obtain rfl : R = false := by rw [← HT.out]; simp only [t0, t1, t2]; rfl
        clear HT q0 q1 q2
        go_wp2_with (first | (go_at_call 40; (with_reducible refine (ctime_c _ _).mono ?_); rintro e w2 ⟨rfl, rfl⟩) | (go_at_call 41; (with_reducible refine (cid_c _ _).mono ?_); rintro e w2 ⟨rfl, rfl⟩) | fail)
        go_ret
        exact ⟨rfl, K1⟩
    · have t1 : mayB a1 = false := by simpa using q1
      obtain rfl : R = false := by rw [← HT.out]; simp only [t0, t1]; rfl
      clear HT q0 q1
      go_wp2_with (first | (go_at_call 40; (with_reducible refine (ctime_c _ _).mono ?_); rintro e w2 ⟨rfl, rfl⟩) | (go_at_call 41; (with_reducible refine (cid_c _ _).mono ?_); rintro e w2 ⟨rfl, rfl⟩) | fail)
      go_ret
      exact ⟨rfl, K1⟩
  · have t0 : decide (a0 = 2) = false := by simpa using q0
    have e0_0 : (a0 == 2) = false := by simpa using q0
    obtain rfl : R = false := by rw [← HT.out]; simp only [t0]; rfl
    clear HT q0
    go_wp2_with (first | (go_at_call 40; (with_reducible refine (ctime_c _ _).mono ?_); rintro e w2 ⟨rfl, rfl⟩) | (go_at_call 41; (with_reducible refine (cid_c _ _).mono ?_); rintro e w2 ⟨rfl, rfl⟩) | fail)
    go_ret
    exact ⟨rfl, K1⟩
set_option maxRecDepth 100000 in
set_option maxHeartbeats 4000000 in
theorem rtakes_c (c : Ch) (w : World) : Calls Try.prog 20 #[c.val] w fun e w' => e = .returned (.bool c.tks) ∧ Ext w w' := by
  have HB := hid (Blk.new w c.cells CT)
  have K0 : Ext w (w.alloc (.cells c.cells CT)) := (by repeat (first | with_reducible exact Ext.refl _ | with_reducible assumption | with_reducible apply Ext.alloc | with_reducible apply Ext.drew | with_reducible apply Ext.drewN | (with_reducible refine Ext.set' ?_ (by first | omega | (simp only [World.size_alloc, World.size_setCell]; omega))) | (with_reducible refine Ext.trans ?_ (by with_reducible assumption)) | (with_reducible refine Ext.only ?_ (by with_reducible assumption) (by omega))))
  obtain ⟨R, hR⟩ : ∃ R, Is c.tks R := ⟨_, Is.refl _⟩
  rw [hR.eq]
  have lx := ldC_blk HB.out
  have SZ := hid (fun w => rsize_c c w)
  go_enter Try.func20, Try.ntmps20
  go_wp2_with fail
  (with_reducible refine (SZ.out _).mono ?_); rintro e w1 ⟨rfl, k1⟩
  have K1 := K0.trans k1
  have HB1 := k1.blk HB.out
  have c0 : w1.cell? ⟨w.heap.size, 0, none⟩ = _ := HB1.chat (j := 0) (by omega)
  have c1 : w1.cell? ⟨w.heap.size, 1, none⟩ = _ := HB1.chat (j := 1) (by omega)
  have c2 : w1.cell? ⟨w.heap.size, 2, none⟩ = _ := HB1.chat (j := 2) (by omega)
  have c3 : w1.cell? ⟨w.heap.size, 3, none⟩ = _ := HB1.chat (j := 3) (by omega)
  have c4 : w1.cell? ⟨w.heap.size, 4, none⟩ = _ := HB1.chat (j := 4) (by omega)
  have hT := hR.eq
  unfold Ch.tks at hT
  unfold idB at hT
  have HT := hid hT
  clear hT hR k1 HB HB1 lx K0 SZ
  generalize c.at 0 = a0 at *
  generalize c.at 1 = a1 at *
  generalize c.at 2 = a2 at *
  generalize c.at 3 = a3 at *
  generalize c.at 4 = a4 at *
  generalize c.sz = sz at *
  by_cases q0 : a0 = 2
  · have t0 : decide (a0 = 2) = true := by simpa using q0
    have e0_0 : (a0 != 2) = false := by simpa using q0
    by_cases q1 : mayB a1 = true
    · have t1 : mayB a1 = true := q1
      by_cases q2 : mayB a2 = true
      · have t2 : mayB a2 = true := q2
        by_cases q3 : 1 ≤ sz
        · have t3 : decide (1 ≤ sz) = true := by simpa using q3
          have e3_0 : decide (sz < 1) = false := by simp; omega
          by_cases q4 : sz ≤ 8
          · have t4 : decide (sz ≤ 8) = true := by simpa using q4
            have e4_0 : decide (8 < sz) = false := by simp; omega
            by_cases q5 : ¬ a3 = a4
            · have t5 : (!decide (a3 = a4)) = true := by simpa using q5
              have e5_0 : (a3 == a4) = false := by simpa using q5
              by_cases q6 : 0 ≤ a3
              · have t6 : decide (0 ≤ a3) = true := by simpa using q6
                by_cases q7 : a3 ≤ 2047
                · have t7 : decide (a3 ≤ 2047) = true := by simpa using q7
                  by_cases q8 : 0 ≤ a4
                  · have t8 : decide (0 ≤ a4) = true := by simpa using q8
                    by_cases q9 : a4 ≤ 2047
                    · have t9 : decide (a4 ≤ 2047) = true := by simpa using q9
                      obtain rfl : R = true := by rw [← HT.out]; simp only [t0, t1, t2, t3, t4, t5, t6, t7, t8, t9]; rfl
                      clear HT q0 q1 q2 q3 q4 q5 q6 q7 q8 q9
                      go_wp2_with (first | (go_at_call 43; (with_reducible refine (rtime_c _ _).mono ?_); rintro e w2 ⟨rfl, rfl⟩) | fail)
                      go_ret
                      exact ⟨rfl, K1⟩
                    · have t9 : decide (a4 ≤ 2047) = false := by simpa using q9
                      obtain rfl : R = false := by rw [← HT.out]; simp only [t0, t1, t2, t3, t4, t5, t6, t7, t8, t9]; rfl
                      clear HT q0 q1 q2 q3 q4 q5 q6 q7 q8 q9
                      go_wp2_with (first | (go_at_call 43; (with_reducible refine (rtime_c _ _).mono ?_); rintro e w2 ⟨rfl, rfl⟩) | fail)
                      go_ret
                      exact ⟨rfl, K1⟩
                  · have t8 : decide (0 ≤ a4) = false := by simpa using q8
                    obtain rfl : R = false := by rw [← HT.out]; simp only [t0, t1, t2, t3, t4, t5, t6, t7, t8]; rfl
                    clear HT q0 q1 q2 q3 q4 q5 q6 q7 q8
                    go_wp2_with (first | (go_at_call 43; (with_reducible refine (rtime_c _ _).mono ?_); rintro e w2 ⟨rfl, rfl⟩) | fail)
                    go_ret
                    exact ⟨rfl, K1⟩
                · have t7 : decide (a3 ≤ 2047) = false := by simpa using q7
                  obtain rfl : R = false := by rw [← HT.out]; simp only [t0, t1, t2, t3, t4, t5, t6, t7]; rfl
                  clear HT q0 q1 q2 q3 q4 q5 q6 q7
                  go_wp2_with (first | (go_at_call 43; (with_reducible refine (rtime_c _ _).mono ?_); rintro e w2 ⟨rfl, rfl⟩) | fail)
                  go_ret
                  exact ⟨rfl, K1⟩
              · have t6 : decide (0 ≤ a3) = false := by simpa using q6
                obtain rfl : R = false := by rw [← HT.out]; simp only [t0, t1, t2, t3, t4, t5, t6]; rfl
                clear HT q0 q1 q2 q3 q4 q5 q6
                go_wp2_with (first | (go_at_call 43; (with_reducible refine (rtime_c _ _).mono ?_); rintro e w2 ⟨rfl, rfl⟩) | fail)
                go_ret
                exact ⟨rfl, K1⟩
            · have t5 : (!decide (a3 = a4)) = false := by simpa using q5
              have e5_0 : (a3 == a4) = true := by simpa using q5
              obtain rfl : R = false := by rw [← HT.out]; simp only [t0, t1, t2, t3, t4, t5]; rfl
              clear HT q0 q1 q2 q3 q4 q5
              go_wp2_with (first | (go_at_call 43; (with_reducible refine (rtime_c _ _).mono ?_); rintro e w2 ⟨rfl, rfl⟩) | fail)
              go_ret
              exact ⟨rfl, K1⟩
          · have t4 : decide (sz ≤ 8) = false := by simpa using q4
            have e4_0 : decide (8 < sz) = true := by simp; omega
            obtain rfl : R = false := by rw [← HT.out]; simp only [t0, t1, t2, t3, t4]; rfl
            clear HT q0 q1 q2 q3 q4
            go_wp2_with (first | (go_at_call 43; (with_reducible refine (rtime_c _ _).mono ?_); rintro e w2 ⟨rfl, rfl⟩) | fail)
            go_ret
            exact ⟨rfl, K1⟩
        · have t3 : decide (1 ≤ sz) = false := by simpa using q3
          have e3_0 : decide (sz < 1) = true := by simp; omega
          obtain rfl : R = false := by rw [← HT.out]; simp only [t0, t1, t2, t3]; rfl
          clear HT q0 q1 q2 q3
          go_wp2_with (first | (go_at_call 43; (with_reducible refine (rtime_c _ _).mono ?_); rintro e w2 ⟨rfl, rfl⟩) | fail)
          go_ret
          exact ⟨rfl, K1⟩
      · have t2 : mayB a2 = false := by simpa using q2
        obtain rfl : R = false := by rw [← HT.out]; simp only [t0, t1, t2]; rfl
        clear HT q0 q1 q2
        go_wp2_with (first | (go_at_call 43; (with_reducible refine (rtime_c _ _).mono ?_); rintro e w2 ⟨rfl, rfl⟩) | fail)
        go_ret
        exact ⟨rfl, K1⟩
    · have t1 : mayB a1 = false := by simpa using q1
      obtain rfl : R = false := by rw [← HT.out]; simp only [t0, t1]; rfl
      clear HT q0 q1
      go_wp2_with (first | (go_at_call 43; (with_reducible refine (rtime_c _ _).mono ?_); rintro e w2 ⟨rfl, rfl⟩) | fail)
      go_ret
      exact ⟨rfl, K1⟩
  · have t0 : decide (a0 = 2) = false := by simpa using q0
    have e0_0 : (a0 != 2) = true := by simpa using q0
    obtain rfl : R = false := by rw [← HT.out]; simp only [t0]; rfl
    clear HT q0
    go_wp2_with (first | (go_at_call 43; (with_reducible refine (rtime_c _ _).mono ?_); rintro e w2 ⟨rfl, rfl⟩) | fail)
    go_ret
    exact ⟨rfl, K1⟩

end Go.Proofs.Ytocogmboocjjaaa
