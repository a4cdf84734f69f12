/- Package nmt: a node's mode, and orders. -/
import Derived.Test.YteflckedfnflpaaFrame2
set_option linter.unusedSimpArgs false
set_option linter.unusedVariables false
set_option linter.unnecessarySimpa false
namespace Go.Proofs.Yteflckedfnflpaa
open Go.RowKit Go.Proofs.YteflckedfnflpaaW.PrintWords
attribute [local go_sem] max2_max min2_min max_of_two min_of_two
attribute [local go_sem ↓] run_eq_fr

abbrev MT : TypeId := 58
def verbB (v : Int) : Bool := v == 1 || v == 2 || v == 128 || v == 129 || v == 130
def mayB (v n : Int) : Bool := verbB v && decide (0 ≤ n) && decide (n ≤ 127)
def targV (v : Int) : Int := if v = 1 then 5 else if v = 2 then 4 else if v = 128 then 127 else 0

theorem verb_cases (v : Int) : v = 1 ∨ v = 2 ∨ v = 128 ∨ v = 129 ∨ v = 130 ∨ ((v == 1) = false ∧ (v == 2) = false ∧ (v == 128) = false ∧ (v == 129) = false ∧ (v == 130) = false ∧ Is (verbB v) false ∧ Is (targV v) 0) := by
  by_cases h1 : v = 1
  · exact .inl h1
  by_cases h2 : v = 2
  · exact .inr (.inl h2)
  by_cases h3 : v = 128
  · exact .inr (.inr (.inl h3))
  by_cases h4 : v = 129
  · exact .inr (.inr (.inr (.inl h4)))
  by_cases h5 : v = 130
  · exact .inr (.inr (.inr (.inr (.inl h5))))
  exact .inr (.inr (.inr (.inr (.inr ⟨beq_eq_false_iff_ne.2 h1, beq_eq_false_iff_ne.2 h2, beq_eq_false_iff_ne.2 h3, beq_eq_false_iff_ne.2 h4, beq_eq_false_iff_ne.2 h5, by simp [Is, verbB, *], by simp [Is, targV, *]⟩))))

set_option maxHeartbeats 400000 in
theorem verb_c (v : Int) (w : World) : Calls Try.prog 30 #[.int .i64 v] w fun e w' => e = .returned (.bool (verbB v)) ∧ Ext w w' := by
  rcases verb_cases v with rfl | rfl | rfl | rfl | rfl | ⟨d1, d2, d3, d4, d5, hv, _⟩
  all_goals
    go_enter Try.func30, Try.ntmps30
    go_wp2_with fail
    go_ret
    exact ⟨ret_bool (by first | rfl | exact hv.eq.symm), (by repeat (first | with_reducible exact Ext.refl _ | with_reducible assumption | with_reducible apply Ext.alloc | with_reducible apply Ext.drew | with_reducible apply Ext.drewN | (with_reducible refine Ext.set' ?_ (by first | omega | (simp only [World.size_alloc, World.size_setCell]; omega))) | (with_reducible refine Ext.trans ?_ (by with_reducible assumption)) | (with_reducible refine Ext.only ?_ (by with_reducible assumption) (by omega))))⟩

set_option maxHeartbeats 400000 in
theorem target_c (v : Int) (w : World) : Calls Try.prog 24 #[.int .i64 v] w fun e w' => e = .returned (.int .i64 (targV v)) ∧ Ext w w' := by
  rcases verb_cases v with rfl | rfl | rfl | rfl | rfl | ⟨d1, d2, d3, d4, d5, _, hv⟩
  all_goals
    go_enter Try.func24, Try.ntmps24
    go_wp2_with fail
    go_ret
    exact ⟨ret_int (by first | rfl | exact hv.eq.symm), (by repeat (first | with_reducible exact Ext.refl _ | with_reducible assumption | with_reducible apply Ext.alloc | with_reducible apply Ext.drew | with_reducible apply Ext.drewN | (with_reducible refine Ext.set' ?_ (by first | omega | (simp only [World.size_alloc, World.size_setCell]; omega))) | (with_reducible refine Ext.trans ?_ (by with_reducible assumption)) | (with_reducible refine Ext.only ?_ (by with_reducible assumption) (by omega))))⟩

theorem node_cases (n : Int) : (decide (0 ≤ n) = false ∧ Is (decide (0 ≤ n) && decide (n ≤ 127)) false) ∨ (decide (0 ≤ n) = true ∧ decide (n ≤ 127) = false ∧ Is (decide (0 ≤ n) && decide (n ≤ 127)) false) ∨ (decide (0 ≤ n) = true ∧ decide (n ≤ 127) = true ∧ Is (decide (0 ≤ n) && decide (n ≤ 127)) true) := by
  by_cases h : 0 ≤ n <;> by_cases h' : n ≤ 127 <;> simp [Is, h, h']

set_option maxHeartbeats 1000000 in
theorem may_c (v n : Int) (w : World) : Calls Try.prog 23 #[.agg #[.int .i64 v, .int .i64 n]] w fun e w' => e = .returned (.bool (mayB v n)) ∧ Ext w w' := by
  obtain ⟨R, hR⟩ : ∃ R, Is (mayB v n) R := ⟨_, Is.refl _⟩
  obtain ⟨x, hx⟩ : ∃ x, Is (verbB v) x := ⟨_, Is.refl _⟩
  have hR' : Is (x && (decide (0 ≤ n) && decide (n ≤ 127))) R := by rw [← hx.eq, ← Bool.and_assoc]; exact hR
  rw [hR.eq]
  have HB := hid (fun w' (k : Ext (w.alloc (.cells #[.int .i64 v, .int .i64 n] 32)) w') => Ext.blk k (Blk.new w #[.int .i64 v, .int .i64 n] 32))
  clear hR
  cases x
  all_goals rcases node_cases n with ⟨d1, hn⟩ | ⟨d1, d2, hn⟩ | ⟨d1, d2, hn⟩
  all_goals
    rw [hn.eq] at hR'
    go_enter Try.func23, Try.ntmps23
    go_wp2_with fail
    (with_reducible refine (verb_c _ _).mono ?_); rintro e w1 ⟨rfl, k1⟩
    rw [hx.eq]
    have b1 := HB.out w1 (by repeat (first | with_reducible exact Ext.refl _ | with_reducible assumption | with_reducible apply Ext.alloc | with_reducible apply Ext.drew | with_reducible apply Ext.drewN | (with_reducible refine Ext.set' ?_ (by first | omega | (simp only [World.size_alloc, World.size_setCell]; omega))) | (with_reducible refine Ext.trans ?_ (by with_reducible assumption)) | (with_reducible refine Ext.only ?_ (by with_reducible assumption) (by omega))))
    obtain ⟨pc0, pc1, pf0, pf1⟩ := Blk.cells2 b1
    have KE : Ext w w1 := (by repeat (first | with_reducible exact Ext.refl _ | with_reducible assumption | with_reducible apply Ext.alloc | with_reducible apply Ext.drew | with_reducible apply Ext.drewN | (with_reducible refine Ext.set' ?_ (by first | omega | (simp only [World.size_alloc, World.size_setCell]; omega))) | (with_reducible refine Ext.trans ?_ (by with_reducible assumption)) | (with_reducible refine Ext.only ?_ (by with_reducible assumption) (by omega))))
    clear HB k1
    go_wp2_with fail
    go_ret
    exact ⟨ret_bool (by rw [← hR'.eq]; first | done | rfl), (by repeat (first | with_reducible exact Ext.refl _ | with_reducible assumption | with_reducible apply Ext.alloc | with_reducible apply Ext.drew | with_reducible apply Ext.drewN | (with_reducible refine Ext.set' ?_ (by first | omega | (simp only [World.size_alloc, World.size_setCell]; omega))) | (with_reducible refine Ext.trans ?_ (by with_reducible assumption)) | (with_reducible refine Ext.only ?_ (by with_reducible assumption) (by omega))))⟩

set_option maxHeartbeats 1000000 in
theorem rmay_c (v n : Int) (w : World) : Calls Try.prog 16 #[.agg #[.int .i64 v, .int .i64 n]] w fun e w' => e = .returned (.bool (mayB v n)) ∧ Ext w w' := by
  obtain ⟨R, hR⟩ : ∃ R, Is (mayB v n) R := ⟨_, Is.refl _⟩
  have hR' : Is (verbB v && (decide (0 ≤ n) && decide (n ≤ 127))) R := by rw [← Bool.and_assoc]; exact hR
  rw [hR.eq]
  clear hR
  rcases verb_cases v with rfl | rfl | rfl | rfl | rfl | ⟨d1', d2', d3', d4', d5', hv, _⟩
  all_goals rcases node_cases n with ⟨d1, hn⟩ | ⟨d1, d2, hn⟩ | ⟨d1, d2, hn⟩
  all_goals
    rw [hn.eq] at hR'
    go_enter Try.func16, Try.ntmps16
    go_wp2_with fail
    go_ret
    exact ⟨ret_bool (by rw [← hR'.eq]; first | done | rfl | (rw [hv.eq]; rfl)), (by repeat (first | with_reducible exact Ext.refl _ | with_reducible assumption | with_reducible apply Ext.alloc | with_reducible apply Ext.drew | with_reducible apply Ext.drewN | (with_reducible refine Ext.set' ?_ (by first | omega | (simp only [World.size_alloc, World.size_setCell]; omega))) | (with_reducible refine Ext.trans ?_ (by with_reducible assumption)) | (with_reducible refine Ext.only ?_ (by with_reducible assumption) (by omega))))⟩

set_option maxHeartbeats 400000 in
theorem new_yes (n : Int) (w : World) (h0 : 1 ≤ n) (h1 : n ≤ 127) :
    Calls Try.prog 7 #[.int .i64 n] w fun e w' => ∃ b, e = .returned (.tuple #[.pointer (some ⟨b, 0, none⟩), .int .i64 0]) ∧ w.heap.size ≤ b ∧ Blk w' b #[.int .i64 n, .int .i64 0] MT ∧ Ext w w' := by
  go_enter Try.func7, Try.ntmps7
  go_wp2_with fail
  go_ret2
  exact ⟨_, rfl, Nat.le_refl _, Blk.new _ _ _, (by repeat (first | with_reducible exact Ext.refl _ | with_reducible assumption | with_reducible apply Ext.alloc | with_reducible apply Ext.drew | with_reducible apply Ext.drewN | (with_reducible refine Ext.set' ?_ (by first | omega | (simp only [World.size_alloc, World.size_setCell]; omega))) | (with_reducible refine Ext.trans ?_ (by with_reducible assumption)) | (with_reducible refine Ext.only ?_ (by with_reducible assumption) (by omega))))⟩
set_option maxHeartbeats 400000 in
theorem new_no (n : Int) (w : World) (h : n < 1 ∨ 127 < n) :
    Calls Try.prog 7 #[.int .i64 n] w fun e w' => e = .returned (.tuple #[.pointer none, .int .i64 3]) ∧ Ext w w' := by
  have hd : decide (n < 1) = true ∨ (decide (n < 1) = false ∧ decide (127 < n) = true) := by
    by_cases h' : n < 1
    · exact .inl (by simpa using h')
    · exact .inr ⟨by simpa using h', by simp; omega⟩
  clear h
  rcases hd with d | ⟨d, d2⟩
  all_goals
    go_enter Try.func7, Try.ntmps7
    go_wp2_with fail
    go_ret2
    exact ⟨rfl, (by repeat (first | with_reducible exact Ext.refl _ | with_reducible assumption | with_reducible apply Ext.alloc | with_reducible apply Ext.drew | with_reducible apply Ext.drewN | (with_reducible refine Ext.set' ?_ (by first | omega | (simp only [World.size_alloc, World.size_setCell]; omega))) | (with_reducible refine Ext.trans ?_ (by with_reducible assumption)) | (with_reducible refine Ext.only ?_ (by with_reducible assumption) (by omega))))⟩

set_option maxHeartbeats 400000 in
theorem boot_nil (w : World) : Calls Try.prog 10 #[.pointer none] w fun e w' => e = .returned (.bool false) ∧ Ext w w' := by
  go_enter Try.func10, Try.ntmps10
  go_wp2_with fail
  go_ret
  exact ⟨rfl, (by repeat (first | with_reducible exact Ext.refl _ | with_reducible assumption | with_reducible apply Ext.alloc | with_reducible apply Ext.drew | with_reducible apply Ext.drewN | (with_reducible refine Ext.set' ?_ (by first | omega | (simp only [World.size_alloc, World.size_setCell]; omega))) | (with_reducible refine Ext.trans ?_ (by with_reducible assumption)) | (with_reducible refine Ext.only ?_ (by with_reducible assumption) (by omega))))⟩
set_option maxHeartbeats 400000 in
theorem boot_c (b : Nat) (n m : Int) (w : World) (hb : Blk w b #[.int .i64 n, .int .i64 m] MT) :
    Calls Try.prog 10 #[.pointer (some ⟨b, 0, none⟩)] w fun e w' => e = .returned (.bool (m == 0)) ∧ Blk w' b #[.int .i64 n, .int .i64 (if m = 0 then 127 else m)] MT ∧ Only b w w' := by
  obtain ⟨pc0, pc1, pf0, pf1⟩ := Blk.cells2 hb
  by_cases hm : m = 0
  · subst hm
    go_enter Try.func10, Try.ntmps10
    go_wp2_with fail
    go_ret
    exact ⟨rfl, hb.set 1 _, (Only.refl _ _).set 1 _⟩
  · rw [if_neg hm]
    have d : (m == 0) = false := beq_eq_false_iff_ne.2 hm
    have d2 : (m != 0) = true := by rw [bne_iff_ne]; exact hm
    clear hm
    go_enter Try.func10, Try.ntmps10
    go_wp2_with fail
    go_ret
    exact ⟨by rw [d]; rfl, hb, Only.refl _ _⟩

/-- The mode behind an order. -/
def obeyV (n m v k : Int) : Int := if m = 0 ∨ mayB v k = false ∨ (k ≠ 0 ∧ k ≠ n) then m else targV v

set_option maxHeartbeats 400000 in
theorem obey_nil (v k : Int) (w : World) : Calls Try.prog 11 #[.pointer none, .agg #[.int .i64 v, .int .i64 k]] w fun e w' => e = .returned (.bool false) ∧ Ext w w' := by
  go_enter Try.func11, Try.ntmps11
  go_wp2_with fail
  refine wp_region_ext (by kernel_rfl) (by kernel_rfl) ?_; (repeat (any_goals (first | go_big_quiet_step (fail) | quiet_step (fail)))); (all_goals (refine wpQuiet_nil ?_; intro w1 hw'; obtain ⟨⟨wX, k1⟩, hw''⟩ := hw'; subst hw''))
  go_wp2_with fail
  go_ret
  exact ⟨rfl, (by repeat (first | with_reducible exact Ext.refl _ | with_reducible assumption | with_reducible apply Ext.alloc | with_reducible apply Ext.drew | with_reducible apply Ext.drewN | (with_reducible refine Ext.set' ?_ (by first | omega | (simp only [World.size_alloc, World.size_setCell]; omega))) | (with_reducible refine Ext.trans ?_ (by with_reducible assumption)) | (with_reducible refine Ext.only ?_ (by with_reducible assumption) (by omega))))⟩
set_option maxHeartbeats 2000000 in
theorem obey_c (b : Nat) (n m v k : Int) (w : World) (hb : Blk w b #[.int .i64 n, .int .i64 m] MT) :
    Calls Try.prog 11 #[.pointer (some ⟨b, 0, none⟩), .agg #[.int .i64 v, .int .i64 k]] w fun e w' => e = .returned (.bool (obeyV n m v k != m)) ∧ Blk w' b #[.int .i64 n, .int .i64 (obeyV n m v k)] MT ∧ Only b w w' := by
  have h0 := Blk.new w #[.int .i64 v, .int .i64 k] 32
  have hb0 := hb.alloc (.cells #[.int .i64 v, .int .i64 k] 32)
  have hlt := hb.lt
  have K0 : Ext w (w.alloc (.cells #[.int .i64 v, .int .i64 k] 32)) := (by repeat (first | with_reducible exact Ext.refl _ | with_reducible assumption | with_reducible apply Ext.alloc | with_reducible apply Ext.drew | with_reducible apply Ext.drewN | (with_reducible refine Ext.set' ?_ (by first | omega | (simp only [World.size_alloc, World.size_setCell]; omega))) | (with_reducible refine Ext.trans ?_ (by with_reducible assumption)) | (with_reducible refine Ext.only ?_ (by with_reducible assumption) (by omega))))
  by_cases hm : m = 0
  · have hr : obeyV n m v k = m := if_pos (.inl hm)
    rw [hr]
    subst hm
    clear hr hb
    go_enter Try.func11, Try.ntmps11
    go_wp2_with fail
    generalize w.alloc (.cells #[.int .i64 v, .int .i64 k] 32) = w0 at *
    have c0 := After.cell (hb0.cell 0 (.int .i64 n) rfl)
    have c1 := After.cell (hb0.cell 1 (.int .i64 0) rfl)
    refine wp_region_ext (by kernel_rfl) (by kernel_rfl) ?_; (repeat (any_goals (first | go_big_quiet_step (fail) | quiet_step (fail)))); (all_goals (refine wpQuiet_nil ?_; intro w1 hw'; obtain ⟨⟨wX, k1⟩, hw''⟩ := hw'; subst hw''))
    go_wp2_with fail
    go_ret
    exact ⟨rfl, k1.blk hb0, Only.of_ext (by repeat (first | with_reducible exact Ext.refl _ | with_reducible assumption | with_reducible apply Ext.alloc | with_reducible apply Ext.drew | with_reducible apply Ext.drewN | (with_reducible refine Ext.set' ?_ (by first | omega | (simp only [World.size_alloc, World.size_setCell]; omega))) | (with_reducible refine Ext.trans ?_ (by with_reducible assumption)) | (with_reducible refine Ext.only ?_ (by with_reducible assumption) (by omega))))⟩
  · have d : (m == 0) = false := beq_eq_false_iff_ne.2 hm
    obtain ⟨x, hx⟩ : ∃ x, Is (mayB v k) x := ⟨_, Is.refl _⟩
    have MC := hid (fun w' => may_c v k w')
    rw [hx.eq] at MC
    have hcase : (x = false) ∨ (x = true ∧ k = 0) ∨ (x = true ∧ k ≠ 0 ∧ k ≠ n) ∨ (x = true ∧ k ≠ 0 ∧ k = n) := by
      cases x
      · exact .inl rfl
      · by_cases h1 : k = 0
        · exact .inr (.inl ⟨rfl, h1⟩)
        · by_cases h2 : k = n
          · exact .inr (.inr (.inr ⟨rfl, h1, h2⟩))
          · exact .inr (.inr (.inl ⟨rfl, h1, h2⟩))
    obtain ⟨R, hR⟩ : ∃ R, Is (obeyV n m v k) R := ⟨_, Is.refl _⟩
    have hR' : Is (if m = 0 ∨ x = false ∨ (k ≠ 0 ∧ k ≠ n) then m else targV v) R := by rw [← hx.eq]; exact hR
    rw [hR.eq]
    clear hR hx
    rcases hcase with rfl | ⟨rfl, rfl⟩ | ⟨rfl, h1, h2⟩ | ⟨rfl, h1, h2⟩
    · have hr := hR'.eq
      rw [if_pos (.inr (.inl rfl))] at hr
      subst hr
      clear hR' hm
      go_enter Try.func11, Try.ntmps11
      go_wp2_with fail
      generalize w.alloc (.cells #[.int .i64 v, .int .i64 k] 32) = w0 at *
      have c0 := After.cell (hb0.cell 0 (.int .i64 n) rfl)
      have c1 := After.cell (hb0.cell 1 (.int .i64 m) rfl)
      have c2 := After.cell (h0.cell 0 (.int .i64 v) rfl)
      have c3 := After.cell (h0.cell 1 (.int .i64 k) rfl)
      refine wp_region_ext (by kernel_rfl) (by kernel_rfl) ?_; (repeat (any_goals (first | go_big_quiet_step ((go_at_call 23; exact Calls.ext_of (MC.out _))) | quiet_step ((go_at_call 23; exact Calls.ext_of (MC.out _)))))); (all_goals (refine wpQuiet_nil ?_; intro w1 hw'; obtain ⟨⟨wX, k1⟩, hw''⟩ := hw'; subst hw''))
      go_wp2_with fail
      go_ret
      exact ⟨ret_bool (by simp), k1.blk hb0, Only.of_ext (by repeat (first | with_reducible exact Ext.refl _ | with_reducible assumption | with_reducible apply Ext.alloc | with_reducible apply Ext.drew | with_reducible apply Ext.drewN | (with_reducible refine Ext.set' ?_ (by first | omega | (simp only [World.size_alloc, World.size_setCell]; omega))) | (with_reducible refine Ext.trans ?_ (by with_reducible assumption)) | (with_reducible refine Ext.only ?_ (by with_reducible assumption) (by omega))))⟩
    · have hr := hR'.eq
      rw [if_neg (by simp [hm])] at hr
      have HR := hid hr
      clear hr hR' hm
      go_enter Try.func11, Try.ntmps11
      go_wp2_with fail
      generalize w.alloc (.cells #[.int .i64 v, .int .i64 0] 32) = w0 at *
      have c0 := After.cell (hb0.cell 0 (.int .i64 n) rfl)
      have c1 := After.cell (hb0.cell 1 (.int .i64 m) rfl)
      have c2 := After.cell (h0.cell 0 (.int .i64 v) rfl)
      have c3 := After.cell (h0.cell 1 (.int .i64 0) rfl)
      refine wp_region_ext (by kernel_rfl) (by kernel_rfl) ?_; (repeat (any_goals (first | go_big_quiet_step ((go_at_call 23; exact Calls.ext_of (MC.out _))) | quiet_step ((go_at_call 23; exact Calls.ext_of (MC.out _)))))); (all_goals (refine wpQuiet_nil ?_; intro w1 hw'; obtain ⟨⟨wX, k1⟩, hw''⟩ := hw'; subst hw''))
      clear c0 c1 c2 c3
      have b1 := k1.blk hb0
      have b2 := k1.blk h0
      obtain ⟨pc0, pc1, pf0, pf1⟩ := Blk.cells2 b1
      obtain ⟨qc0, qc1, qf0, qf1⟩ := Blk.cells2 b2
      go_wp2_with fail
      (with_reducible refine (target_c _ _).mono ?_); rintro e w2 ⟨rfl, k2⟩
      have b3 := k2.blk b1
      obtain ⟨rc0, rc1, rf0, rf1⟩ := Blk.cells2 b3
      rw [HR.out]
      go_wp2_with fail
      go_ret
      exact ⟨rfl, b3.set 1 _, (Only.of_ext (by repeat (first | with_reducible exact Ext.refl _ | with_reducible assumption | with_reducible apply Ext.alloc | with_reducible apply Ext.drew | with_reducible apply Ext.drewN | (with_reducible refine Ext.set' ?_ (by first | omega | (simp only [World.size_alloc, World.size_setCell]; omega))) | (with_reducible refine Ext.trans ?_ (by with_reducible assumption)) | (with_reducible refine Ext.only ?_ (by with_reducible assumption) (by omega))))).set 1 _⟩
    · have hr := hR'.eq
      rw [if_pos (.inr (.inr ⟨h1, h2⟩))] at hr
      have e1 : (k == 0) = false := beq_eq_false_iff_ne.2 h1
      have e2 : (k != 0) = true := by rw [bne_iff_ne]; exact h1
      have e3 : (k == n) = false := beq_eq_false_iff_ne.2 h2
      have e4 : (k != n) = true := by rw [bne_iff_ne]; exact h2
      subst hr
      clear hR' hm h1 h2
      go_enter Try.func11, Try.ntmps11
      go_wp2_with fail
      generalize w.alloc (.cells #[.int .i64 v, .int .i64 k] 32) = w0 at *
      have c0 := After.cell (hb0.cell 0 (.int .i64 n) rfl)
      have c1 := After.cell (hb0.cell 1 (.int .i64 m) rfl)
      have c2 := After.cell (h0.cell 0 (.int .i64 v) rfl)
      have c3 := After.cell (h0.cell 1 (.int .i64 k) rfl)
      refine wp_region_ext (by kernel_rfl) (by kernel_rfl) ?_; (repeat (any_goals (first | go_big_quiet_step ((go_at_call 23; exact Calls.ext_of (MC.out _))) | quiet_step ((go_at_call 23; exact Calls.ext_of (MC.out _)))))); (all_goals (refine wpQuiet_nil ?_; intro w1 hw'; obtain ⟨⟨wX, k1⟩, hw''⟩ := hw'; subst hw''))
      go_wp2_with fail
      go_ret
      exact ⟨ret_bool (by simp), k1.blk hb0, Only.of_ext (by repeat (first | with_reducible exact Ext.refl _ | with_reducible assumption | with_reducible apply Ext.alloc | with_reducible apply Ext.drew | with_reducible apply Ext.drewN | (with_reducible refine Ext.set' ?_ (by first | omega | (simp only [World.size_alloc, World.size_setCell]; omega))) | (with_reducible refine Ext.trans ?_ (by with_reducible assumption)) | (with_reducible refine Ext.only ?_ (by with_reducible assumption) (by omega))))⟩
    · subst h2
      have hr := hR'.eq
      rw [if_neg (by simp [hm])] at hr
      have e1 : (k == 0) = false := beq_eq_false_iff_ne.2 h1
      have e2 : (k != 0) = true := by rw [bne_iff_ne]; exact h1
      have e3 : (k != k) = false := by simp
      have HR := hid hr
      clear hr hR' hm h1
      go_enter Try.func11, Try.ntmps11
      go_wp2_with fail
      generalize w.alloc (.cells #[.int .i64 v, .int .i64 k] 32) = w0 at *
      have c0 := After.cell (hb0.cell 0 (.int .i64 k) rfl)
      have c1 := After.cell (hb0.cell 1 (.int .i64 m) rfl)
      have c2 := After.cell (h0.cell 0 (.int .i64 v) rfl)
      have c3 := After.cell (h0.cell 1 (.int .i64 k) rfl)
      refine wp_region_ext (by kernel_rfl) (by kernel_rfl) ?_; (repeat (any_goals (first | go_big_quiet_step ((go_at_call 23; exact Calls.ext_of (MC.out _))) | quiet_step ((go_at_call 23; exact Calls.ext_of (MC.out _)))))); (all_goals (refine wpQuiet_nil ?_; intro w1 hw'; obtain ⟨⟨wX, k1⟩, hw''⟩ := hw'; subst hw''))
      clear c0 c1 c2 c3
      have b1 := k1.blk hb0
      have b2 := k1.blk h0
      obtain ⟨pc0, pc1, pf0, pf1⟩ := Blk.cells2 b1
      obtain ⟨qc0, qc1, qf0, qf1⟩ := Blk.cells2 b2
      go_wp2_with fail
      (with_reducible refine (target_c _ _).mono ?_); rintro e w2 ⟨rfl, k2⟩
      have b3 := k2.blk b1
      obtain ⟨rc0, rc1, rf0, rf1⟩ := Blk.cells2 b3
      rw [HR.out]
      go_wp2_with fail
      go_ret
      exact ⟨rfl, b3.set 1 _, (Only.of_ext (by repeat (first | with_reducible exact Ext.refl _ | with_reducible assumption | with_reducible apply Ext.alloc | with_reducible apply Ext.drew | with_reducible apply Ext.drewN | (with_reducible refine Ext.set' ?_ (by first | omega | (simp only [World.size_alloc, World.size_setCell]; omega))) | (with_reducible refine Ext.trans ?_ (by with_reducible assumption)) | (with_reducible refine Ext.only ?_ (by with_reducible assumption) (by omega))))).set 1 _⟩

set_option maxHeartbeats 400000 in
theorem mode_nil (w : World) : Calls Try.prog 12 #[.pointer none] w fun e w' => e = .returned (.int .i64 0) ∧ Ext w w' := by
  go_enter Try.func12, Try.ntmps12
  go_wp2_with fail
  go_ret
  exact ⟨rfl, (by repeat (first | with_reducible exact Ext.refl _ | with_reducible assumption | with_reducible apply Ext.alloc | with_reducible apply Ext.drew | with_reducible apply Ext.drewN | (with_reducible refine Ext.set' ?_ (by first | omega | (simp only [World.size_alloc, World.size_setCell]; omega))) | (with_reducible refine Ext.trans ?_ (by with_reducible assumption)) | (with_reducible refine Ext.only ?_ (by with_reducible assumption) (by omega))))⟩
set_option maxHeartbeats 400000 in
theorem mode_c (b : Nat) (n m : Int) (w : World) (hb : Blk w b #[.int .i64 n, .int .i64 m] MT) :
    Calls Try.prog 12 #[.pointer (some ⟨b, 0, none⟩)] w fun e w' => e = .returned (.int .i64 m) ∧ Ext w w' := by
  obtain ⟨pc0, pc1, pf0, pf1⟩ := Blk.cells2 hb
  go_enter Try.func12, Try.ntmps12
  go_wp2_with fail
  go_ret
  exact ⟨rfl, (by repeat (first | with_reducible exact Ext.refl _ | with_reducible assumption | with_reducible apply Ext.alloc | with_reducible apply Ext.drew | with_reducible apply Ext.drewN | (with_reducible refine Ext.set' ?_ (by first | omega | (simp only [World.size_alloc, World.size_setCell]; omega))) | (with_reducible refine Ext.trans ?_ (by with_reducible assumption)) | (with_reducible refine Ext.only ?_ (by with_reducible assumption) (by omega))))⟩
set_option maxHeartbeats 400000 in
theorem node_nil (w : World) : Calls Try.prog 13 #[.pointer none] w fun e w' => e = .returned (.int .i64 0) ∧ Ext w w' := by
  go_enter Try.func13, Try.ntmps13
  go_wp2_with fail
  go_ret
  exact ⟨rfl, (by repeat (first | with_reducible exact Ext.refl _ | with_reducible assumption | with_reducible apply Ext.alloc | with_reducible apply Ext.drew | with_reducible apply Ext.drewN | (with_reducible refine Ext.set' ?_ (by first | omega | (simp only [World.size_alloc, World.size_setCell]; omega))) | (with_reducible refine Ext.trans ?_ (by with_reducible assumption)) | (with_reducible refine Ext.only ?_ (by with_reducible assumption) (by omega))))⟩
set_option maxHeartbeats 400000 in
theorem node_c (b : Nat) (n m : Int) (w : World) (hb : Blk w b #[.int .i64 n, .int .i64 m] MT) :
    Calls Try.prog 13 #[.pointer (some ⟨b, 0, none⟩)] w fun e w' => e = .returned (.int .i64 n) ∧ Ext w w' := by
  obtain ⟨pc0, pc1, pf0, pf1⟩ := Blk.cells2 hb
  go_enter Try.func13, Try.ntmps13
  go_wp2_with fail
  go_ret
  exact ⟨rfl, (by repeat (first | with_reducible exact Ext.refl _ | with_reducible assumption | with_reducible apply Ext.alloc | with_reducible apply Ext.drew | with_reducible apply Ext.drewN | (with_reducible refine Ext.set' ?_ (by first | omega | (simp only [World.size_alloc, World.size_setCell]; omega))) | (with_reducible refine Ext.trans ?_ (by with_reducible assumption)) | (with_reducible refine Ext.only ?_ (by with_reducible assumption) (by omega))))⟩
set_option maxHeartbeats 400000 in
theorem fork_nil (w : World) : Calls Try.prog 14 #[.pointer none] w fun e w' => e = .returned (.pointer none) ∧ Ext w w' := by
  go_enter Try.func14, Try.ntmps14
  go_wp2_with fail
  go_ret
  exact ⟨rfl, (by repeat (first | with_reducible exact Ext.refl _ | with_reducible assumption | with_reducible apply Ext.alloc | with_reducible apply Ext.drew | with_reducible apply Ext.drewN | (with_reducible refine Ext.set' ?_ (by first | omega | (simp only [World.size_alloc, World.size_setCell]; omega))) | (with_reducible refine Ext.trans ?_ (by with_reducible assumption)) | (with_reducible refine Ext.only ?_ (by with_reducible assumption) (by omega))))⟩
set_option maxHeartbeats 400000 in
theorem fork_c (b : Nat) (n m : Int) (w : World) (hb : Blk w b #[.int .i64 n, .int .i64 m] MT) :
    Calls Try.prog 14 #[.pointer (some ⟨b, 0, none⟩)] w fun e w' => ∃ c, e = .returned (.pointer (some ⟨c, 0, none⟩)) ∧ w.heap.size ≤ c ∧ Blk w' c #[.int .i64 n, .int .i64 m] MT ∧ Ext w w' := by
  obtain ⟨pc0, pc1, pf0, pf1⟩ := Blk.cells2 hb
  go_enter Try.func14, Try.ntmps14
  go_wp2_with fail
  go_ret
  exact ⟨_, rfl, Nat.le_refl _, Blk.new _ _ _, (by repeat (first | with_reducible exact Ext.refl _ | with_reducible assumption | with_reducible apply Ext.alloc | with_reducible apply Ext.drew | with_reducible apply Ext.drewN | (with_reducible refine Ext.set' ?_ (by first | omega | (simp only [World.size_alloc, World.size_setCell]; omega))) | (with_reducible refine Ext.trans ?_ (by with_reducible assumption)) | (with_reducible refine Ext.only ?_ (by with_reducible assumption) (by omega))))⟩

set_option maxHeartbeats 1000000 in
theorem behind_c (n m v k : Int) (w : World) : Calls Try.prog 9 #[.int .i64 n, .int .i64 m, .agg #[.int .i64 v, .int .i64 k]] w fun e w' => e = .returned (.int .i64 (obeyV n m v k)) ∧ Ext w w' := by
  have HB := hid (fun w' (q : Ext (w.alloc (.cells #[.int .i64 v, .int .i64 k] 32)) w') => Ext.blk q (Blk.new w #[.int .i64 v, .int .i64 k] 32))
  by_cases hm : m = 0
  · have hr : obeyV n m v k = m := if_pos (.inl hm)
    rw [hr]
    subst hm
    clear hr HB
    go_enter Try.func9, Try.ntmps9
    go_wp2_with fail
    go_ret
    exact ⟨rfl, (by repeat (first | with_reducible exact Ext.refl _ | with_reducible assumption | with_reducible apply Ext.alloc | with_reducible apply Ext.drew | with_reducible apply Ext.drewN | (with_reducible refine Ext.set' ?_ (by first | omega | (simp only [World.size_alloc, World.size_setCell]; omega))) | (with_reducible refine Ext.trans ?_ (by with_reducible assumption)) | (with_reducible refine Ext.only ?_ (by with_reducible assumption) (by omega))))⟩
  · have d : (m == 0) = false := beq_eq_false_iff_ne.2 hm
    obtain ⟨x, hx⟩ : ∃ x, Is (mayB v k) x := ⟨_, Is.refl _⟩
    have hcase : (x = false) ∨ (x = true ∧ k = 0) ∨ (x = true ∧ k ≠ 0 ∧ k ≠ n) ∨ (x = true ∧ k ≠ 0 ∧ k = n) := by
      cases x
      · exact .inl rfl
      · by_cases h1 : k = 0
        · exact .inr (.inl ⟨rfl, h1⟩)
        · by_cases h2 : k = n
          · exact .inr (.inr (.inr ⟨rfl, h1, h2⟩))
          · exact .inr (.inr (.inl ⟨rfl, h1, h2⟩))
    obtain ⟨R, hR⟩ : ∃ R, Is (obeyV n m v k) R := ⟨_, Is.refl _⟩
    have hR' : Is (if m = 0 ∨ x = false ∨ (k ≠ 0 ∧ k ≠ n) then m else targV v) R := by rw [← hx.eq]; exact hR
    rw [hR.eq]
    clear hR
    rcases hcase with rfl | ⟨rfl, rfl⟩ | ⟨rfl, h1, h2⟩ | ⟨rfl, h1, h2⟩
    · have hr := hR'.eq
      rw [if_pos (.inr (.inl rfl))] at hr
      subst hr
      clear hR' hm
      go_enter Try.func9, Try.ntmps9
      go_wp2_with fail
      (with_reducible refine (rmay_c _ _ _).mono ?_); rintro e w1 ⟨rfl, k1⟩
      rw [hx.eq]
      go_wp2_with fail
      go_ret
      exact ⟨rfl, (by repeat (first | with_reducible exact Ext.refl _ | with_reducible assumption | with_reducible apply Ext.alloc | with_reducible apply Ext.drew | with_reducible apply Ext.drewN | (with_reducible refine Ext.set' ?_ (by first | omega | (simp only [World.size_alloc, World.size_setCell]; omega))) | (with_reducible refine Ext.trans ?_ (by with_reducible assumption)) | (with_reducible refine Ext.only ?_ (by with_reducible assumption) (by omega))))⟩
    · have hr := hR'.eq
      rw [if_neg (by simp [hm])] at hr
      clear hR' hm
      rcases verb_cases v with rfl | rfl | rfl | rfl | rfl | ⟨d1, d2, d3, d4, d5, _, hv⟩
      all_goals
        have HR := hid hr
        clear hr
        go_enter Try.func9, Try.ntmps9
        go_wp2_with fail
        (with_reducible refine (rmay_c _ _ _).mono ?_); rintro e w1 ⟨rfl, k1⟩
        rw [hx.eq]
        have b1 := HB.out w1 (by repeat (first | with_reducible exact Ext.refl _ | with_reducible assumption | with_reducible apply Ext.alloc | with_reducible apply Ext.drew | with_reducible apply Ext.drewN | (with_reducible refine Ext.set' ?_ (by first | omega | (simp only [World.size_alloc, World.size_setCell]; omega))) | (with_reducible refine Ext.trans ?_ (by with_reducible assumption)) | (with_reducible refine Ext.only ?_ (by with_reducible assumption) (by omega))))
        obtain ⟨pc0, pc1, pf0, pf1⟩ := Blk.cells2 b1
        have KE : Ext w w1 := (by repeat (first | with_reducible exact Ext.refl _ | with_reducible assumption | with_reducible apply Ext.alloc | with_reducible apply Ext.drew | with_reducible apply Ext.drewN | (with_reducible refine Ext.set' ?_ (by first | omega | (simp only [World.size_alloc, World.size_setCell]; omega))) | (with_reducible refine Ext.trans ?_ (by with_reducible assumption)) | (with_reducible refine Ext.only ?_ (by with_reducible assumption) (by omega))))
        clear HB k1
        go_wp2_with fail
        go_ret
        exact ⟨by rw [← HR.out]; first | done | rfl | (rw [hv.eq]; rfl), (by repeat (first | with_reducible exact Ext.refl _ | with_reducible assumption | with_reducible apply Ext.alloc | with_reducible apply Ext.drew | with_reducible apply Ext.drewN | (with_reducible refine Ext.set' ?_ (by first | omega | (simp only [World.size_alloc, World.size_setCell]; omega))) | (with_reducible refine Ext.trans ?_ (by with_reducible assumption)) | (with_reducible refine Ext.only ?_ (by with_reducible assumption) (by omega))))⟩
    · have hr := hR'.eq
      rw [if_pos (.inr (.inr ⟨h1, h2⟩))] at hr
      have e2 : (k != 0) = true := by rw [bne_iff_ne]; exact h1
      have e4 : (k != n) = true := by rw [bne_iff_ne]; exact h2
      subst hr
      clear hR' hm h1 h2
      go_enter Try.func9, Try.ntmps9
      go_wp2_with fail
      (with_reducible refine (rmay_c _ _ _).mono ?_); rintro e w1 ⟨rfl, k1⟩
      rw [hx.eq]
      have b1 := HB.out w1 (by repeat (first | with_reducible exact Ext.refl _ | with_reducible assumption | with_reducible apply Ext.alloc | with_reducible apply Ext.drew | with_reducible apply Ext.drewN | (with_reducible refine Ext.set' ?_ (by first | omega | (simp only [World.size_alloc, World.size_setCell]; omega))) | (with_reducible refine Ext.trans ?_ (by with_reducible assumption)) | (with_reducible refine Ext.only ?_ (by with_reducible assumption) (by omega))))
      obtain ⟨pc0, pc1, pf0, pf1⟩ := Blk.cells2 b1
      have KE : Ext w w1 := (by repeat (first | with_reducible exact Ext.refl _ | with_reducible assumption | with_reducible apply Ext.alloc | with_reducible apply Ext.drew | with_reducible apply Ext.drewN | (with_reducible refine Ext.set' ?_ (by first | omega | (simp only [World.size_alloc, World.size_setCell]; omega))) | (with_reducible refine Ext.trans ?_ (by with_reducible assumption)) | (with_reducible refine Ext.only ?_ (by with_reducible assumption) (by omega))))
      clear HB k1
      go_wp2_with fail
      go_ret
      exact ⟨rfl, (by repeat (first | with_reducible exact Ext.refl _ | with_reducible assumption | with_reducible apply Ext.alloc | with_reducible apply Ext.drew | with_reducible apply Ext.drewN | (with_reducible refine Ext.set' ?_ (by first | omega | (simp only [World.size_alloc, World.size_setCell]; omega))) | (with_reducible refine Ext.trans ?_ (by with_reducible assumption)) | (with_reducible refine Ext.only ?_ (by with_reducible assumption) (by omega))))⟩
    · subst h2
      have hr := hR'.eq
      rw [if_neg (by simp [hm])] at hr
      have e2 : (k != 0) = true := by rw [bne_iff_ne]; exact h1
      clear hR' hm h1
      rcases verb_cases v with rfl | rfl | rfl | rfl | rfl | ⟨d1, d2, d3, d4, d5, _, hv⟩
      all_goals
        have HR := hid hr
        clear hr
        go_enter Try.func9, Try.ntmps9
        go_wp2_with fail
        (with_reducible refine (rmay_c _ _ _).mono ?_); rintro e w1 ⟨rfl, k1⟩
        rw [hx.eq]
        have b1 := HB.out w1 (by repeat (first | with_reducible exact Ext.refl _ | with_reducible assumption | with_reducible apply Ext.alloc | with_reducible apply Ext.drew | with_reducible apply Ext.drewN | (with_reducible refine Ext.set' ?_ (by first | omega | (simp only [World.size_alloc, World.size_setCell]; omega))) | (with_reducible refine Ext.trans ?_ (by with_reducible assumption)) | (with_reducible refine Ext.only ?_ (by with_reducible assumption) (by omega))))
        obtain ⟨pc0, pc1, pf0, pf1⟩ := Blk.cells2 b1
        have KE : Ext w w1 := (by repeat (first | with_reducible exact Ext.refl _ | with_reducible assumption | with_reducible apply Ext.alloc | with_reducible apply Ext.drew | with_reducible apply Ext.drewN | (with_reducible refine Ext.set' ?_ (by first | omega | (simp only [World.size_alloc, World.size_setCell]; omega))) | (with_reducible refine Ext.trans ?_ (by with_reducible assumption)) | (with_reducible refine Ext.only ?_ (by with_reducible assumption) (by omega))))
        clear HB k1
        go_wp2_with fail
        go_ret
        exact ⟨by rw [← HR.out]; first | done | rfl | (rw [hv.eq]; rfl), (by repeat (first | with_reducible exact Ext.refl _ | with_reducible assumption | with_reducible apply Ext.alloc | with_reducible apply Ext.drew | with_reducible apply Ext.drewN | (with_reducible refine Ext.set' ?_ (by first | omega | (simp only [World.size_alloc, World.size_setCell]; omega))) | (with_reducible refine Ext.trans ?_ (by with_reducible assumption)) | (with_reducible refine Ext.only ?_ (by with_reducible assumption) (by omega))))⟩

end Go.Proofs.Yteflckedfnflpaa
