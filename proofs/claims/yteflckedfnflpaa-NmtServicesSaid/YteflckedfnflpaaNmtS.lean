/- The law NmtServices. -/
import Derived.Test.YteflckedfnflpaaNmtK
import Derived.Test.YteflckedfnflpaaNmt2
set_option linter.unusedSimpArgs false
set_option linter.unusedVariables false
set_option linter.unnecessarySimpa false
namespace Go.Proofs.Yteflckedfnflpaa
open Go.RowKit Go.Shelf

/-- What a node may do. -/
def mayS (m s : Int) : Bool := if s = 1 then knownB m else if s = 2 ∨ s = 3 then (m == 127 || m == 5) else if s = 4 ∨ s = 5 then m == 5 else false
theorem mayS_else {m s : Int} (h1 : s ≠ 1) (h2 : s ≠ 2) (h3 : s ≠ 3) (h4 : s ≠ 4) (h5 : s ≠ 5) : mayS m s = false := by
  unfold mayS
  rw [if_neg h1, if_neg (by omega), if_neg (by omega)]
set_option maxHeartbeats 1000000 in
theorem mays_c (m s : Int) (w : World) : Calls Try.prog 20 #[.int .i64 m, .int .i64 s] w fun e w' => e = .returned (.bool (mayS m s)) ∧ Ext w w' := by
  by_cases h1 : s = 1
  · subst h1
    go_enter Try.func20, Try.ntmps20
    go_wp2_with fail
    (with_reducible refine (known_c m _).mono ?_); rintro e w1 ⟨rfl, k1⟩
    go_wp2_with fail
    go_ret
    exact ⟨rfl, k1⟩
  by_cases h23 : s = 2 ∨ s = 3
  · have hm : mayS m s = (m == 127 || m == 5) := by unfold mayS; rw [if_neg h1, if_pos h23]
    rw [hm]
    obtain ⟨q1, e1⟩ : ∃ q, (m == 127) = q := ⟨_, rfl⟩
    obtain ⟨q2, e2⟩ : ∃ q, (m == 5) = q := ⟨_, rfl⟩
    rw [e1, e2]
    clear hm h1
    rcases h23 with rfl | rfl <;> cases q1
    all_goals
      go_enter Try.func20, Try.ntmps20
      go_wp2_with fail
      go_ret
      exact ⟨rfl, (by repeat (first | with_reducible exact Ext.refl _ | with_reducible assumption | with_reducible apply Ext.alloc | with_reducible apply Ext.drew | with_reducible apply Ext.drewN | (with_reducible refine Ext.set' ?_ (by first | omega | (simp only [World.size_alloc, World.size_setCell]; omega))) | (with_reducible refine Ext.trans ?_ (by with_reducible assumption)) | (with_reducible refine Ext.only ?_ (by with_reducible assumption) (by omega))))⟩
  by_cases h45 : s = 4 ∨ s = 5
  · have hm : mayS m s = (m == 5) := by unfold mayS; rw [if_neg h1, if_neg h23, if_pos h45]
    rw [hm]
    clear hm h1 h23
    rcases h45 with rfl | rfl
    all_goals
      go_enter Try.func20, Try.ntmps20
      go_wp2_with fail
      go_ret
      exact ⟨rfl, (by repeat (first | with_reducible exact Ext.refl _ | with_reducible assumption | with_reducible apply Ext.alloc | with_reducible apply Ext.drew | with_reducible apply Ext.drewN | (with_reducible refine Ext.set' ?_ (by first | omega | (simp only [World.size_alloc, World.size_setCell]; omega))) | (with_reducible refine Ext.trans ?_ (by with_reducible assumption)) | (with_reducible refine Ext.only ?_ (by with_reducible assumption) (by omega))))⟩
  · have f1 : (s == 1) = false := by simpa using h1
    have f2 : (s == 2) = false := by simp; omega
    have f3 : (s == 3) = false := by simp; omega
    have f4 : (s == 4) = false := by simp; omega
    have f5 : (s == 5) = false := by simp; omega
    rw [mayS_else h1 (by omega) (by omega) (by omega) (by omega)]
    clear h1 h23 h45
    go_enter Try.func20, Try.ntmps20
    go_wp2_with fail
    go_ret
    exact ⟨rfl, (by repeat (first | with_reducible exact Ext.refl _ | with_reducible assumption | with_reducible apply Ext.alloc | with_reducible apply Ext.drew | with_reducible apply Ext.drewN | (with_reducible refine Ext.set' ?_ (by first | omega | (simp only [World.size_alloc, World.size_setCell]; omega))) | (with_reducible refine Ext.trans ?_ (by with_reducible assumption)) | (with_reducible refine Ext.only ?_ (by with_reducible assumption) (by omega))))⟩
theorem does_is {m s : Int} (h0 : ¬ s < 1) (h1 : ¬ 5 < s) : mayS m s = (m == 5 || (m == 127 && decide (s ≤ 3)) || ((m == 4) && (s == 1))) := by
  rcases (by omega : s = 1 ∨ s = 2 ∨ s = 3 ∨ s = 4 ∨ s = 5) with rfl | rfl | rfl | rfl | rfl
  · show knownB m = _
    unfold knownB
    cases (m == 4) <;> cases (m == 5) <;> cases (m == 127) <;> rfl
  · show (m == 127 || m == 5) = _
    cases (m == 4) <;> cases (m == 5) <;> cases (m == 127) <;> rfl
  · show (m == 127 || m == 5) = _
    cases (m == 4) <;> cases (m == 5) <;> cases (m == 127) <;> rfl
  · show (m == 5) = _
    cases (m == 4) <;> cases (m == 5) <;> cases (m == 127) <;> rfl
  · show (m == 5) = _
    cases (m == 4) <;> cases (m == 5) <;> cases (m == 127) <;> rfl
set_option maxHeartbeats 1000000 in
theorem does_c (m s : Int) (w : World) : Calls Try.prog 21 #[.int .i64 m, .int .i64 s] w fun e w' => e = .returned (.bool (mayS m s)) ∧ Ext w w' := by
  by_cases h0 : s < 1
  · have e1 : decide (s < 1) = true := by simpa using h0
    rw [mayS_else (by omega) (by omega) (by omega) (by omega) (by omega)]
    clear h0
    go_enter Try.func21, Try.ntmps21
    go_wp2_with fail
    go_ret
    exact ⟨rfl, (by repeat (first | with_reducible exact Ext.refl _ | with_reducible assumption | with_reducible apply Ext.alloc | with_reducible apply Ext.drew | with_reducible apply Ext.drewN | (with_reducible refine Ext.set' ?_ (by first | omega | (simp only [World.size_alloc, World.size_setCell]; omega))) | (with_reducible refine Ext.trans ?_ (by with_reducible assumption)) | (with_reducible refine Ext.only ?_ (by with_reducible assumption) (by omega))))⟩
  · have e1 : decide (s < 1) = false := by simpa using h0
    by_cases h1 : 5 < s
    · have e2 : decide (5 < s) = true := by simpa using h1
      rw [mayS_else (by omega) (by omega) (by omega) (by omega) (by omega)]
      clear h0 h1
      go_enter Try.func21, Try.ntmps21
      go_wp2_with fail
      go_ret
      exact ⟨rfl, (by repeat (first | with_reducible exact Ext.refl _ | with_reducible assumption | with_reducible apply Ext.alloc | with_reducible apply Ext.drew | with_reducible apply Ext.drewN | (with_reducible refine Ext.set' ?_ (by first | omega | (simp only [World.size_alloc, World.size_setCell]; omega))) | (with_reducible refine Ext.trans ?_ (by with_reducible assumption)) | (with_reducible refine Ext.only ?_ (by with_reducible assumption) (by omega))))⟩
    · have e2 : decide (5 < s) = false := by simpa using h1
      rw [does_is h0 h1]
      clear h0 h1
      obtain ⟨q1, g1⟩ : ∃ q, (m == 5) = q := ⟨_, rfl⟩
      obtain ⟨q2, g2⟩ : ∃ q, (m == 127) = q := ⟨_, rfl⟩
      obtain ⟨q3, g3⟩ : ∃ q, (m == 4) = q := ⟨_, rfl⟩
      obtain ⟨q4, g4⟩ : ∃ q, decide (s ≤ 3) = q := ⟨_, rfl⟩
      obtain ⟨q5, g5⟩ : ∃ q, (s == 1) = q := ⟨_, rfl⟩
      rw [g1, g2, g3, g4, g5]
      have hx : m = 127 → (m == 4) = false := fun h => by rw [h]; rfl
      have hx3 : q2 = true → q3 = false := fun h => by rw [h] at g2; rw [← g3]; exact hx (by simpa using g2)
      clear hx
      cases q1
      · cases q2
        · cases q3
          all_goals
            go_enter Try.func21, Try.ntmps21
            go_wp2_with fail
            go_ret
            exact ⟨rfl, (by repeat (first | with_reducible exact Ext.refl _ | with_reducible assumption | with_reducible apply Ext.alloc | with_reducible apply Ext.drew | with_reducible apply Ext.drewN | (with_reducible refine Ext.set' ?_ (by first | omega | (simp only [World.size_alloc, World.size_setCell]; omega))) | (with_reducible refine Ext.trans ?_ (by with_reducible assumption)) | (with_reducible refine Ext.only ?_ (by with_reducible assumption) (by omega))))⟩
        · obtain rfl := hx3 rfl
          go_enter Try.func21, Try.ntmps21
          go_wp2_with fail
          go_ret
          exact ⟨by simp, (by repeat (first | with_reducible exact Ext.refl _ | with_reducible assumption | with_reducible apply Ext.alloc | with_reducible apply Ext.drew | with_reducible apply Ext.drewN | (with_reducible refine Ext.set' ?_ (by first | omega | (simp only [World.size_alloc, World.size_setCell]; omega))) | (with_reducible refine Ext.trans ?_ (by with_reducible assumption)) | (with_reducible refine Ext.only ?_ (by with_reducible assumption) (by omega))))⟩
      · go_enter Try.func21, Try.ntmps21
        go_wp2_with fail
        go_ret
        exact ⟨rfl, (by repeat (first | with_reducible exact Ext.refl _ | with_reducible assumption | with_reducible apply Ext.alloc | with_reducible apply Ext.drew | with_reducible apply Ext.drewN | (with_reducible refine Ext.set' ?_ (by first | omega | (simp only [World.size_alloc, World.size_setCell]; omega))) | (with_reducible refine Ext.trans ?_ (by with_reducible assumption)) | (with_reducible refine Ext.only ?_ (by with_reducible assumption) (by omega))))⟩
theorem mayS_zero {s : Int} : mayS 0 s = false := by
  unfold mayS
  split
  · rfl
  · split
    · rfl
    · split <;> rfl
theorem mayS_safe {m : Int} (h : mayS m 5 = true) : m = 5 := by
  have : mayS m 5 = (m == 5) := rfl
  rw [this] at h
  simpa using h

end Go.Proofs.Yteflckedfnflpaa
