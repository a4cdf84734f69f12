/- The plain law of ProdSteps: both makers do the same. -/
import Derived.Test.YtbjfhdkgbhkodaaPRStep
set_option linter.unusedSimpArgs false
set_option linter.unusedVariables false
set_option linter.unnecessarySimpa false
namespace Go.Proofs.Ytbjfhdkgbhkodaa
open Go.RowKit Go.Proofs.YtbjfhdkgbhkodaaW.PrintWords

/-- What is known of both makers between the steps. -/
def PI (k : Mk) (r : Rm) (now : Int) : Prop := (k.works = true → r.last = k.last ∧ r.x = k.x) ∧ (k.works = false → r.last = -1) ∧ r.sent = k.sent ∧ 0 ≤ k.last ∧ k.last ≤ now
/-- What is known just behind a step. -/
def QI (k : Mk) (now : Int) : Prop := k.works = true → now - k.last ≤ k.x.at 1 ∧ k.x.at 1 ≤ 65535
theorem due_same {k : Mk} {r : Rm} {a now : Int} {x : Ch} (h : PI k r a) : r.due now x = k.due now x := by
  obtain ⟨h1, h2, _, h3, _⟩ := h
  unfold Rm.due Mk.due
  cases hk : k.works
  · rw [h2 hk]
    rfl
  · obtain ⟨e1, e2⟩ := h1 hk
    rw [e1, e2, decide_eq_true h3]
    by_cases hc : x.at 1 ≤ now - k.last
    · rw [decide_eq_true hc, decide_eq_false (by omega)]
      cases chEq k.x x <;> rfl
    · rw [decide_eq_false hc, decide_eq_true (by omega)]
      cases chEq k.x x <;> rfl
theorem step_same {k : Mk} {r : Rm} {a now : Int} {on : Bool} {x : Ch} {l : List Int} (h : PI k r a) (ha : a ≤ now) (h0 : 0 ≤ now) (h1 : now ≤ 2147483647) :
    (r.step now on x l).2 = (k.step now on x l).2 ∧ PI (k.step now on x l).1 (r.step now on x l).1 now ∧ QI (k.step now on x l).1 now ∧ ((k.step now on x l).1.sent = k.sent ∨ (k.step now on x l).1.sent = k.sent + 1) := by
  have ht : tkB now = true := by unfold tkB; simp [h0, h1]
  have hd := due_same (now := now) (x := x) h
  obtain ⟨g1, g2, g3, g4, g5⟩ := h
  unfold Rm.step Mk.step
  rw [ht, hd]
  obtain ⟨g, hg⟩ : ∃ g, goes on x l = g := ⟨_, rfl⟩
  obtain ⟨q, hq⟩ : ∃ q, k.due now x = q := ⟨_, rfl⟩
  rw [hg, hq]
  cases g
  · simp only [Bool.true_eq_false, if_false, if_true]
    exact ⟨True.intro, ⟨fun h => (by cases h), fun _ => rfl, g3, g4, by show k.last ≤ now; omega⟩, fun h => (by cases h), .inl True.intro⟩
  · have hs : x.snd = true := by
      unfold goes at hg
      cases hx : x.snd
      · rw [hx] at hg; simp at hg
      · rfl
    obtain ⟨_, t1, t2, _⟩ := snd_facts hs
    cases q
    · simp only [Bool.true_eq_false, if_false, if_true]
      refine ⟨True.intro, ⟨g1, g2, g3, g4, by show k.last ≤ now; omega⟩, fun hk => ?_, .inl True.intro⟩
      unfold Mk.due at hq
      simp only [Bool.or_eq_false_iff, Bool.not_eq_false', decide_eq_false_iff_not] at hq
      have e : k.x = x := chEq_iff.1 hq.2.1
      show now - k.last ≤ k.x.at 1 ∧ k.x.at 1 ≤ 65535
      rw [e]
      exact ⟨by have := hq.2.2; omega, t2⟩
    · simp only [Bool.true_eq_false, if_false, if_true]
      exact ⟨True.intro, ⟨fun _ => ⟨rfl, rfl⟩, fun h => (by cases h), by show r.sent + 1 = k.sent + 1; rw [g3], h0, Int.le_refl _⟩, fun _ => ⟨by show now - now ≤ x.at 1; omega, t2⟩, .inr True.intro⟩
theorem szF_ge : ∀ (l : List Int) (acc : Int), 0 ≤ acc → 0 ≤ szF acc l
  | [], acc, h => h
  | b :: r, acc, h => by
    unfold szF
    split
    · rename_i hb
      exact szF_ge r _ (by omega)
    · exact Int.le_refl _
theorem Ch.sz_ge (c : Ch) : 0 ≤ c.sz := by
  unfold Ch.sz
  split
  · exact Int.le_refl _
  · exact szF_ge _ _ (Int.le_refl _)

end Go.Proofs.Ytbjfhdkgbhkodaa
