/- ChunkComes: how far a transfer with losses gets. -/
import Derived.Test.YtpdomjinhbnmfaaTkr2
set_option linter.unusedSimpArgs false
set_option linter.unusedVariables false
set_option linter.unnecessarySimpa false
set_option maxRecDepth 100000
namespace Go.Proofs.Ytpdomjinhbnmfaa
open Go.RowKit Go.Proofs.YtpdomjinhbnmfaaW.PrintWords

/-- A segment's seven bytes. -/
def segP (b : List Int) (i : Nat) : List Int := (segB b i ++ List.replicate 7 0).take 7
def padB (b : List Int) (d : Nat) : List Int := (List.range d).flatMap (segP b)
theorem segP_len (b : List Int) (i : Nat) : (segP b i).length = 7 := by unfold segP; simp
theorem padB_succ (b : List Int) (d : Nat) : padB b (d + 1) = padB b d ++ segP b d := by simp [padB, List.range_succ]
theorem padB_len (b : List Int) : ∀ d, (padB b d).length = 7 * d
  | 0 => rfl
  | d + 1 => by rw [padB_succ, List.length_append, padB_len b d, segP_len]; omega
theorem segP_byt {b : List Int} (h : Byt b) (i : Nat) : Byt (segP b i) := fun x hx => by
  rcases List.mem_append.1 (List.mem_of_mem_take hx) with h1 | h1
  · exact h x (List.mem_of_mem_drop (List.mem_of_mem_take h1))
  · have := (List.mem_replicate.1 h1).2
    omega
theorem padB_byt {b : List Int} (h : Byt b) (d : Nat) : Byt (padB b d) := fun x hx => by
  obtain ⟨i, _, hi⟩ := List.mem_flatMap.1 hx
  exact segP_byt h i x hi
theorem lnOf_drop (k : Int) (b : List Int) (i : Nat) : (lnOf k (segB b i)).l.drop 1 = segP b i := rfl
theorem padB_full (b : List Int) : ∀ d, 7 * d ≤ b.length → padB b d = b.take (7 * d)
  | 0, _ => rfl
  | d + 1, h => by
    rw [padB_succ, padB_full b d (by omega)]
    have e : segP b d = (b.drop (7 * d)).take 7 := by
      unfold segP segB
      rw [List.take_append_of_le_length (by rw [List.length_take, List.length_drop]; omega), List.take_take, Nat.min_self]
    rw [e, show 7 * (d + 1) = 7 * d + 7 by omega, List.take_add]
theorem padB_take (b : List Int) : (padB b (nseg b)).take b.length = b := by
  obtain ⟨d, hd⟩ : ∃ d, nseg b = d + 1 := ⟨nseg b - 1, by unfold nseg; omega⟩
  have h7 : 7 * d ≤ b.length := by unfold nseg at hd; omega
  have h8 : b.length ≤ 7 * (d + 1) := by unfold nseg at hd; omega
  rw [hd, padB_succ, padB_full b d h7]
  have e : segB b d = b.drop (7 * d) := by
    unfold segB
    rw [List.take_of_length_le (by rw [List.length_drop]; omega)]
  have hl : (b.take (7 * d)).length = 7 * d := by rw [List.length_take]; omega
  have hdl : (b.drop (7 * d)).length = b.length - 7 * d := List.length_drop
  have e3 : (b.drop (7 * d)).take (b.length - 7 * d) = b.drop (7 * d) := List.take_of_length_le (by rw [hdl]; exact Nat.le_refl _)
  rw [List.take_append, hl, List.take_of_length_le (by rw [hl]; exact h7)]
  unfold segP
  rw [e, List.take_take, Nat.min_eq_left (by omega), List.take_append_of_le_length (by rw [hdl]; omega), e3, List.take_append_drop]

/-- The receiver when c segments of the block have come, d ahead of it. -/
def tdS (b : List Int) (z : Int) (d c : Nat) : Td := ⟨z, c, padB b (d + c), decide (d + c = nseg b)⟩
theorem tdS_put {b : List Int} {z : Int} {d c i n : Nat} (hd : d < nseg b) (hn : min z ((nseg b : Int) - d) = (n : Int)) (hz : z ≤ 16) (hc : c ≤ i) (hi : i < n) (hN : nseg b ≤ 10) :
    (tdS b z d c).put (lnOf (segK ((i : Int) + 1) (decide (d + i = nseg b - 1))) (segB b (d + i))) = (tdS b z d (if c = i then c + 1 else c), (decide (128 ≤ segK ((i : Int) + 1) (decide (d + i = nseg b - 1))) || ((i : Int) + 1 == z)), 0) := by
  have h0 : (lnOf (segK ((i : Int) + 1) (decide (d + i = nseg b - 1))) (segB b (d + i))).at 0 = segK ((i : Int) + 1) (decide (d + i = nseg b - 1)) := rfl
  have hm : segK ((i : Int) + 1) (decide (d + i = nseg b - 1)) % 128 = (i : Int) + 1 := by
    unfold segK
    split <;> omega
  have hq : decide (128 ≤ segK ((i : Int) + 1) (decide (d + i = nseg b - 1))) = decide (d + i = nseg b - 1) := by
    unfold segK
    by_cases h : d + i = nseg b - 1
    · rw [decide_eq_true h]; simp; omega
    · rw [decide_eq_false h]; simp; omega
  unfold Td.put
  rw [h0, hm]
  have l0 : ¬ (tdS b z d c).last = true := by
    show ¬ decide (d + c = nseg b) = true
    simp; omega
  rw [if_neg l0, if_neg (show ¬ ((i : Int) + 1 = 0 ∨ (tdS b z d c).size < (i : Int) + 1) by show ¬ ((i : Int) + 1 = 0 ∨ z < (i : Int) + 1); omega)]
  by_cases hci : c = i
  · rw [if_pos (show (i : Int) + 1 = (tdS b z d c).n + 1 by show (i : Int) + 1 = (c : Int) + 1; omega), if_neg (show ¬ 70 ≤ (tdS b z d c).b.length by show ¬ 70 ≤ (padB b (d + c)).length; rw [padB_len]; omega), if_pos hci, lnOf_drop, hq]
    subst hci
    unfold tdS
    have e1 : padB b (d + (c + 1)) = padB b (d + c) ++ segP b (d + c) := padB_succ b (d + c)
    have e2 : decide (d + c = nseg b - 1) = decide (d + (c + 1) = nseg b) := by
      rw [decide_eq_decide]; omega
    rw [e1, e2]
    simp
  · rw [if_neg (show ¬ (i : Int) + 1 = (tdS b z d c).n + 1 by show ¬ (i : Int) + 1 = (c : Int) + 1; omega), if_neg hci]
    rfl
theorem tdS_start (b : List Int) (z : Int) : (⟨z, 0, [], false⟩ : Td) = tdS b z 0 0 := by
  unfold tdS
  have : decide (0 + 0 = nseg b) = false := by unfold nseg; simp; omega
  rw [this]
  rfl
theorem tdS_ack (b : List Int) (z : Int) (d c : Nat) : (⟨(tdS b z d c).size, 0, (tdS b z d c).b, (tdS b z d c).last⟩ : Td) = tdS b z (d + c) 0 := by
  unfold tdS
  simp

end Go.Proofs.Ytpdomjinhbnmfaa
