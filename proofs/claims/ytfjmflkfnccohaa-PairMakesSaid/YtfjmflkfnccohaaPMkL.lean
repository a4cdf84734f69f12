/- The plain law of PairMakes. -/
import Derived.Test.YtfjmflkfnccohaaPair7
import Derived.Test.YtfjmflkfnccohaaPLive
set_option linter.unusedSimpArgs false
set_option linter.unusedVariables false
set_option linter.unnecessarySimpa false
namespace Go.Proofs.Ytfjmflkfnccohaa
open Go.RowKit Go.Proofs.YtfjmflkfnccohaaW.PrintWords
attribute [local go_sem] max2_max min2_min max_of_two min_of_two bxF_fr stF_fr stF_fr2 stF_put ldF_put ldV_put ldF_new guard_eq guard_ne bin_eq bin_ne alF_fr bdF_none bdF_ask bdF_len bdF_dat ext_drew' ext_alloc
attribute [local go_sem ↓] ldF_in ldV_in bxF_in stF_in cvS_in alF_in bdF_in ixS_in
attribute [local go_sem] gUpon

theorem unl_zero {x y : Int} (h0 : 0 ≤ x) (h1 : x ≤ 255) (g0 : 0 ≤ y) (g1 : y ≤ 255) : unl x y = 0 ↔ 255 - x = y := by
  obtain ⟨p, rfl⟩ := Int.eq_ofNat_of_zero_le h0
  obtain ⟨q, rfl⟩ := Int.eq_ofNat_of_zero_le g0
  have hb := xor_le h0 h1 g0 g1
  have hm := xor_max h0 h1
  have e255 : IntKind.u8.max = ((255 : Nat) : Int) := by decide
  rw [e255, u8_xor_nat 255 p (by omega) (by omega)] at hm
  unfold unl
  rw [u8_xor_nat p q (by omega) (by omega)] at hb ⊢
  have h8 : 8 - pop8 ((p ^^^ q : Nat) : Int) = 0 ↔ p ^^^ q = 255 := by
    have hz : p ^^^ q < 256 := Nat.xor_lt_two_pow (n := 8) (by omega) (by omega)
    have hd : ∀ z : Fin 256, (8 - pop8 ((z.val : Nat) : Int) = 0 ↔ z.val = 255) := by decide +kernel
    exact hd ⟨_, hz⟩
  rw [h8]
  constructor
  · intro h
    have : q = 255 ^^^ p := by rw [← h, Nat.xor_comm p q, Nat.xor_assoc, Nat.xor_self, Nat.xor_zero]
    omega
  · intro h
    have : q = 255 ^^^ p := by omega
    rw [this, Nat.xor_comm 255 p, ← Nat.xor_assoc, Nat.xor_self, Nat.zero_xor]
theorem unlF_ge : ∀ (a b : List Int) (acc : Int), Byt a → Byt b → acc ≤ unlF acc a b
  | [], b, acc, _, _ => by cases b <;> exact Int.le_refl _
  | x :: a, [], acc, _, _ => Int.le_refl _
  | x :: a, y :: b, acc, ha, hb => by
    have h1 := unl_le (ha x (by simp)).1 (ha x (by simp)).2 (hb y (by simp)).1 (hb y (by simp)).2
    have h2 := unlF_ge a b (acc + unl x y) (fun z hz => ha z (by simp [hz])) (fun z hz => hb z (by simp [hz]))
    show acc ≤ unlF (acc + unl x y) a b
    omega
theorem unlF_zero : ∀ (a b : List Int) (acc : Int), a.length = b.length → Byt a → Byt b → (unlF acc a b = acc ↔ flipL a = b)
  | [], [], acc, _, _, _ => by simp [unlF, flipL]
  | x :: a, y :: b, acc, hl, ha, hb => by
    have h1 := unl_le (ha x (by simp)).1 (ha x (by simp)).2 (hb y (by simp)).1 (hb y (by simp)).2
    have hz := unl_zero (ha x (by simp)).1 (ha x (by simp)).2 (hb y (by simp)).1 (hb y (by simp)).2
    have ha' : Byt a := fun z hz => ha z (by simp [hz])
    have hb' : Byt b := fun z hz => hb z (by simp [hz])
    have h2 := unlF_ge a b (acc + unl x y) ha' hb'
    have ih := unlF_zero a b (acc + unl x y) (by simpa using hl) ha' hb'
    show unlF (acc + unl x y) a b = acc ↔ flipL (x :: a) = y :: b
    have hf : flipL (x :: a) = (255 - x) :: flipL a := rfl
    rw [hf, List.cons.injEq, ← hz, ← ih]
    omega

/-- What is told of whether two rows are turned of one another. -/
theorem like_is (b x : List Int) (hb : Byt b) (hx : Byt x) : (if b.length = x.length then (unlF 0 b x == 0) else false) = decide (flipL b = x) := by
  by_cases h : b.length = x.length
  · rw [if_pos h]
    have := unlF_zero b x 0 h hb hx
    by_cases h2 : flipL b = x
    · rw [decide_eq_true h2]; simpa using this.2 h2
    · rw [decide_eq_false h2]; simpa using fun e => h2 (this.1 e)
  · rw [if_neg h]
    symm
    rw [decide_eq_false_iff_not]
    intro e
    apply h
    rw [← e]
    simp [flipL]

/-- The law's end: behind both makes and the loop. -/
abbrev wantCase (t C : Int) : Prop := (decide (3 ≤ t) = false ∧ Is C 0) ∨ (decide (3 ≤ t) = true ∧ decide (t ≤ 5) = false ∧ Is C 0) ∨ (decide (3 ≤ t) = true ∧ decide (t ≤ 5) = true ∧ Is C (t - 2))
theorem want_case (t : Int) : wantCase t (causeOf t) := by
  unfold wantCase causeOf
  by_cases h3 : 3 ≤ t
  · by_cases h5 : t ≤ 5
    · refine .inr (.inr ⟨by simpa using h3, by simpa using h5, Is.mk ?_⟩)
      rcases (by omega : t = 3 ∨ t = 4 ∨ t = 5) with rfl | rfl | rfl <;> decide
    · refine .inr (.inl ⟨by simpa using h3, by simpa using h5, Is.mk ?_⟩)
      rw [if_neg (by omega), if_neg (by omega), if_neg (by omega)]
  · refine .inl ⟨by simpa using h3, Is.mk ?_⟩
    rw [if_neg (by omega), if_neg (by omega), if_neg (by omega)]

end Go.Proofs.Ytfjmflkfnccohaa
