/- Package pair: Unlike; the reference's Unlike; Cause. -/
import Derived.Test.YtfjmflkfnccohaaPair3
set_option linter.unusedSimpArgs false
set_option linter.unusedVariables false
set_option linter.unnecessarySimpa false
namespace Go.Proofs.Ytfjmflkfnccohaa
open Go.RowKit Go.Proofs.YtfjmflkfnccohaaW.PrintWords
attribute [local go_sem] max2_max min2_min max_of_two min_of_two bxF_fr stF_fr stF_fr2 stF_put ldF_put ldV_put ldF_new guard_eq guard_ne bin_eq bin_ne alF_fr bdF_none bdF_ask bdF_len bdF_dat ext_drew' ext_alloc
attribute [local go_sem ↓] ldF_in ldV_in bxF_in stF_in cvS_in alF_in bdF_in ixS_in
attribute [local go_sem] gUpon

/-- How many bits of two bytes are the same. -/
def unl (x y : Int) : Int := 8 - pop8 (Go.bits .xor .u8 x y)
def cnt (x y : Int) : Nat → Int
  | 0 => 0
  | k + 1 => cnt x y k + if x / 2 ^ k % 2 = y / 2 ^ k % 2 then 1 else 0
def unlF : Int → List Int → List Int → Int
  | n, x :: l, y :: m => unlF (n + unl x y) l m
  | n, _, _ => n
theorem pop_le {x : Int} (h0 : 0 ≤ x) (h1 : x ≤ 255) : 0 ≤ pop8 x ∧ pop8 x ≤ 8 := by unfold pop8; omega
theorem xor_le {x y : Int} (h0 : 0 ≤ x) (h1 : x ≤ 255) (g0 : 0 ≤ y) (g1 : y ≤ 255) : 0 ≤ Go.bits .xor .u8 x y ∧ Go.bits .xor .u8 x y ≤ 255 := by
  obtain ⟨p, rfl⟩ := Int.eq_ofNat_of_zero_le h0
  obtain ⟨q, rfl⟩ := Int.eq_ofNat_of_zero_le g0
  rw [u8_xor_nat p q (by omega) (by omega)]
  have : p ^^^ q < 2 ^ 8 := Nat.xor_lt_two_pow (by omega) (by omega)
  omega
theorem xor_bit (p q k : Nat) : (p ^^^ q) / 2 ^ k % 2 = (p / 2 ^ k + q / 2 ^ k) % 2 := by
  have h := Nat.testBit_xor p q k
  rw [Nat.testBit_eq_decide_div_mod_eq, Nat.testBit_eq_decide_div_mod_eq, Nat.testBit_eq_decide_div_mod_eq] at h
  by_cases a : p / 2 ^ k % 2 = 1 <;> by_cases b : q / 2 ^ k % 2 = 1 <;> simp [a, b] at h <;> omega
theorem same_bit (a b : Int) : (if a % 2 = b % 2 then (1 : Int) else 0) = 1 - (a + b) % 2 := by split <;> omega
theorem xor_bitI (p q k : Nat) : ((p : Int) / 2 ^ k + (q : Int) / 2 ^ k) % 2 = ((p ^^^ q : Nat) : Int) / 2 ^ k % 2 := by
  have h : (((p / 2 ^ k + q / 2 ^ k) % 2 : Nat) : Int) = (((p ^^^ q) / 2 ^ k % 2 : Nat) : Int) := by rw [xor_bit p q k]
  simpa using h
theorem cnt_unl {x y : Int} (h0 : 0 ≤ x) (h1 : x ≤ 255) (g0 : 0 ≤ y) (g1 : y ≤ 255) : cnt x y 8 = unl x y := by
  obtain ⟨p, rfl⟩ := Int.eq_ofNat_of_zero_le h0
  obtain ⟨q, rfl⟩ := Int.eq_ofNat_of_zero_le g0
  unfold unl
  rw [u8_xor_nat p q (by omega) (by omega)]
  simp only [cnt, same_bit, xor_bitI]
  generalize ((p ^^^ q : Nat) : Int) = z
  show 0 + (1 - z / 1 % 2) + (1 - z / 2 % 2) + (1 - z / 4 % 2) + (1 - z / 8 % 2) + (1 - z / 16 % 2) + (1 - z / 32 % 2) + (1 - z / 64 % 2) + (1 - z / 128 % 2) = 8 - (z % 2 + z / 2 % 2 + z / 4 % 2 + z / 8 % 2 + z / 16 % 2 + z / 32 % 2 + z / 64 % 2 + z / 128 % 2)
  rw [Int.ediv_one]
  generalize z % 2 = t0
  generalize z / 2 % 2 = t1
  generalize z / 4 % 2 = t2
  generalize z / 8 % 2 = t3
  generalize z / 16 % 2 = t4
  generalize z / 32 % 2 = t5
  generalize z / 64 % 2 = t6
  generalize z / 128 % 2 = t7
  omega
theorem unl_le {x y : Int} (h0 : 0 ≤ x) (h1 : x ≤ 255) (g0 : 0 ≤ y) (g1 : y ≤ 255) : 0 ≤ unl x y ∧ unl x y ≤ 8 := by
  have h := xor_le h0 h1 g0 g1
  have := pop_le h.1 h.2
  unfold unl
  omega


end Go.Proofs.Ytfjmflkfnccohaa
