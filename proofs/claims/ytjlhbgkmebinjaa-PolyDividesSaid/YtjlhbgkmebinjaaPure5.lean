/- The reference's small functions, as printed; its long division. -/
import Derived.Test.YtjlhbgkmebinjaaPure4
import Derived.Test.YtjlhbgkmebinjaaPPlainx1
import Derived.Test.YtjlhbgkmebinjaaPNumx1
import Derived.Test.YtjlhbgkmebinjaaPSamex1
import Derived.Test.YtjlhbgkmebinjaaPnoughtsx1
set_option linter.unusedSimpArgs false
set_option linter.unusedVariables false
namespace Go.Proofs.Ytjlhbgkmebinjaa.Pure
open Go.RowKit Go.Proofs.YtjlhbgkmebinjaaW.PrintWords Go.Proofs.YtjlhbgkmebinjaaW.PrintLast
open Go.Proofs.Ytjlhbgkmebinjaa

def md2 (l : List Int) : List Int := l.map fun x => Int.tmod x 2
theorem md2_len (l : List Int) : (md2 l).length = l.length := by simp [md2]
theorem rd_at (l : List Int) (i : Nat) : rd l (i : Int) = l.getD i 0 := by simp [rd]

theorem power_f : ∀ (n k : Nat), n < k → n ≤ 31 → PNum.tripwireref01_power.f k (n : Int) = some ((2 ^ n : Nat) : Int)
  | n, 0, h, _ => by omega
  | 0, k + 1, _, _ => by simp [PNum.tripwireref01_power.f]
  | n + 1, k + 1, h, h2 => by
    simp only [PNum.tripwireref01_power.f]
    rw [if_neg (by omega)]
    have e : wrap64 (((n + 1 : Nat) : Int) - 1) = (n : Int) := by unfold wrap64; omega
    rw [e, power_f n k (by omega) (by omega)]
    simp only [Option.bind_some]
    congr 1
    have := pow31 h2
    rw [Nat.pow_succ] at this ⊢
    generalize 2 ^ n = p at *
    omega

theorem plain_l0 (l : List Int) : ∀ (d k i : Nat) (x : List Int), l.length - i = d → d < k → i ≤ l.length → l.length ≤ 140737488355328 → x = md2 (l.take i) → PPlain.tripwireref01_Plain.l0 k l x (i : Int) = some (md2 l)
  | 0, k, i, x, hd, hk, hi, hl, hx => by
    obtain ⟨k, rfl⟩ : ∃ m, k = m + 1 := ⟨k - 1, by omega⟩
    simp only [PPlain.tripwireref01_Plain.l0]
    rw [if_neg (by omega), hx, List.take_of_length_le (by omega)]
  | d + 1, k, i, x, hd, hk, hi, hl, hx => by
    obtain ⟨k, rfl⟩ : ∃ m, k = m + 1 := ⟨k - 1, by omega⟩
    simp only [PPlain.tripwireref01_Plain.l0]
    have hxl : x.length = i := by rw [hx, md2_len, List.length_take]; omega
    rw [if_pos (by omega), if_pos (by omega), if_pos (by omega)]
    have e2 : wrap64 ((i : Int) + 1) = ((i + 1 : Nat) : Int) := by unfold wrap64; omega
    rw [e2, rd_at]
    refine plain_l0 l d k (i + 1) _ (by omega) (by omega) (by omega) hl ?_
    rw [hx, List.take_add_one, List.getD_eq_getElem?_getD, List.getElem?_eq_getElem (by omega)]
    simp only [md2, List.map_append, Option.toList_some, List.map_cons, List.map_nil, Option.getD_some]
theorem plain_f (l : List Int) (hl : l.length ≤ 140737488355328) : PPlain.tripwireref01_Plain.f (l.length + 1) l = some (md2 l) :=
  plain_l0 l l.length (l.length + 1) 0 [] (by omega) (by omega) (by omega) hl (by simp [md2])

theorem noughts_l0 (n : Nat) : ∀ (d k i : Nat), n - i = d → d < k → i ≤ n → n ≤ 140737488355328 → Pnoughts.tripwireref03_noughts.l0 k (n : Int) (List.replicate i 0) (i : Int) = some (List.replicate n 0)
  | 0, k, i, hd, hk, hi, hl => by
    obtain ⟨k, rfl⟩ : ∃ m, k = m + 1 := ⟨k - 1, by omega⟩
    simp only [Pnoughts.tripwireref03_noughts.l0]
    have : i = n := by omega
    rw [if_neg (by omega), this]
  | d + 1, k, i, hd, hk, hi, hl => by
    obtain ⟨k, rfl⟩ : ∃ m, k = m + 1 := ⟨k - 1, by omega⟩
    simp only [Pnoughts.tripwireref03_noughts.l0]
    rw [if_pos (by omega), if_pos (by simp; omega)]
    have e2 : wrap64 ((i : Int) + 1) = ((i + 1 : Nat) : Int) := by unfold wrap64; omega
    have e3 : List.replicate i (0 : Int) ++ [0] = List.replicate (i + 1) 0 := by simp [List.replicate_succ']
    rw [e2, e3]
    exact noughts_l0 n d k (i + 1) (by omega) (by omega) (by omega) hl
theorem noughts_f (n : Nat) (hl : n ≤ 140737488355328) : Pnoughts.tripwireref03_noughts.f (n + 1) (n : Int) = some (List.replicate n 0) :=
  noughts_l0 n n (n + 1) 0 (by omega) (by omega) (by omega) hl

theorem same_l0 (l m : List Int) (hlm : l.length = m.length) : ∀ (d k i : Nat), l.length - i = d → d < k → i ≤ l.length → l.length ≤ 140737488355328 → (∀ j, i ≤ j → l.getD j 0 = m.getD j 0) → PSame.tripwireref01_Same.l0 k l m (i : Int) = some true
  | 0, k, i, hd, hk, hi, hl, h => by
    obtain ⟨k, rfl⟩ : ∃ m, k = m + 1 := ⟨k - 1, by omega⟩
    simp only [PSame.tripwireref01_Same.l0]
    rw [if_neg (by omega)]
  | d + 1, k, i, hd, hk, hi, hl, h => by
    obtain ⟨k, rfl⟩ : ∃ m, k = m + 1 := ⟨k - 1, by omega⟩
    simp only [PSame.tripwireref01_Same.l0]
    have e2 : wrap64 ((i : Int) + 1) = ((i + 1 : Nat) : Int) := by unfold wrap64; omega
    rw [if_pos (by omega), if_pos (by omega), if_pos (by omega), rd_at, rd_at, if_pos (h i (by omega)), e2]
    exact same_l0 l m hlm d k (i + 1) (by omega) (by omega) (by omega) hl (fun j hj => h j (by omega))
theorem same_f (l m : List Int) (h : l = m) (hl : l.length ≤ 140737488355328) : PSame.tripwireref01_Same.f (l.length + 1) l m = some true := by
  subst h
  unfold PSame.tripwireref01_Same.f
  rw [if_pos rfl]
  exact same_l0 l l rfl l.length (l.length + 1) 0 (by omega) (by omega) (by omega) hl (fun _ _ => rfl)

theorem num_step (q p : Nat) (h : q * p ≤ 2147483647) (hp : p ≤ 2147483648) : (((q / 2 * (p * 2) : Nat) : Int) + (Int.tmod ((q % 2 : Nat) : Int) 2 % 4294967296 * (p : Int)) % 4294967296) % 4294967296 = ((q * p : Nat) : Int) := by
  have h2 : q / 2 * (p * 2) = (q / 2 * 2) * p := by rw [Nat.mul_comm p 2, Nat.mul_assoc]
  rw [h2]
  rcases (show q % 2 = 0 ∨ q % 2 = 1 by omega) with hb | hb
  · have h3 : q / 2 * 2 = q := by omega
    rw [hb, h3]
    generalize q * p = s at *
    have e : Int.tmod ((0 : Nat) : Int) 2 % 4294967296 * (p : Int) = 0 := by simp
    rw [e]
    omega
  · have h3 : q / 2 * 2 + 1 = q := by omega
    have h4 : q * p = q / 2 * 2 * p + p := by
      have : (q / 2 * 2 + 1) * p = q / 2 * 2 * p + p := by rw [Nat.add_mul, Nat.one_mul]
      rw [h3] at this; exact this
    rw [hb, h4]
    rw [h4] at h
    generalize q / 2 * 2 * p = s at *
    have e : Int.tmod ((1 : Nat) : Int) 2 % 4294967296 * (p : Int) = p := by
      have : Int.tmod ((1 : Nat) : Int) 2 % 4294967296 = 1 := by decide
      rw [this, Int.one_mul]
    rw [e]
    omega

/-- 'Num' of a number's lowest bits is the number. -/
theorem num_l0 (W r : Nat) (l : List Int) (hl : l.length = W) (hW : W ≤ 31) (hr : r < 2 ^ W) (hg : ∀ i, i < W → l.getD i 0 = ((r / 2 ^ (W - 1 - i) % 2 : Nat) : Int)) :
    ∀ (d k i : Nat), W - i = d → d + W < k → i ≤ W → PNum.tripwireref01_Num.l0 k l ((r / 2 ^ (W - i) * 2 ^ (W - i) : Nat) : Int) (i : Int) = some (r : Int) := by
  intro d
  induction d with
  | zero =>
    intro k i hd hk hi
    obtain ⟨k, rfl⟩ : ∃ m, k = m + 1 := ⟨k - 1, by omega⟩
    have : W - i = 0 := by omega
    rw [this, PNum.tripwireref01_Num.l0, if_neg (by omega)]
    simp
  | succ d ih =>
    intro k i hd hk hi
    obtain ⟨k, rfl⟩ : ∃ m, k = m + 1 := ⟨k - 1, by omega⟩
    have hi1 : i < W := by omega
    have hp := pow31 (W := W - 1 - i) (by omega)
    have e3 : W - i = (W - 1 - i) + 1 := by omega
    have e4 : W - (i + 1) = W - 1 - i := by omega
    have hr31 := pow31 (W := W) hW
    have hq1 : r / 2 ^ (W - 1 - i) * 2 ^ (W - 1 - i) ≤ r := Nat.div_mul_le_self _ _
    have key := num_step (r / 2 ^ (W - 1 - i)) (2 ^ (W - 1 - i)) (by omega) hp
    have ih' := ih k (i + 1) (by omega) (by omega) (by omega)
    rw [e4] at ih'
    have g1 : (i : Int) < (l.length : Int) := by omega
    have g2 : (0 : Int) ≤ (i : Int) := by omega
    have hpf := power_f (W - 1 - i) k (by omega) (by omega)
    have hgi := hg i hi1
    clear hq1 hr31 hp hr hg ih
    have e1 : wrap64 ((wrap64 ((l.length : Int) - 1)) - (i : Int)) = ((W - 1 - i : Nat) : Int) := by unfold wrap64; omega
    have e2 : wrap64 ((i : Int) + 1) = ((i + 1 : Nat) : Int) := by unfold wrap64; omega
    rw [PNum.tripwireref01_Num.l0, if_pos g1, if_pos g2, e1, hpf, e2, rd_at, hgi, Option.bind_some, e3, Nat.pow_succ, ← Nat.div_div_eq_div_mul, key]
    exact ih'
theorem num_f (W r : Nat) (l : List Int) (hl : l.length = W) (hW : W ≤ 31) (hr : r < 2 ^ W) (hg : ∀ i, i < W → l.getD i 0 = ((r / 2 ^ (W - 1 - i) % 2 : Nat) : Int)) : PNum.tripwireref01_Num.f 80 l = some (r : Int) := by
  have := num_l0 W r l hl hW hr hg W 80 0 (by omega) (by omega) (by omega)
  rw [Nat.sub_zero, Nat.div_eq_of_lt hr, Nat.zero_mul] at this
  exact this

/-- One step of the long division: the window's bits. -/
theorem bits_dbl (W r j : Nat) (hj : j < W) : (2 * r % 2 ^ W) / 2 ^ (W - 1 - j) % 2 = if j + 1 < W then r / 2 ^ (W - 1 - (j + 1)) % 2 else 0 := by
  by_cases h : j + 1 < W
  · rw [if_pos h]
    have e : W - 1 - j = (W - 1 - (j + 1)) + 1 := by omega
    have e2 : W = (W - 1 - (j + 1)) + 1 + (j + 1) := by omega
    generalize W - 1 - (j + 1) = p at *
    rw [e, e2, Nat.pow_add, Nat.mod_mul_right_div_self, Nat.pow_succ, Nat.mul_comm (2 ^ p) 2, Nat.mul_div_mul_left _ _ (by omega), Nat.pow_succ, Nat.mul_comm (2 ^ j) 2, Nat.mod_mul_right_mod]
  · rw [if_neg h]
    have e : W - 1 - j = 0 := by omega
    rw [e, Nat.pow_zero, Nat.div_one]
    have e2 : W = (W - 1) + 1 := by omega
    rw [e2, Nat.pow_succ, Nat.mul_comm (2 ^ (W - 1)) 2, Nat.mul_mod_mul_left]
    omega
theorem mod2_xor3 (a b c p : Nat) : ((a ^^^ b) ^^^ c) / 2 ^ p % 2 = (a / 2 ^ p % 2 + b / 2 ^ p % 2 + c / 2 ^ p % 2) % 2 := by
  rw [Nat.xor_div_two_pow, Nat.xor_div_two_pow, xor_mod2, Nat.add_mod, xor_mod2]
  omega
theorem window (W L r b j : Nat) (hW : 1 ≤ W) (hj : j < W) (hb : b < 2) : ps W L r b / 2 ^ (W - 1 - j) % 2 =
    ((if j + 1 < W then r / 2 ^ (W - 1 - (j + 1)) % 2 else b) + (if r / 2 ^ (W - 1) % 2 = 1 then L / 2 ^ (W - 1 - j) % 2 else 0)) % 2 := by
  unfold ps
  rw [mod2_xor3, bits_dbl W r j hj]
  have h1 : b % 2 / 2 ^ (W - 1 - j) % 2 = if j + 1 < W then 0 else b := by
    by_cases h : j + 1 < W
    · rw [if_pos h, Nat.div_eq_of_lt]
      have : 2 ^ 1 ≤ 2 ^ (W - 1 - j) := Nat.pow_le_pow_right (by omega) (by omega)
      omega
    · have e : W - 1 - j = 0 := by omega
      rw [if_neg h, e, Nat.pow_zero, Nat.div_one]; omega
  have h2 : sel (r / 2 ^ (W - 1)) L / 2 ^ (W - 1 - j) % 2 = if r / 2 ^ (W - 1) % 2 = 1 then L / 2 ^ (W - 1 - j) % 2 else 0 := by
    unfold sel
    split
    · rfl
    · simp
  rw [h1, h2]
  by_cases h : j + 1 < W
  · simp only [h, if_true]; congr 1
  · simp only [h, if_false]; congr 1; omega

end Go.Proofs.Ytjlhbgkmebinjaa.Pure
