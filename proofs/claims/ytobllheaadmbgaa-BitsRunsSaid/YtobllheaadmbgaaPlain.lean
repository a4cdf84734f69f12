/- Layer 1 in plain Lean: the code's functions and the reference's agree. -/
import Derived.Test.YtobllheaadmbgaaParse
set_option linter.unusedSimpArgs false
set_option linter.unusedVariables false
set_option linter.unnecessarySimpa false
namespace Go.Proofs.Ytobllheaadmbgaa

/-- A row ends with n bits b. -/
def Run (out : List Int) (b n : Int) : Prop := tailV out = n ∧ (out = [] ∧ n = 0 ∨ ∃ pre, out = pre ++ [b])
theorem tail_snoc (out : List Int) (c : Int) : tailV (out ++ [c]) = headC c out.reverse + 1 := by
  unfold tailV
  have : (out ++ [c]).getD ((out ++ [c]).length - 1) 0 = c := by simp [List.getD_eq_getElem?_getD]
  rw [this]
  simp [headC]
theorem Run.nil : Run [] 0 0 := ⟨rfl, .inl ⟨rfl, rfl⟩⟩
theorem Run.add {out : List Int} {b n : Int} (h : Run out b n) (c : Int) : Run (out ++ [c]) c (addN b n c) := by
  refine ⟨?_, .inr ⟨out, rfl⟩⟩
  obtain ⟨h1, h2⟩ := h
  rw [tail_snoc]
  rcases h2 with ⟨rfl, rfl⟩ | ⟨pre, rfl⟩
  · simp [headC, addN]
  · rw [tail_snoc] at h1
    have := (headC_range b pre.reverse).1
    unfold addN
    by_cases hc : b = c
    · subst hc
      rw [if_pos ⟨by omega, rfl⟩]
      simp [headC]
      omega
    · rw [if_neg (fun h => hc h.2)]
      simp [headC, hc]
theorem Run.last {out : List Int} {b n : Int} (h : Run out b n) (hn : 0 < n) : out.getD (out.length - 1) 0 = b := by
  rcases h.2 with ⟨_, h0⟩ | ⟨pre, rfl⟩
  · omega
  · simp [List.getD_eq_getElem?_getD]

theorem stuff_same : ∀ (l out : List Int) (b n : Int), Run out b n → stuffL out b n l = rstuffL out l
  | [], out, b, n, h => rfl
  | x :: t, out, b, n, h => by
    have h1 := h.add (x % 2)
    simp only [stuffL, rstuffL]
    rw [h1.1]
    by_cases h5 : addN b n (x % 2) = 5
    · rw [if_pos h5, if_pos h5]
      rw [h5] at h1
      exact stuff_same t _ _ _ (h1.add (1 - x % 2))
    · rw [if_neg h5, if_neg h5]
      exact stuff_same t _ _ _ h1

theorem un_same : ∀ (l pre out : List Int) (b n : Int), Run pre b n → n ≤ 5 → unL out b n l = runL pre out (plainV l)
  | [], pre, out, b, n, h, hn => by simp only [unL, plainV, List.map_nil, runL, h.1]
  | x :: t, pre, out, b, n, h, hn => by
    have h1 := h.add (x % 2)
    simp only [unL, plainV, List.map_cons, runL, h.1]
    by_cases h5 : n < 5
    · rw [if_pos h5, if_neg (by omega), if_pos h5]
      refine un_same t _ _ _ _ h1 ?_
      unfold addN
      split <;> omega
    · have hn5 : n = 5 := by omega
      subst hn5
      rw [if_neg (by omega), h.last (by omega), if_neg (by omega : ¬ (5 : Int) < 5)]
      by_cases hx : x % 2 = b
      · rw [if_pos hx, if_pos ⟨rfl, hx⟩]
      · rw [if_neg hx, if_neg (fun h => hx h.2)]
        refine un_same t _ _ _ _ h1 ?_
        unfold addN
        rw [if_neg (fun h => hx h.2.symm)]
        omega

def bitsDown (n : Int) : Nat → List Int
  | 0 => []
  | k + 1 => n / (2 ^ k : Nat) % 2 :: bitsDown n k
theorem bitsDown_len (n : Int) : ∀ k, (bitsDown n k).length = k
  | 0 => rfl
  | k + 1 => by simp [bitsDown, bitsDown_len n k]
theorem bitsDown_half (n : Int) : ∀ k, bitsDown n (k + 1) = bitsDown (n / 2) k ++ [n % 2]
  | 0 => by simp [bitsDown]
  | k + 1 => by
    rw [bitsDown, bitsDown_half n k, bitsDown]
    have : n / ((2 ^ (k + 1) : Nat) : Int) = n / 2 / ((2 ^ k : Nat) : Int) := by
      rw [Int.ediv_ediv_of_nonneg (by omega)]
      congr 1
      rw [Nat.pow_succ]
      omega
    rw [this]
    rfl
theorem ofL_is : ∀ (k : Nat) (n : Int) (acc : List Int), ofL k n acc = bitsDown n k ++ acc
  | 0, n, acc => rfl
  | k + 1, n, acc => by rw [ofL, ofL_is k, bitsDown_half]; simp
theorem rofL_is (n y : Int) : ∀ (k : Nat) (out : List Int), rofL n y k out = out ++ bitsDown n (min y k).toNat
  | 0, out => by
    rw [rofL, show (min y ((0 : Nat) : Int)).toNat = 0 by omega]
    simp [bitsDown]
  | k + 1, out => by
    rw [rofL]
    by_cases h : (k : Int) < y
    · rw [if_pos h, rofL_is n y k, show (min y (k : Int)).toNat = k by omega, show (min y ((k + 1 : Nat) : Int)).toNat = k + 1 by omega]
      simp [bitsDown]
    · rw [if_neg h, rofL_is n y k, show (min y ((k + 1 : Nat) : Int)).toNat = (min y (k : Int)).toNat by omega]
theorem of_same (n y : Int) : ofL (min y 32).toNat n [] = rofL n y 32 [] := by
  rw [ofL_is, rofL_is]
  simp

def val : List Int → Int
  | [] => 0
  | x :: t => x % 2 * (2 ^ t.length : Nat) + val t
theorem val_range : ∀ l : List Int, 0 ≤ val l ∧ val l < (2 ^ l.length : Nat)
  | [] => by simp [val]
  | x :: t => by
    have := val_range t
    have hp : 2 ^ (t.length + 1) = 2 ^ t.length * 2 := Nat.pow_succ ..
    simp only [val, List.length_cons, hp]
    generalize 2 ^ t.length = q at *
    rcases (by omega : x % 2 = 0 ∨ x % 2 = 1) with h | h <;> rw [h] <;> omega
theorem rnumL_is : ∀ (l : List Int) (n : Int), rnumL n l = n + val l
  | [], n => by simp [rnumL, val]
  | x :: t, n => by rw [rnumL, rnumL_is t, val]; omega
theorem numL_is : ∀ (l : List Int) (n : Int), 0 ≤ n → n * (2 ^ l.length : Nat) + (2 ^ l.length : Nat) ≤ 4294967296 → numL n l = n * (2 ^ l.length : Nat) + val l
  | [], n, h0, h1 => by simp [numL, val]
  | x :: t, n, h0, h1 => by
    have hp : 2 ^ (t.length + 1) = 2 ^ t.length * 2 := Nat.pow_succ ..
    have hq : 0 < 2 ^ t.length := Nat.pow_pos (by omega)
    rw [List.length_cons, hp] at h1
    rw [numL, List.length_cons, hp, val]
    have e : ((2 ^ t.length * 2 : Nat) : Int) = ((2 ^ t.length : Nat) : Int) * 2 := by omega
    rw [e] at h1 ⊢
    generalize hqq : ((2 ^ t.length : Nat) : Int) = q at *
    have hq1 : 1 ≤ q := by omega
    have e2 : n * (q * 2) = n * 2 * q := by rw [Int.mul_assoc, Int.mul_comm q 2]
    rw [e2] at h1 ⊢
    have h2 : n * 2 ≤ n * 2 * q := by have := Int.mul_le_mul_of_nonneg_left hq1 (by omega : 0 ≤ n * 2); rwa [Int.mul_one] at this
    have h3 : n * 2 % 4294967296 = n * 2 := Int.emod_eq_of_lt (by omega) (by omega)
    rw [h3, numL_is t _ (by omega) (by rw [hqq, Int.add_mul]; rcases (by omega : x % 2 = 0 ∨ x % 2 = 1) with h | h <;> rw [h] <;> omega), hqq, Int.add_mul]
    omega
theorem num_same (l : List Int) (h : l.length ≤ 32) : numL 0 l = rnumL 0 l := by
  have hp : 2 ^ l.length ≤ 2 ^ 32 := Nat.pow_le_pow_right (by omega) h
  rw [numL_is l 0 (by omega) (by omega), rnumL_is]
  omega
theorem val_down (n : Int) : ∀ k, val (bitsDown n k) = n % (2 ^ k : Nat)
  | 0 => by simp [bitsDown, val]
  | k + 1 => by
    rw [bitsDown, val, bitsDown_len, val_down n k]
    have e : ((2 ^ (k + 1) : Nat) : Int) = ((2 ^ k : Nat) : Int) * 2 := by rw [Nat.pow_succ]; omega
    have e2 : (n / ((2 ^ k : Nat) : Int) % 2) % 2 = n / ((2 ^ k : Nat) : Int) % 2 := by omega
    have hq : 0 < 2 ^ k := Nat.pow_pos (by omega)
    rw [e, e2]
    generalize hqq : ((2 ^ k : Nat) : Int) = q at *
    have hq1 : 1 ≤ q := by omega
    have h1 := Int.emod_add_mul_ediv n q
    have h2 := Int.emod_nonneg n (by omega : q ≠ 0)
    have h3 := Int.emod_lt_of_pos n (by omega : 0 < q)
    have h4 := Int.emod_add_mul_ediv (n / q) 2
    have h5 : n = (n / q % 2 * q + n % q) + q * 2 * (n / q / 2) := by
      have h6 : q * (n / q) = q * (n / q % 2 + 2 * (n / q / 2)) := by rw [h4]
      rw [Int.mul_add, ← Int.mul_assoc] at h6
      rw [Int.mul_comm (n / q % 2) q]
      omega
    have hb : 0 ≤ n / q % 2 * q ∧ n / q % 2 * q ≤ q := by
      rcases (by omega : n / q % 2 = 0 ∨ n / q % 2 = 1) with h | h <;> rw [h] <;> omega
    have h7 : n % (q * 2) = (n / q % 2 * q + n % q) % (q * 2) := by
      conv => lhs; rw [h5]
      exact Int.add_mul_emod_self_left _ _ _
    rw [h7]
    exact (Int.emod_eq_of_lt (by omega) (by omega)).symm
theorem num_of (n : Int) (h0 : 0 ≤ n) (h1 : n ≤ 4294967295) : numL 0 (ofL 32 n []) = n := by
  rw [ofL_is, List.append_nil, numL_is _ 0 (by omega) (by rw [bitsDown_len]; decide), val_down]
  have : ((2 ^ 32 : Nat) : Int) = 4294967296 := by decide
  rw [this]
  omega

theorem byt_bit {out : List Int} (h : Byt out) (x : Int) : Byt (out ++ [x % 2]) := h.append (Byt.one (by omega) (by omega))
theorem stuffL_byt : ∀ (l out : List Int) (b n : Int), Byt out → Byt (stuffL out b n l)
  | [], out, b, n, h => h
  | x :: t, out, b, n, h => by
    rw [stuffL]
    split
    · exact stuffL_byt t _ _ _ ((byt_bit h x).append (Byt.one (by omega) (by omega)))
    · exact stuffL_byt t _ _ _ (byt_bit h x)
theorem unL_byt : ∀ (l out : List Int) (b n : Int), Byt out → Byt (unL out b n l).1
  | [], out, b, n, h => by rw [unL]; split <;> first | exact h | exact Byt.nil
  | x :: t, out, b, n, h => by
    rw [unL]
    split
    · exact unL_byt t _ _ _ (byt_bit h x)
    · split
      · exact Byt.nil
      · exact unL_byt t _ _ _ h
theorem bitsDown_byt (n : Int) : ∀ k, Byt (bitsDown n k)
  | 0 => Byt.nil
  | k + 1 => by
    intro x hx
    rw [bitsDown, List.mem_cons] at hx
    rcases hx with rfl | hx
    · omega
    · exact bitsDown_byt n k x hx
theorem ofL_byt (k : Nat) (n : Int) : Byt (ofL k n []) := by rw [ofL_is, List.append_nil]; exact bitsDown_byt n k
theorem parseL_byt : ∀ (l out : List Int), Byt out → Byt (parseL out l).1
  | [], out, h => h
  | x :: t, out, h => by
    rw [parseL]
    split
    · exact parseL_byt t _ (h.append (Byt.one (by omega) (by omega)))
    · exact Byt.nil

theorem sgn_bit (x : Int) : ((sgn x).toNat : Int) = x % 2 + 48 := by
  unfold sgn
  split
  · have : x % 2 = 1 := by assumption
    rw [this]; rfl
  · have : x % 2 = 0 := by omega
    rw [this]; rfl
theorem parse_text : ∀ (l out : List Int), parseL out ((textV l).map fun c => (c.toNat : Int)) = (out ++ plainV l, 0)
  | [], out => by simp [textV, plainV, parseL]
  | x :: t, out => by
    have ih := parse_text t (out ++ [x % 2])
    simp only [textV, List.map_cons, parseL, plainV] at ih ⊢
    rw [sgn_bit, if_pos (by omega), show x % 2 + 48 - 48 = x % 2 by omega, ih]
    simp
/-- Are all signs bits? -/
def mayL : List Int → Bool
  | [] => true
  | x :: t => (x == 48 || x == 49) && mayL t
theorem parse_no : ∀ (l out : List Int), mayL l = false → parseL out l = ([], 4)
  | [], out, h => by simp [mayL] at h
  | x :: t, out, h => by
    rw [parseL]
    by_cases hx : x = 48 ∨ x = 49
    · rw [if_pos hx]
      refine parse_no t _ ?_
      rcases hx with rfl | rfl <;> simpa [mayL] using h
    · rw [if_neg hx]
theorem parse_yes : ∀ (l out : List Int), mayL l = true → parseL out l = (out ++ l.map (· - 48), 0)
  | [], out, h => by simp [parseL]
  | x :: t, out, h => by
    simp only [mayL, Bool.and_eq_true, Bool.or_eq_true, beq_iff_eq] at h
    rw [parseL, if_pos h.1, parse_yes t _ h.2]
    simp
theorem text_back : ∀ (l : List UInt8), mayL (l.map fun c => (c.toNat : Int)) = true → textV ((l.map fun c => (c.toNat : Int)).map (· - 48)) = l
  | [], _ => rfl
  | c :: t, h => by
    simp only [List.map_cons, mayL, Bool.and_eq_true, Bool.or_eq_true, beq_iff_eq] at h
    have ih := text_back t h.2
    simp only [textV, List.map_cons] at ih ⊢
    rw [ih]
    congr 1
    apply UInt8.toNat_inj.1
    have := sgn_bit ((c.toNat : Int) - 48)
    omega

end Go.Proofs.Ytobllheaadmbgaa
