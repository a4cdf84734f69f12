/- The printed functions of layer 3 against the plain ones: no memory. -/
import Derived.Test.YtjlhbgkmebinjaaPPolyPiecesx1
import Derived.Test.YtjlhbgkmebinjaaPpushx1
import Derived.Test.YtjlhbgkmebinjaaPure
import Derived.Laws.BitsAllLaws
set_option linter.unusedSimpArgs false
set_option linter.unusedVariables false
namespace Go.Proofs.Ytjlhbgkmebinjaa.Pure
open Go.RowKit Go.Proofs.YtjlhbgkmebinjaaW.PrintWords Go.Proofs.YtjlhbgkmebinjaaW.PrintLast
open Go.Proofs.Ytjlhbgkmebinjaa

theorem pow31 {W : Nat} (h : W ≤ 31) : 2 ^ W ≤ 2147483648 := by
  have := Nat.pow_le_pow_right (n := 2) (by omega) h
  simpa using this

theorem wrap64_pred (W : Nat) (h1 : 1 ≤ W) (h2 : W ≤ 31) : wrap64 ((W : Int) - 1) = ((W - 1 : Nat) : Int) := by unfold wrap64; omega
theorem shr_nat (r n : Nat) (h : n ≤ 32) : shr .u32 (r : Int) (n : Int) = ((r / 2 ^ n : Nat) : Int) := by
  unfold shr
  have e : min ((n : Int)).toNat IntKind.u32.bits = n := by
    have : IntKind.u32.bits = 32 := rfl
    rw [this]; omega
  rw [e]
  simp
theorem shl_one (n : Nat) (h : n ≤ 31) : shl .u32 1 (n : Int) = ((2 ^ n : Nat) : Int) := by
  unfold shl
  have e : min ((n : Int)).toNat IntKind.u32.bits = n := by
    have : IntKind.u32.bits = 32 := rfl
    rw [this]; omega
  rw [e, Int.one_mul, IntKind.wrap_u32']
  have := pow31 h
  have e2 : ((2 : Int) ^ n) = ((2 ^ n : Nat) : Int) := by simp
  rw [e2]
  clear e e2
  generalize 2 ^ n = p at *
  omega

theorem mask_f (W L : Nat) (h : W ≤ 31) : PPolyPieces.poly_Poly_mask.f (W : Int) (L : Int) = some ((2 ^ W - 1 : Nat) : Int) := by
  unfold PPolyPieces.poly_Poly_mask.f
  rw [if_pos (by omega), shl_one W h]
  have h1 := pow31 h
  have h2 := Nat.two_pow_pos W
  congr 1
  omega
theorem mask_f' (W L : Nat) (h : W ≤ 31) : Ppush.poly_Poly_mask.f (W : Int) (L : Int) = some ((2 ^ W - 1 : Nat) : Int) := mask_f W L h

theorem and_mask (x W : Nat) : x &&& (2 ^ W - 1) = x % 2 ^ W := Nat.and_two_pow_sub_one_eq_mod x W
theorem and_one (x : Nat) : x &&& 1 = x % 2 := Nat.and_one_is_mod x

theorem feed_f (W L r b : Nat) (h1 : 1 ≤ W) (h2 : W ≤ 31) (hL : L < 2 ^ W) (hr : r < 2 ^ W) (hb : b < 256) :
    PPolyPieces.poly_Poly_feed.f (W : Int) (L : Int) (r : Int) (b : Int) = some ((fd W L r b : Nat) : Int) := by
  have h3 := pow31 h2
  have h4 := Nat.two_pow_pos W
  unfold PPolyPieces.poly_Poly_feed.f
  rw [wrap64_pred W h1 h2, if_pos (by omega), mask_f W L h2, Option.bind_some, shr_nat r (W - 1) (by omega)]
  have hq : r / 2 ^ (W - 1) < 4294967296 := Nat.lt_of_le_of_lt (Nat.div_le_self _ _) (by omega)
  have e1 : Go.bits .and .u32 ((r / 2 ^ (W - 1) : Nat) : Int) 1 = ((r / 2 ^ (W - 1) % 2 : Nat) : Int) := by
    have := u32_and_nat (r / 2 ^ (W - 1)) 1 hq (by omega)
    rw [and_one] at this
    exact this
  have e2 : Go.bits .and .u8 (b : Int) 1 = ((b % 2 : Nat) : Int) := by
    have := u8_and_nat b 1 hb (by omega)
    rw [and_one] at this
    exact this
  have e3 : ((r : Int) * 2) % 4294967296 = ((2 * r : Nat) : Int) := by omega
  have e4 : Go.bits .and .u32 ((2 * r : Nat) : Int) ((2 ^ W - 1 : Nat) : Int) = ((2 * r % 2 ^ W : Nat) : Int) := by
    have := u32_and_nat (2 * r) (2 ^ W - 1) (by omega) (by omega)
    rw [and_mask] at this
    exact this
  have e5 : (((b % 2 : Nat) : Int)) % 4294967296 = ((b % 2 : Nat) : Int) := by omega
  rw [e1, e2, e3, e4, e5]
  have hm1 := Nat.mod_lt (r / 2 ^ (W - 1)) (show 0 < 2 by omega)
  have hm2 := Nat.mod_lt b (show 0 < 2 by omega)
  have e6 := u32_xor_nat (r / 2 ^ (W - 1) % 2) (b % 2) (by omega) (by omega)
  rw [e6]
  have hx : r / 2 ^ (W - 1) % 2 ^^^ b % 2 = (r / 2 ^ (W - 1) + b) % 2 := by
    have := xor_mod2 (r / 2 ^ (W - 1) % 2) (b % 2)
    have hlt : r / 2 ^ (W - 1) % 2 ^^^ b % 2 < 2 ^ 1 := Nat.xor_lt_two_pow (by omega) (by omega)
    omega
  rw [hx]
  unfold fd sel
  have hmod := Nat.mod_lt (2 * r) h4
  by_cases hc : (r / 2 ^ (W - 1) + b) % 2 = 1
  · rw [if_pos (by omega), if_pos hc]
    rw [u32_xor_nat _ _ (by omega) (by omega)]
  · rw [if_neg (by omega), if_neg hc, Nat.xor_zero]

theorem push_f (W L r b : Nat) (h1 : 1 ≤ W) (h2 : W ≤ 31) (hL : L < 2 ^ W) (hr : r < 2 ^ W) (hb : b < 256) :
    Ppush.poly_Poly_push.f (W : Int) (L : Int) (r : Int) (b : Int) = some ((ps W L r b : Nat) : Int) := by
  have h3 := pow31 h2
  have h4 := Nat.two_pow_pos W
  unfold Ppush.poly_Poly_push.f
  rw [wrap64_pred W h1 h2, if_pos (by omega), shr_nat r (W - 1) (by omega), mask_f' W L h2, Option.bind_some]
  have hq : r / 2 ^ (W - 1) < 4294967296 := Nat.lt_of_le_of_lt (Nat.div_le_self _ _) (by omega)
  have e1 : Go.bits .and .u32 ((r / 2 ^ (W - 1) : Nat) : Int) 1 = ((r / 2 ^ (W - 1) % 2 : Nat) : Int) := by
    have := u32_and_nat (r / 2 ^ (W - 1)) 1 hq (by omega)
    rw [and_one] at this
    exact this
  have e2 : Go.bits .and .u8 (b : Int) 1 = ((b % 2 : Nat) : Int) := by
    have := u8_and_nat b 1 hb (by omega)
    rw [and_one] at this
    exact this
  have e3 : ((r : Int) * 2) % 4294967296 = ((2 * r : Nat) : Int) := by omega
  have e4 : Go.bits .and .u32 ((2 * r : Nat) : Int) ((2 ^ W - 1 : Nat) : Int) = ((2 * r % 2 ^ W : Nat) : Int) := by
    have := u32_and_nat (2 * r) (2 ^ W - 1) (by omega) (by omega)
    rw [and_mask] at this
    exact this
  have e5 : (((b % 2 : Nat) : Int)) % 4294967296 = ((b % 2 : Nat) : Int) := by omega
  rw [e1, e2, e3, e4, e5]
  have hm2 := Nat.mod_lt b (show 0 < 2 by omega)
  have hmod := Nat.mod_lt (2 * r) h4
  have e6 := u32_or_nat (2 * r % 2 ^ W) (b % 2) (by omega) (by omega)
  have heven : 2 * r % 2 ^ W % 2 = 0 := by
    have h5 : 2 ^ W = 2 * 2 ^ (W - 1) := by rw [← Nat.pow_succ']; congr 1; omega
    rw [h5, Nat.mul_mod_mul_left]; omega
  have hor : 2 * r % 2 ^ W ||| b % 2 = 2 * r % 2 ^ W ^^^ b % 2 := by
    generalize 2 * r % 2 ^ W = u at *
    apply Nat.eq_of_testBit_eq
    intro i
    rw [Nat.testBit_or, Nat.testBit_xor]
    cases i with
    | zero => simp [Nat.testBit_zero, heven]
    | succ i =>
      have : (b % 2).testBit (i + 1) = false := by rw [Nat.testBit_succ]; have : b % 2 / 2 = 0 := by omega
                                                   rw [this]; simp
      rw [this]; simp
  rw [e6, hor]
  have hx : 2 * r % 2 ^ W ^^^ b % 2 < 2 ^ W := Nat.xor_lt_two_pow hmod (Nat.lt_of_lt_of_le hm2 (by
    have := Nat.pow_le_pow_right (n := 2) (by omega) h1
    simpa using this))
  unfold ps sel
  by_cases hc : r / 2 ^ (W - 1) % 2 = 1
  · rw [if_pos (by omega), if_pos hc]
    rw [u32_xor_nat _ _ (by omega) (by omega)]
  · rw [if_neg (by omega), if_neg hc, Nat.xor_zero]

/-- A fold of something that may fail. -/
def foldO (f : Int → Int → Option Int) : Int → List Int → Option Int
  | r, [] => some r
  | r, x :: l => (f r x).bind fun r' => foldO f r' l

def nat (l : List Int) : List Nat := l.map Int.toNat
theorem nat_length (l : List Int) : (nat l).length = l.length := by simp [nat]

theorem foldO_feed (W L : Nat) (h1 : 1 ≤ W) (h2 : W ≤ 31) (hL : L < 2 ^ W) : ∀ (l : List Int) (r : Nat), r < 2 ^ W → (∀ x ∈ l, 0 ≤ x ∧ x ≤ 255) →
    foldO (PPolyPieces.poly_Poly_feed.f (W : Int) (L : Int)) (r : Int) l = some (((nat l).foldl (fd W L) r : Nat) : Int)
  | [], r, _, _ => rfl
  | x :: l, r, hr, hx => by
    have hx0 := hx x (by simp)
    obtain ⟨n, rfl⟩ := Int.eq_ofNat_of_zero_le hx0.1
    have := feed_f W L r n h1 h2 hL hr (by omega)
    simp only [foldO, this, Option.bind_some]
    rw [foldO_feed W L h1 h2 hL l _ (fd_lt hL) (fun y hy => hx y (by simp [hy]))]
    simp [nat]
theorem foldO_push (W L : Nat) (h1 : 1 ≤ W) (h2 : W ≤ 31) (hL : L < 2 ^ W) : ∀ (l : List Int) (r : Nat), r < 2 ^ W → (∀ x ∈ l, 0 ≤ x ∧ x ≤ 255) →
    foldO (Ppush.poly_Poly_push.f (W : Int) (L : Int)) (r : Int) l = some (((nat l).foldl (ps W L) r : Nat) : Int)
  | [], r, _, _ => rfl
  | x :: l, r, hr, hx => by
    have hx0 := hx x (by simp)
    obtain ⟨n, rfl⟩ := Int.eq_ofNat_of_zero_le hx0.1
    have := push_f W L r n h1 h2 hL hr (by omega)
    simp only [foldO, this, Option.bind_some]
    rw [foldO_push W L h1 h2 hL l _ (ps_lt h1 hL) (fun y hy => hx y (by simp [hy]))]
    simp [nat]

theorem may_f (W : Int) (L : Nat) (hL : L < 4294967296) : PPolyPieces.poly_Poly_May.f W (L : Int) = some (decide (1 ≤ W ∧ W ≤ 31 ∧ L < 2 ^ W.toNat)) := by
  unfold PPolyPieces.poly_Poly_May.f
  by_cases c1 : W ≥ 1
  · rw [if_pos c1]
    by_cases c2 : W ≤ 31
    · rw [if_pos c2, if_pos (by omega)]
      obtain ⟨n, rfl⟩ := Int.eq_ofNat_of_zero_le (show 0 ≤ W by omega)
      rw [shr_nat L n (by omega)]
      congr 1
      rw [Bool.eq_iff_iff]
      simp only [beq_iff_eq, decide_eq_true_eq, Int.toNat_natCast]
      have h4 := Nat.two_pow_pos n
      have : L / 2 ^ n = 0 ↔ L < 2 ^ n := by
        rw [Nat.div_eq_zero_iff]; omega
      constructor
      · intro h; exact ⟨by omega, by omega, this.1 (by omega)⟩
      · intro h; have := this.2 h.2.2; omega
    · rw [if_neg c2]
      congr 1
      simp; omega
  · rw [if_neg c1]
    congr 1
    simp; omega

end Go.Proofs.Ytjlhbgkmebinjaa.Pure
