/- A sealed row, and turned bits in it: plain numbers. -/
import Derived.Test.YtjlhbgkmebinjaaPure3
import Derived.Test.YtjlhbgkmebinjaaPMayx1
set_option linter.unusedSimpArgs false
set_option linter.unusedVariables false
namespace Go.Proofs.Ytjlhbgkmebinjaa.Pure
open Go.RowKit Go.Proofs.YtjlhbgkmebinjaaW.PrintWords Go.Proofs.YtjlhbgkmebinjaaW.PrintLast
open Go.Proofs.Ytjlhbgkmebinjaa

theorem fold_seal (W L : Nat) (hW : 1 ≤ W) (hL : L < 2 ^ W) (b : List Nat) : (b ++ bitsW W (b.foldl (fd W L) 0)).foldl (ps W L) 0 = 0 := by
  have hR := fold_lt (f := fd W L) (N := 2 ^ W) (fun r x => fd_lt hL) b 0 (Nat.two_pow_pos _)
  have h1 := feed_is_whole W L hW hL b 0 (Nat.two_pow_pos _)
  have hb0 : Like (both W 0 b) (b ++ zeros W) := by
    refine ⟨by rw [both_len, List.length_append]; simp [zeros], fun i => ?_⟩
    rw [append_get, zeros_get]
    by_cases h : i < b.length + W
    · rw [both_get _ _ _ _ h]
      have hz : (bitsW W 0).getD i 0 = 0 := by
        by_cases h2 : i < W
        · rw [bitsW_get _ _ _ h2]; simp
        · exact bitsW_far _ _ _ (by omega)
      rw [hz]
      split
      · simp
      · rw [getD_far (by omega)]
    · rw [getD_far (by rw [both_len]; omega), if_neg (by omega)]
  rw [fold_ps_like W L 0 hb0] at h1
  generalize hRR : b.foldl (fd W L) 0 = R at *
  have hlike : Like (b ++ bitsW W R) (addR (b ++ zeros W) (zeros b.length ++ bitsW W R)) := by
    have hl : (b ++ zeros W).length = (zeros b.length ++ bitsW W R).length := by simp [zeros, bitsW_len]
    refine ⟨by rw [addR_len hl]; simp [zeros, bitsW_len], fun i => ?_⟩
    rw [addR_get i hl, append_get, append_get, append_get]
    have e : (zeros b.length).length = b.length := by simp [zeros]
    rw [e, zeros_get, zeros_get]
    split <;> simp
  rw [fold_ps_like W L 0 hlike]
  have h0 : (0 : Nat) = 0 ^^^ 0 := by simp
  rw [h0, fold_ps_xor W L _ _ 0 0 (by simp [zeros, bitsW_len]), ← h1, List.foldl_append, fold_zeros0, fold_bitsW W L R hR]
  simp

theorem ps_zero_inj (W L r : Nat) (hW : 1 ≤ W) (hr : r < 2 ^ W) (hodd : L % 2 = 1) (h : ps W L r 0 = 0) : r = 0 := by
  unfold ps at h
  rw [Nat.zero_mod, Nat.xor_zero] at h
  have h5 : 2 ^ W = 2 * 2 ^ (W - 1) := by rw [← Nat.pow_succ']; congr 1; omega
  have heven : 2 * r % 2 ^ W % 2 = 0 := by rw [h5, Nat.mul_mod_mul_left]; omega
  unfold sel at h
  by_cases ht : r / 2 ^ (W - 1) % 2 = 1
  · rw [if_pos ht] at h
    have hx := xor_mod2 (2 * r % 2 ^ W) L
    rw [h] at hx
    omega
  · rw [if_neg ht, Nat.xor_zero] at h
    have hp0 := Nat.two_pow_pos (W - 1)
    rw [h5] at hr h
    clear h5 heven
    generalize 2 ^ (W - 1) = p at *
    have hq : r / p < 2 := by rw [Nat.div_lt_iff_lt_mul hp0]; exact hr
    have hz : r / p = 0 := by generalize r / p = q at *; omega
    have hlt : r < p := by
      rcases Nat.div_eq_zero_iff.1 hz with h | h
      · omega
      · exact h
    rw [Nat.mod_eq_of_lt (by omega)] at h
    omega
theorem fold_zeros_inj (W L : Nat) (hW : 1 ≤ W) (hL : L < 2 ^ W) (hodd : L % 2 = 1) : ∀ (n r : Nat), r < 2 ^ W → (zeros n).foldl (ps W L) r = 0 → r = 0
  | 0, r, _, h => h
  | n + 1, r, hr, h => by
    have h' : (zeros n).foldl (ps W L) (ps W L r 0) = 0 := h
    exact ps_zero_inj W L r hW hr hodd (fold_zeros_inj W L hW hL hodd n _ (ps_lt hW hL) h')

theorem val_zero : ∀ (l : List Nat) (v : Nat), l.foldl (fun v b => 2 * v + b % 2) v = 0 ↔ v = 0 ∧ ∀ i, l.getD i 0 % 2 = 0
  | [], v => by simp
  | b :: l, v => by
    simp only [List.foldl_cons]
    rw [val_zero l]
    constructor
    · rintro ⟨h1, h2⟩
      refine ⟨by omega, fun i => ?_⟩
      cases i with
      | zero => simp; omega
      | succ i => simpa using h2 i
    · rintro ⟨h1, h2⟩
      have := h2 0
      simp at this
      exact ⟨by omega, fun i => by simpa using h2 (i + 1)⟩

/-- Bits that are turned within as many places as the divisor is wide. -/
theorem burst (W L at_ : Nat) (T : List Nat) (hW : 1 ≤ W) (hL : L < 2 ^ W) (hodd : L % 2 = 1) (hT : ∀ j, (j < at_ ∨ at_ + W ≤ j) → T.getD j 0 % 2 = 0) :
    T.foldl (ps W L) 0 = 0 ↔ ∀ j, T.getD j 0 % 2 = 0 := by
  constructor
  · intro h
    have hsplit : T = T.take at_ ++ ((T.drop at_).take W ++ (T.drop at_).drop W) := by
      rw [List.take_append_drop, List.take_append_drop]
    have gt : ∀ (l : List Nat) (k i : Nat), (l.take k).getD i 0 = if i < k then l.getD i 0 else 0 := by
      intro l k i
      rw [List.getD_eq_getElem?_getD, List.getElem?_take]
      split
      · rw [← List.getD_eq_getElem?_getD]
      · rfl
    have gd : ∀ (l : List Nat) (k i : Nat), (l.drop k).getD i 0 = l.getD (k + i) 0 := by
      intro l k i
      rw [List.getD_eq_getElem?_getD, List.getElem?_drop, ← List.getD_eq_getElem?_getD]
    have l1 : Like (T.take at_) (zeros (T.take at_).length) := by
      refine ⟨by simp [zeros], fun i => ?_⟩
      rw [zeros_get, gt]
      split
      · rw [hT i (.inl (by assumption))]
      · rfl
    have l3 : Like ((T.drop at_).drop W) (zeros ((T.drop at_).drop W).length) := by
      refine ⟨by simp [zeros], fun i => ?_⟩
      rw [zeros_get, gd, gd, hT _ (.inr (by omega))]
    rw [hsplit, List.foldl_append, List.foldl_append, fold_ps_like W L 0 l1, fold_zeros0, fold_ps_like W L _ l3] at h
    have hmid := fold_lt (f := ps W L) (N := 2 ^ W) (fun r x => ps_lt hW hL) ((T.drop at_).take W) 0 (Nat.two_pow_pos _)
    have h2 := fold_zeros_inj W L hW hL hodd _ _ hmid h
    rw [fold_short0 W L _ (by rw [List.length_take]; omega)] at h2
    have h3 := ((val_zero _ 0).1 h2).2
    intro j
    by_cases hj : j < at_ ∨ at_ + W ≤ j
    · exact hT j hj
    · have h4 := h3 (j - at_)
      rw [gt, if_pos (by omega), gd] at h4
      have : at_ + (j - at_) = j := by omega
      rw [this] at h4
      exact h4
  · intro h
    have : Like T (zeros T.length) := ⟨by simp [zeros], fun i => by rw [zeros_get, h i]⟩
    rw [fold_ps_like W L 0 this, fold_zeros0]

/-- The reference's 'May'. -/
theorem refmay_l0 : ∀ (d k i : Nat) (W : Nat) (L : Int), W ≤ 31 → i ≤ W → W - i = d → d < k → PMay.tripwireref03_May.l0 k (W : Int) L ((2 ^ i : Nat) : Int) (i : Int) = some (decide (L < ((2 ^ W : Nat) : Int)))
  | 0, k, i, W, L, hW, hi, hd, hk => by
    obtain ⟨k, rfl⟩ : ∃ m, k = m + 1 := ⟨k - 1, by omega⟩
    have : i = W := by omega
    subst this
    simp only [PMay.tripwireref03_May.l0]
    rw [if_neg (by omega)]
  | d + 1, k, i, W, L, hW, hi, hd, hk => by
    obtain ⟨k, rfl⟩ : ∃ m, k = m + 1 := ⟨k - 1, by omega⟩
    simp only [PMay.tripwireref03_May.l0]
    rw [if_pos (by omega)]
    have hp := pow31 (W := i + 1) (by omega)
    have e1 : (((2 ^ i : Nat) : Int) * 2) % 4294967296 = ((2 ^ (i + 1) : Nat) : Int) := by
      rw [Nat.pow_succ] at hp ⊢
      generalize 2 ^ i = p at *
      omega
    have e2 : wrap64 ((i : Int) + 1) = ((i + 1 : Nat) : Int) := by unfold wrap64; omega
    rw [e1, e2]
    exact refmay_l0 d k (i + 1) W L hW (by omega) (by omega) (by omega)
theorem refmay_f (W L : Int) (h0 : 0 ≤ L) : PMay.tripwireref03_May.f 40 W L = some (mayP W L) := by
  unfold PMay.tripwireref03_May.f
  by_cases h1 : W < 1
  · rw [if_pos h1]
    simp only [PMay.tripwireref03_May.j0, if_true]
    congr 1
    symm
    simp [mayP]; omega
  · rw [if_neg h1]
    by_cases h2 : W > 31
    · simp only [PMay.tripwireref03_May.j0, h2, decide_true, if_true]
      congr 1
      symm
      simp [mayP]; omega
    · simp only [PMay.tripwireref03_May.j0, h2, decide_false, Bool.false_eq_true, if_false]
      obtain ⟨n, rfl⟩ := Int.eq_ofNat_of_zero_le (show 0 ≤ W by omega)
      have := refmay_l0 n 39 0 n L (by omega) (by omega) (by omega) (by omega)
      simp only [Nat.pow_zero] at this
      have e : ((1 : Nat) : Int) = 1 := rfl
      rw [e] at this
      have e0 : ((0 : Nat) : Int) = 0 := rfl
      rw [e0] at this
      rw [this]
      congr 1
      simp only [mayP, Int.toNat_natCast]
      apply decide_eq_decide.2
      constructor
      · intro h; exact ⟨by omega, by omega, by omega⟩
      · intro h; have := h.2.2; omega

end Go.Proofs.Ytjlhbgkmebinjaa.Pure
