/- 'bits.Of' as printed; the values of 'Rem', 'Whole' and the checks. -/
import Derived.Test.YtjlhbgkmebinjaaPure2
set_option linter.unusedSimpArgs false
set_option linter.unusedVariables false
namespace Go.Proofs.Ytjlhbgkmebinjaa.Pure
open Go.RowKit Go.Proofs.YtjlhbgkmebinjaaW.PrintWords Go.Proofs.YtjlhbgkmebinjaaW.PrintLast
open Go.Proofs.Ytjlhbgkmebinjaa

def ints (l : List Nat) : List Int := l.map Int.ofNat
theorem ints_length (l : List Nat) : (ints l).length = l.length := by simp [ints]
theorem ints_get (l : List Nat) (i : Nat) : (ints l).getD i 0 = (l.getD i 0 : Nat) := by
  simp only [ints, List.getD_eq_getElem?_getD, List.getElem?_map]
  cases l[i]? <;> simp
theorem nat_ints (l : List Nat) : nat (ints l) = l := by
  simp only [nat, ints, List.map_map]
  have : (Int.toNat ∘ Int.ofNat) = id := by funext n; simp
  rw [this, List.map_id]
theorem nat_get (l : List Int) (i : Nat) : (nat l).getD i 0 = (l.getD i 0).toNat := by
  simp only [nat, List.getD_eq_getElem?_getD, List.getElem?_map]
  cases l[i]? <;> simp
theorem nat_append (l m : List Int) : nat (l ++ m) = nat l ++ nat m := by simp [nat]

/-- A number's lowest bits. -/
def ofV (n : Nat) (w : Int) : List Int := ints (bitsW (min w 32).toNat n)

theorem of_l0 (k : Nat) : ∀ (j : Nat) (n : Nat) (l : List Int), j ≤ l.length → j < k → n < 4294967296 → l.length ≤ 1000 →
    ∃ r, PPolyPieces.bits_Of.l0 k (n : Int) l ((j : Int) - 1) = some r ∧ r.length = l.length ∧ ∀ i, r.getD i 0 = if i < j then ((n / 2 ^ (j - 1 - i) % 2 : Nat) : Int) else l.getD i 0 := by
  induction k with
  | zero => intro j n l _ h; omega
  | succ k ih =>
    intro j n l hj hk hn hl
    cases j with
    | zero => exact ⟨l, by simp only [PPolyPieces.bits_Of.l0]; rw [if_neg (by omega)], rfl, fun i => by simp⟩
    | succ j =>
      have e1 : Go.bits .and .u32 (n : Int) 1 = ((n % 2 : Nat) : Int) := by
        have := u32_and_nat n 1 hn (by omega)
        rw [and_one] at this
        exact this
      have hm := Nat.mod_lt n (show 0 < 2 by omega)
      obtain ⟨r, hr, hlen, hget⟩ := ih j (n / 2) (l.set j ((n % 2 : Nat) : Int)) (by rw [List.length_set]; omega) (by omega) (by omega) (by rw [List.length_set]; exact hl)
      refine ⟨r, ?_, by rw [hlen, List.length_set], fun i => ?_⟩
      · simp only [PPolyPieces.bits_Of.l0]
        have e2 : ((j + 1 : Nat) : Int) - 1 = (j : Int) := by omega
        rw [e2, if_pos (by omega), if_pos (by omega), if_pos (by omega), e1]
        have e3 : ((n % 2 : Nat) : Int) % 256 = ((n % 2 : Nat) : Int) := by omega
        have e4 : wrap64 ((j : Int) - 1) = (j : Int) - 1 := by unfold wrap64; omega
        have e5 : (n : Int) / 2 = ((n / 2 : Nat) : Int) := by omega
        rw [e3, e4, e5, Int.toNat_natCast]
        exact hr
      · rw [hget i]
        by_cases h1 : i < j
        · rw [if_pos h1, if_pos (by omega), Nat.div_div_eq_div_mul, ← Nat.pow_succ']
          have : (j - 1 - i).succ = j + 1 - 1 - i := by omega
          rw [this]
        · rw [if_neg h1]
          by_cases h2 : i = j
          · subst h2
            rw [if_pos (by omega)]
            have : i + 1 - 1 - i = 0 := by omega
            rw [this]
            simp [List.getD_eq_getElem?_getD, List.getElem?_set]
            rw [if_pos (by omega)]
            simp
          · rw [if_neg (by omega)]
            simp [List.getD_eq_getElem?_getD, List.getElem?_set]
            rw [if_neg (by omega)]

theorem ext_getD {l m : List Int} (hl : l.length = m.length) (h : ∀ i, i < l.length → l.getD i 0 = m.getD i 0) : l = m := by
  apply List.ext_getElem hl
  intro i h1 h2
  have := h i h1
  rw [List.getD_eq_getElem?_getD, List.getD_eq_getElem?_getD, List.getElem?_eq_getElem h1, List.getElem?_eq_getElem h2] at this
  simpa using this

theorem of_f (n : Nat) (w : Int) (hn : n < 4294967296) : PPolyPieces.bits_Of.f 40 (n : Int) w = some (ofV n w) := by
  unfold PPolyPieces.bits_Of.f
  by_cases hw : w < 1
  · rw [if_pos hw]
    have : (min w 32).toNat = 0 := by omega
    simp [ofV, this, bitsW, ints]
  · rw [if_neg hw]
    have hmn : mn w 32 = ((min w 32).toNat : Int) := by unfold mn; split <;> omega
    rw [hmn]
    generalize hW : (min w 32).toNat = W at *
    have hW1 : 1 ≤ W := by omega
    have hW2 : W ≤ 32 := by omega
    rw [if_pos (by omega), if_pos (by simp; omega)]
    simp only [Option.bind_some, Int.toNat_natCast, List.length_replicate]
    have e4 : wrap64 ((W : Int) - 1) = (W : Int) - 1 := by unfold wrap64; omega
    rw [e4]
    obtain ⟨r, hr, hlen, hget⟩ := of_l0 40 W n (List.replicate W 0) (by simp) (by omega) hn (by simp; omega)
    rw [hr]
    congr 1
    have hlen' : r.length = W := by simpa using hlen
    apply ext_getD
    · rw [hlen']; simp [ofV, ints_length, bitsW_len, hW]
    · intro i hi
      rw [hget i, if_pos (by omega)]
      unfold ofV
      rw [ints_get, hW, bitsW_get _ _ _ (by omega)]

/-- What the program's 'Rem', 'Whole' give. -/
def mayP (W L : Int) : Bool := decide (1 ≤ W ∧ W ≤ 31 ∧ L.toNat < 2 ^ W.toNat)
def remV (W L s : Int) (l : List Int) : Int := if mayP W L then (((nat l).foldl (fd W.toNat L.toNat) (s.toNat % 2 ^ W.toNat) : Nat) : Int) else 0
def wholeV (W L : Int) (l : List Int) : Int := if mayP W L then (((nat l).foldl (ps W.toNat L.toNat) 0 : Nat) : Int) else 0

theorem mayP_iff {W L : Int} : mayP W L = true ↔ 1 ≤ W ∧ W ≤ 31 ∧ L.toNat < 2 ^ W.toNat := by simp [mayP]

theorem remV_range (W L s : Int) (l : List Int) : 0 ≤ remV W L s l ∧ remV W L s l ≤ 4294967295 := by
  unfold remV
  split
  · rename_i h
    obtain ⟨h1, h2, hL⟩ := mayP_iff.1 h
    have h3 := pow31 (W := W.toNat) (by omega)
    have := fold_lt (f := fd W.toNat L.toNat) (N := 2 ^ W.toNat) (fun r b => fd_lt hL) (nat l) (s.toNat % 2 ^ W.toNat) (Nat.mod_lt _ (Nat.two_pow_pos _))
    omega
  · omega

def crc16V (l : List Int) : Int := l.foldl (fun r c => remV 16 4129 r (ofV c.toNat 8)) 0
def crc15V (l : List Int) : Int := remV 15 17817 0 l
theorem crc16_live : crc16V [49, 50, 51, 52, 53, 54, 55, 56, 57] = 12739 := by decide +kernel
theorem rem_live : remV 3 3 0 [1] = 3 := by decide +kernel
theorem crc15_live : crc15V [1] = 17817 := by decide +kernel

/-- In pieces. -/
theorem remV_append (W L s : Int) (l m : List Int) (hs : 0 ≤ s) : remV W L s (l ++ m) = remV W L (remV W L s l) m := by
  unfold remV
  by_cases h : mayP W L = true
  · simp only [h, if_true]
    obtain ⟨h1, h2, hL⟩ := mayP_iff.1 h
    rw [nat_append, List.foldl_append, Int.toNat_natCast]
    have := fold_lt (f := fd W.toNat L.toNat) (N := 2 ^ W.toNat) (fun r b => fd_lt hL) (nat l) (s.toNat % 2 ^ W.toNat) (Nat.mod_lt _ (Nat.two_pow_pos _))
    rw [Nat.mod_eq_of_lt this]
  · simp [h]

/-- Two rows, bit by bit. -/
def sumR : List Int → List Int → List Int
  | a :: l, b :: m => ((a + b) % 256) % 2 :: sumR l m
  | _, _ => []
theorem sumR_len : ∀ {l m : List Int}, l.length = m.length → (sumR l m).length = l.length
  | [], [], _ => rfl
  | a :: l, b :: m, h => by simp only [sumR, List.length_cons]; rw [sumR_len (by simpa using h)]
  | [], _ :: _, h => by simp at h
  | _ :: _, [], h => by simp at h
theorem sumR_get : ∀ {l m : List Int} (i : Nat), l.length = m.length → (sumR l m).getD i 0 = ((l.getD i 0 + m.getD i 0) % 256) % 2
  | [], [], i, _ => by simp [sumR]
  | a :: l, b :: m, 0, h => by simp [sumR]
  | a :: l, b :: m, i + 1, h => by
    have := sumR_get (l := l) (m := m) i (by simpa using h)
    simpa [sumR] using this
  | [], _ :: _, _, h => by simp at h
  | _ :: _, [], _, h => by simp at h
theorem sumR_like {l m : List Int} (h : l.length = m.length) (hl : ∀ x ∈ l, 0 ≤ x ∧ x ≤ 255) (hm : ∀ x ∈ m, 0 ≤ x ∧ x ≤ 255) : Like (nat (sumR l m)) (addR (nat l) (nat m)) := by
  have h' : (nat l).length = (nat m).length := by rw [nat_length, nat_length, h]
  refine ⟨by rw [nat_length, sumR_len h, addR_len h', nat_length], fun i => ?_⟩
  rw [nat_get, sumR_get i h, addR_get i h', nat_get, nat_get]
  by_cases hi : i < l.length
  · have a := hl _ (List.getElem_mem hi)
    have b := hm _ (List.getElem_mem (h ▸ hi : i < m.length))
    have e1 : l.getD i 0 = l[i] := by rw [List.getD_eq_getElem?_getD, List.getElem?_eq_getElem hi]; rfl
    have e2 : m.getD i 0 = m[i]'(h ▸ hi) := by rw [List.getD_eq_getElem?_getD, List.getElem?_eq_getElem (h ▸ hi)]; rfl
    rw [e1, e2]
    omega
  · have e1 : l.getD i 0 = 0 := by rw [List.getD_eq_getElem?_getD, List.getElem?_eq_none (by omega)]; rfl
    have e2 : m.getD i 0 = 0 := by rw [List.getD_eq_getElem?_getD, List.getElem?_eq_none (by omega)]; rfl
    rw [e1, e2]
    simp

theorem xor_u32 (a b : Nat) (W : Nat) (hW : W ≤ 31) (ha : a < 2 ^ W) (hb : b < 2 ^ W) : Go.bits .xor .u32 (a : Int) (b : Int) = ((a ^^^ b : Nat) : Int) := by
  have := pow31 hW
  exact u32_xor_nat a b (by omega) (by omega)

theorem wholeV_sum (W L : Int) (l m : List Int) (h : l.length = m.length) (hl : ∀ x ∈ l, 0 ≤ x ∧ x ≤ 255) (hm : ∀ x ∈ m, 0 ≤ x ∧ x ≤ 255) :
    wholeV W L (sumR l m) = Go.bits .xor .u32 (wholeV W L l) (wholeV W L m) := by
  unfold wholeV
  by_cases hp : mayP W L = true
  · simp only [hp, if_true]
    obtain ⟨h1, h2, hL⟩ := mayP_iff.1 hp
    have f1 := fold_lt (f := ps W.toNat L.toNat) (N := 2 ^ W.toNat) (fun r b => ps_lt (by omega) hL) (nat l) 0 (Nat.two_pow_pos _)
    have f2 := fold_lt (f := ps W.toNat L.toNat) (N := 2 ^ W.toNat) (fun r b => ps_lt (by omega) hL) (nat m) 0 (Nat.two_pow_pos _)
    rw [xor_u32 _ _ W.toNat (by omega) f1 f2, fold_ps_like _ _ _ (sumR_like h hl hm)]
    congr 1
    have := fold_ps_xor W.toNat L.toNat (nat l) (nat m) 0 0 (by rw [nat_length, nat_length, h])
    simpa using this
  · simp only [hp, Bool.false_eq_true, if_false]
    have := xor_u32 0 0 1 (by omega) (by omega) (by omega)
    simpa using this.symm

theorem remV_sum (W L s t : Int) (l m : List Int) (h : l.length = m.length) (hl : ∀ x ∈ l, 0 ≤ x ∧ x ≤ 255) (hm : ∀ x ∈ m, 0 ≤ x ∧ x ≤ 255) (hs0 : 0 ≤ s) (hs1 : s ≤ 4294967295) (ht0 : 0 ≤ t) (ht1 : t ≤ 4294967295) :
    remV W L (Go.bits .xor .u32 s t) (sumR l m) = Go.bits .xor .u32 (remV W L s l) (remV W L t m) := by
  obtain ⟨s, rfl⟩ := Int.eq_ofNat_of_zero_le hs0
  obtain ⟨t, rfl⟩ := Int.eq_ofNat_of_zero_le ht0
  rw [u32_xor_nat s t (by omega) (by omega)]
  unfold remV
  by_cases hp : mayP W L = true
  · simp only [hp, if_true, Int.toNat_natCast]
    obtain ⟨h1, h2, hL⟩ := mayP_iff.1 hp
    have hz := Nat.two_pow_pos W.toNat
    have f1 := fold_lt (f := fd W.toNat L.toNat) (N := 2 ^ W.toNat) (fun r b => fd_lt hL) (nat l) (s % 2 ^ W.toNat) (Nat.mod_lt _ hz)
    have f2 := fold_lt (f := fd W.toNat L.toNat) (N := 2 ^ W.toNat) (fun r b => fd_lt hL) (nat m) (t % 2 ^ W.toNat) (Nat.mod_lt _ hz)
    rw [xor_u32 _ _ W.toNat (by omega) f1 f2, fold_fd_like _ _ _ (sumR_like h hl hm), Nat.xor_mod_two_pow]
    congr 1
    exact fold_fd_xor W.toNat L.toNat (nat l) (nat m) _ _ (by rw [nat_length, nat_length, h])
  · simp only [hp, Bool.false_eq_true, if_false]
    have := xor_u32 0 0 1 (by omega) (by omega) (by omega)
    simpa using this.symm

end Go.Proofs.Ytjlhbgkmebinjaa.Pure
