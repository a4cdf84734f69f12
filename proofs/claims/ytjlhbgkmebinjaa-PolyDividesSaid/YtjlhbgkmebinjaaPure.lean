/- Remainders of rows of bits, as plain numbers: no program, no memory. -/
set_option linter.unusedSimpArgs false
set_option linter.unusedVariables false
namespace Go.Proofs.Ytjlhbgkmebinjaa.Pure

def sel (x L : Nat) : Nat := if x % 2 = 1 then L else 0
/-- One bit more, with noughts behind. -/
def fd (W L r b : Nat) : Nat := (2 * r % 2 ^ W) ^^^ sel (r / 2 ^ (W - 1) + b) L
/-- One bit more, ahead of the lowest power. -/
def ps (W L r b : Nat) : Nat := ((2 * r % 2 ^ W) ^^^ b % 2) ^^^ sel (r / 2 ^ (W - 1)) L

theorem sel_lt {x L W : Nat} (h : L < 2 ^ W) : sel x L < 2 ^ W := by
  unfold sel; split
  · exact h
  · exact Nat.two_pow_pos W
theorem xor_mod2 (a b : Nat) : (a ^^^ b) % 2 = (a + b) % 2 := by
  have h1 := Nat.xor_mod_two_eq_one (a := a) (b := b)
  have ha := Nat.mod_two_eq_zero_or_one a
  have hb := Nat.mod_two_eq_zero_or_one b
  have hx := Nat.mod_two_eq_zero_or_one (a ^^^ b)
  rcases ha with ha | ha <;> rcases hb with hb | hb <;> rcases hx with hx | hx <;> simp [ha, hb, hx] at h1 <;> omega
theorem sel_add (x y L : Nat) : sel (x + y) L = sel x L ^^^ sel y L := by
  unfold sel
  have ha := Nat.mod_two_eq_zero_or_one x
  have hb := Nat.mod_two_eq_zero_or_one y
  rcases ha with ha | ha <;> rcases hb with hb | hb
  · rw [if_neg (by omega), if_neg (by omega), if_neg (by omega)]; simp
  · rw [if_pos (by omega), if_neg (by omega), if_pos (by omega)]; simp
  · rw [if_pos (by omega), if_pos (by omega), if_neg (by omega)]; simp
  · rw [if_neg (by omega), if_pos (by omega), if_pos (by omega)]; simp
theorem sel_mod {x y L : Nat} (h : x % 2 = y % 2) : sel x L = sel y L := by unfold sel; rw [h]
theorem sel_xor (x y L : Nat) : sel (x ^^^ y) L = sel x L ^^^ sel y L := by
  rw [← sel_add]; exact sel_mod (by rw [xor_mod2])
theorem sel_zero (L : Nat) : sel 0 L = 0 := by simp [sel]
theorem sel_one (L : Nat) : sel 1 L = L := by simp [sel]

theorem xor4 (a b c d : Nat) : (a ^^^ b) ^^^ (c ^^^ d) = (a ^^^ c) ^^^ (b ^^^ d) := by
  rw [Nat.xor_assoc, Nat.xor_assoc, ← Nat.xor_assoc b c d, Nat.xor_comm b c, Nat.xor_assoc c b d]

theorem dbl_xor (r s W : Nat) : 2 * (r ^^^ s) % 2 ^ W = (2 * r % 2 ^ W) ^^^ (2 * s % 2 ^ W) := by
  have h : 2 * (r ^^^ s) = 2 * r ^^^ 2 * s := by
    have := Nat.shiftLeft_xor_distrib (a := r) (b := s) (i := 1)
    simp only [Nat.shiftLeft_eq, Nat.pow_one] at this
    rw [Nat.mul_comm 2 (r ^^^ s), Nat.mul_comm 2 r, Nat.mul_comm 2 s]
    exact this
  rw [h, Nat.xor_mod_two_pow]

theorem fd_lt {W L r b : Nat} (hL : L < 2 ^ W) : fd W L r b < 2 ^ W := Nat.xor_lt_two_pow (Nat.mod_lt _ (Nat.two_pow_pos W)) (sel_lt hL)
theorem ps_lt {W L r b : Nat} (hW : 1 ≤ W) (hL : L < 2 ^ W) : ps W L r b < 2 ^ W :=
  Nat.xor_lt_two_pow (Nat.xor_lt_two_pow (Nat.mod_lt _ (Nat.two_pow_pos W)) (Nat.lt_of_lt_of_le (Nat.mod_lt _ (by omega)) (by
    have := Nat.pow_le_pow_right (n := 2) (by omega) hW
    simpa using this))) (sel_lt hL)

theorem fd_xor (W L r s b c : Nat) : fd W L (r ^^^ s) (b + c) = fd W L r b ^^^ fd W L s c := by
  unfold fd
  rw [dbl_xor, Nat.xor_div_two_pow, xor4]
  congr 1
  rw [sel_mod (y := (r / 2 ^ (W - 1) + b) + (s / 2 ^ (W - 1) + c)) (by
    have h := xor_mod2 (r / 2 ^ (W - 1)) (s / 2 ^ (W - 1))
    omega), sel_add]
theorem fd_mod (W L r : Nat) {b c : Nat} (h : b % 2 = c % 2) : fd W L r b = fd W L r c := by
  unfold fd; rw [sel_mod (x := r / 2 ^ (W - 1) + b) (y := r / 2 ^ (W - 1) + c) (by omega)]
theorem ps_mod (W L r : Nat) {b c : Nat} (h : b % 2 = c % 2) : ps W L r b = ps W L r c := by unfold ps; rw [h]
theorem ps_xor (W L r s b c : Nat) : ps W L (r ^^^ s) (b + c) = ps W L r b ^^^ ps W L s c := by
  unfold ps
  rw [dbl_xor, Nat.xor_div_two_pow, sel_xor]
  have hb : (b + c) % 2 = b % 2 ^^^ c % 2 := by
    have h1 := xor_mod2 (b % 2) (c % 2)
    have ha := Nat.mod_two_eq_zero_or_one b
    have hb := Nat.mod_two_eq_zero_or_one c
    rcases ha with ha | ha <;> rcases hb with hb | hb <;> rw [ha, hb] <;> simp <;> omega
  rw [hb, xor4 (2 * r % 2 ^ W), xor4]

/-! Rows. Two rows of one length, bit by bit. -/
def addR : List Nat → List Nat → List Nat
  | a :: l, b :: m => (a + b) :: addR l m
  | _, _ => []

theorem fold_fd_xor (W L : Nat) : ∀ (l m : List Nat) (r s : Nat), l.length = m.length → (addR l m).foldl (fd W L) (r ^^^ s) = l.foldl (fd W L) r ^^^ m.foldl (fd W L) s
  | [], [], r, s, _ => rfl
  | a :: l, b :: m, r, s, h => by
    simp only [addR, List.foldl_cons, fd_xor]
    exact fold_fd_xor W L l m _ _ (by simpa using h)
  | [], _ :: _, _, _, h => by simp at h
  | _ :: _, [], _, _, h => by simp at h
theorem fold_ps_xor (W L : Nat) : ∀ (l m : List Nat) (r s : Nat), l.length = m.length → (addR l m).foldl (ps W L) (r ^^^ s) = l.foldl (ps W L) r ^^^ m.foldl (ps W L) s
  | [], [], r, s, _ => rfl
  | a :: l, b :: m, r, s, h => by
    simp only [addR, List.foldl_cons, ps_xor]
    exact fold_ps_xor W L l m _ _ (by simpa using h)
  | [], _ :: _, _, _, h => by simp at h
  | _ :: _, [], _, _, h => by simp at h

/-- Rows whose bits are the same ones. -/
def Like (l m : List Nat) : Prop := l.length = m.length ∧ ∀ i, l.getD i 0 % 2 = m.getD i 0 % 2
theorem Like.cons {a b : Nat} {l m : List Nat} (h : Like (a :: l) (b :: m)) : a % 2 = b % 2 ∧ Like l m :=
  ⟨by simpa using h.2 0, by simpa using h.1, fun i => by simpa using h.2 (i + 1)⟩
theorem fold_ps_like (W L : Nat) : ∀ {l m : List Nat} (r : Nat), Like l m → l.foldl (ps W L) r = m.foldl (ps W L) r
  | [], [], r, _ => rfl
  | a :: l, b :: m, r, h => by
    simp only [List.foldl_cons]
    rw [ps_mod W L r h.cons.1]
    exact fold_ps_like W L _ h.cons.2
  | [], _ :: _, _, h => by simp [Like] at h
  | _ :: _, [], _, h => by simp [Like] at h
theorem fold_fd_like (W L : Nat) : ∀ {l m : List Nat} (r : Nat), Like l m → l.foldl (fd W L) r = m.foldl (fd W L) r
  | [], [], r, _ => rfl
  | a :: l, b :: m, r, h => by
    simp only [List.foldl_cons]
    rw [fd_mod W L r h.cons.1]
    exact fold_fd_like W L _ h.cons.2
  | [], _ :: _, _, h => by simp [Like] at h
  | _ :: _, [], _, h => by simp [Like] at h
theorem Like.refl (l : List Nat) : Like l l := ⟨rfl, fun _ => rfl⟩
theorem Like.symm {l m : List Nat} (h : Like l m) : Like m l := ⟨h.1.symm, fun i => (h.2 i).symm⟩
theorem Like.trans {l m n : List Nat} (h : Like l m) (k : Like m n) : Like l n := ⟨h.1.trans k.1, fun i => (h.2 i).trans (k.2 i)⟩

theorem fold_lt {f : Nat → Nat → Nat} {N : Nat} (hf : ∀ r b, f r b < N) : ∀ (l : List Nat) (r : Nat), r < N → l.foldl f r < N
  | [], r, h => h
  | a :: l, r, _ => fold_lt hf l _ (hf r a)

/-! A short row is its own remainder. -/
def val (l : List Nat) : Nat := l.foldl (fun v b => 2 * v + b % 2) 0
theorem fold_short (W L : Nat) : ∀ (l : List Nat) (v : Nat), v < 2 ^ (W - l.length) → l.length ≤ W → l.foldl (ps W L) v = l.foldl (fun v b => 2 * v + b % 2) v
  | [], v, _, _ => rfl
  | b :: l, v, hv, hl => by
    simp only [List.length_cons] at hv hl
    simp only [List.foldl_cons]
    have hv' : v < 2 ^ (W - 1) := Nat.lt_of_lt_of_le hv (Nat.pow_le_pow_right (by omega) (by omega))
    have h2 : 2 * v < 2 ^ W := by
      have : 2 ^ W = 2 * 2 ^ (W - 1) := by rw [← Nat.pow_succ']; congr 1; omega
      omega
    have e : ps W L v b = 2 * v + b % 2 := by
      unfold ps
      rw [Nat.mod_eq_of_lt h2, Nat.div_eq_of_lt hv', sel_zero, Nat.xor_zero]
      have hb := Nat.mod_two_eq_zero_or_one b
      apply Nat.eq_of_testBit_eq
      intro i
      rw [Nat.testBit_xor]
      rcases hb with hb | hb <;> rw [hb]
      · simp
      · cases i with
        | zero => simp [Nat.testBit_zero]
        | succ i =>
          rw [Nat.testBit_succ, Nat.testBit_succ, Nat.testBit_succ]
          have h1 : 2 * v / 2 = v := by omega
          have h3 : (2 * v + 1) / 2 = v := by omega
          rw [h1, h3]; simp
    rw [e]
    refine fold_short W L l _ ?_ (by omega)
    have : 2 ^ (W - l.length) = 2 * 2 ^ (W - (l.length + 1)) := by rw [← Nat.pow_succ']; congr 1; omega
    have hb := Nat.mod_lt b (show 0 < 2 by omega)
    omega

theorem fold_short0 (W L : Nat) (l : List Nat) (hl : l.length ≤ W) : l.foldl (ps W L) 0 = val l := fold_short W L l 0 (Nat.two_pow_pos _) hl

/-- A number's bits, highest first. -/
def bitsW (W r : Nat) : List Nat := (List.range W).map fun j => r / 2 ^ (W - 1 - j) % 2
theorem bitsW_len (W r : Nat) : (bitsW W r).length = W := by simp [bitsW]
theorem bitsW_get (W r i : Nat) (h : i < W) : (bitsW W r).getD i 0 = r / 2 ^ (W - 1 - i) % 2 := by
  simp [bitsW, List.getD_eq_getElem?_getD, List.getElem?_map, List.getElem?_range, h]
theorem bitsW_far (W r i : Nat) (h : W ≤ i) : (bitsW W r).getD i 0 = 0 := by
  rw [List.getD_eq_getElem?_getD, List.getElem?_eq_none (by rw [bitsW_len]; exact h)]; rfl
theorem bitsW_succ (W r : Nat) : bitsW (W + 1) r = bitsW W (r / 2) ++ [r % 2] := by
  unfold bitsW
  rw [List.range_succ, List.map_append]
  congr 1
  · refine List.map_congr_left fun j hj => ?_
    have hj := List.mem_range.1 hj
    rw [Nat.div_div_eq_div_mul, ← Nat.pow_succ']
    congr 3
    omega
  · simp
theorem val_bitsW : ∀ (W r : Nat), r < 2 ^ W → val (bitsW W r) = r
  | 0, r, h => by simp at h; subst h; rfl
  | W + 1, r, h => by
    rw [bitsW_succ]
    unfold val
    rw [List.foldl_append]
    have ih := val_bitsW W (r / 2) (by rw [Nat.pow_succ] at h; omega)
    unfold val at ih
    rw [ih]
    simp only [List.foldl_cons, List.foldl_nil]
    omega
theorem fold_bitsW (W L r : Nat) (h : r < 2 ^ W) : (bitsW W r).foldl (ps W L) 0 = r := by
  rw [fold_short0 W L _ (by rw [bitsW_len]; exact Nat.le_refl _), val_bitsW W r h]

def zeros (n : Nat) : List Nat := List.replicate n 0
theorem fold_zeros0 (W L : Nat) : ∀ n, (zeros n).foldl (ps W L) 0 = 0
  | 0 => rfl
  | n + 1 => by
    show (zeros n).foldl (ps W L) (ps W L 0 0) = 0
    have : ps W L 0 0 = 0 := by simp [ps, sel]
    rw [this]; exact fold_zeros0 W L n
theorem fold_one (W L : Nat) (hW : 1 ≤ W) : (zeros W).foldl (ps W L) 1 = L := by
  have key : ∀ j, j ≤ W - 1 → (zeros j).foldl (ps W L) 1 = 2 ^ j := by
    intro j
    induction j with
    | zero => intro _; rfl
    | succ j ih =>
      intro hj
      have e : zeros (j + 1) = zeros j ++ [0] := by simp [zeros, List.replicate_succ']
      rw [e, List.foldl_append, ih (by omega)]
      simp only [List.foldl_cons, List.foldl_nil]
      unfold ps
      have h1 : 2 ^ j < 2 ^ (W - 1) := Nat.pow_lt_pow_right (by omega) (by omega)
      have h2 : 2 * 2 ^ j < 2 ^ W := by
        rw [← Nat.pow_succ']; exact Nat.pow_lt_pow_right (by omega) (by omega)
      rw [Nat.mod_eq_of_lt h2, Nat.div_eq_of_lt h1, sel_zero]
      simp [Nat.pow_succ']
  have e : zeros W = zeros (W - 1) ++ [0] := by
    have : W = (W - 1) + 1 := by omega
    rw [this]; simp [zeros, List.replicate_succ']
  rw [e, List.foldl_append, key _ (Nat.le_refl _)]
  simp only [List.foldl_cons, List.foldl_nil]
  unfold ps
  have h2 : 2 * 2 ^ (W - 1) = 2 ^ W := by rw [← Nat.pow_succ']; congr 1; omega
  rw [h2, Nat.mod_self, Nat.div_self (Nat.two_pow_pos _), sel_one]
  simp
theorem fold_sel (W L e : Nat) (hW : 1 ≤ W) : (zeros W).foldl (ps W L) (e % 2) = sel e L := by
  rcases Nat.mod_two_eq_zero_or_one e with h | h
  · rw [h, fold_zeros0]; simp [sel, h]
  · rw [h, fold_one W L hW]; simp [sel, h]

/-- The row that a start and a row are together: the row with noughts behind, the start ahead. -/
def both (W s : Nat) (b : List Nat) : List Nat := (List.range (b.length + W)).map fun j => b.getD j 0 + (bitsW W s).getD j 0
theorem both_len (W s : Nat) (b : List Nat) : (both W s b).length = b.length + W := by simp [both]
theorem both_get (W s : Nat) (b : List Nat) (j : Nat) (h : j < b.length + W) : (both W s b).getD j 0 = b.getD j 0 + (bitsW W s).getD j 0 := by
  simp [both, List.getD_eq_getElem?_getD, List.getElem?_map, List.getElem?_range, h]
theorem getD_far {l : List Nat} {j : Nat} (h : l.length ≤ j) : l.getD j 0 = 0 := by
  rw [List.getD_eq_getElem?_getD, List.getElem?_eq_none h]; rfl
theorem addR_len : ∀ {l m : List Nat}, l.length = m.length → (addR l m).length = l.length
  | [], [], _ => rfl
  | a :: l, b :: m, h => by simp only [addR, List.length_cons]; rw [addR_len (by simpa using h)]
  | [], _ :: _, h => by simp at h
  | _ :: _, [], h => by simp at h
theorem addR_get : ∀ {l m : List Nat} (i : Nat), l.length = m.length → (addR l m).getD i 0 = l.getD i 0 + m.getD i 0
  | [], [], i, _ => by simp [addR]
  | a :: l, b :: m, 0, h => by simp [addR]
  | a :: l, b :: m, i + 1, h => by
    have := addR_get (l := l) (m := m) i (by simpa using h)
    simpa [addR] using this
  | [], _ :: _, _, h => by simp at h
  | _ :: _, [], _, h => by simp at h

theorem bitsW_xor (W s t i : Nat) : (bitsW W (s ^^^ t)).getD i 0 % 2 = ((bitsW W s).getD i 0 + (bitsW W t).getD i 0) % 2 := by
  by_cases h : i < W
  · rw [bitsW_get _ _ _ h, bitsW_get _ _ _ h, bitsW_get _ _ _ h, Nat.xor_div_two_pow]
    have := xor_mod2 (s / 2 ^ (W - 1 - i)) (t / 2 ^ (W - 1 - i))
    omega
  · rw [bitsW_far _ _ _ (by omega), bitsW_far _ _ _ (by omega), bitsW_far _ _ _ (by omega)]
theorem zeros_get (n i : Nat) : (zeros n).getD i 0 = 0 := by
  by_cases h : i < n
  · simp [zeros, List.getD_eq_getElem?_getD, List.getElem?_replicate, h]
  · exact getD_far (by simp [zeros]; omega)

theorem append_get (l m : List Nat) (i : Nat) : (l ++ m).getD i 0 = if i < l.length then l.getD i 0 else m.getD (i - l.length) 0 := by
  rw [List.getD_eq_getElem?_getD, List.getD_eq_getElem?_getD, List.getD_eq_getElem?_getD]
  split
  · rw [List.getElem?_append_left (by assumption)]
  · rw [List.getElem?_append_right (by omega)]

theorem both_xor (W s t : Nat) (b : List Nat) : Like (both W (s ^^^ t) b) (addR (both W s b) (both W t (zeros b.length))) := by
  have hl : (both W s b).length = (both W t (zeros b.length)).length := by rw [both_len, both_len]; simp [zeros]
  refine ⟨by rw [addR_len hl, both_len, both_len], fun i => ?_⟩
  rw [addR_get i hl]
  by_cases h : i < b.length + W
  · rw [both_get _ _ _ _ h, both_get _ _ _ _ h, both_get _ _ _ _ (by simpa [zeros] using h), zeros_get]
    have := bitsW_xor W s t i
    omega
  · rw [getD_far (by rw [both_len]; omega), getD_far (by rw [both_len]; omega), getD_far (by rw [both_len]; simp [zeros]; omega)]

/-- The start alone, noughts behind it. -/
theorem fold_both_zeros (W L t n : Nat) (ht : t < 2 ^ W) : (both W t (zeros n)).foldl (ps W L) 0 = (zeros n).foldl (ps W L) t := by
  have h : Like (both W t (zeros n)) (bitsW W t ++ zeros n) := by
    refine ⟨by rw [both_len, List.length_append, bitsW_len]; simp [zeros]; omega, fun i => ?_⟩
    rw [append_get, bitsW_len]
    by_cases h : i < n + W
    · rw [both_get _ _ _ _ (by simpa [zeros] using h), zeros_get]
      split
      · simp
      · rw [bitsW_far _ _ _ (by omega), zeros_get]
    · rw [getD_far (by rw [both_len]; simp [zeros]; omega), if_neg (by omega), zeros_get]
  rw [fold_ps_like W L 0 h, List.foldl_append, fold_bitsW W L t ht]

theorem zeros_add (m n : Nat) : zeros (m + n) = zeros m ++ zeros n := by simp [zeros, List.replicate_append_replicate]
theorem addR_zeros : ∀ (l : List Nat), addR l (zeros l.length) = l
  | [] => rfl
  | a :: l => by
    show (a + 0) :: addR l (zeros l.length) = a :: l
    rw [addR_zeros l]; simp

/-- A start and a row by 'feed' are the whole row by 'push'. -/
theorem feed_is_whole (W L : Nat) (hW : 1 ≤ W) (hL : L < 2 ^ W) : ∀ (b : List Nat) (s : Nat), s < 2 ^ W → b.foldl (fd W L) s = (both W s b).foldl (ps W L) 0
  | [], s, hs => by
    have h : Like (both W s []) (bitsW W s) := by
      refine ⟨by rw [both_len, bitsW_len]; simp, fun i => ?_⟩
      by_cases h : i < W
      · rw [both_get _ _ _ _ (by simpa using h)]; simp
      · rw [getD_far (by rw [both_len]; simp; omega), bitsW_far _ _ _ (by omega)]
    rw [fold_ps_like W L 0 h, fold_bitsW W L s hs]; rfl
  | c :: b, s, hs => by
    simp only [List.foldl_cons]
    rw [feed_is_whole W L hW hL b _ (fd_lt hL)]
    have e1 : fd W L s c = (2 * s % 2 ^ W) ^^^ sel (s / 2 ^ (W - 1) + c) L := rfl
    rw [e1, fold_ps_like W L 0 (both_xor W _ _ b)]
    have hl : (both W (2 * s % 2 ^ W) b).length = (both W (sel (s / 2 ^ (W - 1) + c) L) (zeros b.length)).length := by rw [both_len, both_len]; simp [zeros]
    have e0 : (0 : Nat) = 0 ^^^ 0 := by simp
    rw [e0, fold_ps_xor W L _ _ 0 0 hl, ← e0, fold_both_zeros W L _ _ (sel_lt hL), ← fold_sel W L _ hW]
    -- the other side: the first bit, then the rest
    have hlike : Like (both W s (c :: b)) (((s / 2 ^ (W - 1) + c) % 2) :: both W (2 * s % 2 ^ W) b) := by
      refine ⟨by rw [both_len]; simp only [List.length_cons]; rw [both_len]; omega, fun i => ?_⟩
      cases i with
      | zero =>
        rw [both_get _ _ _ _ (by simp only [List.length_cons]; omega), bitsW_get _ _ _ (by omega)]
        simp
        omega
      | succ i =>
        simp only [List.getD_cons_succ]
        by_cases h : i < b.length + W
        · rw [both_get _ _ _ _ (by simp only [List.length_cons]; omega), both_get _ _ _ _ h]
          simp only [List.getD_cons_succ]
          have : (bitsW W s).getD (i + 1) 0 = (bitsW W (2 * s % 2 ^ W)).getD i 0 := by
            by_cases h1 : i + 1 < W
            · rw [bitsW_get _ _ _ h1, bitsW_get _ _ _ (by omega)]
              have t1 : s / 2 ^ (W - 1 - (i + 1)) % 2 = (s.testBit (W - 1 - (i + 1))).toNat := (Nat.toNat_testBit _ _).symm
              have t2 : 2 * s % 2 ^ W / 2 ^ (W - 1 - i) % 2 = ((2 * s % 2 ^ W).testBit (W - 1 - i)).toNat := (Nat.toNat_testBit _ _).symm
              rw [t1, t2, Nat.testBit_mod_two_pow]
              have e : W - 1 - i = (W - 1 - (i + 1)) + 1 := by omega
              rw [e, Nat.testBit_succ]
              have : 2 * s / 2 = s := by omega
              rw [this]
              have h5 : W - 1 - (i + 1) + 1 < W := by omega
              simp [h5]
            · rw [bitsW_far _ _ _ (by omega)]
              by_cases h2 : i < W
              · rw [bitsW_get _ _ _ h2]
                have : W - 1 - i = 0 := by omega
                rw [this]
                have : 2 ^ W = 2 * 2 ^ (W - 1) := by rw [← Nat.pow_succ']; congr 1; omega
                rw [this, Nat.mul_mod_mul_left]
                simp
              · rw [bitsW_far _ _ _ (by omega)]
          rw [this]
        · rw [getD_far (by rw [both_len]; simp only [List.length_cons]; omega), getD_far (by rw [both_len]; omega)]
    rw [fold_ps_like W L 0 hlike]
    simp only [List.foldl_cons]
    have e2 : ps W L 0 ((s / 2 ^ (W - 1) + c) % 2) = 0 ^^^ (s / 2 ^ (W - 1) + c) % 2 := by simp [ps, sel]
    have hz : both W (2 * s % 2 ^ W) b = addR (both W (2 * s % 2 ^ W) b) (zeros (both W (2 * s % 2 ^ W) b).length) := (addR_zeros _).symm
    rw [e2]
    conv => rhs; rw [hz]
    rw [fold_ps_xor W L _ _ _ _ (by simp [zeros]), both_len]
    congr 1
    have : zeros (b.length + W) = zeros W ++ zeros b.length := by rw [Nat.add_comm, zeros_add]
    rw [this, List.foldl_append]

end Go.Proofs.Ytjlhbgkmebinjaa.Pure
