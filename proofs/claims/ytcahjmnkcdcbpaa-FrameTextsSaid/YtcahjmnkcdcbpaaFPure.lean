/- Frames' texts there and back: plain law. -/
import Derived.Test.YtcahjmnkcdcbpaaFRParse
set_option linter.unusedSimpArgs false
set_option linter.unusedVariables false
set_option linter.unnecessarySimpa false
namespace Go.Proofs.Ytcahjmnkcdcbpaa

theorem zeros_of {f : Fr} (hc : f.chk = 0) {i : Nat} (hi : i < 8) (h : f.rtr = true ∨ f.len ≤ i) : f.data.getD i 0 = 0 := by
  obtain ⟨i0, i1, l0, l1⟩ := chk_bounds hc
  by_cases hne : f.data.getD i 0 = 0
  · exact hne
  · have := chk_bad (f := f) (by omega) (by omega) hi h hne
    omega
theorem num3 {a b c : Int} (a0 : 0 ≤ a) (a1 : a < 16) (b0 : 0 ≤ b) (b1 : b < 16) (c0 : 0 ≤ c) (c1 : c < 16) : numG 0 [sgnI a, sgnI b, sgnI c] = (256 * a + 16 * b + c, true) := by
  simp only [numG, sgn_val a0 a1, sgn_val b0 b1, sgn_val c0 c1]
  rw [if_neg (by omega), if_neg (by omega), if_neg (by omega)]
  congr 1
  omega
theorem num2 {a b : Int} (a0 : 0 ≤ a) (a1 : a < 16) (b0 : 0 ≤ b) (b1 : b < 16) : numG 0 [sgnI a, sgnI b] = (16 * a + b, true) := by
  simp only [numG, sgn_val a0 a1, sgn_val b0 b1]
  rw [if_neg (by omega), if_neg (by omega)]
  congr 1
  omega
theorem pairG_tail : ∀ (L D : List Int), Byt L → pairG D (tailT L) = some (D ++ L)
  | [], D, _ => by simp [tailT, pairG]
  | x :: t, D, h => by
    have hx := h x (by simp)
    simp only [tailT, pairG, num2 (a := x / 16) (b := x % 16) (by omega) (by omega) (by omega) (by omega), if_true]
    rw [pairG_tail t _ (fun y hy => h y (by simp [hy]))]
    rw [show 16 * (x / 16) + x % 16 = x by omega]
    simp
theorem mkFr_take {f : Fr} (hc : f.chk = 0) (hr : f.rtr = false) {k : Nat} (hk : f.len = k) : mkFr f.id (f.data.take k) = f := by
  have hz : ∀ i, i < 8 → k ≤ i → f.data.getD i 0 = 0 := fun i hi h => zeros_of hc hi (.inr (by omega))
  obtain ⟨i0, i1, l0, l1⟩ := chk_bounds hc
  obtain ⟨id, rtr, len, d0, d1, d2, d3, d4, d5, d6, d7⟩ := f
  simp only at hk hr
  subst hk hr
  have hk8 : k ≤ 8 := by simp only at l1; omega
  have z0 := hz 0 (by omega)
  have z1 := hz 1 (by omega)
  have z2 := hz 2 (by omega)
  have z3 := hz 3 (by omega)
  have z4 := hz 4 (by omega)
  have z5 := hz 5 (by omega)
  have z6 := hz 6 (by omega)
  have z7 := hz 7 (by omega)
  simp only [Fr.data, List.getD_cons_zero, List.getD_cons_succ] at z0 z1 z2 z3 z4 z5 z6 z7
  rcases (by omega : k = 0 ∨ k = 1 ∨ k = 2 ∨ k = 3 ∨ k = 4 ∨ k = 5 ∨ k = 6 ∨ k = 7 ∨ k = 8) with rfl | rfl | rfl | rfl | rfl | rfl | rfl | rfl | rfl
  all_goals
    simp only [mkFr, Fr.data, List.take_zero, List.take_succ_cons, List.length_cons, List.length_nil, List.getD_cons_zero, List.getD_cons_succ, List.getD_nil]
    try simp_all
theorem rtr_eta {f : Fr} (hc : f.chk = 0) (hr : f.rtr = true) : f = ⟨f.id, true, f.len, 0, 0, 0, 0, 0, 0, 0, 0⟩ := by
  have hz : ∀ i, i < 8 → f.data.getD i 0 = 0 := fun i hi => zeros_of hc hi (.inl hr)
  obtain ⟨id, rtr, len, d0, d1, d2, d3, d4, d5, d6, d7⟩ := f
  simp only at hr
  subst hr
  have z0 := hz 0 (by omega)
  have z1 := hz 1 (by omega)
  have z2 := hz 2 (by omega)
  have z3 := hz 3 (by omega)
  have z4 := hz 4 (by omega)
  have z5 := hz 5 (by omega)
  have z6 := hz 6 (by omega)
  have z7 := hz 7 (by omega)
  simp only [Fr.data, List.getD_cons_zero, List.getD_cons_succ] at z0 z1 z2 z3 z4 z5 z6 z7
  simp [z0, z1, z2, z3, z4, z5, z6, z7]
theorem sgn_ne {n : Int} (h0 : 0 ≤ n) (h1 : n < 16) : sgnI n ≠ 82 := by unfold sgnI; split <;> omega
theorem headT_num {id : Int} (i0 : 0 ≤ id) (i1 : id ≤ 2047) : numG 0 [sgnI (id / 256), sgnI (id / 16 % 16), sgnI (id % 16)] = (id, true) := by
  rw [num3 (by omega) (by omega) (by omega) (by omega) (by omega) (by omega)]
  congr 1
  omega

theorem parse_text {f : Fr} (hd : Byt f.data) (hc : f.chk = 0) : parseV f.text = (f, 0) := by
  obtain ⟨i0, i1, l0, l1⟩ := chk_bounds hc
  obtain ⟨k, hk⟩ := Int.eq_ofNat_of_zero_le l0
  cases hr : f.rtr
  · have ht : f.text = [sgnI (f.id / 256), sgnI (f.id / 16 % 16), sgnI (f.id % 16), 35] ++ tailT (f.data.take k) := by
      unfold Fr.text headT
      rw [hr, hk, Int.toNat_natCast]
      rfl
    have hlen : (tailT (f.data.take k)).length = 2 * k := by
      rw [tailT_len, List.length_take]
      show 2 * min k 8 = _
      omega
    rw [ht]
    unfold parseV
    rw [if_neg (by simp [hlen]; omega)]
    have h6 : ¬ (([sgnI (f.id / 256), sgnI (f.id / 16 % 16), sgnI (f.id % 16), 35] ++ tailT (f.data.take k)).length = 6 ∧ ([sgnI (f.id / 256), sgnI (f.id / 16 % 16), sgnI (f.id % 16), 35] ++ tailT (f.data.take k)).getD 4 0 = 82) := by
      rintro ⟨h1, h2⟩
      have hk1 : k = 1 := by simp [hlen] at h1; omega
      subst hk1
      have hb := hd (f.data.getD 0 0) (by simp [Fr.data])
      have : f.data.take 1 = [f.data.getD 0 0] := rfl
      rw [this] at h2
      simp only [tailT, List.cons_append, List.nil_append, List.getD_cons_succ, List.getD_cons_zero] at h2
      exact sgn_ne (n := f.data.getD 0 0 / 16) (by omega) (by omega) h2
    rw [if_neg h6, if_neg (by simp [hlen]; omega)]
    have e3 : ([sgnI (f.id / 256), sgnI (f.id / 16 % 16), sgnI (f.id % 16), 35] ++ tailT (f.data.take k)).take 3 = [sgnI (f.id / 256), sgnI (f.id / 16 % 16), sgnI (f.id % 16)] := rfl
    have e4 : ([sgnI (f.id / 256), sgnI (f.id / 16 % 16), sgnI (f.id % 16), 35] ++ tailT (f.data.take k)).drop 4 = tailT (f.data.take k) := rfl
    rw [e3, e4, headT_num i0 i1, pairG_tail _ _ (hd.take k)]
    simp only [if_true, List.nil_append, finM]
    rw [mkFr_take hc hr hk]
    unfold finV
    rw [if_pos hc]
  · have ht : f.text = [sgnI (f.id / 256), sgnI (f.id / 16 % 16), sgnI (f.id % 16), 35, 82, sgnI f.len] := by
      unfold Fr.text headT
      rw [hr]
      rfl
    rw [ht]
    unfold parseV
    rw [if_neg (by simp), if_pos (by simp)]
    have e3 : ([sgnI (f.id / 256), sgnI (f.id / 16 % 16), sgnI (f.id % 16), 35, 82, sgnI f.len] : List Int).take 3 = [sgnI (f.id / 256), sgnI (f.id / 16 % 16), sgnI (f.id % 16)] := rfl
    have e5 : ([sgnI (f.id / 256), sgnI (f.id / 16 % 16), sgnI (f.id % 16), 35, 82, sgnI f.len] : List Int).getD 5 0 = sgnI f.len := rfl
    have es : sgnI f.len - 48 = f.len := by unfold sgnI; rw [if_pos (by omega)]; omega
    rw [e3, e5, es, headT_num i0 i1]
    simp only [if_true]
    rw [← rtr_eta hc hr]
    unfold finV
    rw [if_pos hc]

theorem valR_sgn {n : Int} (h0 : 0 ≤ n) (h1 : n < 16) : valR (sgnI n) = n := by
  unfold valR
  rw [sgn_val h0 h1, if_neg (by omega)]
theorem pairR_tail : ∀ L : List Int, Byt L → pairR (tailT L) = L
  | [], _ => rfl
  | x :: t, h => by
    have hx := h x (by simp)
    simp only [tailT, pairR, valR_sgn (n := x / 16) (by omega) (by omega), valR_sgn (n := x % 16) (by omega) (by omega)]
    rw [pairR_tail t (fun y hy => h y (by simp [hy])), show (16 * (x / 16) + x % 16) % 256 = x by omega]
theorem mkT_eq (id : Int) (L : List Int) : mkT id L.length L = mkFr id L := rfl
theorem guess_text {f : Fr} (hd : Byt f.data) (hc : f.chk = 0) : guess f.text = f := by
  obtain ⟨i0, i1, l0, l1⟩ := chk_bounds hc
  obtain ⟨k, hk⟩ := Int.eq_ofNat_of_zero_le l0
  cases hr : f.rtr
  · have ht : f.text = [sgnI (f.id / 256), sgnI (f.id / 16 % 16), sgnI (f.id % 16), 35] ++ tailT (f.data.take k) := by
      unfold Fr.text headT
      rw [hr, hk, Int.toNat_natCast]
      rfl
    have hlen : (tailT (f.data.take k)).length = 2 * k := by
      rw [tailT_len, List.length_take]
      show 2 * min k 8 = _
      omega
    rw [ht]
    have h6 : ¬ (([sgnI (f.id / 256), sgnI (f.id / 16 % 16), sgnI (f.id % 16), 35] ++ tailT (f.data.take k)).length = 6 ∧ ([sgnI (f.id / 256), sgnI (f.id / 16 % 16), sgnI (f.id % 16), 35] ++ tailT (f.data.take k)).getD 4 0 = 82) := by
      rintro ⟨h1, h2⟩
      have hk1 : k = 1 := by simp [hlen] at h1; omega
      subst hk1
      have hb := hd (f.data.getD 0 0) (by simp [Fr.data])
      have : f.data.take 1 = [f.data.getD 0 0] := rfl
      rw [this] at h2
      simp only [tailT, List.cons_append, List.nil_append, List.getD_cons_succ, List.getD_cons_zero] at h2
      exact sgn_ne (n := f.data.getD 0 0 / 16) (by omega) (by omega) h2
    unfold guess
    rw [if_neg h6]
    have e4 : ([sgnI (f.id / 256), sgnI (f.id / 16 % 16), sgnI (f.id % 16), 35] ++ tailT (f.data.take k)).drop 4 = tailT (f.data.take k) := rfl
    have el : (([sgnI (f.id / 256), sgnI (f.id / 16 % 16), sgnI (f.id % 16), 35] ++ tailT (f.data.take k)).length - 4) / 2 = (f.data.take k).length := by
      rw [List.length_append, hlen, List.length_take]
      show (4 + 2 * k - 4) / 2 = min k 8
      omega
    rw [e4, el, pairR_tail _ (hd.take k), mkT_eq]
    simp only [List.cons_append, List.nil_append, List.getD_cons_zero, List.getD_cons_succ]
    rw [valR_sgn (by omega) (by omega), valR_sgn (by omega) (by omega), valR_sgn (by omega) (by omega), show 256 * (f.id / 256) + 16 * (f.id / 16 % 16) + f.id % 16 = f.id by omega]
    exact mkFr_take hc hr hk
  · have ht : f.text = [sgnI (f.id / 256), sgnI (f.id / 16 % 16), sgnI (f.id % 16), 35, 82, sgnI f.len] := by
      unfold Fr.text headT
      rw [hr]
      rfl
    rw [ht]
    unfold guess
    rw [if_pos (by simp)]
    simp only [List.getD_cons_zero, List.getD_cons_succ]
    rw [valR_sgn (by omega) (by omega), valR_sgn (by omega) (by omega), valR_sgn (by omega) (by omega), valR_sgn (by omega) (by omega), show 256 * (f.id / 256) + 16 * (f.id / 16 % 16) + f.id % 16 = f.id by omega]
    exact (rtr_eta hc hr).symm

theorem numG_cons {n c : Int} {t : List Int} (h : (numG n (c :: t)).2 = true) : 0 ≤ valI c ∧ numG n (c :: t) = numG (n * 16 + valI c) t := by
  by_cases hv : valI c < 0
  · simp [numG, hv] at h
  · exact ⟨by omega, by simp [numG, hv]⟩
theorem num3_sound {a b c : Int} (h : (numG 0 [a, b, c]).2 = true) : ∃ x y z : Int, 0 ≤ x ∧ x < 16 ∧ 0 ≤ y ∧ y < 16 ∧ 0 ≤ z ∧ z < 16 ∧ a = sgnI x ∧ b = sgnI y ∧ c = sgnI z ∧ (numG 0 [a, b, c]).1 = 256 * x + 16 * y + z := by
  obtain ⟨ha, e1⟩ := numG_cons h
  rw [e1] at h
  obtain ⟨hb, e2⟩ := numG_cons h
  rw [e2] at h
  obtain ⟨hc, e3⟩ := numG_cons h
  have l1 := valI_lt a
  have l2 := valI_lt b
  have l3 := valI_lt c
  refine ⟨valI a, valI b, valI c, ha, l1.2, hb, l2.2, hc, l3.2, (val_sgn ha).symm, (val_sgn hb).symm, (val_sgn hc).symm, ?_⟩
  rw [e1, e2, e3]
  simp only [numG]
  omega
theorem num2_sound {a b : Int} (h : (numG 0 [a, b]).2 = true) : ∃ x y : Int, 0 ≤ x ∧ x < 16 ∧ 0 ≤ y ∧ y < 16 ∧ a = sgnI x ∧ b = sgnI y ∧ (numG 0 [a, b]).1 = 16 * x + y := by
  obtain ⟨ha, e1⟩ := numG_cons h
  rw [e1] at h
  obtain ⟨hb, e2⟩ := numG_cons h
  have l1 := valI_lt a
  have l2 := valI_lt b
  refine ⟨valI a, valI b, ha, l1.2, hb, l2.2, (val_sgn ha).symm, (val_sgn hb).symm, ?_⟩
  rw [e1, e2]
  simp only [numG]
  omega
theorem pairG_sound : ∀ (t D E : List Int), t.length % 2 = 0 → pairG D t = some E → ∃ F, E = D ++ F ∧ tailT F = t ∧ Byt F
  | [], D, E, _, h => ⟨[], by simp [pairG] at h; simp [h], rfl, Byt.nil⟩
  | [_], D, E, hl, h => by simp at hl
  | a :: b :: t, D, E, hl, h => by
    by_cases hn : (numG 0 [a, b]).2 = true
    · simp only [pairG, hn, if_true] at h
      obtain ⟨F, rfl, hT, hF⟩ := pairG_sound t _ E (by simp at hl; omega) h
      obtain ⟨x, y, x0, x1, y0, y1, rfl, rfl, e⟩ := num2_sound hn
      refine ⟨(numG 0 [sgnI x, sgnI y]).1 :: F, by simp, ?_, ?_⟩
      · simp only [tailT, e, hT]
        rw [show (16 * x + y) / 16 = x by omega, show (16 * x + y) % 16 = y by omega]
      · intro z hz
        rcases List.mem_cons.1 hz with rfl | hz
        · rw [e]; omega
        · exact hF z hz
    · simp [pairG, hn] at h

theorem finV_ok {f : Fr} (h : (finV f).2 = 0) : f.chk = 0 ∧ finV f = (f, 0) := by
  unfold finV at *
  by_cases hc : f.chk = 0
  · exact ⟨hc, by rw [if_pos hc]⟩
  · rw [if_neg hc] at h; simp at h
theorem finV_bad {f : Fr} (h : (finV f).2 ≠ 0) : finV f = (Fr.zero, 4) := by
  unfold finV at *
  by_cases hc : f.chk = 0
  · rw [if_pos hc] at h; exact absurd rfl h
  · rw [if_neg hc]
theorem parse_bad {l : List Int} (h : (parseV l).2 ≠ 0) : parseV l = (Fr.zero, 4) := by
  unfold parseV at *
  by_cases h1 : l.length < 4 ∨ 20 < l.length ∨ l.getD 3 0 ≠ 35
  · rw [if_pos h1]
  · rw [if_neg h1] at h ⊢
    by_cases h2 : l.length = 6 ∧ l.getD 4 0 = 82
    · rw [if_pos h2] at h ⊢
      by_cases h3 : (numG 0 (l.take 3)).2 = true
      · rw [if_pos h3] at h ⊢
        exact finV_bad h
      · rw [if_neg h3]
    · rw [if_neg h2] at h ⊢
      by_cases h4 : l.length % 2 = 1
      · rw [if_pos h4]
      · rw [if_neg h4] at h ⊢
        by_cases h3 : (numG 0 (l.take 3)).2 = true
        · rw [if_pos h3] at h ⊢
          cases hp : pairG [] (l.drop 4) with
          | none => rfl
          | some D => rw [hp] at h; exact finV_bad h
        · rw [if_neg h3]

theorem head_of {x y z : Int} (x0 : 0 ≤ x) (x1 : x < 16) (y0 : 0 ≤ y) (y1 : y < 16) (z0 : 0 ≤ z) (z1 : z < 16) : headT (256 * x + 16 * y + z) = [sgnI x, sgnI y, sgnI z, 35] := by
  unfold headT
  rw [show (256 * x + 16 * y + z) / 256 = x by omega, show (256 * x + 16 * y + z) / 16 % 16 = y by omega, show (256 * x + 16 * y + z) % 16 = z by omega]

theorem parse_sound {l : List Int} (h : (parseV l).2 = 0) : (parseV l).1.chk = 0 ∧ (parseV l).1.text = l ∧ Byt (parseV l).1.data ∧ 4 ≤ l.length ∧ l.length ≤ 20 := by
  unfold parseV at *
  by_cases h1 : l.length < 4 ∨ 20 < l.length ∨ l.getD 3 0 ≠ 35
  · rw [if_pos h1] at h; simp at h
  · rw [if_neg h1] at h ⊢
    have g4 : 4 ≤ l.length := by omega
    have g20 : l.length ≤ 20 := by omega
    have g35 : l.getD 3 0 = 35 := by
      by_cases g : l.getD 3 0 = 35
      · exact g
      · exact absurd (.inr (.inr g)) h1
    clear h1
    rcases l with _ | ⟨a, _ | ⟨b, _ | ⟨c, _ | ⟨d, t⟩⟩⟩⟩
    all_goals first | (simp at g4; done) | skip
    simp only [List.getD_cons_succ, List.getD_cons_zero] at g35
    subst g35
    have e3 : (a :: b :: c :: 35 :: t).take 3 = [a, b, c] := rfl
    have e4 : (a :: b :: c :: 35 :: t).drop 4 = t := rfl
    rw [e3, e4] at h ⊢
    by_cases h2 : (a :: b :: c :: 35 :: t).length = 6 ∧ (a :: b :: c :: 35 :: t).getD 4 0 = 82
    · rw [if_pos h2] at h ⊢
      by_cases h3 : (numG 0 [a, b, c]).2 = true
      · rw [if_pos h3] at h ⊢
        obtain ⟨x, y, z, x0, x1, y0, y1, z0, z1, rfl, rfl, rfl, e⟩ := num3_sound h3
        rcases t with _ | ⟨t0, _ | ⟨t1, _ | ⟨t2, t⟩⟩⟩
        all_goals first | (simp at h2; done) | skip
        have ht0 : t0 = 82 := h2.2
        subst ht0
        have e5 : (sgnI x :: sgnI y :: sgnI z :: 35 :: 82 :: [t1]).getD 5 0 = t1 := rfl
        rw [e5, e] at h ⊢
        obtain ⟨hc, hf⟩ := finV_ok h
        obtain ⟨i0, i1, l0, l1⟩ := chk_bounds hc
        simp only at i0 i1 l0 l1
        rw [hf]
        refine ⟨hc, ?_, ?_, g4, g20⟩
        · unfold Fr.text
          simp only [if_true]
          rw [head_of x0 x1 y0 y1 z0 z1, show sgnI (t1 - 48) = t1 by unfold sgnI; rw [if_pos (by omega)]; omega]
          rfl
        · intro q hq
          simp [Fr.data] at hq
          omega
      · rw [if_neg h3] at h; simp at h
    · rw [if_neg h2] at h ⊢
      by_cases h4 : (a :: b :: c :: 35 :: t).length % 2 = 1
      · rw [if_pos h4] at h; simp at h
      · rw [if_neg h4] at h ⊢
        by_cases h3 : (numG 0 [a, b, c]).2 = true
        · rw [if_pos h3] at h ⊢
          cases hp : pairG [] t with
          | none => rw [hp] at h; simp [finM] at h
          | some D =>
            rw [hp] at h
            obtain ⟨x, y, z, x0, x1, y0, y1, z0, z1, rfl, rfl, rfl, e⟩ := num3_sound h3
            have hpar : t.length % 2 = 0 := by simp at h4; omega
            obtain ⟨F, hDF, hT, hF⟩ := pairG_sound t [] D hpar hp
            obtain rfl : D = F := by simpa using hDF
            simp only [finM] at h ⊢
            rw [e] at h ⊢
            obtain ⟨hc, hf⟩ := finV_ok h
            obtain ⟨i0, i1, l0, l1⟩ := chk_bounds hc
            have hl8 : D.length ≤ 8 := by
              have : ((D.length : Nat) : Int) ≤ 8 := l1
              omega
            have hdat : (mkFr (256 * x + 16 * y + z) D).data.take D.length = D := by
              rcases D with _ | ⟨f0, _ | ⟨f1, _ | ⟨f2, _ | ⟨f3, _ | ⟨f4, _ | ⟨f5, _ | ⟨f6, _ | ⟨f7, _ | ⟨f8, D⟩⟩⟩⟩⟩⟩⟩⟩⟩
              all_goals first | rfl | (exfalso; simp at hl8) | (exfalso; simp at hl8; omega)
            rw [hf]
            refine ⟨hc, ?_, ?_, g4, g20⟩
            · unfold Fr.text
              rw [show (mkFr (256 * x + 16 * y + z) D).id = 256 * x + 16 * y + z from rfl, show (mkFr (256 * x + 16 * y + z) D).rtr = false from rfl, show (mkFr (256 * x + 16 * y + z) D).len = ((D.length : Nat) : Int) from rfl, head_of x0 x1 y0 y1 z0 z1, Int.toNat_natCast, hdat, hT]
              rfl
            · intro q hq
              have key : ∀ k, 0 ≤ D.getD k 0 ∧ D.getD k 0 ≤ 255 := by
                intro k
                by_cases hk : k < D.length
                · exact hF.at hk
                · rw [List.getD_eq_getElem?_getD, List.getElem?_eq_none (by omega)]; simp
              simp only [Fr.data, mkFr, List.mem_cons, List.not_mem_nil, or_false] at hq
              rcases hq with rfl | rfl | rfl | rfl | rfl | rfl | rfl | rfl <;> exact key _
        · rw [if_neg h3] at h; simp at h

theorem rparse_eq (l : List Int) : rparseV l = parseV l := by
  by_cases h : (parseV l).2 = 0
  · obtain ⟨hc, ht, hb, g4, g20⟩ := parse_sound h
    have hg : guess l = (parseV l).1 := by
      conv => lhs; rw [← ht]
      exact guess_text hb hc
    unfold rparseV
    rw [if_neg (by omega), hg, if_pos ⟨hc, ht⟩]
    exact Prod.ext rfl h.symm
  · rw [parse_bad h]
    unfold rparseV
    by_cases hl : l.length < 4 ∨ 20 < l.length
    · rw [if_pos hl]
    · rw [if_neg hl]
      by_cases hg : (guess l).chk = 0 ∧ (guess l).text = l
      · exfalso
        apply h
        have := parse_text (guess_byt l) hg.1
        rw [hg.2] at this
        rw [this]
      · rw [if_neg hg]

end Go.Proofs.Ytcahjmnkcdcbpaa
