/- Several texts in one. -/
import Derived.Test.YtjlhbgkmebinjaaPSeals
import Derived.Test.YtjlhbgkmebinjaaPure5
set_option linter.unusedSimpArgs false
set_option linter.unusedVariables false
set_option linter.unnecessarySimpa false
/- The reference's functions: contracts. -/
namespace Go.Proofs.Ytjlhbgkmebinjaa
open Go.RowKit Go.Proofs.YtjlhbgkmebinjaaW.PrintWords
open Go.Proofs.Ytjlhbgkmebinjaa.Pure (foldO nat fd ps remV wholeV ofV crc16V crc15V sumR md2)
attribute [local go_sem] max2_max min2_min max_of_two min_of_two

theorem power_any (n : Nat) (h : n ≤ 31) (w : World) : Calls Try.prog 32 #[.int .i64 (n : Int)] w fun e w' => e = .returned (.int .u32 ((2 ^ n : Nat) : Int)) ∧ Below w.heap.size w w' := by
  refine (PNum.tripwireref01_power.calls 40 n _ w (Pure.power_f n 40 (by omega) h)).mono ?_
  rintro e w' ⟨rfl, hd⟩
  exact ⟨rfl, hd.below⟩

theorem rplain_any (A : Option Addr) (bl o c n : Nat) (l : List Int) (w : World) (hl : Hid (Row8 w A bl o l)) (hc : l.length ≤ c) (hn : Hid (l.length = n)) (hsz : l.length ≤ 140737488355328) : Calls Try.prog 19 #[.slice A n c] w fun e w' => ∃ v, e = .returned v ∧ Own8 w' w.heap.size v (md2 l) ∧ Below w.heap.size w w' := by
  obtain rfl := hn.out
  refine (PPlain.tripwireref01_Plain.calls _ A c l _ w hl.out.toC hc (Pure.plain_f l hsz)).mono ?_
  rintro e w' ⟨v, rfl, hr, hb⟩
  exact ⟨v, rfl, .ofR hr, hb⟩

theorem rnoughts_any (n : Nat) (w : World) (h : n ≤ 140737488355328) : Calls Try.prog 30 #[.int .i64 (n : Int)] w fun e w' => ∃ v, e = .returned v ∧ Own8 w' w.heap.size v (List.replicate n 0) ∧ Below w.heap.size w w' := by
  refine (Pnoughts.tripwireref03_noughts.calls _ n _ w (Pure.noughts_f n h)).mono ?_
  rintro e w' ⟨v, rfl, hr, hb⟩
  exact ⟨v, rfl, .ofR hr, hb⟩

theorem rsame_any (A B : Option Addr) (bl o c bm om d n : Nat) (l m : List Int) (w : World) (hl : Hid (Row8 w A bl o l)) (hm : Hid (Row8 w B bm om m)) (h : l = m) (hc : l.length ≤ c) (hd : m.length ≤ d) (hn : Hid (l.length = n)) (hsz : l.length ≤ 140737488355328) : Calls Try.prog 22 #[.slice A n c, .slice B n d] w fun e w' => e = .returned (.bool true) ∧ Below w.heap.size w w' := by
  subst h
  obtain rfl := hn.out
  refine (PSame.tripwireref01_Same.calls _ A c l B d l _ w hl.out.toC hc hm.out.toC hd (Pure.same_f l l rfl hsz)).mono ?_
  rintro e w' ⟨rfl, hb⟩
  exact ⟨rfl, hb.below⟩

theorem rnum_any (A : Option Addr) (bl o c W r : Nat) (l : List Int) (w : World) (hl : Row8 w A bl o l) (hc : W ≤ c) (hn : l.length = W) (hW : W ≤ 31) (hr : r < 2 ^ W) (hg : ∀ i, i < W → l.getD i 0 = ((r / 2 ^ (W - 1 - i) % 2 : Nat) : Int)) : Calls Try.prog 34 #[.slice A W c] w fun e w' => e = .returned (.int .u32 (r : Int)) ∧ Below w.heap.size w w' := by
  obtain rfl := hn
  refine (PNum.tripwireref01_Num.calls 80 A c l _ w hl.toC hc (Pure.num_f l.length r l rfl hW hr hg)).mono ?_
  rintro e w' ⟨rfl, hb⟩
  exact ⟨rfl, hb.below⟩

set_option maxHeartbeats 2000000 in
/-- 'Of'. -/
theorem rof_any (n : Nat) (W : Int) (w : World) (hn : n < 4294967296) : Calls Try.prog 20 #[.int .u32 (n : Int), .int .i64 W] w fun e w' => ∃ v, e = .returned v ∧ Own8 w' w.heap.size v (ofV n W) ∧ Below w.heap.size w w' := by
  obtain ⟨M, hM⟩ : ∃ M, (min W 32).toNat = M := ⟨_, rfl⟩
  have hM32 : M ≤ 32 := by omega
  have HL : Hid ((ofV n W).length = M) := hid (by simp [ofV, Pure.ints_length, Pure.bitsW_len, hM])
  have HG : Hid (∀ i, i < M → (ofV n W).getD i 0 = ((n / 2 ^ (M - 1 - i) % 2 : Nat) : Int)) := hid (fun i hi => by unfold ofV; rw [Pure.ints_get, hM, Pure.bitsW_get _ _ _ hi])
  generalize ofV n W = l at *
  have HM := hid hM
  clear hM
  go_enter Try.func20, Try.ntmps20
  go_wp2_with fail
  have O0 := hid (own8_new w w.heap.size (Nat.le_refl _))
  have K0 := hid ((Below.refl w.heap.size w).alloc (Nat.le_refl _) (.cells #[] U8))
  go_loopg [5, 6] 32 (fun k v5 v6 wr => ∃ v, v5 = v ∧ v6 = .int .i64 ((k : Int) - 1) ∧ k ≤ 32 ∧ Hid (Own8 wr w.heap.size v (l.take (M - k))) ∧ Hid (Below w.heap.size w wr))
  case atStart => exact ⟨_, rfl, rfl, by omega, by rw [show M - 32 = 0 by omega, List.take_zero]; exact O0, K0⟩
  case round =>
    clear O0 K0
    obtain ⟨v, rfl, rfl, hk32, HO, HB⟩ := hrel
    cases gk with
    | zero =>
      rw [Nat.sub_zero, List.take_of_length_le (by have := HL.out; omega)] at HO
      go_wp2_with fail
      go_ret
      exact ⟨_, rfl, HO.out, HB.out⟩
    | succ k =>
      have e1 : ((k + 1 : Nat) : Int) - 1 = (k : Int) := by omega
      rw [e1]
      have hk0 : decide ((k : Int) ≥ 0) = true := by simp
      have hws : IntKind.i64.wrap ((k : Int) - 1) = (k : Int) - 1 := by rw [IntWalk.i64_in]; omega
      by_cases hkW : (k : Int) < W
      · have hlt : decide ((k : Int) < W) = true := by simpa using hkW
        have hp : 2 ^ k ≤ 2147483648 := Pure.pow31 (by omega)
        have hp0 := Nat.two_pow_pos k
        go_wp2_with fail
        refine (power_any k (by omega) _).mono ?_
        rintro e w1 ⟨rfl, k1⟩
        have HO1 := hid (HO.out.below (k1))
        have HB1 := hid (HB.out.trans (k1.mono HB.out.size))
        clear k1
        have hne : ¬ ((2 ^ k : Nat) : Int) = 0 := by omega
        have hlen : (l.take (M - (k + 1))).length + 1 ≤ 140737488355328 := by rw [List.length_take]; have := HL.out; omega
        have hnext : l.take (M - (k + 1)) ++ [(n : Int) / 2 ^ k % 2] = l.take (M - k) := by
          have hMW := HM.out
          have e2 : M - k = M - (k + 1) + 1 := by omega
          have hlt2 : M - (k + 1) < l.length := by have := HL.out; omega
          have hg := HG.out (M - (k + 1)) (by omega)
          rw [getD_at hlt2] at hg
          rw [e2, List.take_add_one, List.getElem?_eq_getElem hlt2, hg]
          have e3 : M - 1 - (M - (k + 1)) = k := by omega
          rw [e3]
          simp
        have HNX := hid hnext
        clear hnext
        go_wp2_with (first | (refine app8_one rfl (.tmp 15) (.tmp 22) rfl w.heap.size rfl rfl HO1.out hlen HB1.out.size ?_; intro v' w' o' k'; rw [HNX.out] at o'; have HO2 := hid o'; have HB2 := hid (HB1.out.trans k'); clear o' k'))
        go_roundg k
        case rel => exact ⟨_, rfl, rfl, by omega, HO2, HB2⟩
        case measure => omega
      · have hlt : decide ((k : Int) < W) = false := by simpa using hkW
        go_wp2_with fail
        go_roundg k
        case rel =>
          have hMk : M - (k + 1) = M - k := by have := HM.out; omega
          rw [hMk] at HO
          exact ⟨_, rfl, rfl, by omega, HO, HB⟩
        case measure => omega
end Go.Proofs.Ytjlhbgkmebinjaa

/- The reference's 'divisor' and 'add': contracts. -/
namespace Go.Proofs.Ytjlhbgkmebinjaa
open Go.RowKit Go.Proofs.YtjlhbgkmebinjaaW.PrintWords
open Go.Proofs.Ytjlhbgkmebinjaa.Pure (foldO nat fd ps remV wholeV ofV crc16V crc15V sumR md2)
attribute [local go_sem] max2_max min2_min max_of_two min_of_two

/-- '[]byte{x}'. -/
theorem own8_one (W : World) (base : Nat) (x : Int) (h : base ≤ W.heap.size) : Own8 (W.alloc (.cells #[.int .u8 x] U8)) base (.slice (some ⟨W.heap.size, 0, none⟩) 1 1) [x] :=
  ⟨rfl, .inr ⟨W.heap.size, 1, #[.int .u8 x], rfl, h, Blk.new W #[.int .u8 x] U8, Nat.le_refl _, by unfold maxLen; omega, rfl, rfl⟩⟩

set_option maxHeartbeats 1000000 in
theorem rdiv_any (L W : Nat) (w : World) (hL : L < 4294967296) (hW : 1 ≤ W) (hW2 : W ≤ 31) : Calls Try.prog 33 #[.int .i64 (W : Int), .int .u32 (L : Int)] w fun e w' => ∃ v, e = .returned v ∧ Own8 w' w.heap.size v (1 :: ofV L W) ∧ Below w.heap.size w w' := by
  have HL : Hid ((ofV L W).length = W) := hid (by simp [ofV, Pure.ints_length, Pure.bitsW_len]; omega)
  generalize hl : ofV L W = l at *
  have HO := hid hl
  clear hl
  have R0 := hid (Below.refl w.heap.size w)
  go_enter Try.func33, Try.ntmps33
  go_wp2_with fail
  have hK := hid ((Below.refl w.heap.size w).alloc (Nat.le_refl _) (.cells #[.int .u8 1] U8))
  have hO1 := own8_one w w.heap.size 1 (Nat.le_refl _)
  refine (rof_any L W _ hL).mono ?_
  rintro e w1 ⟨v, rfl, o1, k1⟩
  rw [HO.out] at o1
  obtain ⟨A, bl, o, c, rfl, hc, hr, _⟩ := o1.row
  have HR := hid hr
  have HO1 := hid (hO1.below k1)
  have HB := hid (hK.out.trans (k1.mono hK.out.size))
  obtain ⟨rfl, _⟩ := hr.2.1 (by have := HL.out; omega)
  clear hr k1 o1 hO1
  have hlen : ([1] : List Int).length + l.length ≤ 140737488355328 := by have := HL.out; simp; omega
  go_wp2_with (first | (refine app8_all (l := [1]) (m := l) (c := c) rfl (.tmp 5) (.tmp 8) rfl w.heap.size rfl rfl HO1.out HR.out.2.2 hlen HB.out.size ?_; intro v4 w4 o4 k4 _; have O4 := hid o4; have K4 := hid (HB.out.trans k4); clear o4 k4))
  go_ret
  exact ⟨_, rfl, O4.out, K4.out⟩

set_option maxRecDepth 100000 in
set_option maxHeartbeats 2000000 in
theorem radd_any (A B : Option Addr) (bl o c bm om d n : Nat) (l m : List Int) (w : World) (hl : Hid (Row8 w A bl o l)) (hm : Hid (Row8 w B bm om m)) (hn : Hid (l.length = n)) (hm2 : Hid (m.length = n)) (hc : n ≤ c) (hd : n ≤ d) (hsz : n ≤ 140737488355328) (hb : Hid (∀ x ∈ l, 0 ≤ x ∧ x ≤ 255)) (hbm : Hid (∀ x ∈ m, 0 ≤ x ∧ x ≤ 255)) : Calls Try.prog 31 #[.slice A n c, .slice B n d] w fun e w' => ∃ v, e = .returned v ∧ Own8 w' w.heap.size v (sumR l m) ∧ Below w.heap.size w w' := by
  have HSL : Hid ((sumR l m).length = n) := hid (by rw [Pure.sumR_len (by rw [hn.out, hm2.out])]; exact hn.out)
  have HSG := hid (fun i => Pure.sumR_get (l := l) (m := m) i (by rw [hn.out, hm2.out]))
  generalize sumR l m = S at *
  go_enter Try.func31, Try.ntmps31
  go_wp2_with fail
  refine (rplain_any A bl o c n l _ hl (by rw [hn.out]; exact hc) hn (by rw [hn.out]; exact hsz)).mono ?_
  rintro e w1 ⟨v, rfl, o1, k1⟩
  have HO := hid o1
  have HB := hid k1
  clear o1 k1
  have HMB := hid (hm.out.below HB.out)
  go_wp2_with fail
  obtain ⟨Av, _, _, cv, ev, _, _, _⟩ := HO.out.row
  rw [Pure.md2_len, hn.out] at ev
  subst ev
  have K0 := hid (Nat.le_refl n)
  go_loopg [6, 7] n (fun k v6 v7 wr => ∃ (i : Nat) (X : List Int), i + k = n ∧ v6 = .int .i64 i ∧ Hid (X.length = n ∧ ∀ j, X.getD j 0 = if j < i then S.getD j 0 else (md2 l).getD j 0) ∧ Hid (Own8 wr w.heap.size (.slice Av n cv) X) ∧ Hid (Below w.heap.size w wr))
  case atStart => exact ⟨0, md2 l, by omega, rfl, hid ⟨by rw [Pure.md2_len]; exact hn.out, fun j => by simp⟩, HO, HB⟩
  case round =>
    clear HO HB
    obtain ⟨i, X, hik, rfl, HX, HO, HB⟩ := hrel
    by_cases hlt : i < n
    · have d1 : decide ((i : Int) < (n : Int)) = true := by simpa using hlt
      obtain ⟨rfl, hbm'⟩ := hm.out.2.1 (by have := hm2.out; omega)
      have hcb : wr.cell? ⟨bm, om + i, none⟩ = some (.int .u8 (m.getD i 0)) := (HB.out.cell (p := ⟨bm, om + i, none⟩) hbm').trans (hm.out.2.2 i (by have := hm2.out; omega))
      have hXl := HX.out.1
      obtain ⟨g, c', e', hg1, hg2, hg3, hat⟩ := HO.out.at_ (by omega)
      obtain ⟨rfl, rfl⟩ : Av = some ⟨g, 0, none⟩ ∧ cv = c' := by
        simp only [Value.slice.injEq] at e'
        exact ⟨e'.1, e'.2.2⟩
      obtain ⟨cz, fz, sz⟩ := hat i (by omega)
      have hsi := HSG.out i
      have hxi : X.getD i 0 = (l.getD i 0).tmod 2 := by
        rw [HX.out.2, if_neg (by omega)]
        simp [md2, List.getD_eq_getElem?_getD, List.getElem?_map]
        rw [List.getElem?_eq_getElem (by have := hn.out; omega)]; simp
      rw [hxi] at cz
      rw [hXl] at hg3
      have SZ := hid (sz (S.getD i 0))
      have HX' : Hid ((X.set i (S.getD i 0)).length = n ∧ ∀ j, (X.set i (S.getD i 0)).getD j 0 = if j < i + 1 then S.getD j 0 else (md2 l).getD j 0) := by
        refine hid ⟨by rw [List.length_set]; exact HX.out.1, fun j => ?_⟩
        have h := HX.out.2 j
        rw [List.getD_eq_getElem?_getD] at h
        rw [List.getD_eq_getElem?_getD (l := X.set i _), List.getElem?_set]
        by_cases hj : i = j
        · subst hj
          rw [if_pos rfl, if_pos (by omega), if_pos (by omega)]
          rfl
        · rw [if_neg hj, h]
          by_cases h1 : j < i
          · rw [if_pos h1, if_pos (by omega)]
          · rw [if_neg h1, if_neg (by omega)]
      have hba := hb.out (l.getD i 0) (by rw [getD_at (by have := hn.out; omega)]; exact List.getElem_mem _)
      have hbb := hbm.out (m.getD i 0) (by rw [getD_at (by have := hm2.out; omega)]; exact List.getElem_mem _)
      generalize X.set i (S.getD i 0) = X' at *
      generalize S.getD i 0 = sv at *
      generalize l.getD i 0 = av at *
      generalize m.getD i 0 = bv at *
      have ta : av.tmod 2 = av % 2 := Int.tmod_eq_emod_of_nonneg hba.1
      have tb : bv.tmod 2 = bv % 2 := Int.tmod_eq_emod_of_nonneg hbb.1
      rw [ta] at cz
      have HSV := hid hsi
      clear hsi sz hat ta e' hxi hXl
      have k0 : (0 : Int) ≤ (i : Int) := by omega
      have k1 : (i : Int) < (n : Int) := by omega
      go_wp2_with fail
      go_region
      all_goals
        go_wp2_with fail
        go_roundg (gk - 1)
        case rel =>
          have he : (av + bv) % 2 = sv := by have := HSV.out; omega
          rw [he]
          exact ⟨i + 1, X', by omega, by go_num, HX', hid SZ.out.drew, hid (HB.out.setCell hg1 _).drew⟩
        case measure => omega
    · have d1 : decide ((i : Int) < (n : Int)) = false := by simp; omega
      have hXS : X = S := Pure.ext_getD (by rw [HX.out.1, HSL.out]) (fun j hj => by rw [HX.out.2 j, if_pos (by have := HX.out.1; omega)])
      subst hXS
      go_wp2_with fail
      go_ret
      exact ⟨_, rfl, HO.out, HB.out⟩

end Go.Proofs.Ytjlhbgkmebinjaa

/- The reference's 'Divide': contract. -/
namespace Go.Proofs.Ytjlhbgkmebinjaa
open Go.RowKit Go.Proofs.YtjlhbgkmebinjaaW.PrintWords
open Go.Proofs.Ytjlhbgkmebinjaa.Pure (foldO nat fd ps remV wholeV ofV crc16V crc15V sumR md2)
attribute [local go_sem] max2_max min2_min max_of_two min_of_two

/-- 'append(out, b...)', b nil or not. -/
theorem app8_row {ops : Array Oper} {rest : List Oper} {o : Oper} {a : Act} {Q : Exit → Act → World → Prop} {W : World} (hgd : o.guard = none) (s x : Operand)
    (ho : o.op = .call { callee := .builtin .append, args := #[s, x], argTypes := #[23, 23] }) (base : Nat) {v : Value} {l m : List Int} {A : Option Addr} {bl of c n : Nat} (hs : a.eval s = v) (hx : a.eval x = .slice A n c) (hn : m.length = n)
    (hown : Own8 W base v l) (hm : Row8 W A bl of m) (hlen : l.length + n ≤ 140737488355328) (hbase : base ≤ W.heap.size)
    (h : ∀ v' w', Own8 w' base v' (l ++ m) → Below base W w' → wpList Try.prog ops Q rest (a.put o.dst v') w') : wpList Try.prog ops Q (o :: rest) a W := by
  refine print_append_row (w0 := W) base hgd s x 23 U8 .u8 1 ho Try.underlying23 infoU8 (by omega) v l m A n c hs hx hown ⟨hn, by have := hm.1; omega, fun h0 => ⟨⟨bl, of, none⟩, (hm.2.1 (by omega)).1, fun i hi => ?_⟩⟩ (Below.refl _ _) hbase (by omega) (fun v1 w1 h1 h2 _ _ => h v1 w1 h1 h2)
  rw [Go.Proofs.Ytjlhbgkmebinjaa.add_plain]
  exact hm.2.2 i (by omega)

/-- The long division's rows. -/
def DivI (W L : Nat) (l : List Int) (i : Nat) (X : List Int) : Prop :=
  X.length = W + l.length ∧ (∀ j, i ≤ j → j < i + W → X.getD j 0 = (((nat (l.take i)).foldl (ps W L) 0 / 2 ^ (W - 1 - (j - i)) % 2 : Nat) : Int)) ∧ ∀ j, i + W ≤ j → j < W + l.length → X.getD j 0 = (l.getD (j - W) 0) % 2

theorem DivI.start (W L : Nat) (l : List Int) (hb : ∀ x ∈ l, 0 ≤ x ∧ x ≤ 255) : DivI W L l 0 (List.replicate W 0 ++ md2 l) := by
  refine ⟨by simp [Pure.md2_len], fun j _ hj => ?_, fun j hj hj2 => ?_⟩
  · rw [List.getD_eq_getElem?_getD, List.getElem?_append_left (by simp; omega), List.getElem?_replicate]
    simp [nat]
    split <;> rfl
  · rw [List.getD_eq_getElem?_getD, List.getElem?_append_right (by simp; omega)]
    have e : j - W < l.length := by omega
    simp [md2, List.getElem?_eq_getElem e, List.getD_eq_getElem?_getD]
    exact Int.tmod_eq_emod_of_nonneg (hb _ (List.getElem_mem e)).1

theorem nat_take_succ (l : List Int) (i : Nat) (h : i < l.length) : nat (l.take (i + 1)) = nat (l.take i) ++ [(l.getD i 0).toNat] := by
  rw [List.take_add_one, List.getElem?_eq_getElem h, getD_at h, Pure.nat_append]
  simp [nat]

theorem DivI.step {W L : Nat} {l X Y : List Int} {i : Nat} (hW : 1 ≤ W) (hL : L < 2 ^ W) (hb : ∀ x ∈ l, 0 ≤ x ∧ x ≤ 255) (h : DivI W L l i X) (hi : i < l.length) (hY : Y.length = X.length)
    (hYg : ∀ j, i < j → j < W + l.length → Y.getD j 0 = if X.getD i 0 = 1 ∧ j ≤ i + W then (X.getD j 0 + (L / 2 ^ (W - 1 - (j - i - 1)) % 2 : Nat)) % 2 else X.getD j 0) : DivI W L l (i + 1) Y := by
  obtain ⟨h1, h2, h3⟩ := h
  have hlb := hb (l.getD i 0) (by rw [getD_at hi]; exact List.getElem_mem hi)
  have hr : (nat (l.take (i + 1))).foldl (ps W L) 0 = ps W L ((nat (l.take i)).foldl (ps W L) 0) ((l.getD i 0).toNat % 2) := by
    rw [nat_take_succ l i hi, List.foldl_append]
    exact Pure.ps_mod W L _ (by omega)
  refine ⟨by omega, fun j hj1 hj2 => ?_, fun j hj1 hj2 => ?_⟩
  · rw [hr, hYg j (by omega) (by omega)]
    have e1 : j - (i + 1) = j - i - 1 := by omega
    have hwin := Pure.window W L ((nat (l.take i)).foldl (ps W L) 0) ((l.getD i 0).toNat % 2) (j - i - 1) hW (by omega) (by omega)
    have htop := h2 i (by omega) (by omega)
    rw [Nat.sub_self, Nat.sub_zero] at htop
    rw [e1, hwin]
    have hx : X.getD j 0 = ((if j - i - 1 + 1 < W then (nat (l.take i)).foldl (ps W L) 0 / 2 ^ (W - 1 - (j - i - 1 + 1)) % 2 else (l.getD i 0).toNat % 2 : Nat) : Int) := by
      by_cases hc : j - i - 1 + 1 < W
      · rw [if_pos hc, h2 j (by omega) (by omega)]
        have : j - i - 1 + 1 = j - i := by omega
        rw [this]
      · rw [if_neg hc, h3 j (by omega) (by omega)]
        have : j - W = i := by omega
        rw [this]
        omega
    have hx2 : (if j - i - 1 + 1 < W then (nat (l.take i)).foldl (ps W L) 0 / 2 ^ (W - 1 - (j - i - 1 + 1)) % 2 else (l.getD i 0).toNat % 2 : Nat) < 2 := by split <;> omega
    rw [hx]
    generalize (if j - i - 1 + 1 < W then (nat (l.take i)).foldl (ps W L) 0 / 2 ^ (W - 1 - (j - i - 1 + 1)) % 2 else (l.getD i 0).toNat % 2 : Nat) = q at *
    rw [htop]
    generalize (nat (l.take i)).foldl (ps W L) 0 / 2 ^ (W - 1) % 2 = t at *
    generalize L / 2 ^ (W - 1 - (j - i - 1)) % 2 = y at *
    by_cases ht : t = 1
    · rw [if_pos ⟨by omega, by omega⟩, if_pos ht]; omega
    · rw [if_neg (by omega), if_neg ht]; omega
  · rw [hYg j (by omega) (by omega), if_neg (by omega)]
    exact h3 j (by omega) hj2

theorem divisor_get (L W : Nat) (hW : W ≤ 31) (k : Nat) (hk : k ≤ W) : (1 :: ofV L W).getD k 0 = if k = 0 then 1 else ((L / 2 ^ (W - 1 - (k - 1)) % 2 : Nat) : Int) := by
  cases k with
  | zero => simp
  | succ k =>
    rw [if_neg (by omega)]
    have e : (1 :: ofV L W).getD (k + 1) 0 = (ofV L W).getD k 0 := by simp [List.getD_eq_getElem?_getD]
    rw [e]
    unfold ofV
    have e2 : (min (W : Int) 32).toNat = W := by omega
    rw [Pure.ints_get, e2, Pure.bitsW_get _ _ _ (by omega)]
    simp


set_option maxRecDepth 100000 in
set_option maxHeartbeats 4000000 in
theorem rdivide_any (L W : Nat) (A : Option Addr) (bl o c n : Nat) (l : List Int) (w : World) (hL : L < 2 ^ W) (hW : 1 ≤ W) (hW2 : W ≤ 31) (hl : Hid (Row8 w A bl o l)) (hn : Hid (l.length = n)) (hc : n ≤ c) (hsz : n ≤ 100000000) (hb : Hid (∀ x ∈ l, 0 ≤ x ∧ x ≤ 255)) :
    Calls Try.prog 21 #[.int .i64 (W : Int), .int .u32 (L : Int), .slice A n c] w fun e w' => e = .returned (.int .u32 (((nat l).foldl (ps W L) 0 : Nat) : Int)) ∧ Below w.heap.size w w' := by
  have hp31 := Pure.pow31 hW2
  have HDG := hid (divisor_get L W hW2)
  have HDL : Hid ((1 :: ofV L W).length = W + 1) := hid (by simp [ofV, Pure.ints_length, Pure.bitsW_len]; omega)
  go_enter Try.func21, Try.ntmps21
  go_wp2_with fail
  refine (rdiv_any L W w (by omega) hW hW2).mono ?_
  rintro e w1 ⟨vd, rfl, o1, k1⟩
  obtain ⟨D, bd, od, cd, rfl, hcd, hrd, _⟩ := o1.row
  rw [HDL.out] at hcd ⊢
  generalize hdd : 1 :: ofV L W = dv at *
  have HD := hid hrd
  have HB1 := hid k1
  clear o1 k1 hrd hdd
  have hWd : (W : Int) + 1 ≤ (cd : Int) := by omega
  go_wp2_with fail
  have O0 := hid (own8_new w1 w1.heap.size (Nat.le_refl _))
  have K0 := hid ((Below.refl w1.heap.size w1).alloc (Nat.le_refl _) (.cells #[] U8))
  go_loopg [8, 9] W (fun k v8 v9 wr => ∃ i : Nat, i + k = W ∧ v9 = .int .i64 i ∧ Hid (Own8 wr w1.heap.size v8 (List.replicate i 0)) ∧ Hid (Below w1.heap.size w1 wr))
  case atStart => exact ⟨0, by omega, rfl, O0, K0⟩
  case round =>
    clear O0 K0
    obtain ⟨i, hik, rfl, HO, HB⟩ := hrel
    by_cases hlt : i < W
    · have d1 : decide ((i : Int) < (W : Int)) = true := by simpa using hlt
      have hlen : (List.replicate i (0 : Int)).length + 1 ≤ 140737488355328 := by simp; omega
      have hnx : List.replicate i (0 : Int) ++ [0] = List.replicate (i + 1) 0 := by simp [List.replicate_succ']
      have HNX := hid hnx
      clear hnx
      go_wp2_with (first | (refine app8_one rfl (.tmp 21) (.tmp 22) rfl w1.heap.size rfl rfl HO.out hlen HB.out.size ?_; intro v' w' o' k'; rw [HNX.out] at o'; have HO2 := hid o'; have HB2 := hid (HB.out.trans k'); clear o' k'))
      go_roundg (gk - 1)
      case rel => exact ⟨i + 1, by omega, by go_num, HO2, HB2⟩
      case measure => omega
    · have d1 : decide ((i : Int) < (W : Int)) = false := by simpa using hlt
      obtain rfl : W = i := by omega
      have HBW := hid (HB1.out.trans (HB.out.mono HB1.out.size))
      have HLr := hid (hl.out.below HBW.out)
      have HDr := hid (HD.out.below HB.out)
      go_wp2_with fail
      refine (rplain_any A bl o c n l _ HLr (by rw [hn.out]; exact hc) hn (by rw [hn.out]; omega)).mono ?_
      rintro e w2 ⟨v, rfl, o2, k2⟩
      obtain ⟨Ap, bp, op, cp, rfl, _, hrp, _⟩ := o2.row
      rw [Pure.md2_len, hn.out]
      have HRP := hid hrp
      have HO2 := hid (HO.out.below k2)
      have HB2 := hid (HB.out.trans (k2.mono HB.out.size))
      have HD2 := hid (HDr.out.below k2)
      clear o2 k2 hrp HO HB HDr HBW HLr
      have hlen : (List.replicate W (0 : Int)).length + n ≤ 140737488355328 := by simp; omega
      have hmn : (md2 l).length = n := by rw [Pure.md2_len]; exact hn.out
      go_wp2_with (first | (refine app8_row rfl (.tmp 24) (.tmp 26) rfl w1.heap.size rfl rfl hmn HO2.out HRP.out hlen HB2.out.size ?_; intro v' w' o' k'; have HO3 := hid o'; have HB3 := hid (HB2.out.trans k'); have HK3 := hid k'; clear o' k'))
      clear HO2 HB2 HRP hlen hmn
      obtain ⟨N, hN⟩ : ∃ N, N = W + n := ⟨_, rfl⟩
      have hX0 : (List.replicate W (0 : Int) ++ md2 l).length = N := by rw [List.length_append, List.length_replicate, Pure.md2_len, hn.out]; exact hN.symm
      have HI0 := hid (DivI.start W L l hb.out)
      generalize List.replicate W (0 : Int) ++ md2 l = X0 at *
      obtain ⟨g, cv, rfl, hg1, hg2, hg3, _⟩ := HO3.out.at_ (by omega)
      rw [hX0] at hg3 HO3
      rw [hX0]
      obtain ⟨rfl, hbd⟩ := HD.out.2.1 (by have := HDL.out; omega)
      have hwN : IntKind.i64.wrap ((N : Int) - (W : Int)) = (n : Int) := by rw [IntWalk.i64_in] <;> omega
      obtain ⟨i0, hi, hz0, hz1, hz2⟩ := info_parts infoU8
      have hcut := hid (cut_from (P := Try.prog) 23 5 .i64 Try.underlying23 hi _ hz1 (some ⟨g, 0, none⟩) N cv n (by omega) (by omega))
      have hN1 : N ≤ W + n := by omega
      have hN2 : W + n ≤ N := by omega
      clear hX0 HD2 HK3 hi hz0 hz1 hz2 hN
      go_loopg [10, 11] n (fun k v10 v11 wx => ∃ (i : Nat) (X : List Int), i + k = n ∧ v10 = .int .i64 i ∧ Hid (DivI W L l i X) ∧ Hid (Own8 wx w1.heap.size (.slice (some ⟨g, 0, none⟩) N cv) X) ∧ Hid (Below w1.heap.size w1 wx))
      case atStart => exact ⟨0, X0, by omega, rfl, HI0, HO3, HB3⟩
      case round =>
        clear HI0 HO3 HB3
        obtain ⟨i, X, hik2, rfl, HI, HO, HB⟩ := hrel
        have hXl : X.length = N := by rw [HI.out.1, hn.out]; omega
        have hws : IntKind.i64.wrap ((i : Int) + (W : Int)) = ((i + W : Nat) : Int) := by rw [IntWalk.i64_in] <;> omega
        by_cases hlt2 : i < n
        · have d2 : decide (((i + W : Nat) : Int) < (N : Int)) = true := by simp; omega
          have hbit : ∀ j, i ≤ j → j < N → X.getD j 0 = 0 ∨ X.getD j 0 = 1 := by
            intro j h1 h2
            by_cases h3 : j < i + W
            · rw [HI.out.2.1 j h1 h3]; omega
            · rw [HI.out.2.2 j (by omega) (by rw [hn.out]; omega)]; omega
          have HBIT := hid hbit
          obtain ⟨g', c', e', _, hgr, _, hat⟩ := HO.out.at_ (by omega)
          obtain ⟨rfl, _⟩ : g = g' ∧ True := by
            simp only [Value.slice.injEq, Option.some.injEq, Addr.mk.injEq] at e'
            exact ⟨e'.1.1, trivial⟩
          obtain ⟨cz, fz, sz⟩ := hat i (by omega)
          clear hat e' sz hbit
          have k0 : (0 : Int) ≤ (i : Int) := by omega
          have k1 : (i : Int) < (N : Int) := by omega
          have hnext : ∀ Y : List Int, Y.length = X.length → (∀ j, i < j → j < W + l.length → Y.getD j 0 = if X.getD i 0 = 1 ∧ j ≤ i + W then (X.getD j 0 + (L / 2 ^ (W - 1 - (j - i - 1)) % 2 : Nat)) % 2 else X.getD j 0) → DivI W L l (i + 1) Y :=
            fun Y h1 h2 => DivI.step hW hL hb.out HI.out (by rw [hn.out]; exact hlt2) h1 h2
          have HNX := hid hnext
          clear hnext
          obtain ⟨xi, hxi⟩ : ∃ xi, X.getD i 0 = xi := ⟨_, rfl⟩
          rw [hxi] at cz HNX
          have HXi := hid hxi
          clear hxi
          by_cases hx1 : xi = 1
          · subst hx1
            have hd : ∀ q, q ≤ W → dv.getD q 0 = 0 ∨ dv.getD q 0 = 1 := by
              intro q hq
              rw [HDG.out q hq]
              split
              · exact .inr rfl
              · omega
            have HDV := hid hd
            clear hd
            go_wp2_with fail
            go_loopg [11] (W + 1) (fun k v11 wy => ∃ (q : Nat) (Y : List Int), q + k = W + 1 ∧ v11 = .int .i64 q ∧ Hid (Y.length = N ∧ ∀ j, Y.getD j 0 = if i ≤ j ∧ j < i + q then (X.getD j 0 + dv.getD (j - i) 0) % 2 else X.getD j 0) ∧ Hid (Own8 wy w1.heap.size (.slice (some ⟨g, 0, none⟩) N cv) Y) ∧ Hid (Below w1.heap.size w1 wy))
            case atStart => exact ⟨0, X, by omega, rfl, hid ⟨hXl, fun j => by rw [if_neg (by omega)]⟩, HO, HB⟩
            case round =>
              clear HO HB
              obtain ⟨q, Y, hqk, rfl, HY, HO, HB⟩ := hrel
              by_cases hlt3 : q ≤ W
              · have d4 : decide ((q : Int) ≤ (W : Int)) = true := by simpa using hlt3
                have hYl := HY.out.1
                obtain ⟨g', c', e', _, hgr, _, hat⟩ := HO.out.at_ (by omega)
                obtain ⟨rfl, _⟩ : g = g' ∧ True := by
                  simp only [Value.slice.injEq, Option.some.injEq, Addr.mk.injEq] at e'
                  exact ⟨e'.1.1, trivial⟩
                obtain ⟨cz, fz, sz⟩ := hat (i + q) (by omega)
                have hyi : Y.getD (i + q) 0 = X.getD (i + q) 0 := by rw [HY.out.2, if_neg (by omega)]
                rw [hyi] at cz
                have hcd' : wr.cell? ⟨bd, od + q, none⟩ = some (.int .u8 (dv.getD q 0)) := (HB.out.cell (p := ⟨bd, od + q, none⟩) hbd).trans (HD.out.2.2 q (by have := HDL.out; omega))
                have SZ := hid (sz ((X.getD (i + q) 0 + dv.getD q 0) % 2))
                have HY' : Hid ((Y.set (i + q) ((X.getD (i + q) 0 + dv.getD q 0) % 2)).length = N ∧ ∀ j, (Y.set (i + q) ((X.getD (i + q) 0 + dv.getD q 0) % 2)).getD j 0 = if i ≤ j ∧ j < i + (q + 1) then (X.getD j 0 + dv.getD (j - i) 0) % 2 else X.getD j 0) := by
                  refine hid ⟨by rw [List.length_set]; exact hYl, fun j => ?_⟩
                  have h := HY.out.2 j
                  rw [List.getD_eq_getElem?_getD] at h
                  rw [List.getD_eq_getElem?_getD (l := Y.set (i + q) _), List.getElem?_set]
                  by_cases hj : i + q = j
                  · subst hj
                    rw [if_pos rfl, if_pos (by omega), if_pos (by omega), Nat.add_sub_cancel_left]
                    rfl
                  · rw [if_neg hj, h]
                    by_cases h1 : i ≤ j ∧ j < i + q
                    · rw [if_pos h1, if_pos (by omega)]
                    · rw [if_neg h1, if_neg (by omega)]
                have hbx := HBIT.out (i + q) (by omega) (by omega)
                have hbd2 := HDV.out q hlt3
                generalize Y.set (i + q) ((X.getD (i + q) 0 + dv.getD q 0) % 2) = Y' at *
                generalize X.getD (i + q) 0 = xv at *
                generalize dv.getD q 0 = dq at *
                clear sz hat e' hyi hYl
                have g0 : (0 : Int) ≤ (i : Int) + (q : Int) := by omega
                have g1 : (i : Int) + (q : Int) < (N : Int) := by omega
                have g2 : (q : Int) < (W : Int) + 1 := by omega
                have hwq : IntKind.i64.wrap ((i : Int) + (q : Int)) = ((i + q : Nat) : Int) := by rw [IntWalk.i64_in] <;> omega
                go_wp2_with fail
                go_region
                all_goals
                  go_wp2_with fail
                  go_roundg (gk - 1)
                  case rel =>
                    exact ⟨q + 1, Y', by omega, by go_num, HY', hid SZ.out.drew, hid (HB.out.setCell hg1 _).drew⟩
                  case measure => omega
              · have d4 : decide ((q : Int) ≤ (W : Int)) = false := by simp; omega
                obtain rfl : q = W + 1 := by omega
                go_wp2_with fail
                go_roundg (n - i - 1)
                case rel =>
                  refine ⟨i + 1, Y, by omega, by go_num, hid (HNX.out Y (by rw [HY.out.1, hXl]) (fun j h1 h2 => ?_)), HO, HB⟩
                  rw [HY.out.2 j]
                  by_cases h3 : j ≤ i + W
                  · rw [if_pos ⟨by omega, by omega⟩, if_pos (by refine ⟨?_, h3⟩; first | rfl | trivial), HDG.out (j - i) (by omega), if_neg (by omega)]
                  · rw [if_neg (by omega), if_neg (fun h => h3 h.2)]
                case measure => omega
          · have d3 : (xi == 1) = false := beq_false_of_ne hx1
            go_wp2_with fail
            go_roundg (gk - 1)
            case rel => exact ⟨i + 1, X, by omega, by go_num, hid (HNX.out X rfl (fun j _ _ => by rw [if_neg (fun h => hx1 h.1)])), HO, HB⟩
            case measure => omega
        · have d2 : decide (((i + W : Nat) : Int) < (N : Int)) = false := by simp; omega
          obtain rfl : n = i := by omega
          go_wp2_with fail
          obtain ⟨A5, b5, o5, c5, e5, _, r5, _⟩ := HO.out.row
          obtain ⟨e1, e2⟩ : (some ⟨g, 0, none⟩ : Option Addr) = A5 ∧ cv = c5 := by
            simp only [Value.slice.injEq] at e5
            exact ⟨e5.1, e5.2.2⟩
          subst e1 e2
          have hrow := r5.drop n
          obtain ⟨e6, _⟩ := r5.2.1 (by omega)
          simp only [Option.some.injEq, Addr.mk.injEq] at e6
          obtain ⟨rfl, rfl, _⟩ := e6
          rw [Nat.zero_add] at hrow
          have hreg := Pure.fold_lt (f := ps W L) (N := 2 ^ W) (fun r b => Pure.ps_lt hW hL) (nat l) 0 (Nat.two_pow_pos _)
          have hgets : ∀ j, j < W → (X.drop n).getD j 0 = (((nat l).foldl (ps W L) 0 / 2 ^ (W - 1 - j) % 2 : Nat) : Int) := by
            intro j hj
            have h := HI.out.2.1 (n + j) (by omega) (by omega)
            rw [List.take_of_length_le (by rw [hn.out]; omega), Nat.add_sub_cancel_left] at h
            rw [List.getD_eq_getElem?_getD, List.getElem?_drop, ← List.getD_eq_getElem?_getD]
            exact h
          have hdl : (X.drop n).length = W := by rw [List.length_drop]; omega
          have hcap : W ≤ cv - n := by omega
          generalize hRR : List.foldl (ps W L) 0 (nat l) = R at hreg hgets
          have hcall := rnum_any (some ⟨g, n, none⟩) g n (cv - n) W R (X.drop n) wr hrow hcap hdl hW2 hreg hgets
          have hNn : N - n = W := by omega
          rw [hNn]
          (with_reducible refine hcall.mono ?_)
          rintro e w6 ⟨rfl, k6⟩
          have K6 := hid (HB1.out.trans ((HB.out.trans (k6.mono HB.out.size)).mono HB1.out.size))
          clear k6
          go_wp2_with fail
          go_ret
          exact ⟨by rw [hRR]; rfl, K6.out⟩
end Go.Proofs.Ytjlhbgkmebinjaa

/- The reference's 'Rem', 'Bits', 'Crc15', 'Crc16': contracts. -/
namespace Go.Proofs.Ytjlhbgkmebinjaa
open Go.RowKit Go.Proofs.YtjlhbgkmebinjaaW.PrintWords
open Go.Proofs.Ytjlhbgkmebinjaa.Pure (foldO nat fd ps remV wholeV ofV crc16V crc15V sumR md2)
attribute [local go_sem] max2_max min2_min max_of_two min_of_two

theorem md2_bytes (l : List Int) (hb : ∀ x ∈ l, 0 ≤ x ∧ x ≤ 255) : ∀ x ∈ md2 l, 0 ≤ x ∧ x ≤ 255 := by
  intro x hx
  simp only [md2, List.mem_map] at hx
  obtain ⟨y, hy, rfl⟩ := hx
  have := hb y hy
  rw [Int.tmod_eq_emod_of_nonneg this.1]; omega
theorem of_bytes (n : Nat) (W : Int) : ∀ x ∈ ofV n W, 0 ≤ x ∧ x ≤ 255 := by
  intro x h
  simp only [ofV, Pure.ints, Pure.bitsW, List.mem_map] at h
  obtain ⟨y, ⟨j, _, rfl⟩, rfl⟩ := h
  have : n / 2 ^ ((min W 32).toNat - 1 - j) % 2 < 2 := Nat.mod_lt _ (by omega)
  simp only [Int.ofNat_eq_natCast]
  omega
theorem zeros_bytes (n : Nat) : ∀ x ∈ List.replicate n (0 : Int), 0 ≤ x ∧ x ≤ 255 := by
  intro x hx
  have := List.eq_of_mem_replicate hx
  omega

/-- The reference's sum of the row and the start, divided, is the program's 'Rem'. -/
theorem rem_sum (W L s : Nat) (l : List Int) (hW : 1 ≤ W) (hW2 : W ≤ 31) (hL : L < 2 ^ W) (hb : ∀ x ∈ l, 0 ≤ x ∧ x ≤ 255) :
    (nat (sumR (md2 l ++ List.replicate W 0) (ofV s W ++ List.replicate l.length 0))).foldl (ps W L) 0 = (nat l).foldl (fd W L) (s % 2 ^ W) := by
  have hof : (ofV s W).length = W := by simp [ofV, Pure.ints_length, Pure.bitsW_len]; omega
  rw [Pure.feed_is_whole W L hW hL (nat l) (s % 2 ^ W) (Nat.mod_lt _ (Nat.two_pow_pos _))]
  have hlen : (md2 l ++ List.replicate W 0).length = (ofV s W ++ List.replicate l.length 0).length := by
    rw [List.length_append, List.length_append, Pure.md2_len, hof, List.length_replicate, List.length_replicate]; omega
  refine Pure.fold_ps_like W L 0 ⟨?_, fun i => ?_⟩
  · simp only [nat, List.length_map]
    rw [Pure.sumR_len hlen, Pure.both_len, List.length_append, Pure.md2_len, List.length_replicate]
    simp [nat]
  · have g1 : (md2 l ++ List.replicate W (0 : Int)).getD i 0 = if i < l.length then (l.getD i 0).tmod 2 else 0 := by
      rw [List.getD_eq_getElem?_getD]
      by_cases h : i < l.length
      · rw [if_pos h, List.getElem?_append_left (by rw [Pure.md2_len]; exact h)]
        simp [md2, h, List.getD_eq_getElem?_getD]
      · rw [if_neg h, List.getElem?_append_right (by rw [Pure.md2_len]; omega), List.getElem?_replicate]
        split <;> rfl
    have g2 : (ofV s W ++ List.replicate l.length (0 : Int)).getD i 0 = if i < W then ((s / 2 ^ (W - 1 - i) % 2 : Nat) : Int) else 0 := by
      rw [List.getD_eq_getElem?_getD]
      by_cases h : i < W
      · have e2 : (min (W : Int) 32).toNat = W := by omega
        rw [if_pos h, List.getElem?_append_left (by omega), ← List.getD_eq_getElem?_getD]
        unfold ofV
        rw [Pure.ints_get, e2, Pure.bitsW_get _ _ _ h]
      · rw [if_neg h, List.getElem?_append_right (by omega), List.getElem?_replicate]
        split <;> rfl
    rw [Pure.nat_get, Pure.sumR_get i hlen, g1, g2]
    by_cases hi : i < (nat l).length + W
    · rw [Pure.both_get _ _ _ _ hi, Pure.nat_get]
      have hx : 0 ≤ l.getD i 0 ∧ l.getD i 0 ≤ 255 := by
        by_cases h : i < l.length
        · exact hb _ (by rw [getD_at h]; exact List.getElem_mem h)
        · rw [List.getD_eq_getElem?_getD, List.getElem?_eq_none (by omega)]; simp
      have hx0 : ¬ i < l.length → l.getD i 0 = 0 := by
        intro h
        rw [List.getD_eq_getElem?_getD, List.getElem?_eq_none (by omega)]; rfl
      have hbw : (Pure.bitsW W (s % 2 ^ W)).getD i 0 = if i < W then s / 2 ^ (W - 1 - i) % 2 else 0 := by
        by_cases h : i < W
        · rw [if_pos h, Pure.bitsW_get _ _ _ h]
          have e : W = (W - 1 - i) + (i + 1) := by omega
          generalize hp : W - 1 - i = p at *
          rw [e, Nat.pow_add, Nat.mod_mul_right_div_self, Nat.pow_succ, Nat.mul_comm (2 ^ i) 2, Nat.mod_mul_right_mod]
        · rw [if_neg h]; exact Pure.bitsW_far _ _ _ (by omega)
      rw [hbw]
      have ht : (l.getD i 0).tmod 2 = l.getD i 0 % 2 := Int.tmod_eq_emod_of_nonneg hx.1
      rw [ht]
      by_cases h1 : i < l.length
      · rw [if_pos h1]
        split <;> omega
      · rw [if_neg h1, hx0 h1]
        split <;> omega
    · rw [Pure.getD_far (l := Pure.both W (s % 2 ^ W) (nat l)) (by rw [Pure.both_len]; omega)]
      have h2 : ¬ i < l.length := by simp [nat] at hi; omega
      have h3 : ¬ i < W := by omega
      rw [if_neg h2, if_neg h3]
      simp

/-- Many bytes' bits, one after another. -/
def bitsV (l : List Int) : List Int := l.flatMap fun c => ofV c.toNat 8
theorem bitsV_len (l : List Int) : (bitsV l).length = 8 * l.length := by
  induction l with
  | nil => rfl
  | cons a l ih =>
    have : bitsV (a :: l) = ofV a.toNat 8 ++ bitsV l := rfl
    rw [this, List.length_append, ih]
    simp [ofV, Pure.ints_length, Pure.bitsW_len]; omega
theorem bitsV_snoc (l : List Int) (x : Int) : bitsV (l ++ [x]) = bitsV l ++ ofV x.toNat 8 := by simp [bitsV]
theorem bitsV_bytes (l : List Int) : ∀ x ∈ bitsV l, 0 ≤ x ∧ x ≤ 255 := by
  intro x hx
  obtain ⟨c, _, h⟩ := List.mem_flatMap.1 hx
  exact of_bytes _ _ x h
theorem crc16_bits (l : List Int) : ∀ r : Int, 0 ≤ r → r < 65536 → l.foldl (fun r c => remV 16 4129 r (ofV c.toNat 8)) r = remV 16 4129 r (bitsV l) := by
  induction l with
  | nil =>
    intro r h0 h1
    have hm : Pure.mayP 16 4129 = true := by decide
    simp only [List.foldl_nil, remV, hm, if_true, bitsV, List.flatMap_nil, nat, List.map_nil]
    have : (16 : Int).toNat = 16 := rfl
    rw [this]; omega
  | cons a l ih =>
    intro r h0 h1
    have hbnd : ∀ s m, 0 ≤ remV 16 4129 s m ∧ remV 16 4129 s m < 65536 := by
      intro s m
      unfold remV
      split
      · have := Pure.fold_lt (f := fd (16 : Int).toNat (4129 : Int).toNat) (N := 65536) (fun r b => Pure.fd_lt (W := 16) (L := 4129) (by decide)) (nat m) (s.toNat % 2 ^ (16 : Int).toNat) (Nat.mod_lt _ (by decide))
        omega
      · omega
    rw [List.foldl_cons, ih _ (hbnd _ _).1 (hbnd _ _).2]
    have : bitsV (a :: l) = ofV a.toNat 8 ++ bitsV l := rfl
    rw [this, Pure.remV_append _ _ _ _ _ h0]
theorem crc16_is (l : List Int) : crc16V l = remV 16 4129 0 (bitsV l) := crc16_bits l 0 (by omega) (by omega)


set_option maxHeartbeats 2000000 in
theorem rrem_any (W L s : Nat) (A : Option Addr) (bl o c n : Nat) (l : List Int) (w : World) (hL : L < 2 ^ W) (hW : 1 ≤ W) (hW2 : W ≤ 31) (hs : s < 4294967296) (hl : Hid (Row8 w A bl o l)) (hn : Hid (l.length = n)) (hc : n ≤ c) (hsz : n ≤ 10000000) (hb : Hid (∀ x ∈ l, 0 ≤ x ∧ x ≤ 255)) :
    Calls Try.prog 18 #[.int .i64 (W : Int), .int .u32 (L : Int), .int .u32 (s : Int), .slice A n c] w fun e w' => e = .returned (.int .u32 (((nat l).foldl (fd W L) (s % 2 ^ W) : Nat) : Int)) ∧ Below w.heap.size w w' := by
  have HSUM := hid (rem_sum W L s l hW hW2 hL hb.out)
  have hof : (ofV s W).length = W := by simp [ofV, Pure.ints_length, Pure.bitsW_len]; omega
  have HOF := hid hof
  clear hof
  go_enter Try.func18, Try.ntmps18
  go_wp2_with fail
  refine (rplain_any A bl o c n l _ hl (by rw [hn.out]; exact hc) hn (by rw [hn.out]; omega)).mono ?_
  rintro e w1 ⟨v1, rfl, o1, k1⟩
  have HB1 := hid k1
  have HO1 := hid o1
  clear k1 o1
  go_wp2_with fail
  refine (rnoughts_any W _ (by omega)).mono ?_
  rintro e w2 ⟨v2, rfl, o2, k2⟩
  obtain ⟨A2, b2, o2', c2, rfl, _, r2, _⟩ := o2.row
  rw [List.length_replicate]
  have HR2 := hid r2
  have HB2 := hid (HB1.out.trans (k2.mono HB1.out.size))
  have HO2 := hid (HO1.out.below k2)
  clear k2 o2 r2 HO1
  have hlen : (md2 l).length + W ≤ 140737488355328 := by rw [Pure.md2_len, hn.out]; omega
  have hrl : (List.replicate W (0 : Int)).length = W := List.length_replicate
  go_wp2_with (first | (refine app8_row rfl (.tmp 12) (.tmp 14) rfl w.heap.size rfl rfl hrl HO2.out HR2.out hlen HB2.out.size ?_; intro v3 w3 o3 k3; have HO3 := hid o3; have HB3 := hid (HB2.out.trans k3); clear o3 k3))
  clear hlen hrl HO2 HR2 HB2
  refine (rof_any s W _ hs).mono ?_
  rintro e w4 ⟨v4, rfl, o4, k4⟩
  have HO4 := hid o4
  have H34 := hid k4
  clear k4 o4
  go_wp2_with fail
  refine (rnoughts_any n _ (by omega)).mono ?_
  rintro e w5 ⟨v5, rfl, o5, k5⟩
  obtain ⟨A5, b5, o5', c5, rfl, _, r5, _⟩ := o5.row
  rw [List.length_replicate]
  have HR5 := hid r5
  have H35 := hid (H34.out.trans (k5.mono H34.out.size))
  have HO5 := hid (HO4.out.below k5)
  have hrl : (List.replicate n (0 : Int)).length = n := List.length_replicate
  have hlen : (ofV s W).length + n ≤ 140737488355328 := by rw [HOF.out]; omega
  have hsz3 : w3.heap.size ≤ w5.heap.size := H35.out.size
  clear k5 o5 r5 HO4 H34
  go_wp2_with (first | (refine app8_row rfl (.tmp 18) (.tmp 21) rfl w3.heap.size rfl rfl hrl HO5.out HR5.out hlen hsz3 ?_; intro v6 w6 o6 k6; have HO6 := hid o6; have H36 := hid (H35.out.trans k6); clear o6 k6))
  have HO3' := hid (HO3.out.below H36.out)
  have HB6 := hid (HB3.out.trans (H36.out.mono HB3.out.size))
  obtain ⟨A7, b7, o7, c7, rfl, hc7, r7, _⟩ := HO3'.out.row
  obtain ⟨A8, b8, o8, c8, rfl, hc8, r8, _⟩ := HO6.out.row
  have hl7 : (md2 l ++ List.replicate W (0 : Int)).length = n + W := by rw [List.length_append, Pure.md2_len, hn.out, List.length_replicate]
  have hl8 : (ofV s W ++ List.replicate n (0 : Int)).length = n + W := by rw [List.length_append, HOF.out, List.length_replicate, Nat.add_comm]
  have hy7 : ∀ x ∈ md2 l ++ List.replicate W (0 : Int), 0 ≤ x ∧ x ≤ 255 := by
    intro x hx
    rcases List.mem_append.1 hx with h | h
    · exact md2_bytes l hb.out x h
    · exact zeros_bytes W x h
  have hy8 : ∀ x ∈ ofV s W ++ List.replicate n (0 : Int), 0 ≤ x ∧ x ≤ 255 := by
    intro x hx
    rcases List.mem_append.1 hx with h | h
    · exact of_bytes s W x h
    · exact zeros_bytes n x h
  rw [hn.out] at HSUM
  obtain ⟨N, hN⟩ : ∃ N, n + W = N := ⟨_, rfl⟩
  rw [hN] at hl7 hl8
  rw [hl7] at hc7 ⊢
  rw [hl8] at hc8 ⊢
  have hNs : N ≤ 140737488355328 := by omega
  have hNd : N ≤ 100000000 := by omega
  have hsl : Hid ((sumR (md2 l ++ List.replicate W 0) (ofV s W ++ List.replicate n 0)).length = N) := hid (by rw [Pure.sumR_len (by rw [hl7, hl8])]; exact hl7)
  have hsb := hid (sumR_bytes (md2 l ++ List.replicate W 0) (ofV s W ++ List.replicate n 0))
  have hR7 := hid r7
  have hR8 := hid r8
  have HL7 := hid hl7
  have HL8 := hid hl8
  have HY7 := hid hy7
  have HY8 := hid hy8
  clear hN r7 r8 hl7 hl8 hy7 hy8 HO3 HO5 HO6 HO3' H35 HR5 hrl hlen hsz3
  generalize md2 l ++ List.replicate W (0 : Int) = X7 at *
  generalize ofV s W ++ List.replicate n (0 : Int) = X8 at *
  go_wp2_with fail
  refine (radd_any A7 A8 b7 o7 c7 b8 o8 c8 N X7 X8 _ hR7 hR8 HL7 HL8 hc7 hc8 hNs HY7 HY8).mono ?_
  rintro e w9 ⟨v9, rfl, o9, k9⟩
  obtain ⟨A9, b9, o9', c9, rfl, hc9, r9, _⟩ := o9.row
  rw [hsl.out] at hc9 ⊢
  have HR9 := hid r9
  have HB9 := hid (HB6.out.trans (k9.mono HB6.out.size))
  clear k9 o9 r9
  go_wp2_with fail
  refine (rdivide_any L W A9 b9 o9' c9 N _ _ hL hW hW2 HR9 hsl hc9 hNd hsb).mono ?_
  rintro e w10 ⟨rfl, k10⟩
  have HB10 := hid (HB9.out.trans (k10.mono HB9.out.size))
  clear k10
  rw [HSUM.out]
  go_wp2_with fail
  go_ret
  exact ⟨rfl, HB10.out⟩

end Go.Proofs.Ytjlhbgkmebinjaa
