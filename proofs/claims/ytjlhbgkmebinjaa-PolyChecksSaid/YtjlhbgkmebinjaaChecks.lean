/- The reference's 'Bits', 'Crc15', 'Crc16'; the law 'PolyChecks'. -/
import Derived.Test.YtjlhbgkmebinjaaRefs
set_option linter.unusedSimpArgs false
set_option linter.unusedVariables false
set_option linter.unnecessarySimpa false
namespace Go.Proofs.Ytjlhbgkmebinjaa
open Go.RowKit Go.Proofs.YtjlhbgkmebinjaaW.PrintWords
open Go.Proofs.Ytjlhbgkmebinjaa.Pure (foldO nat fd ps remV wholeV ofV crc16V crc15V sumR md2)
attribute [local go_sem] max2_max min2_min max_of_two min_of_two

set_option maxHeartbeats 2000000 in
theorem rbits_any (A : Option Addr) (bl o c n : Nat) (l : List Int) (w : World) (hl : Hid (Row8 w A bl o l)) (hn : Hid (l.length = n)) (hc : n ≤ c) (hsz : n ≤ 1000000) (hb : Hid (∀ x ∈ l, 0 ≤ x ∧ x ≤ 255)) :
    Calls Try.prog 27 #[.slice A n c] w fun e w' => ∃ v, e = .returned v ∧ Own8 w' w.heap.size v (bitsV l) ∧ Below w.heap.size w w' := by
  go_enter Try.func27, Try.ntmps27
  go_wp2_with fail
  have O0 := hid (own8_new w w.heap.size (Nat.le_refl _))
  have K0 := hid ((Below.refl w.heap.size w).alloc (Nat.le_refl _) (.cells #[] U8))
  go_loopg [3, 4] n (fun k v3 v4 wr => ∃ i : Nat, i + k = n ∧ v4 = .int .i64 i ∧ Hid (Own8 wr w.heap.size v3 (bitsV (l.take i))) ∧ Hid (Below w.heap.size w wr))
  case atStart => exact ⟨0, by omega, rfl, O0, K0⟩
  case round =>
    clear O0 K0
    obtain ⟨i, hik, rfl, HO, HB⟩ := hrel
    by_cases hlt : i < n
    · have d1 : decide ((i : Int) < (n : Int)) = true := by simpa using hlt
      obtain ⟨rfl, hbl⟩ := hl.out.2.1 (by have := hn.out; omega)
      have hca : wr.cell? ⟨bl, o + i, none⟩ = some (.int .u8 (l.getD i 0)) := (HB.out.cell (p := ⟨bl, o + i, none⟩) hbl).trans (hl.out.2.2 i (by have := hn.out; omega))
      have hx := hb.out (l.getD i 0) (by rw [getD_at (by have := hn.out; omega)]; exact List.getElem_mem _)
      obtain ⟨x, hx0⟩ := Int.eq_ofNat_of_zero_le hx.1
      rw [hx0] at hx hca
      have hx256 : x < 4294967296 := by omega
      have hnx : bitsV (l.take i) ++ ofV x 8 = bitsV (l.take (i + 1)) := by
        rw [List.take_add_one, List.getElem?_eq_getElem (by have := hn.out; omega), ← getD_at (by have := hn.out; omega), hx0]
        simp [bitsV]
      have HNX := hid hnx
      have hof : (ofV x 8).length = 8 := by simp [ofV, Pure.ints_length, Pure.bitsW_len]; omega
      have hlen : (bitsV (l.take i)).length + 8 ≤ 140737488355328 := by rw [bitsV_len, List.length_take]; omega
      have HOF := hid hof
      clear hnx hx0 hof
      have k0 : (0 : Int) ≤ (i : Int) := by omega
      have k1 : (i : Int) < (n : Int) := by omega
      go_wp2_with fail
      refine (rof_any x 8 _ hx256).mono ?_
      rintro e w2 ⟨v2, rfl, o2, k2⟩
      obtain ⟨A2, b2, o2', c2, rfl, _, r2, _⟩ := o2.row
      rw [HOF.out]
      have HR2 := hid r2
      have HB2 := hid (HB.out.trans (k2.mono HB.out.size))
      have HO2 := hid (HO.out.below k2)
      clear k2 o2 r2 HO
      go_wp2_with (first | (refine app8_row rfl (.tmp 12) (.tmp 18) rfl w.heap.size rfl rfl HOF.out HO2.out HR2.out hlen HB2.out.size ?_; intro v3 w3 o3 k3; rw [HNX.out] at o3; have HO3 := hid o3; have HB3 := hid (HB2.out.trans k3); clear o3 k3))
      go_roundg (gk - 1)
      case rel => exact ⟨i + 1, by omega, by go_num, HO3, HB3⟩
      case measure => omega
    · have d1 : decide ((i : Int) < (n : Int)) = false := by simp; omega
      have HO' := HO.out
      rw [List.take_of_length_le (by have := hn.out; omega)] at HO'
      have HO'' := hid HO'
      clear HO'
      go_wp2_with fail
      go_ret
      exact ⟨_, rfl, HO''.out, HB.out⟩

theorem rcrc15_any (A : Option Addr) (bl o c n : Nat) (l : List Int) (w : World) (hl : Hid (Row8 w A bl o l)) (hn : Hid (l.length = n)) (hc : n ≤ c) (hsz : n ≤ 10000000) (hb : Hid (∀ x ∈ l, 0 ≤ x ∧ x ≤ 255)) (R : Int) (hR : Hid (crc15V l = R)) :
    Calls Try.prog 11 #[.slice A n c] w fun e w' => e = .returned (.int .i64 R) ∧ Below w.heap.size w w' := by
  have hm : Pure.mayP 15 17817 = true := by decide
  have e1 : (((nat l).foldl (fd 15 17817) (0 % 2 ^ 15) : Nat) : Int) = R := by
    rw [← hR.out]
    unfold crc15V remV
    rw [if_pos hm]
    rfl
  have hrange := Pure.remV_range 15 17817 0 l
  have hR0 : 0 ≤ R ∧ R ≤ 4294967295 := by rw [← hR.out]; exact hrange
  have E1 := hid e1
  clear hm e1 hrange
  go_enter Try.func11, Try.ntmps11
  go_wp2_with fail
  refine (rrem_any 15 17817 0 A bl o c n l _ (by decide) (by decide) (by decide) (by decide) hl hn hc hsz hb).mono ?_
  rintro e w1 ⟨rfl, k1⟩
  rw [E1.out]
  have HB := hid k1
  clear k1
  go_wp2_with fail
  go_ret
  exact ⟨rfl, HB.out⟩

theorem rcrc16_any (A : Option Addr) (bl o c n : Nat) (l : List Int) (w : World) (hl : Hid (Row8 w A bl o l)) (hn : Hid (l.length = n)) (hc : n ≤ c) (hsz : n ≤ 1000000) (hb : Hid (∀ x ∈ l, 0 ≤ x ∧ x ≤ 255)) (R : Int) (hR : Hid (crc16V l = R)) :
    Calls Try.prog 13 #[.slice A n c] w fun e w' => e = .returned (.int .i64 R) ∧ Below w.heap.size w w' := by
  have hm : Pure.mayP 16 4129 = true := by decide
  have e1 : (((nat (bitsV l)).foldl (fd 16 4129) (0 % 2 ^ 16) : Nat) : Int) = R := by
    rw [← hR.out, crc16_is]
    unfold remV
    rw [if_pos hm]
    rfl
  have hrange := Pure.remV_range 16 4129 0 (bitsV l)
  have hR0 : 0 ≤ R ∧ R ≤ 4294967295 := by rw [← hR.out, crc16_is]; exact hrange
  have E1 := hid e1
  have hbl := bitsV_len l
  rw [hn.out] at hbl
  obtain ⟨N, hN⟩ : ∃ N, 8 * n = N := ⟨_, rfl⟩
  rw [hN] at hbl
  have HBL := hid hbl
  have HBB := hid (bitsV_bytes l)
  have hNs : N ≤ 10000000 := by omega
  clear hm e1 hrange hbl
  go_enter Try.func13, Try.ntmps13
  go_wp2_with fail
  refine (rbits_any A bl o c n l _ hl hn hc hsz hb).mono ?_
  rintro e w1 ⟨v1, rfl, o1, k1⟩
  obtain ⟨A2, b2, o2, c2, rfl, hc2, r2, _⟩ := o1.row
  rw [HBL.out] at hc2 ⊢
  have HR2 := hid r2
  have HB := hid k1
  clear k1 o1 r2
  go_wp2_with fail
  refine (rrem_any 16 4129 0 A2 b2 o2 c2 N _ _ (by decide) (by decide) (by decide) (by decide) HR2 HBL hc2 hNs HBB).mono ?_
  rintro e w2 ⟨rfl, k2⟩
  rw [E1.out]
  have HB2 := hid (HB.out.trans (k2.mono HB.out.size))
  clear k2
  go_wp2_with fail
  go_ret
  exact ⟨rfl, HB2.out⟩


theorem crc15_len (A : Option Addr) (bl o c n : Nat) (l : List Int) (w : World) (hl : Row8 w A bl o l) (hb : Hid (∀ x ∈ l, 0 ≤ x ∧ x ≤ 255)) (hn : Hid (l.length = n)) (R : Int) (hR : Hid (crc15V l = R)) :
    Calls Try.prog 10 #[.slice A n c] w fun e w' => e = .returned (.int .i64 R) ∧ Below w.heap.size w w' := by
  obtain rfl := hn.out
  obtain rfl := hR.out
  exact crc15_any A bl o c l w hl hb.out
theorem crc16_len (A : Option Addr) (bl o c n : Nat) (l : List Int) (w : World) (hl : Row8 w A bl o l) (hb : Hid (∀ x ∈ l, 0 ≤ x ∧ x ≤ 255)) (hn : Hid (l.length = n)) (R : Int) (hR : Hid (crc16V l = R)) :
    Calls Try.prog 12 #[.slice A n c] w fun e w' => e = .returned (.int .i64 R) ∧ Below w.heap.size w w' := by
  obtain rfl := hn.out
  obtain rfl := hR.out
  exact crc16_any A bl o c l w hl hb.out

set_option maxHeartbeats 2000000 in
theorem checks_any (A B : Option Addr) (bl o c n bm om d m : Nat) (l k : List Int) (w : World) (hl : Hid (Row8 w A bl o l)) (hk : Hid (Row8 w B bm om k)) (hn : Hid (l.length = n)) (hm : Hid (k.length = m)) (hc : n ≤ c) (hd : m ≤ d) (hb : Hid (∀ x ∈ l, 0 ≤ x ∧ x ≤ 255)) (hbk : Hid (∀ x ∈ k, 0 ≤ x ∧ x ≤ 255)) :
    Calls Try.prog 4 #[.slice A n c, .slice B m d] w fun e w' => e = .returned (.bool true) ∧ Below w.heap.size w w' := by
  by_cases h1 : n > 150 ∨ m > 150
  · have hg : decide ((n : Int) > 150) = true ∨ (decide ((n : Int) > 150) = false ∧ decide ((m : Int) > 150) = true) := by
      by_cases h : (n : Int) > 150
      · exact .inl (by simpa using h)
      · exact .inr ⟨by simpa using h, by simp; omega⟩
    clear h1
    rcases hg with d1 | ⟨d1, d2⟩
    all_goals
      go_enter Try.func4, Try.ntmps4
      go_wp2_with fail
      refine (live_any _).mono ?_
      rintro e w1 ⟨rfl, k1⟩
      have K1 := hid k1
      clear k1
      go_wp2_with fail
      go_ret
      exact ⟨rfl, K1.out⟩
  · have d1 : decide ((n : Int) > 150) = false := by simp; omega
    have d2 : decide ((m : Int) > 150) = false := by simp; omega
    have hns : n ≤ 1000000 := by omega
    have hms : m ≤ 1000000 := by omega
    have hns2 : n ≤ 10000000 := by omega
    clear h1
    obtain ⟨R, hR⟩ : ∃ R, crc15V l = R := ⟨_, rfl⟩
    obtain ⟨T, hT⟩ : ∃ T, crc16V k = T := ⟨_, rfl⟩
    have HR := hid hR
    have HT := hid hT
    clear hR hT
    have R0 := hid (Below.refl w.heap.size w)
    go_enter Try.func4, Try.ntmps4
    go_wp2_with fail
    refine (live_any _).mono ?_
    rintro e w1 ⟨rfl, k1⟩
    have K1 := hid k1
    have hl1 := hid (hl.out.below k1)
    have hk1 := hid (hk.out.below k1)
    clear k1 R0
    go_wp2_with fail
    refine (crc15_len A bl o c n l _ hl1.out hb hn R HR).mono ?_
    rintro e w2 ⟨rfl, k2⟩
    have K2 := hid (K1.out.trans (k2.mono K1.out.size))
    have hl2 := hid (hl1.out.below k2)
    have hk2 := hid (hk1.out.below k2)
    clear k2 K1
    go_wp2_with fail
    refine (rcrc15_any A bl o c n l _ hl2 hn hc hns2 hb R HR).mono ?_
    rintro e w3 ⟨rfl, k3⟩
    have K3 := hid (K2.out.trans (k3.mono K2.out.size))
    have hk3 := hid (hk2.out.below k3)
    clear k3 K2
    go_wp2_with fail
    refine (crc16_len B bm om d m k _ hk3.out hbk hm T HT).mono ?_
    rintro e w4 ⟨rfl, k4⟩
    have K4 := hid (K3.out.trans (k4.mono K3.out.size))
    have hk4 := hid (hk3.out.below k4)
    clear k4 K3
    go_wp2_with fail
    refine (rcrc16_any B bm om d m k _ hk4 hm hd hms hbk T HT).mono ?_
    rintro e w5 ⟨rfl, k5⟩
    have K5 := hid (K4.out.trans (k5.mono K4.out.size))
    clear k5 K4
    go_wp2_with fail
    go_ret
    exact ⟨rfl, K5.out⟩

theorem checks_entry (v0 v1 : Value) (W : World) {base : Nat} (h0 : Rd Try.prog W 23 v0.cells.toList) (o0 : Value.okWide Try.prog W .any base 23 v0)
    (h1 : Rd Try.prog W 23 v1.cells.toList) (o1 : Value.okWide Try.prog W .any base 23 v1) :
    Calls Try.prog 4 #[v0, v1] W fun e w' => e = .returned (.bool true) ∧ Below W.heap.size W w' := by
  obtain ⟨A, bl, o, l, c, rfl, hlc, hcm, hre, _, hrow, hb⟩ := opn_bytes Try.underlying23 Try.underlying5 (by kernel_rfl) (by kernel_rfl) h0 o0
  obtain ⟨B, bm, om, m, cm, rfl, hlm, hcm', _, _, hrow', hb'⟩ := opn_bytes Try.underlying23 Try.underlying5 (by kernel_rfl) (by kernel_rfl) h1 o1
  exact checks_any A B bl o c l.length bm om cm m.length l m W (hid hrow) (hid hrow') (hid rfl) (hid rfl) hlc hlm (hid hb) (hid hb')

end Go.Proofs.Ytjlhbgkmebinjaa
