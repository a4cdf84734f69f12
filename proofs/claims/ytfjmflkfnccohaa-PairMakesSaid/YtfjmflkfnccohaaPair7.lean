/- The reference's Unlike; Cause. -/
import Derived.Test.YtfjmflkfnccohaaPair6
set_option linter.unusedSimpArgs false
set_option linter.unusedVariables false
set_option linter.unnecessarySimpa false
namespace Go.Proofs.Ytfjmflkfnccohaa
open Go.RowKit Go.Proofs.YtfjmflkfnccohaaW.PrintWords
attribute [local go_sem] max2_max min2_min max_of_two min_of_two bxF_fr stF_fr stF_fr2 stF_put ldF_put ldV_put ldF_new guard_eq guard_ne bin_eq bin_ne alF_fr bdF_none bdF_ask bdF_len bdF_dat ext_drew' ext_alloc
attribute [local go_sem ↓] ldF_in ldV_in bxF_in stF_in cvS_in alF_in bdF_in ixS_in
attribute [local go_sem] gUpon

def causeOf (t : Int) : Int := if t = 3 then 1 else if t = 4 then 2 else if t = 5 then 3 else 0
theorem cause_c (t : Int) (w : World) : Calls Try.prog 24 #[.int .i64 t] w fun e w' => e = .returned (.int .i64 (causeOf t)) ∧ Ext w w' := by
  have K := Ext.refl w
  by_cases h3 : t = 3
  · subst h3
    go_enter Try.func24, Try.ntmps24
    go_wp2_with fail
    go_ret
    exact ⟨rfl, K⟩
  · by_cases h4 : t = 4
    · subst h4
      go_enter Try.func24, Try.ntmps24
      go_wp2_with fail
      go_ret
      exact ⟨rfl, K⟩
    · by_cases h5 : t = 5
      · subst h5
        go_enter Try.func24, Try.ntmps24
        go_wp2_with fail
        go_ret
        exact ⟨rfl, K⟩
      · have e3 : (t == 3) = false := by simpa using h3
        have e4 : (t == 4) = false := by simpa using h4
        have e5 : (t == 5) = false := by simpa using h5
        have hc : causeOf t = 0 := by unfold causeOf; rw [if_neg h3, if_neg h4, if_neg h5]
        rw [hc]
        clear h3 h4 h5 hc
        go_enter Try.func24, Try.ntmps24
        go_wp2_with fail
        go_ret
        exact ⟨rfl, K⟩

set_option maxRecDepth 100000 in
set_option maxHeartbeats 1000000 in
theorem runlike_c (va vb : Value) (a b : List Int) (w : World) (ha : Bs w va a) (hb : Bs w vb b) (hn : a.length ≤ 1000000) (hm : b.length ≤ 1000000) :
    Calls Try.prog 21 #[va, vb] w fun e w' => e = .returned (.int .i64 (unlF 0 a b)) ∧ Ext w w' := by
  obtain ⟨A, bl, o, c, rfl, hlc, hra, hya⟩ := ha
  obtain ⟨B, bm, om, cm, rfl, hlm, hrb, hyb⟩ := hb
  obtain ⟨R, hR⟩ : ∃ R, Is (unlF 0 a b) R := ⟨_, Is.refl _⟩
  rw [hR.eq]
  have K0 := Ext.refl w
  go_enter Try.func21, Try.ntmps21
  go_wp2_with fail
  go_loopg [5, 6] a.length (fun g u5 u6 wr => ∃ (i : Nat) (acc : Int), i + g = a.length ∧ i ≤ b.length ∧ u6 = .int .i64 i ∧ u5 = .int .i64 acc ∧ 0 ≤ acc ∧ acc ≤ 8 * i ∧ Is (unlF acc (a.drop i) (b.drop i)) R ∧ Ext w wr)
  case atStart => exact ⟨0, 0, by omega, by omega, rfl, rfl, by omega, by omega, hR, K0⟩
  case round =>
    clear K0 hR
    obtain ⟨i, acc, hig, hib, rfl, rfl, ha0, ha1, hR, K⟩ := hrel
    by_cases hlt : i < a.length ∧ i < b.length
    · obtain ⟨hla, hlb⟩ := hlt
      have e1 : decide ((i : Int) < (a.length : Int)) = true := by simpa using hla
      have e2 : decide ((i : Int) < (b.length : Int)) = true := by simpa using hlb
      have i0 : (0 : Int) ≤ (i : Int) := by omega
      have i1 : (i : Int) < (a.length : Int) := by omega
      have i2 : (i : Int) < (b.length : Int) := by omega
      have hR2 : Is (unlF (acc + unl (a.getD i 0) (b.getD i 0)) (a.drop (i + 1)) (b.drop (i + 1))) R := Is.mk (by rw [← unlF_step (by omega) (by omega)]; exact hR.eq)
      have RA := hid (fun wq (q : Ext w wq) => hra.cell q (i := i) hla)
      have RB := hid (fun wq (q : Ext w wq) => hrb.cell q (i := i) hlb)
      obtain ⟨rfl, ca⟩ := hra.cell K (i := i) hla
      obtain ⟨rfl, cb⟩ := hrb.cell K (i := i) hlb
      obtain ⟨x0, x1⟩ := hya.at (i := i) (by omega)
      obtain ⟨y0, y1⟩ := hyb.at (i := i) (by omega)
      generalize a.getD i 0 = x at *
      generalize b.getD i 0 = y at *
      have hun := cnt_unl x0 x1 y0 y1
      rw [← hun] at hR2
      have HR2 := hid hR2
      clear ca cb hR hR2 hun
      go_wp2_with fail
      go_loopg [5, 7] 8 (fun g u5 u7 wr => ∃ k : Nat, k + g = 8 ∧ u7 = .int .i64 k ∧ u5 = .int .i64 (acc + cnt x y k) ∧ 0 ≤ cnt x y k ∧ cnt x y k ≤ k ∧ Ext w wr)
      case atStart => exact ⟨0, rfl, rfl, by simp [cnt], by simp [cnt], by simp [cnt], K⟩
      case round =>
        clear K
        obtain ⟨k, hkg, rfl, rfl, hc0, hc1, K⟩ := hrel
        by_cases hk : k < 8
        · have e3 : decide ((k : Int) < 8) = true := by simp; omega
          obtain ⟨-, ca⟩ := RA.out _ K
          obtain ⟨-, cb⟩ := RB.out _ K
          have k0 : (0 : Int) ≤ (k : Int) := by omega
          have k8 : (k : Int) < 8 := by omega
          have D : ∀ p : Addr, wr.drew.cell? p = wr.cell? p := fun p => rfl
          have tx : (x / 2 ^ k).tmod 2 = x / 2 ^ k % 2 := Int.tmod_eq_emod_of_nonneg (Int.ediv_nonneg x0 (Int.pow_nonneg (by omega)))
          have ty : (y / 2 ^ k).tmod 2 = y / 2 ^ k % 2 := Int.tmod_eq_emod_of_nonneg (Int.ediv_nonneg y0 (Int.pow_nonneg (by omega)))
          have hcs : cnt x y (k + 1) = cnt x y k + if x / 2 ^ k % 2 = y / 2 ^ k % 2 then 1 else 0 := rfl
          obtain ⟨eq, heq⟩ : ∃ eq, ((x / 2 ^ k).tmod 2 == (y / 2 ^ k).tmod 2) = eq := ⟨_, rfl⟩
          rw [tx, ty] at heq
          have hw : IntKind.i64.wrap (acc + cnt x y k + 1) = acc + cnt x y k + 1 := IntWalk.i64_in _ (by omega)
          cases eq
          · have hne : ¬ x / 2 ^ k % 2 = y / 2 ^ k % 2 := by simpa using heq
            rw [if_neg hne, Int.add_zero] at hcs
            have HCS := hid hcs
            rw [← tx, ← ty] at heq
            clear hcs hne tx ty
            go_wp2_with fail
            go_region
            go_wp2_with fail
            go_roundg (8 - k - 1)
            case rel => exact ⟨k + 1, by omega, by go_num, by rw [HCS.out], by rw [HCS.out]; omega, by rw [HCS.out]; omega, K.drew⟩
            case measure => omega
          · have hne : x / 2 ^ k % 2 = y / 2 ^ k % 2 := by simpa using heq
            rw [if_pos hne] at hcs
            have HCS := hid hcs
            rw [← tx, ← ty] at heq
            clear hcs hne tx ty
            go_wp2_with fail
            go_region
            go_wp2_with fail
            go_roundg (8 - k - 1)
            case rel => exact ⟨k + 1, by omega, by go_num, by rw [HCS.out, Int.add_assoc], by rw [HCS.out]; omega, by rw [HCS.out]; omega, K.drew⟩
            case measure => omega
        · obtain rfl : k = 8 := by omega
          have e3 : decide (((8 : Nat) : Int) < 8) = false := rfl
          have hR3 := HR2.out
          have HR3 := hid hR3
          clear hR3 HR2 RA RB
          go_wp2_with fail
          go_roundg (a.length - i - 1)
          case rel => exact ⟨i + 1, _, by omega, by omega, by go_num, rfl, by omega, by omega, HR3.out, K⟩
          case measure => omega
    · have hE : acc = R := by rw [← hR.eq, unlF_end (by omega)]
      subst hE
      clear hR
      by_cases hi : i = a.length
      · subst hi
        have e1 : decide ((a.length : Int) < (a.length : Int)) = false := by simp
        go_wp2_with fail
        go_ret
        exact ⟨rfl, K⟩
      · have hla : i < a.length := by omega
        obtain rfl : i = b.length := by omega
        have e1 : decide ((b.length : Int) < (a.length : Int)) = true := by simpa using hla
        have e2 : decide ((b.length : Int) < (b.length : Int)) = false := by simp
        go_wp2_with fail
        go_ret
        exact ⟨rfl, K⟩

end Go.Proofs.Ytfjmflkfnccohaa
