/- The reference's sign and value. -/
import Derived.Test.YtcahjmnkcdcbpaaFrV
import Derived.Test.YtcahjmnkcdcbpaaFParse
import Derived.Deep.RegionHeld
import Derived.Deep.RegionWith
set_option linter.unusedSimpArgs false
set_option linter.unusedVariables false
set_option linter.unnecessarySimpa false
namespace Go.Proofs.Ytcahjmnkcdcbpaa
open Go.RowKit Go.Proofs.YtcahjmnkcdcbpaaW.PrintWords
attribute [local go_sem] max2_max min2_min max_of_two min_of_two bxF_fr stF_fr stF_put ldF_put ldV_put ldF_new guard_eq guard_ne bin_eq bin_ne alF_fr bdF_none bdF_ask bdF_len bdF_dat ext_drew' ext_alloc
attribute [local go_sem ↓] ldF_in ldV_in bxF_in stF_in cvS_in alF_in bdF_in

theorem str_ne {a b : ByteArray} (h : a ≠ b) : (a.toList == b.toList) = false := by
  rw [beq_eq_false_iff_ne]
  intro e
  rw [ByteArray.toList_eq, ByteArray.toList_eq] at e
  apply h
  obtain ⟨⟨x⟩⟩ := a
  obtain ⟨⟨y⟩⟩ := b
  simpa using e
theorem cvS_new (w : World) (x : Int) (h0 : 0 ≤ x) (h1 : x ≤ 255) : (cvS (.slice (some ⟨w.heap.size, 0, none⟩) 1 1)).run Try.prog (w.alloc (.cells #[.int .u8 x] 5)) = .ok (.string (mkS [x])) (w.alloc (.cells #[.int .u8 x] 5)) :=
  (Bs.own (own8_one w w.heap.size x (Nat.le_refl _)) (Byt.one h0 h1)).str
theorem cvS_new' (w : World) (x : Int) (h0 : 0 ≤ x) (h1 : x ≤ 255) : (cvS (.slice (some ⟨w.heap.size, 0, none⟩) 1 1)).run Try.prog (w.alloc (.cells #[.int .u8 x] 5)).drew = .ok (.string (mkS [x])) (w.alloc (.cells #[.int .u8 x] 5)).drew :=
  ((Bs.own (own8_one w w.heap.size x (Nat.le_refl _)) (Byt.one h0 h1)).ext (Ext.drew (Ext.refl _))).str
theorem mkS_app (a b : List Int) : mkS a ++ mkS b = mkS (a ++ b) := by
  have : (mkS a ++ mkS b).data = (mkS (a ++ b)).data := by
    simp [mkS, u8s, ByteArray.data_append]
  cases h1 : mkS a ++ mkS b; cases h2 : mkS (a ++ b)
  rw [h1, h2] at this
  simpa using this
theorem mkS_hash (a : List Int) : mkS a ++ (⟨#[35]⟩ : ByteArray) = mkS (a ++ [35]) := mkS_app a [35]
theorem mkS_R (a : List Int) : mkS a ++ (⟨#[82]⟩ : ByteArray) = mkS (a ++ [82]) := mkS_app a [82]
attribute [local go_sem] cvS_new cvS_new'
theorem drew_size (w : World) : w.drew.heap.size = w.heap.size := rfl

set_option maxHeartbeats 1000000 in
theorem sign_c (n : Int) (w : World) (h0 : 0 ≤ n) (h1 : n < 16) :
    Calls Try.prog 27 #[.int .i64 n] w fun e w' => e = .returned (.string (mkS [sgnI n])) ∧ Ext w w' := by
  by_cases h : n < 10
  · have e : sgnI n = 48 + n := if_pos h
    rw [e]
    have x0 : 0 ≤ 48 + n := by omega
    have x1 : 48 + n ≤ 255 := by omega
    have w1 : IntKind.i64.wrap (48 + n) = 48 + n := IntWalk.i64_in _ (by omega)
    have w2 : IntKind.u8.wrap (48 + n) = 48 + n := by show (48 + n) % 256 = _; omega
    go_enter Try.func27, Try.ntmps27
    go_wp2_with fail
    go_ret
    exact ⟨rfl, (by repeat (first | with_reducible exact Ext.refl _ | with_reducible assumption | with_reducible apply Ext.alloc | with_reducible apply Ext.drew | with_reducible apply Ext.drewN | (with_reducible refine Ext.set' ?_ (by first | omega | (simp only [World.size_alloc, World.size_setCell]; omega))) | (with_reducible refine Ext.trans ?_ (by with_reducible assumption)) | (with_reducible refine Ext.only ?_ (by with_reducible assumption) (by omega))))⟩
  · have e : sgnI n = 55 + n := if_neg h
    rw [e]
    have x0 : 0 ≤ 55 + n := by omega
    have x1 : 55 + n ≤ 255 := by omega
    have w1 : IntKind.i64.wrap (55 + n) = 55 + n := IntWalk.i64_in _ (by omega)
    have w2 : IntKind.u8.wrap (55 + n) = 55 + n := by show (55 + n) % 256 = _; omega
    go_enter Try.func27, Try.ntmps27
    go_wp2_with fail
    go_ret
    exact ⟨rfl, (by repeat (first | with_reducible exact Ext.refl _ | with_reducible assumption | with_reducible apply Ext.alloc | with_reducible apply Ext.drew | with_reducible apply Ext.drewN | (with_reducible refine Ext.set' ?_ (by first | omega | (simp only [World.size_alloc, World.size_setCell]; omega))) | (with_reducible refine Ext.trans ?_ (by with_reducible assumption)) | (with_reducible refine Ext.only ?_ (by with_reducible assumption) (by omega))))⟩

/-- A sign's number; 16: it is none. -/
def valR (c : Int) : Int := if valI c < 0 then 16 else valI c
theorem sgn_val {n : Int} (h0 : 0 ≤ n) (h1 : n < 16) : valI (sgnI n) = n := by
  obtain ⟨q, rfl⟩ := Int.eq_ofNat_of_zero_le h0
  have : ∀ q : Fin 16, valI (sgnI ((q.val : Nat) : Int)) = ((q.val : Nat) : Int) := by decide +kernel
  exact this ⟨q, by omega⟩
theorem val_sgn {c : Int} (h : 0 ≤ valI c) : sgnI (valI c) = c := by
  by_cases h1 : 48 ≤ c ∧ c ≤ 57
  · have e : valI c = c - 48 := if_pos h1
    rw [e]
    unfold sgnI
    rw [if_pos (by omega)]
    omega
  · by_cases h2 : 65 ≤ c ∧ c ≤ 70
    · have e : valI c = c - 55 := by unfold valI; rw [if_neg h1, if_pos h2]
      rw [e]
      unfold sgnI
      rw [if_neg (by omega)]
      omega
    · have e : valI c = -1 := by unfold valI; rw [if_neg h1, if_neg h2]
      omega

set_option maxHeartbeats 2000000 in
theorem value_c (c : Int) (w : World) (h0 : 0 ≤ c) (h1 : c ≤ 255) :
    Calls Try.prog 28 #[.int .u8 c] w fun e w' => e = .returned (.int .i64 (valR c)) ∧ Ext w w' := by
  obtain ⟨R, hR⟩ : ∃ R, Is (valR c) R := ⟨_, Is.refl _⟩
  rw [hR.eq]
  have KR := Ext.refl w
  go_enter Try.func28, Try.ntmps28
  go_wp2_with fail
  go_loopg [3] 16 (fun g u3 wr => ∃ i : Nat, i + g = 16 ∧ u3 = .int .i64 i ∧ Ext w wr ∧ Hid (∀ j : Nat, j < i → sgnI j ≠ c))
  case atStart => exact ⟨0, rfl, rfl, KR, hid fun j hj => absurd hj (by omega)⟩
  case round =>
    clear KR
    obtain ⟨i, hig, rfl, K, HJ⟩ := hrel
    by_cases hk : gk = 0
    · subst hk
      obtain rfl : i = 16 := by omega
      have hr : R = 16 := by
        rw [← hR.eq]
        unfold valR
        by_cases hv : valI c < 0
        · rw [if_pos hv]
        · have h2 := valI_lt c
          obtain ⟨q, hq⟩ := Int.eq_ofNat_of_zero_le (show 0 ≤ valI c by omega)
          exact absurd (by rw [← hq]; exact val_sgn (by omega)) (HJ.out q (by omega))
      subst hr
      go_wp2_with fail
      go_ret
      exact ⟨rfl, K⟩
    · have e1 : decide ((i : Int) < 16) = true := by simp; omega
      by_cases hs : sgnI i = c
      · have hr : R = i := by
          rw [← hR.eq, ← hs]
          unfold valR
          rw [sgn_val (by omega) (by omega), if_neg (by omega)]
        subst hr
        have i0 : (0 : Int) ≤ (i : Int) := by omega
        have i1 : (i : Int) < 16 := by omega
        have SG := hid (fun w => sign_c i w i0 i1)
        rw [hs] at SG
        clear hs HJ hR
        go_wp2_with fail
        go_region_with (first | (go_at_call 27; (with_reducible refine (SG.out _).mono ?_); rintro e w' ⟨rfl, k⟩; (try have hs := (Bs.ext (Bs.own (own8_one wr _ c (Nat.le_refl _)) (Byt.one h0 h1)) (Ext.trans (Ext.drew (Ext.refl _)) k)).str)))
        all_goals
          go_wp2_with fail
          go_ret
          exact ⟨rfl, (by repeat (first | with_reducible exact Ext.refl _ | with_reducible assumption | with_reducible apply Ext.alloc | with_reducible apply Ext.drew | with_reducible apply Ext.drewN | (with_reducible refine Ext.set' ?_ (by first | omega | (simp only [World.size_alloc, World.size_setCell]; omega))) | (with_reducible refine Ext.trans ?_ (by with_reducible assumption)) | (with_reducible refine Ext.only ?_ (by with_reducible assumption) (by omega))))⟩
      · have i0 : (0 : Int) ≤ (i : Int) := by omega
        have i1 : (i : Int) < 16 := by omega
        have SG := hid (fun w => sign_c i w i0 i1)
        have hne : ((mkS [sgnI i]).toList == (mkS [c]).toList) = false := by
          apply str_ne
          have hb := sgn_byt i0 i1
          intro he
          have := mkS_inj (Byt.one hb.1 hb.2) (Byt.one h0 h1) he
          exact hs (by simpa using this)
        have HJ' : Hid (∀ j : Nat, j < i + 1 → sgnI j ≠ c) := hid fun j hj => by
          by_cases hji : j = i
          · subst hji; exact hs
          · exact HJ.out j (by omega)
        clear HJ hR hs
        generalize sgnI i = y at *
        go_wp2_with fail
        go_region_with (first | (go_at_call 27; (with_reducible refine (SG.out _).mono ?_); rintro e w' ⟨rfl, k⟩; (try have hs := (Bs.ext (Bs.own (own8_one wr _ c (Nat.le_refl _)) (Byt.one h0 h1)) (Ext.trans (Ext.drew (Ext.refl _)) k)).str)))
        all_goals
          go_wp2_with fail
          go_roundg (gk - 1)
          case rel => exact ⟨i + 1, by omega, by go_num, (by repeat (first | with_reducible exact Ext.refl _ | with_reducible assumption | with_reducible apply Ext.alloc | with_reducible apply Ext.drew | with_reducible apply Ext.drewN | (with_reducible refine Ext.set' ?_ (by first | omega | (simp only [World.size_alloc, World.size_setCell]; omega))) | (with_reducible refine Ext.trans ?_ (by with_reducible assumption)) | (with_reducible refine Ext.only ?_ (by with_reducible assumption) (by omega)))), HJ'⟩
          case measure => omega

end Go.Proofs.Ytcahjmnkcdcbpaa
