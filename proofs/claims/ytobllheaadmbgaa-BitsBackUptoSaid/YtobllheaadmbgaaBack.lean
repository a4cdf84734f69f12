/- BitsBack: what was stuffed is unstuffed as it was. -/
import Derived.Test.YtobllheaadmbgaaEntry
import Derived.Test.YtobllheaadmbgaaUpto
set_option linter.unusedSimpArgs false
set_option linter.unusedVariables false
set_option linter.unnecessarySimpa false
namespace Go.Proofs.Ytobllheaadmbgaa
open Go.RowKit Go.Proofs.YtobllheaadmbgaaW.PrintWords Go.ChangeShapes Go.WideShapes Go.ChangeAt
attribute [local go_sem] max2_max min2_min max_of_two min_of_two

def stuffT : Int → Int → List Int → List Int
  | _, _, [] => []
  | b, n, x :: t => if addN b n (x % 2) = 5 then x % 2 :: (1 - x % 2) :: stuffT (1 - x % 2) 1 t else x % 2 :: stuffT (x % 2) (addN b n (x % 2)) t
theorem add_other (x : Int) : addN (x % 2) 5 (1 - x % 2) = 1 := by unfold addN; rw [if_neg]; omega
theorem stuffL_is : ∀ (l out : List Int) (b n : Int), stuffL out b n l = out ++ stuffT b n l
  | [], out, b, n => by simp [stuffL, stuffT]
  | x :: t, out, b, n => by
    rw [stuffL, stuffT]
    split
    · rw [add_other, stuffL_is t]; simp
    · rw [stuffL_is t]; simp

theorem un_stuff : ∀ (l o : List Int) (b n : Int), 0 ≤ n → n ≤ 4 → unL o b n (stuffT b n l) = (o ++ plainV l, 0)
  | [], o, b, n, h0, h4 => by
    rw [stuffT, unL, if_neg (by omega)]
    simp [plainV]
  | x :: t, o, b, n, h0, h4 => by
    have hm := addN_range b n (x % 2) h0 n (Int.le_refl _)
    have hc : x % 2 % 2 = x % 2 := by omega
    rw [stuffT]
    by_cases h5 : addN b n (x % 2) = 5
    · rw [if_pos h5, unL, if_pos (by omega), hc, h5, unL, if_neg (by omega), show (1 - x % 2) % 2 = 1 - x % 2 by omega, if_neg (by omega), add_other, un_stuff t _ _ _ (by omega) (by omega)]
      simp [plainV]
    · rw [if_neg h5, unL, if_pos (by omega), hc, un_stuff t _ _ _ (by omega) (by omega)]
      simp [plainV]

theorem stuffT_len : ∀ (l : List Int) (b n : Int), 0 ≤ n → n ≤ 4 → l.length ≤ (stuffT b n l).length ∧ 4 * ((stuffT b n l).length : Int) ≤ 5 * (l.length : Int) + n
  | [], b, n, h0, h4 => by simp [stuffT]; omega
  | x :: t, b, n, h0, h4 => by
    have hm := addN_range b n (x % 2) h0 n (Int.le_refl _)
    rw [stuffT]
    by_cases h5 : addN b n (x % 2) = 5
    · have ih := stuffT_len t (1 - x % 2) 1 (by omega) (by omega)
      rw [if_pos h5]
      simp only [List.length_cons]
      omega
    · have ih := stuffT_len t (x % 2) (addN b n (x % 2)) (by omega) (by omega)
      rw [if_neg h5]
      simp only [List.length_cons]
      omega

/-- No six equal bits. -/
def Few : Int → Int → List Int → Prop
  | _, _, [] => True
  | b, n, x :: t => addN b n x ≤ 5 ∧ Few x (addN b n x) t
theorem stuffT_few : ∀ (l : List Int) (b n : Int), 0 ≤ n → n ≤ 4 → Few b n (stuffT b n l)
  | [], b, n, h0, h4 => by simp [stuffT, Few]
  | x :: t, b, n, h0, h4 => by
    have hm := addN_range b n (x % 2) h0 n (Int.le_refl _)
    rw [stuffT]
    by_cases h5 : addN b n (x % 2) = 5
    · rw [if_pos h5]
      refine ⟨by omega, ?_⟩
      rw [h5]
      refine ⟨by rw [add_other]; omega, ?_⟩
      rw [add_other]
      exact stuffT_few t _ _ (by omega) (by omega)
    · rw [if_neg h5]
      exact ⟨by omega, stuffT_few t _ _ (by omega) (by omega)⟩
theorem Few.any {x : Int} {t : List Int} {b c : Int} (h : Few b 0 (x :: t)) : Few c 0 (x :: t) := by
  have e : addN b 0 x = addN c 0 x := by unfold addN; simp
  exact ⟨by rw [← e]; exact h.1, by rw [← e]; exact h.2⟩

theorem stuff_un : ∀ (l o y : List Int) (b n : Int), 0 ≤ n → n ≤ 5 → (b = 0 ∨ b = 1) → unL o b n l = (y, 0) →
    ∃ y', y = o ++ y' ∧ (n ≤ 4 → stuffT b n y' = plainV l) ∧ (n = 5 → (1 - b) :: stuffT (1 - b) 1 y' = plainV l)
  | [], o, y, b, n, h0, h5, hb, h => by
    rw [unL] at h
    by_cases hn : n = 5
    · rw [if_pos hn] at h; simp at h
    · rw [if_neg hn] at h
      injection h with h _
      exact ⟨[], by simp [h], fun _ => by simp [stuffT, plainV], fun h => absurd h hn⟩
  | x :: t, o, y, b, n, h0, h5, hb, h => by
    have hm := addN_range b n (x % 2) h0 n (Int.le_refl _)
    have hc : x % 2 % 2 = x % 2 := by omega
    rw [unL] at h
    by_cases hn : n < 5
    · rw [if_pos hn] at h
      obtain ⟨y', e, i1, i2⟩ := stuff_un t _ y _ _ (by omega) (by omega) (by omega) h
      refine ⟨x % 2 :: y', by rw [e]; simp, fun _ => ?_, fun h => by omega⟩
      rw [stuffT, hc]
      by_cases h5' : addN b n (x % 2) = 5
      · rw [if_pos h5']
        have := i2 h5'
        simp only [plainV, List.map_cons] at this ⊢
        rw [this]
      · rw [if_neg h5']
        have := i1 (by omega)
        simp only [plainV, List.map_cons] at this ⊢
        rw [this]
    · rw [if_neg hn] at h
      by_cases hx : x % 2 = b
      · rw [if_pos hx] at h; simp at h
      · rw [if_neg hx] at h
        have hn5 : n = 5 := by omega
        subst hn5
        have e1 : addN b 5 (x % 2) = 1 := by unfold addN; rw [if_neg]; omega
        rw [e1] at h
        obtain ⟨y', e, i1, _⟩ := stuff_un t _ y _ _ (by omega) (by omega) (by omega) h
        refine ⟨y', e, fun h => by omega, fun _ => ?_⟩
        have := i1 (by omega)
        have e2 : x % 2 = 1 - b := by omega
        simp only [plainV, List.map_cons] at this ⊢
        rw [← this, e2]

theorem unL_len : ∀ (l o : List Int) (b n : Int), (unL o b n l).1.length ≤ o.length + l.length
  | [], o, b, n => by rw [unL]; split <;> simp
  | x :: t, o, b, n => by
    rw [unL]
    split
    · have := unL_len t (o ++ [x % 2]) (x % 2) (addN b n (x % 2)); simp at this ⊢; omega
    · split
      · simp
      · have := unL_len t o (x % 2) (addN b n (x % 2)); simp at this ⊢; omega

set_option maxHeartbeats 4000000 in
theorem back_c (v : Value) (l : List Int) (w : World) (hv : Bs w v l) (hs : l.length ≤ 1048576) :
    Calls Try.prog 8 #[v] w fun e w' => e = .returned (.bool true) ∧ Ext w w' := by
  have hv' := hv
  obtain ⟨A, bl, o, c, rfl, hlc, hrow, hb⟩ := hv'
  have s1 := stuffL_is l [] 0 0
  rw [List.nil_append] at s1
  have s2 := un_stuff l [] 0 0 (by omega) (by omega)
  have s3 := stuffT_len l 0 0 (by omega) (by omega)
  have s4 := stuffT_few l 0 0 (by omega) (by omega)
  rw [← s1] at s2 s3 s4
  have s5 := stuffL_byt l [] 0 0 Byt.nil
  obtain ⟨S, hS⟩ : ∃ S, Is (stuffL [] 0 0 l) S := ⟨_, Is.refl _⟩
  rw [hS.eq] at s2 s3 s4 s5
  rw [List.nil_append] at s2
  have hU : Is (unL [] 0 0 S) (plainV l, 0) := Is.mk s2
  have hF := hid s4
  obtain ⟨Q, hQ⟩ : ∃ Q, Is (unL [] 0 0 l) Q := ⟨_, Is.refl _⟩
  have hQb : Byt Q.1 := by rw [← hQ.eq]; exact unL_byt l [] 0 0 Byt.nil
  have hQl : Q.1.length ≤ l.length := by rw [← hQ.eq]; simpa using unL_len l [] 0 0
  have hback : Q.2 = 0 → Is (stuffL [] 0 0 Q.1) (plainV l) := fun h0 => by
    obtain ⟨y', e, i1, _⟩ := stuff_un l [] Q.1 0 0 (by omega) (by omega) (.inl rfl) (by rw [hQ.eq, ← h0])
    refine Is.mk ?_
    rw [stuffL_is, List.nil_append, e]
    exact i1 (by omega)
  have HBK := hid hback
  clear s1 s2 s4 hback
  go_enter Try.func8, Try.ntmps8
  go_wp2_with fail
  (with_reducible refine (stuff_c _ _ _ hv (by omega)).mono ?_); rintro e w1 ⟨v1, rfl, o1, k1⟩
  rw [hS.eq] at o1
  have b1 := Bs.own o1 s5
  go_wp2_with fail
  (with_reducible refine (unstuff_c _ _ _ b1 (by omega)).mono ?_); rintro e w2 ⟨v2, rfl, o2, k2⟩
  rw [hU.eq] at o2 ⊢
  have b2 : Bs w2 v2 (plainV l) := Bs.own o2 (plainV_byt l)
  go_wp2_with fail
  (with_reducible refine (plain_c _ _ _ (hv.ext (by repeat (first | with_reducible exact Ext.refl _ | with_reducible assumption | with_reducible apply Ext.alloc | with_reducible apply Ext.drew | with_reducible apply Ext.drewN | (with_reducible refine Ext.set' ?_ (by first | omega | (simp only [World.size_alloc, World.size_setCell]; omega))) | (with_reducible refine Ext.trans ?_ (by with_reducible assumption))))) (by omega)).mono ?_); rintro e w3 ⟨v3, rfl, o3, k3⟩
  have b3 : Bs w3 v3 (plainV l) := Bs.own o3 (plainV_byt l)
  go_wp2_with fail
  (with_reducible refine (same_c _ _ _ _ _ (b2.ext (by repeat (first | with_reducible exact Ext.refl _ | with_reducible assumption | with_reducible apply Ext.alloc | with_reducible apply Ext.drew | with_reducible apply Ext.drewN | (with_reducible refine Ext.set' ?_ (by first | omega | (simp only [World.size_alloc, World.size_setCell]; omega))) | (with_reducible refine Ext.trans ?_ (by with_reducible assumption))))) b3).mono ?_); rintro e w4 ⟨rfl, k4⟩
  rw [beq_self_eq_true]
  have d1 : decide ((S.length : Int) < (l.length : Int)) = false := by simp; omega
  have d2 : decide ((l.length : Int) / 4 < (S.length : Int) - (l.length : Int)) = false := by simp; omega
  obtain ⟨As, bls, os, cs, rfl, hsc, hros, _⟩ := b1
  have r4 := hros.ext (b := w4) (by repeat (first | with_reducible exact Ext.refl _ | with_reducible assumption | with_reducible apply Ext.alloc | with_reducible apply Ext.drew | with_reducible apply Ext.drewN | (with_reducible refine Ext.set' ?_ (by first | omega | (simp only [World.size_alloc, World.size_setCell]; omega))) | (with_reducible refine Ext.trans ?_ (by with_reducible assumption))))
  have K4 : Ext w w4 := (by repeat (first | with_reducible exact Ext.refl _ | with_reducible assumption | with_reducible apply Ext.alloc | with_reducible apply Ext.drew | with_reducible apply Ext.drewN | (with_reducible refine Ext.set' ?_ (by first | omega | (simp only [World.size_alloc, World.size_setCell]; omega))) | (with_reducible refine Ext.trans ?_ (by with_reducible assumption))))
  go_wp2_with fail
  go_loopg [6, 7] S.length (fun g u6 u7 wr => ∃ (i : Nat) (n : Int), i + g = S.length ∧ u7 = .int .i64 i ∧ u6 = .int .i64 n ∧ 0 ≤ n ∧ n ≤ 5 ∧ (i = 0 → n = 0) ∧ (0 < i → 1 ≤ n) ∧ Few (S.getD (i - 1) 0) n (S.drop i) ∧ Ext w4 wr)
  case atStart =>
    refine ⟨0, 0, by omega, rfl, rfl, by omega, by omega, fun _ => rfl, by omega, ?_, (by repeat (first | with_reducible exact Ext.refl _ | with_reducible assumption | with_reducible apply Ext.alloc | with_reducible apply Ext.drew | with_reducible apply Ext.drewN | (with_reducible refine Ext.set' ?_ (by first | omega | (simp only [World.size_alloc, World.size_setCell]; omega))) | (with_reducible refine Ext.trans ?_ (by with_reducible assumption))))⟩
    have h := hF.out
    rw [List.drop_zero]
    cases S with
    | nil => trivial
    | cons x t => exact Few.any h
  case round =>
    obtain ⟨i, n, hik, rfl, rfl, hn0, hn5, hi0, hi1, hf, K⟩ := hrel
    by_cases hlt : i < S.length
    · obtain ⟨rfl, hc⟩ := r4.cell K hlt
      have hf' := hf
      rw [drop_getD hlt] at hf'
      obtain ⟨hfa, hfb⟩ := hf'
      have i0 : (0 : Int) ≤ (i : Int) := by omega
      have i2 : (i : Int) < (S.length : Int) := by omega
      by_cases hz : i = 0
      · subst hz
        obtain rfl : n = 0 := hi0 rfl
        have e1 : addN (S.getD (0 - 1) 0) 0 (S.getD 0 0) = 1 := by unfold addN; simp
        rw [e1] at hfb
        have HFB := hid hfb
        clear hfa hfb hf hi0 hi1 e1
        go_wp2_with fail
        go_quiet (fail)
        go_wp2_with fail
        go_roundg (gk - 1)
        case rel => exact ⟨1, 1, by omega, rfl, rfl, by omega, by omega, by omega, by omega, HFB.out, (by repeat (first | with_reducible exact Ext.refl _ | with_reducible assumption | with_reducible apply Ext.alloc | with_reducible apply Ext.drew | with_reducible apply Ext.drewN | (with_reducible refine Ext.set' ?_ (by first | omega | (simp only [World.size_alloc, World.size_setCell]; omega))) | (with_reducible refine Ext.trans ?_ (by with_reducible assumption))))⟩
        case measure => omega
      · obtain ⟨j, rfl⟩ : ∃ j, i = j + 1 := ⟨i - 1, by omega⟩
        have hjj : j + 1 - 1 = j := by omega
        rw [hjj] at hfa hfb
        have hcj : wr.cell? ⟨bls, os + j, none⟩ = some (.int .u8 (S.getD j 0)) := (r4.cell K (by omega)).2
        have hn1 := hi1 (by omega)
        have e1 : IntKind.i64.wrap (((j + 1 : Nat) : Int) - 1) = (j : Int) := by rw [show (((j + 1 : Nat) : Int) - 1) = (j : Int) by omega]; exact IntWalk.i64_in _ (by omega)
        have e0 : decide ((0 : Int) < ((j + 1 : Nat) : Int)) = true := decide_eq_true (by omega)
        have j0 : (0 : Int) ≤ (j : Int) := by omega
        have j1 : (j : Int) < (S.length : Int) := by omega
        by_cases hxy : S.getD (j + 1) 0 = S.getD j 0
        · have e2 : addN (S.getD j 0) n (S.getD (j + 1) 0) = n + 1 := by unfold addN; rw [if_pos ⟨by omega, hxy.symm⟩]
          rw [e2] at hfa hfb
          rw [hxy] at hc
          have HFB := hid hfb
          have hle : n + 1 ≤ 5 := hfa
          clear hfb hf hi0 hi1 e2 hjj hxy hfa
          generalize S.getD j 0 = x at *
          go_wp2_with fail
          go_quiet (fail)
          clear e1
          go_wp2_with fail
          go_roundg (gk - 1)
          case rel => exact ⟨j + 1 + 1, n + 1, by omega, by go_num, rfl, by omega, by omega, by omega, by omega, HFB.out, (by repeat (first | with_reducible exact Ext.refl _ | with_reducible assumption | with_reducible apply Ext.alloc | with_reducible apply Ext.drew | with_reducible apply Ext.drewN | (with_reducible refine Ext.set' ?_ (by first | omega | (simp only [World.size_alloc, World.size_setCell]; omega))) | (with_reducible refine Ext.trans ?_ (by with_reducible assumption))))⟩
          case measure => omega
        · have e2 : addN (S.getD j 0) n (S.getD (j + 1) 0) = 1 := by unfold addN; rw [if_neg (fun h => hxy h.2.symm)]
          rw [e2] at hfb
          have d3 : (S.getD (j + 1) 0 != S.getD j 0) = true := by rw [bne_iff_ne]; exact hxy
          have d4 : (S.getD (j + 1) 0 == S.getD j 0) = false := beq_eq_false_iff_ne.2 hxy
          have HFB : Hid (Few (S.getD (j + 1 + 1 - 1) 0) 1 (S.drop (j + 1 + 1))) := hid hfb
          clear hfa hfb hf hi0 hi1 e2 hjj hxy
          generalize S.getD (j + 1) 0 = x at *
          generalize S.getD j 0 = z at *
          go_wp2_with fail
          go_quiet (fail)
          clear e1
          go_wp2_with fail
          go_roundg (gk - 1)
          case rel => exact ⟨j + 1 + 1, 1, by omega, by go_num, rfl, by omega, by omega, by omega, by omega, HFB.out, (by repeat (first | with_reducible exact Ext.refl _ | with_reducible assumption | with_reducible apply Ext.alloc | with_reducible apply Ext.drew | with_reducible apply Ext.drewN | (with_reducible refine Ext.set' ?_ (by first | omega | (simp only [World.size_alloc, World.size_setCell]; omega))) | (with_reducible refine Ext.trans ?_ (by with_reducible assumption))))⟩
          case measure => omega
    · clear hf
      go_wp2_with fail
      (with_reducible refine (unstuff_c _ _ _ (hv.ext (by repeat (first | with_reducible exact Ext.refl _ | with_reducible assumption | with_reducible apply Ext.alloc | with_reducible apply Ext.drew | with_reducible apply Ext.drewN | (with_reducible refine Ext.set' ?_ (by first | omega | (simp only [World.size_alloc, World.size_setCell]; omega))) | (with_reducible refine Ext.trans ?_ (by with_reducible assumption))))) (by omega)).mono ?_); rintro e w5 ⟨v5, rfl, o5, k5⟩
      rw [hQ.eq] at o5 ⊢
      have b5 : Bs w5 v5 Q.1 := Bs.own o5 hQb
      obtain ⟨Q1, Q2⟩ := Q
      simp only at b5 HBK hQl hQb
      by_cases hq : Q2 = 0
      · subst hq
        have HB2 := HBK.out rfl
        go_wp2_with fail
        (with_reducible refine (live_c _).mono ?_); rintro e w6 ⟨rfl, k6⟩
        go_wp2_with fail
        (with_reducible refine (stuff_c _ _ _ (b5.ext (by repeat (first | with_reducible exact Ext.refl _ | with_reducible assumption | with_reducible apply Ext.alloc | with_reducible apply Ext.drew | with_reducible apply Ext.drewN | (with_reducible refine Ext.set' ?_ (by first | omega | (simp only [World.size_alloc, World.size_setCell]; omega))) | (with_reducible refine Ext.trans ?_ (by with_reducible assumption))))) (by omega)).mono ?_); rintro e w7 ⟨v7, rfl, o7, k7⟩
        rw [HB2.eq] at o7
        have b7 := Bs.own o7 (plainV_byt l)
        go_wp2_with fail
        (with_reducible refine (plain_c _ _ _ (hv.ext (by repeat (first | with_reducible exact Ext.refl _ | with_reducible assumption | with_reducible apply Ext.alloc | with_reducible apply Ext.drew | with_reducible apply Ext.drewN | (with_reducible refine Ext.set' ?_ (by first | omega | (simp only [World.size_alloc, World.size_setCell]; omega))) | (with_reducible refine Ext.trans ?_ (by with_reducible assumption))))) (by omega)).mono ?_); rintro e w8 ⟨v8, rfl, o8, k8⟩
        have b8 := Bs.own o8 (plainV_byt l)
        go_wp2_with fail
        (with_reducible refine (same_c _ _ _ _ _ (b7.ext (by repeat (first | with_reducible exact Ext.refl _ | with_reducible assumption | with_reducible apply Ext.alloc | with_reducible apply Ext.drew | with_reducible apply Ext.drewN | (with_reducible refine Ext.set' ?_ (by first | omega | (simp only [World.size_alloc, World.size_setCell]; omega))) | (with_reducible refine Ext.trans ?_ (by with_reducible assumption))))) b8).mono ?_); rintro e w9 ⟨rfl, k9⟩
        rw [beq_self_eq_true]
        go_wp2_with fail
        go_ret
        exact ⟨rfl, (by repeat (first | with_reducible exact Ext.refl _ | with_reducible assumption | with_reducible apply Ext.alloc | with_reducible apply Ext.drew | with_reducible apply Ext.drewN | (with_reducible refine Ext.set' ?_ (by first | omega | (simp only [World.size_alloc, World.size_setCell]; omega))) | (with_reducible refine Ext.trans ?_ (by with_reducible assumption))))⟩
      · have dq : (Q2 == 0) = false := beq_eq_false_iff_ne.2 hq
        have dq2 : (Q2 != 0) = true := by rw [bne_iff_ne]; exact hq
        clear hq HBK
        go_wp2_with fail
        (with_reducible refine (live_c _).mono ?_); rintro e w6 ⟨rfl, k6⟩
        go_wp2_with fail
        go_ret
        exact ⟨rfl, (by repeat (first | with_reducible exact Ext.refl _ | with_reducible assumption | with_reducible apply Ext.alloc | with_reducible apply Ext.drew | with_reducible apply Ext.drewN | (with_reducible refine Ext.set' ?_ (by first | omega | (simp only [World.size_alloc, World.size_setCell]; omega))) | (with_reducible refine Ext.trans ?_ (by with_reducible assumption))))⟩

theorem back_entry (v0 : Value) (W : World) {base : Nat} (h0 : Rd Try.prog W 22 v0.cells.toList) (o0 : Value.okWide Try.prog W .any base 22 v0) (u0 : RdU Try.prog W 22 v0.cells.toList) :
    Calls Try.prog 8 #[v0] W fun e w' => e = .returned (.bool true) ∧ Below W.heap.size W w' := by
  obtain ⟨l, hb, _⟩ := opn_bs h0 o0
  have hb' := hb
  obtain ⟨A, bl, o, c, rfl, _⟩ := hb'
  exact back_c _ l W hb (RdU.slice Try.underlying22 u0)

end Go.Proofs.Ytobllheaadmbgaa
