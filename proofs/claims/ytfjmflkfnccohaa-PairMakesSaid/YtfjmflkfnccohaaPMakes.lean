/- The law PairMakes. -/
import Derived.Test.YtfjmflkfnccohaaPMkL
set_option linter.unusedSimpArgs false
set_option linter.unusedVariables false
set_option linter.unnecessarySimpa false
namespace Go.Proofs.Ytfjmflkfnccohaa
open Go.RowKit Go.Proofs.YtfjmflkfnccohaaW.PrintWords
attribute [local go_sem] max2_max min2_min max_of_two min_of_two bxF_fr stF_fr stF_fr2 stF_put ldF_put ldV_put ldF_new guard_eq guard_ne bin_eq bin_ne alF_fr bdF_none bdF_ask bdF_len bdF_dat ext_drew' ext_alloc
attribute [local go_sem ↓] ldF_in ldV_in bxF_in stF_in cvS_in alF_in bdF_in ixS_in
attribute [local go_sem] gUpon


set_option maxRecDepth 100000 in
set_option maxHeartbeats 4000000 in
theorem makes_c (p q t : Int) (vb vx : Value) (b x : List Int) (w : World) (hb : Bs w vb b) (hx : Bs w vx x) :
    Calls Try.prog 6 #[.int .i64 p, .int .i64 q, vb, vx, .int .i64 t] w fun e w' => e = .returned (.bool true) ∧ Ext w w' := by
  have K0 := Ext.refl w
  have HB := hid hb
  have HX := hid hx
  obtain ⟨A, bl, o, c, rfl, hlc, hrow, hbb⟩ := hb
  obtain ⟨A2, bl2, o2, c2, rfl, hlc2, hrow2, hbx⟩ := hx
  have hl0 := hrow.1
  have hl1 := hrow2.1
  clear hrow hrow2
  by_cases hlen : 20 < b.length ∨ 20 < x.length
  · have hcase : decide (20 < (b.length : Int)) = true ∨ (decide (20 < (b.length : Int)) = false ∧ decide (20 < (x.length : Int)) = true) := by
      by_cases h : 20 < b.length
      · exact .inl (by simp; omega)
      · exact .inr ⟨by simp; omega, by simp; omega⟩
    clear hlen
    rcases hcase with e1 | ⟨e1, e2⟩
    all_goals
      go_enter Try.func6, Try.ntmps6
      go_wp2_with fail
      (with_reducible refine (live_c _).mono ?_); rintro e w2 ⟨rfl, k2⟩
      go_wp2_with fail
      go_ret
      exact ⟨rfl, (by repeat (first | with_reducible exact Ext.refl _ | with_reducible assumption | with_reducible apply Ext.alloc | with_reducible apply Ext.drew | with_reducible apply Ext.drewN | (with_reducible refine Ext.set' ?_ (by first | omega | (simp only [World.size_alloc, World.size_setCell]; omega))) | (with_reducible refine Ext.trans ?_ (by with_reducible assumption)) | (with_reducible refine Ext.only ?_ (by with_reducible assumption) (by omega))))⟩
  · have e1 : decide (20 < (b.length : Int)) = false := by simp; omega
    have e2 : decide (20 < (x.length : Int)) = false := by simp; omega
    have HL := hid (And.intro (show b.length ≤ 20 by omega) (show x.length ≤ 20 by omega))
    clear hlen
    have P1 := hid (fun w h => pmake_c p q (.slice A b.length c) b w h)
    have P2 := hid (fun w h => prmake_c p q (.slice A b.length c) b w h)
    have HBX := hid (fun w1 (k : Ext w w1) => HB.out.ext k)
    have HXX := hid (fun w1 (k : Ext w w1) => HX.out.ext k)
    have HW := hid (want_case t)
    have HC := hid (fun w => cause_c t w)
    obtain ⟨L, hL⟩ : ∃ L, Is (if b.length = x.length then (unlF 0 b x == 0) else false) L := ⟨_, Is.refl _⟩
    have HLK := hid (fun w1 (k : Ext w w1) => like_c (.slice A b.length c) (.slice A2 x.length c2) b x w1 (HB.out.ext k) (HX.out.ext k) (by have := HL.out; omega))
    rw [← like_is b x hbb hbx, hL.eq] at HLK
    have HLC : Hid (((b.length : Int) == (x.length : Int)) = false ∧ L = false ∨ ((b.length : Int) == (x.length : Int)) = true ∧ (unlF 0 b x == 0) = L) := hid (by
      have := hL.eq
      by_cases h : b.length = x.length
      · rw [if_pos h] at this
        exact .inr ⟨by rw [h]; simp, this⟩
      · rw [if_neg h] at this
        exact .inl ⟨by simp; omega, this.symm⟩)
    have HU := hid (fun w1 (k : Ext w w1) => unlike_c (.slice A b.length c) (.slice A2 x.length c2) b x w1 (HB.out.ext k) (HX.out.ext k) (by have := HL.out; omega) (by have := HL.out; omega))
    have HRU := hid (fun w1 (k : Ext w w1) => runlike_c (.slice A b.length c) (.slice A2 x.length c2) b x w1 (HB.out.ext k) (HX.out.ext k) (by have := HL.out; omega) (by have := HL.out; omega))
    have HMP : Hid (∀ u v w1 w2, mkPost w1 p q b u → mkPost w2 p q b v → Ext w1 w2 → (u = .slice none 0 0 ∧ v = .slice none 0 0) ∨ (mkE p q b = 0 ∧ FrS w2 u [mkFr p b, mkFr q (flipL b)] ∧ FrS w2 v [mkFr p b, mkFr q (flipL b)])) := hid (fun u v w1 w2 h1 h2 k => by
      rcases h1 with ⟨h1, h1'⟩ | ⟨h1, h1'⟩
      · rcases h2 with ⟨h2, h2'⟩ | ⟨h2, h2'⟩
        · exact .inl ⟨h1', h2'⟩
        · exact absurd h2 h1
      · rcases h2 with ⟨h2, h2'⟩ | ⟨h2, h2'⟩
        · exact absurd h1 h2
        · exact .inr ⟨h1, h1'.ext k, h2'⟩)
    generalize hEE : mkE p q b = E at *
    generalize hF : mkFr p b = F at *
    generalize hG : mkFr q (flipL b) = G at *
    generalize hUU : unlF 0 b x = U at *
    generalize hCC : causeOf t = C at *
    have hEq : (E == E) = true := by simp
    have hUq : (U == U) = true := by simp
    have hCq : (C == C) = true := by simp
    have hLq : (L == L) = true := by simp
    have f1 := frEq_refl F
    have f2 := frEq_refl G
    clear hL hbb hbx
    go_enter Try.func6, Try.ntmps6
    go_wp2_with fail
    (with_reducible refine (P1.out _ HB.out).mono ?_); rintro e w1 ⟨u1, rfl, p1, k1⟩
    have B1 := hid (HBX.out w1 k1)
    have P1' := hid p1
    clear p1
    go_wp2_with fail
    (with_reducible refine (P2.out _ B1.out).mono ?_); rintro e w2 ⟨u2, rfl, p2, k2⟩
    have HH := hid (HMP.out u1 u2 w1 w2 P1'.out p2 k2)
    have K2 : Ext w w2 := k1.trans k2
    clear p2 k1 k2 P1' B1 P1 P2 HMP
    have E2 := Ext.refl w2
    have E2' := Ext.refl w2
    rcases HH.out with ⟨rfl, rfl⟩ | ⟨rfl, h1, h2⟩
    · clear HH
      go_wp2_with fail
      go_loopg [15] 0 (fun g u wr => u = .int .i64 0 ∧ Ext w2 wr)
      case atStart => exact ⟨rfl, E2⟩
      case round =>
        obtain ⟨rfl, KR⟩ := hrel
        have KW := K2.trans KR
        clear E2

        have hlc' := HLC.out
        have hw' := HW.out
        have C0 := hid (HRU.out _ KW)
        have e9 : 3 ≤ t → t ≤ 5 → IntKind.i64.wrap (t - 2) = t - 2 := fun h1 h2 => IntWalk.i64_in _ (by omega)
        rcases hlc' with ⟨e3, e4⟩ | ⟨e3, e4⟩
        · obtain rfl := e4
          clear HLC HW
          have hw : (decide (3 ≤ t) = false ∧ Is C 0) ∨ (decide (3 ≤ t) = true ∧ decide (t ≤ 5) = false ∧ Is C 0) ∨ (decide (3 ≤ t) = true ∧ decide (t ≤ 5) = true ∧ Is C (t - 2)) := hw'
          clear hw'
          rcases hw with ⟨e5, e6⟩ | ⟨e5, e7, e6⟩ | ⟨e5, e7, e6⟩
          all_goals (try have e8 : IntKind.i64.wrap (t - 2) = t - 2 := e9 (by simpa using e5) (by simpa using e7))
          all_goals clear e9

          all_goals
            obtain hcc := e6.eq
            subst hcc
            go_wp2_with fail
            skip
            (with_reducible refine (live_c _).mono ?_); rintro e w3 ⟨rfl, k3⟩
            have K3 : Ext w w3 := KW.trans k3
            have C3 := hid (HLK.out w3 K3)
            clear k3 KW KR
            go_wp2_with fail
            (with_reducible refine (C3.out).mono ?_); rintro e w4 ⟨rfl, k4⟩
            have K4 : Ext w w4 := K3.trans k4
            have C4 := hid (HU.out w4 K4)
            clear k4 C3
            go_wp2_with fail
            (with_reducible refine (C4.out).mono ?_); rintro e w5 ⟨rfl, k5⟩
            have K5 : Ext w w5 := K4.trans k5
            have C5 := hid (HRU.out w5 K5)
            clear k5 C4
            go_wp2_with fail
            (with_reducible refine (C5.out).mono ?_); rintro e w6 ⟨rfl, k6⟩
            have K6 : Ext w w6 := K5.trans k6
            clear k6 C5
            go_wp2_with fail
            (with_reducible refine (HC.out _).mono ?_); rintro e w7 ⟨rfl, k7⟩
            have K7 : Ext w w7 := K6.trans k7
            clear k7 K6 K5 K4 K3
            go_wp2_with fail
            go_ret
            exact ⟨rfl, K7⟩
        · clear HLC HW
          have hw : (decide (3 ≤ t) = false ∧ Is C 0) ∨ (decide (3 ≤ t) = true ∧ decide (t ≤ 5) = false ∧ Is C 0) ∨ (decide (3 ≤ t) = true ∧ decide (t ≤ 5) = true ∧ Is C (t - 2)) := hw'
          clear hw'
          rcases hw with ⟨e5, e6⟩ | ⟨e5, e7, e6⟩ | ⟨e5, e7, e6⟩
          all_goals (try have e8 : IntKind.i64.wrap (t - 2) = t - 2 := e9 (by simpa using e5) (by simpa using e7))
          all_goals clear e9

          all_goals
            obtain hcc := e6.eq
            subst hcc
            go_wp2_with fail
            (with_reducible refine (C0.out).mono ?_); rintro e w8 ⟨rfl, k8⟩
            have KW' := KW.trans k8
            clear KW KR k8 C0
            have KW := KW'
            have KR := E2'
            clear KW'
            go_wp2_with fail
            (with_reducible refine (live_c _).mono ?_); rintro e w3 ⟨rfl, k3⟩
            have K3 : Ext w w3 := KW.trans k3
            have C3 := hid (HLK.out w3 K3)
            clear k3 KW KR
            go_wp2_with fail
            (with_reducible refine (C3.out).mono ?_); rintro e w4 ⟨rfl, k4⟩
            have K4 : Ext w w4 := K3.trans k4
            have C4 := hid (HU.out w4 K4)
            clear k4 C3
            go_wp2_with fail
            (with_reducible refine (C4.out).mono ?_); rintro e w5 ⟨rfl, k5⟩
            have K5 : Ext w w5 := K4.trans k5
            have C5 := hid (HRU.out w5 K5)
            clear k5 C4
            go_wp2_with fail
            (with_reducible refine (C5.out).mono ?_); rintro e w6 ⟨rfl, k6⟩
            have K6 : Ext w w6 := K5.trans k6
            clear k6 C5
            go_wp2_with fail
            (with_reducible refine (HC.out _).mono ?_); rintro e w7 ⟨rfl, k7⟩
            have K7 : Ext w w7 := K6.trans k7
            clear k7 K6 K5 K4 K3
            go_wp2_with fail
            go_ret
            exact ⟨rfl, K7⟩
    · clear HH
      obtain ⟨g1, c1, rfl, _, h1⟩ := h1
      obtain ⟨g2, c2, rfl, _, h2⟩ := h2
      have a0 := hid (h1 0 F rfl)
      have a1 := hid (h1 1 G rfl)
      have b0 := hid (h2 0 F rfl)
      have b1 := hid (h2 1 G rfl)
      clear h1 h2
      go_wp2_with fail
      go_loopg [15] 2 (fun g u wr => ∃ i : Nat, i + g = 2 ∧ u = .int .i64 i ∧ Ext w2 wr)
      case atStart => exact ⟨0, rfl, rfl, E2⟩
      case round =>
        obtain ⟨i, hig, rfl, KR⟩ := hrel
        have KW := K2.trans KR
        clear E2
        rcases (by omega : i = 0 ∨ i = 1 ∨ i = 2) with rfl | rfl | rfl
        · have l1 := a0.out
          have l2 := b0.out
          go_wp2_with fail
          go_region
          go_wp2_with fail
          go_roundg 1
          case rel => exact ⟨1, rfl, by go_num, KR.drew⟩
          case measure => omega
        · have l1 := a1.out
          have l2 := b1.out
          go_wp2_with fail
          go_region
          go_wp2_with fail
          go_roundg 0
          case rel => exact ⟨2, rfl, by go_num, KR.drew⟩
          case measure => omega
        · clear a0 a1 b0 b1

          have hlc' := HLC.out
          have hw' := HW.out
          have C0 := hid (HRU.out _ KW)
          have e9 : 3 ≤ t → t ≤ 5 → IntKind.i64.wrap (t - 2) = t - 2 := fun h1 h2 => IntWalk.i64_in _ (by omega)
          rcases hlc' with ⟨e3, e4⟩ | ⟨e3, e4⟩
          · obtain rfl := e4
            clear HLC HW
            have hw : (decide (3 ≤ t) = false ∧ Is C 0) ∨ (decide (3 ≤ t) = true ∧ decide (t ≤ 5) = false ∧ Is C 0) ∨ (decide (3 ≤ t) = true ∧ decide (t ≤ 5) = true ∧ Is C (t - 2)) := hw'
            clear hw'
            rcases hw with ⟨e5, e6⟩ | ⟨e5, e7, e6⟩ | ⟨e5, e7, e6⟩
            all_goals (try have e8 : IntKind.i64.wrap (t - 2) = t - 2 := e9 (by simpa using e5) (by simpa using e7))
            all_goals clear e9

            all_goals
              obtain hcc := e6.eq
              subst hcc
              go_wp2_with fail
              skip
              (with_reducible refine (live_c _).mono ?_); rintro e w3 ⟨rfl, k3⟩
              have K3 : Ext w w3 := KW.trans k3
              have C3 := hid (HLK.out w3 K3)
              clear k3 KW KR
              go_wp2_with fail
              (with_reducible refine (C3.out).mono ?_); rintro e w4 ⟨rfl, k4⟩
              have K4 : Ext w w4 := K3.trans k4
              have C4 := hid (HU.out w4 K4)
              clear k4 C3
              go_wp2_with fail
              (with_reducible refine (C4.out).mono ?_); rintro e w5 ⟨rfl, k5⟩
              have K5 : Ext w w5 := K4.trans k5
              have C5 := hid (HRU.out w5 K5)
              clear k5 C4
              go_wp2_with fail
              (with_reducible refine (C5.out).mono ?_); rintro e w6 ⟨rfl, k6⟩
              have K6 : Ext w w6 := K5.trans k6
              clear k6 C5
              go_wp2_with fail
              (with_reducible refine (HC.out _).mono ?_); rintro e w7 ⟨rfl, k7⟩
              have K7 : Ext w w7 := K6.trans k7
              clear k7 K6 K5 K4 K3
              go_wp2_with fail
              go_ret
              exact ⟨rfl, K7⟩
          · clear HLC HW
            have hw : (decide (3 ≤ t) = false ∧ Is C 0) ∨ (decide (3 ≤ t) = true ∧ decide (t ≤ 5) = false ∧ Is C 0) ∨ (decide (3 ≤ t) = true ∧ decide (t ≤ 5) = true ∧ Is C (t - 2)) := hw'
            clear hw'
            rcases hw with ⟨e5, e6⟩ | ⟨e5, e7, e6⟩ | ⟨e5, e7, e6⟩
            all_goals (try have e8 : IntKind.i64.wrap (t - 2) = t - 2 := e9 (by simpa using e5) (by simpa using e7))
            all_goals clear e9

            all_goals
              obtain hcc := e6.eq
              subst hcc
              go_wp2_with fail
              (with_reducible refine (C0.out).mono ?_); rintro e w8 ⟨rfl, k8⟩
              have KW' := KW.trans k8
              clear KW KR k8 C0
              have KW := KW'
              have KR := E2'
              clear KW'
              go_wp2_with fail
              (with_reducible refine (live_c _).mono ?_); rintro e w3 ⟨rfl, k3⟩
              have K3 : Ext w w3 := KW.trans k3
              have C3 := hid (HLK.out w3 K3)
              clear k3 KW KR
              go_wp2_with fail
              (with_reducible refine (C3.out).mono ?_); rintro e w4 ⟨rfl, k4⟩
              have K4 : Ext w w4 := K3.trans k4
              have C4 := hid (HU.out w4 K4)
              clear k4 C3
              go_wp2_with fail
              (with_reducible refine (C4.out).mono ?_); rintro e w5 ⟨rfl, k5⟩
              have K5 : Ext w w5 := K4.trans k5
              have C5 := hid (HRU.out w5 K5)
              clear k5 C4
              go_wp2_with fail
              (with_reducible refine (C5.out).mono ?_); rintro e w6 ⟨rfl, k6⟩
              have K6 : Ext w w6 := K5.trans k6
              clear k6 C5
              go_wp2_with fail
              (with_reducible refine (HC.out _).mono ?_); rintro e w7 ⟨rfl, k7⟩
              have K7 : Ext w w7 := K6.trans k7
              clear k7 K6 K5 K4 K3
              go_wp2_with fail
              go_ret
              exact ⟨rfl, K7⟩

theorem makes_entry (v0 v1 v2 v3 v4 : Value) (W : World) {base : Nat} (h0 : Rd Try.prog W 3 v0.cells.toList) (o0 : Value.okWide Try.prog W .any base 3 v0)
    (h1 : Rd Try.prog W 3 v1.cells.toList) (o1 : Value.okWide Try.prog W .any base 3 v1)
    (h2 : Rd Try.prog W 27 v2.cells.toList) (o2 : Value.okWide Try.prog W .any base 27 v2)
    (h3 : Rd Try.prog W 27 v3.cells.toList) (o3 : Value.okWide Try.prog W .any base 27 v3)
    (h4 : Rd Try.prog W 3 v4.cells.toList) (o4 : Value.okWide Try.prog W .any base 3 v4) :
    Calls Try.prog 6 #[v0, v1, v2, v3, v4] W fun e w' => e = .returned (.bool true) ∧ Below W.heap.size W w' := by
  obtain ⟨p, rfl, _⟩ := opn_int Try.underlying3 h0 o0
  obtain ⟨q, rfl, _⟩ := opn_int Try.underlying3 h1 o1
  obtain ⟨A, bl, o, b, c, rfl, hc, _, _, _, hr, hy⟩ := opn_bytes Try.underlying27 Try.underlying5 (by kernel_rfl) (by kernel_rfl) h2 o2
  obtain ⟨A', bl', o', b', c', rfl, hc', _, _, _, hr', hy'⟩ := opn_bytes Try.underlying27 Try.underlying5 (by kernel_rfl) (by kernel_rfl) h3 o3
  obtain ⟨t, rfl, _⟩ := opn_int Try.underlying3 h4 o4
  exact (makes_c p q t _ _ b b' W (Bs.row hc hr hy) (Bs.row hc' hr' hy')).mono fun e w' h => ⟨h.1, h.2⟩

end Go.Proofs.Ytfjmflkfnccohaa
