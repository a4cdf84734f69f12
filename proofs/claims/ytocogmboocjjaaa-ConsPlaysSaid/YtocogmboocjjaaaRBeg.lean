/- The reference's Begin (layer 30). -/
import Derived.Test.YtocogmboocjjaaaRt
import Derived.Deep.Cut
import Derived.Deep.CutRange
import Derived.Deep.DeepCutAuto
set_option linter.unusedSimpArgs false
set_option linter.unusedVariables false
set_option linter.unnecessarySimpa false
namespace Go.Proofs.Ytocogmboocjjaaa
open Go.RowKit Go.Proofs.YtocogmboocjjaaaW.PrintWords
attribute [local go_sem] max2_max min2_min max_of_two min_of_two bxF_fr stF_fr stF_fr2 stF_put ldF_put ldV_put ldF_new guard_eq guard_ne bin_eq bin_ne alF_fr bdF_none bdF_ask bdF_len bdF_dat ext_drew' ext_alloc
attribute [local go_sem ↓] ldF_in ldV_in bxF_in stF_in cvS_in alF_in bdF_in ixS_in
attribute [local go_sem] bxC_ch chguard_eq chguard_ne chbin_eq chbin_ne ldC_new bxT_v alT_v stT_put stT_new bdT_none bdT_failed bdT_v bdW_v gUpon gStill
attribute [local go_sem ↓] ldC_in bxC_in stC_in ldT_in bxT_in stT_in alT_in bdT_in bdW_in
attribute [local go_sem] alQ_v bxQ_v stQ_new bdQ_none bdQ_failed bdQ_v ldQ_new
attribute [local go_sem ↓] ldQ_in bxQ_in stQ_in alQ_in bdQ_in ldG_in stG_in

theorem stG_new (w : World) (r q : Rf) : (stG (.pointer (some ⟨w.heap.size, 0, none⟩)) (.agg r.cells)).run Try.prog (w.alloc (.cells q.cells RT)) = .ok () (w.alloc (.cells r.cells RT)) := by
  have hs := run_storeVar_row (P := Try.prog) (w.alloc (.cells q.cells RT)) w.heap.size RT RT q.cells r.cells (Blk.new w q.cells RT) (by rw [infoG]; rfl) rfl (by simp [Rf.cells, Value.oneCell'])
  unfold stG
  simp only [Instr.storeAt, Instr.sureAddr, Sem.run_bind, Sem.run_pure, Result.andThen_ok]
  refine hs.trans ?_
  rw [set_row_last]
theorem stG_new0 (w : World) (r : Rf) : (stG (.pointer (some ⟨w.heap.size, 0, none⟩)) (.agg r.cells)).run Try.prog (w.alloc (.cells #[.int .i64 0, .int .i64 0, .int .i64 0, .int .i64 0] RT)) = .ok () (w.alloc (.cells r.cells RT)) := stG_new w r ⟨0, 0, 0, 0⟩
theorem ldG_blk {w : World} {b : Nat} {r : Rf} (h : Blk w b r.cells RT) : (ldG (.pointer (some ⟨b, 0, none⟩))).run Try.prog w = .ok (.agg r.cells) w := by
  have := run_loadAt_mid (P := Try.prog) w b 0 RT r.cells.toList _ (fun j v hv => by rw [Nat.zero_add]; exact h.cell j v (by simpa using hv)) Try.underlying63 rfl (by rw [infoG]; rfl)
  simpa [ldG] using this
theorem ldG_new (w : World) (r : Rf) : (ldG (.pointer (some ⟨w.heap.size, 0, none⟩))).run Try.prog (w.alloc (.cells r.cells RT)) = .ok (.agg r.cells) (w.alloc (.cells r.cells RT)) := ldG_blk (Blk.new w r.cells RT)
attribute [local go_sem] stG_new0 ldG_new
def Qt.begin (t : Qt) (now : Int) (on : Bool) (x : Ch) : Qt × Int :=
  if tkB now = false ∨ t.failed ≠ 0 then (t, 0)
  else if on = false ∨ x.tks = false then (Qt.rest 0, 0)
  else if t.works = false ∨ chEq t.x x = false then (⟨true, x, ⟨x.at 1, x.at 2, now, -1⟩, false, [], [], 0⟩, 0)
  else if t.g.check now = 0 then (t, 0) else (Qt.rest (t.g.check now), t.g.check now)
set_option maxRecDepth 100000 in
set_option maxHeartbeats 4000000 in
theorem rbegin_c (t : Qt) (now : Int) (on : Bool) (x : Ch) (w : World) (hb : t.works = true → 0 ≤ t.g.time ∧ t.g.time ≤ 65535 ∧ 0 ≤ t.g.gap ∧ t.g.gap ≤ 65535) :
    Calls Try.prog 21 #[t.val, .int .i64 now, .bool on, x.val] w fun e w' => e = .returned (.tuple #[(t.begin now on x).1.val, .int .i64 (t.begin now on x).2]) ∧ Ext w w' := by
  have K0 : Ext w (((w.alloc (.cells t.cells QT)).alloc (.cells x.cells CT)).alloc (.cells (Qt.rest 0).cells QT)) := (by repeat (first | with_reducible exact Ext.refl _ | with_reducible assumption | with_reducible apply Ext.alloc | with_reducible apply Ext.drew | with_reducible apply Ext.drewN | (with_reducible refine Ext.set' ?_ (by first | omega | (simp only [World.size_alloc, World.size_setCell]; omega))) | (with_reducible refine Ext.trans ?_ (by with_reducible assumption)) | (with_reducible refine Ext.only ?_ (by with_reducible assumption) (by omega))))
  have b4 : Blk (((w.alloc (.cells t.cells QT)).alloc (.cells x.cells CT)).alloc (.cells (Qt.rest 0).cells QT)) w.heap.size t.cells QT := ((Blk.new w t.cells QT).alloc _).alloc _
  have b7 : Blk (((w.alloc (.cells t.cells QT)).alloc (.cells x.cells CT)).alloc (.cells (Qt.rest 0).cells QT)) (w.heap.size + 1) x.cells CT := by
    have := (Blk.new (w.alloc (.cells t.cells QT)) x.cells CT).alloc (.cells (Qt.rest 0).cells QT)
    rwa [World.size_alloc] at this
  have b8 : Blk (((w.alloc (.cells t.cells QT)).alloc (.cells x.cells CT)).alloc (.cells (Qt.rest 0).cells QT)) (w.heap.size + 1 + 1) (Qt.rest 0).cells QT := by
    have := Blk.new ((w.alloc (.cells t.cells QT)).alloc (.cells x.cells CT)) (Qt.rest 0).cells QT
    rwa [World.size_alloc, World.size_alloc] at this
  have B4 := hid b4
  have B7 := hid b7
  have B8 := hid b8
  obtain ⟨R, hR⟩ : ∃ R, Is (t.begin now on x) R := ⟨_, Is.refl _⟩
  rw [hR.eq]
  have HB := hid hb
  clear b4 b7 b8 hb
  go_enter Try.func21, Try.ntmps21
  go_upto_region 1 with fail
  generalize hW0 : (((w.alloc (.cells t.cells QT)).alloc (.cells x.cells CT)).alloc (.cells (Qt.rest 0).cells QT)) = W0 at *
  obtain ⟨rb, hrb⟩ : ∃ q, Is (w.heap.size + 1 + 1) q := ⟨_, Is.refl _⟩
  have hrw : w.heap.size ≤ rb := by have := hrb.eq; omega
  rw [hrb.eq] at B8 ⊢
  obtain ⟨xb, hxb⟩ : ∃ q, Is (w.heap.size + 1) q := ⟨_, Is.refl _⟩
  rw [hxb.eq] at B7 ⊢
  obtain ⟨qb, hqb⟩ : ∃ q, Is w.heap.size q := ⟨_, Is.refl _⟩
  rw [hqb.eq] at B4 ⊢
  have LQ := hid (fun w' (q : Ext W0 w') => ldQ_blk (q.blk B4.out))
  have LC := hid (fun w' (q : Ext W0 w') => ldC_qt (q.blk B4.out))
  have LX := hid (fun w' (q : Ext W0 w') => ldC_blk (q.blk B7.out))
  have LG := hid (fun w' (q : Ext W0 w') => ldG_qt (q.blk B4.out))
  have X1 := hid (fun w' (q : Ext W0 w') => (q.blk B7.out).chat (j := 1) (by omega))
  have X2 := hid (fun w' (q : Ext W0 w') => (q.blk B7.out).chat (j := 2) (by omega))
  have CW := hid (fun w' (q : Ext W0 w') => (q.blk B4.out).cell 0 _ t.at0)
  have FIN := hid (fun w' (q : Ext W0 w') (m : Qt) => (And.intro (stQ_put w' rb m ⟨_, q.blk B8.out⟩) (And.intro (putQ_blk (w := w') (b := rb) m ⟨_, q.blk B8.out⟩) (Ext.only (K0.trans q) (putQ_only w' rb m) hrw)) :
    (stQ (.pointer (some ⟨rb, 0, none⟩))  m.val).run Try.prog w' = .ok () (putQ w' rb m) ∧ Blk (putQ w' rb m) rb m.cells QT ∧ Ext w (putQ w' rb m)))
  have E0 := Ext.refl W0
  have cf : W0.cell? ⟨qb, 38, none⟩ = some (.int .i64 t.failed) := B4.out.cell 38 _ (t.tl 7)
  have cw := CW.out _ E0
  have lx := LX.out _ E0
  have lc := LC.out _ E0
  have lq := LQ.out _ E0
  have lg := LG.out _ E0
  have x1 := X1.out _ E0
  have x2 := X2.out _ E0
  have TKS := hid (fun w => rtakes_c x w)
  clear hW0 B4 B7 B8
  have hRT : ∀ q, tkB now = q → Is (t.begin now on x) R := fun _ _ => hR
  by_cases hA : tkB now = false ∨ t.failed ≠ 0
  · obtain rfl : R = (t, 0) := by rw [← hR.eq]; unfold Qt.begin; rw [if_pos hA]
    obtain ⟨st, P1, P2⟩ := FIN.out W0 E0 t
    have HP := hid (And.intro P1 P2)
    clear P1 P2 hR hRT
    by_cases n0 : now < 0
    · have e1 : decide (now < 0) = true := by simpa using n0
      clear n0 hA
      go_wp2_with fail
      exact bodyPost_ret (res_qt (Try.results21) rfl rfl HP.out.1) rfl ⟨rfl, HP.out.2⟩
    · have e1 : decide (now < 0) = false := by simpa using n0
      by_cases n1 : 2147483647 < now
      · have e2 : decide (2147483647 < now) = true := by simpa using n1
        clear n0 n1 hA
        go_wp2_with fail
        exact bodyPost_ret (res_qt (Try.results21) rfl rfl HP.out.1) rfl ⟨rfl, HP.out.2⟩
      · have e2 : decide (2147483647 < now) = false := by simpa using n1
        have e3 : (t.failed != 0) = true := by
          rcases hA with h | h
          · unfold tkB at h
            simp only [Bool.and_eq_false_iff, decide_eq_false_iff_not] at h
            omega
          · simpa using h
        clear n0 n1 hA
        go_wp2_with fail
        exact bodyPost_ret (res_qt (Try.results21) rfl rfl HP.out.1) rfl ⟨rfl, HP.out.2⟩
  have hA' : tkB now = true ∧ t.failed = 0 := by
    simp only [not_or] at hA
    exact ⟨by simpa using hA.1, by omega⟩
  have hn : 0 ≤ now ∧ now ≤ 2147483647 := by
    have h := hA'.1
    unfold tkB at h
    simpa using h
  have e1 : decide (now < 0) = false := by simp; omega
  have e2 : decide (2147483647 < now) = false := by simp; omega
  have e3 : (t.failed != 0) = false := by simp [hA'.2]
  clear hRT
  by_cases hon : on = true
  case neg =>
    obtain rfl : on = false := by simpa using hon
    obtain rfl : R = (Qt.rest 0, 0) := by rw [← hR.eq]; unfold Qt.begin; rw [if_neg hA, if_pos (.inl rfl)]
    obtain ⟨st, P1, P2⟩ := FIN.out W0 E0 (Qt.rest 0)
    have HP := hid (And.intro P1 P2)
    clear P1 P2 hR hA hA' hon
    go_wp2_with fail
    exact bodyPost_ret (res_qt (Try.results21) rfl rfl HP.out.1) rfl ⟨rfl, HP.out.2⟩
  subst hon
  obtain ⟨tk, htk⟩ : ∃ q, Is x.tks q := ⟨_, Is.refl _⟩
  rw [htk.eq] at TKS
  cases tk
  · obtain rfl : R = (Qt.rest 0, 0) := by rw [← hR.eq]; unfold Qt.begin; rw [if_neg hA, if_pos (.inr htk.eq)]
    clear hR hA hA'
    go_wp2_with fail
    (with_reducible refine (TKS.out _).mono ?_); rintro e w1 ⟨rfl, k1⟩
    obtain ⟨st, P1, P2⟩ := FIN.out w1 k1 (Qt.rest 0)
    have HP := hid (And.intro P1 P2)
    clear P1 P2 k1
    go_wp2_with fail
    exact bodyPost_ret (res_qt (Try.results21) rfl rfl HP.out.1) rfl ⟨rfl, HP.out.2⟩
  have hC0 : ¬ (true = false ∨ x.tks = false) := by rw [htk.eq]; simp
  go_wp2_with fail
  (with_reducible refine (TKS.out _).mono ?_); rintro e w1 ⟨rfl, k1⟩
  have cw1 := CW.out _ k1
  have lx1 := LX.out _ k1
  have lc1 := LC.out _ k1
  have lq1 := LQ.out _ k1
  have lg1 := LG.out _ k1
  have y1 := X1.out _ k1
  have y2 := X2.out _ k1
  have HK1 := hid k1
  have NEW : Hid (∀ wk, wk = true → (Qt.begin t now true x) = R → (t.works = false ∨ chEq t.x x = false) → R = (⟨true, x, ⟨x.at 1, x.at 2, now, -1⟩, false, [], [], 0⟩, 0)) := hid (fun _ _ h h2 => by rw [← h]; unfold Qt.begin; rw [if_neg hA, if_neg hC0, if_pos h2])
  have hwk0 : Rf.wake ⟨x.at 1, x.at 2, -1, -1⟩ now = ⟨x.at 1, x.at 2, now, -1⟩ := by unfold Rf.wake; rw [if_neg (by show ¬ (0 : Int) ≤ -1; omega)]
  have NW := hid (fun w => rnew_any (x.at 1) (x.at 2) w)
  have WA := hid (fun w => (hwk0 ▸ rwake_any ⟨x.at 1, x.at 2, -1, -1⟩ now w))
  clear cw lx lc lq lg x1 x2 cf k1 hwk0 hA'
  by_cases hnew : t.works = false ∨ chEq t.x x = false
  · obtain rfl := NEW.out true rfl hR.eq hnew
    have FI2 := hid (fun w' q => FIN.out w' q ⟨true, x, ⟨x.at 1, x.at 2, now, -1⟩, false, [], [], 0⟩)
    have LXX := hid (fun w' q => LX.out w' q)
    have ARM : t.works = false ∨ (t.works = true ∧ chEq t.x x = false) := by
      cases hw : t.works
      · exact .inl rfl
      · rcases hnew with h | h
        · rw [hw] at h; cases h
        · exact .inr ⟨rfl, h⟩
    clear hR NEW hnew hA hC0
    rcases ARM with hw | ⟨hw, hq⟩
    all_goals
      rw [hw] at cw1
      go_wp2_with fail
      (with_reducible refine (NW.out _).mono ?_); rintro e w2 ⟨rfl, k2⟩
      have K2 : Ext W0 w2 := HK1.out.trans k2
      clear k2
      go_wp2_with fail
      (with_reducible refine (WA.out _).mono ?_); rintro e w3 ⟨rfl, k3⟩
      have K3 : Ext W0 w3 := K2.trans k3
      have K4 : Ext W0 (w3.alloc (.cells (Rf.cells ⟨x.at 1, x.at 2, now, -1⟩) RT)) := (by repeat (first | with_reducible exact Ext.refl _ | with_reducible assumption | with_reducible apply Ext.alloc | with_reducible apply Ext.drew | with_reducible apply Ext.drewN | (with_reducible refine Ext.set' ?_ (by first | omega | (simp only [World.size_alloc, World.size_setCell]; omega))) | (with_reducible refine Ext.trans ?_ (by with_reducible assumption)) | (with_reducible refine Ext.only ?_ (by with_reducible assumption) (by omega))))
      have lx4 := LXX.out _ K4
      obtain ⟨st, P1, P2⟩ := FI2.out _ K4
      have HP := hid (And.intro P1 P2)
      clear P1 P2 K2 K3 K4 k3
      go_wp2_with fail
      exact bodyPost_ret (res_qt (Try.results21) rfl rfl HP.out.1) rfl ⟨rfl, HP.out.2⟩
  · obtain ⟨hw, hq⟩ : t.works = true ∧ chEq t.x x = true := by
      simp only [not_or] at hnew
      exact ⟨by simpa using hnew.1, by simpa using hnew.2⟩
    have hbb := HB.out hw
    have CK := hid (fun w => rcheck_any t.g.time t.g.gap t.g.since t.g.first now w hbb.1 hbb.2.1 hbb.2.2.1 hbb.2.2.2 hn.1 hn.2)
    have hgc : Rf.check ⟨t.g.time, t.g.gap, t.g.since, t.g.first⟩ now = t.g.check now := rfl
    rw [hgc] at CK
    rw [hw] at cw1
    have HR2 : Hid (R = if t.g.check now = 0 then (t, 0) else (Qt.rest (t.g.check now), t.g.check now)) := hid (by rw [← hR.eq]; unfold Qt.begin; rw [if_neg hA, if_neg hC0, if_neg hnew])
    obtain ⟨cc, hcc⟩ : ∃ q, Is (t.g.check now) q := ⟨_, Is.refl _⟩
    rw [hcc.eq] at CK HR2
    clear hR NEW hnew hA hC0 hgc hbb
    by_cases hc0 : cc = 0
    · have hr := HR2.out
      rw [if_pos hc0] at hr
      subst hr
      subst hc0
      go_wp2_with fail
      (with_reducible refine (CK.out _).mono ?_); rintro e w2 ⟨rfl, k2⟩
      have K2 : Ext W0 w2 := HK1.out.trans k2
      have lq2 := LQ.out _ K2
      obtain ⟨st, P1, P2⟩ := FIN.out _ K2 t
      have HP := hid (And.intro P1 P2)
      clear P1 P2 K2 k2
      go_wp2_with fail
      exact bodyPost_ret (res_qt (Try.results21) rfl rfl HP.out.1) rfl ⟨rfl, HP.out.2⟩
    · have hr := HR2.out
      rw [if_neg hc0] at hr
      subst hr
      have e5 : (cc != 0) = true := by simpa using hc0
      clear hc0
      go_wp2_with fail
      (with_reducible refine (CK.out _).mono ?_); rintro e w2 ⟨rfl, k2⟩
      have K2 : Ext W0 w2 := HK1.out.trans k2
      obtain ⟨st, P1, P2⟩ := FIN.out _ K2 (Qt.rest cc)
      have HP := hid (And.intro P1 P2)
      clear P1 P2 K2 k2
      go_wp2_with fail
      exact bodyPost_ret (res_qt (Try.results21) rfl rfl HP.out.1) rfl ⟨rfl, HP.out.2⟩

end Go.Proofs.Ytocogmboocjjaaa
