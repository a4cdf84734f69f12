/- The reference's Hear (layer 30). -/
import Derived.Test.YtocogmboocjjaaaRBeg
import Derived.Test.YtocogmboocjjaaaRBytes
import Derived.Test.YtocogmboocjjaaaRFlip2
import Derived.Test.YtocogmboocjjaaaStrB
import Derived.Deep.Cut
import Derived.Deep.CutBlock
import Derived.Deep.CutRange
import Derived.Deep.DeepCutAuto
import Derived.Deep.RegionWith
set_option linter.unusedSimpArgs false
set_option linter.unusedVariables false
set_option linter.unnecessarySimpa false
namespace Go.Proofs.Ytocogmboocjjaaa
open Go.RowKit Go.Proofs.YtocogmboocjjaaaW.PrintWords
attribute [local go_sem] max2_max min2_min max_of_two min_of_two bxF_fr stF_fr stF_fr2 stF_put ldF_put ldV_put ldF_new guard_eq guard_ne bin_eq bin_ne alF_fr bdF_none bdF_ask bdF_len bdF_dat ext_drew' ext_alloc
attribute [local go_sem ↓] ldF_in ldV_in bxF_in stF_in cvS_in alF_in bdF_in ixS_in
attribute [local go_sem] bxC_ch chguard_eq chguard_ne chbin_eq chbin_ne ldC_new bxT_v alT_v stT_put stT_new bdT_none bdT_failed bdT_v bdW_v gUpon gStill
attribute [local go_sem ↓] ldC_in bxC_in stC_in ldT_in bxT_in stT_in alT_in bdT_in bdW_in
attribute [local go_sem] alQ_v bxQ_v stQ_new bdQ_none bdQ_failed bdQ_v ldQ_new stG_new0 ldG_new
attribute [local go_sem] cvB_run
attribute [local go_sem ↓] cvB_in ldQ_in bxQ_in stQ_in alQ_in bdQ_in ldG_in stG_in

/-- Why it fails of a frame; 0: it does not. -/
def Qt.why (t : Qt) (f : Fr) : Int :=
  if (f.bytes.length : Int) ≠ t.x.sz then 2 else if decide (f.id = t.x.at 4) ≠ t.half then 1 else if f.id = t.x.at 4 ∧ flipL t.came ≠ f.bytes then 3 else 0
def Qt.hear (t : Qt) (now : Int) (f : Fr) : Qt × List Int × Int :=
  if t.works = false ∨ tkB now = false ∨ f.chk ≠ 0 ∨ f.rtr = true ∨ (f.id ≠ t.x.at 3 ∧ f.id ≠ t.x.at 4) then (t, [], 0)
  else if t.why f ≠ 0 then (Qt.rest (t.why f), [], t.why f)
  else if f.id = t.x.at 4 then (⟨t.works, t.x, t.g.whole now, false, t.came, t.came, t.failed⟩, t.came, 0)
  else (⟨t.works, t.x, t.g.half now, true, f.bytes, t.value, t.failed⟩, [], 0)

set_option maxRecDepth 100000 in
set_option maxHeartbeats 8000000 in
theorem rhear_c (t : Qt) (now : Int) (f : Fr) (w : World) (hd : Byt f.data) (hcb : Byt t.came) (hcl : t.came.length ≤ 8) :
    Calls Try.prog 22 #[t.val, .int .i64 now, f.val] w fun e w' => e = .returned (.tuple #[(t.hear now f).1.val, .string (mkS (t.hear now f).2.1), .int .i64 (t.hear now f).2.2]) ∧ Ext w w' := by
  have K0 : Ext w (((w.alloc (.cells t.cells QT)).alloc (.cells f.cells FT)).alloc (.cells (Qt.rest 0).cells QT)) := (by repeat (first | with_reducible exact Ext.refl _ | with_reducible assumption | with_reducible apply Ext.alloc | with_reducible apply Ext.drew | with_reducible apply Ext.drewN | (with_reducible refine Ext.set' ?_ (by first | omega | (simp only [World.size_alloc, World.size_setCell]; omega))) | (with_reducible refine Ext.trans ?_ (by with_reducible assumption)) | (with_reducible refine Ext.only ?_ (by with_reducible assumption) (by omega))))
  have b4 : Blk (((w.alloc (.cells t.cells QT)).alloc (.cells f.cells FT)).alloc (.cells (Qt.rest 0).cells QT)) w.heap.size t.cells QT := ((Blk.new w t.cells QT).alloc _).alloc _
  have b7 : Blk (((w.alloc (.cells t.cells QT)).alloc (.cells f.cells FT)).alloc (.cells (Qt.rest 0).cells QT)) (w.heap.size + 1) f.cells FT := by
    have := (Blk.new (w.alloc (.cells t.cells QT)) f.cells FT).alloc (.cells (Qt.rest 0).cells QT)
    rwa [World.size_alloc] at this
  have b8 : Blk (((w.alloc (.cells t.cells QT)).alloc (.cells f.cells FT)).alloc (.cells (Qt.rest 0).cells QT)) (w.heap.size + 1 + 1) (Qt.rest 0).cells QT := by
    have := Blk.new ((w.alloc (.cells t.cells QT)).alloc (.cells f.cells FT)) (Qt.rest 0).cells QT
    rwa [World.size_alloc, World.size_alloc] at this
  have B4 := hid b4
  have B7 := hid b7
  have B8 := hid b8
  obtain ⟨R, hR⟩ : ∃ R, Is (t.hear now f) R := ⟨_, Is.refl _⟩
  rw [hR.eq]
  have HD := hid (And.intro hd (And.intro hcb hcl))
  have hm0 : mkS [] = ⟨#[]⟩ := rfl
  clear b4 b7 b8 hd hcb hcl
  go_enter Try.func22, Try.ntmps22
  go_upto_region 1 with fail
  generalize hW0 : (((w.alloc (.cells t.cells QT)).alloc (.cells f.cells FT)).alloc (.cells (Qt.rest 0).cells QT)) = W0 at *
  obtain ⟨rb, hrb⟩ : ∃ q, Is (w.heap.size + 1 + 1) q := ⟨_, Is.refl _⟩
  have hrw : w.heap.size ≤ rb := by have := hrb.eq; omega
  rw [hrb.eq] at B8 ⊢
  obtain ⟨fb, hfb⟩ : ∃ q, Is (w.heap.size + 1) q := ⟨_, Is.refl _⟩
  rw [hfb.eq] at B7 ⊢
  obtain ⟨qb, hqb⟩ : ∃ q, Is w.heap.size q := ⟨_, Is.refl _⟩
  rw [hqb.eq] at B4 ⊢
  have hne : Hid (qb ≠ rb ∧ w.heap.size ≤ qb) := hid (by have h1 := hrb.eq; have h2 := hqb.eq; omega)
  have LQ := hid (fun w' (q : Ext W0 w') => ldQ_blk (q.blk B4.out))
  have LC := hid (fun w' (q : Ext W0 w') => ldC_qt (q.blk B4.out))
  have LF := hid (fun w' (q : Ext W0 w') => ldF_blk (q.blk B7.out))
  have F0 := hid (fun w' (q : Ext W0 w') => (show w'.cell? ⟨fb, 0, none⟩ = some (.int .i64 f.id) from (q.blk B7.out).cell 0 _ rfl))
  have F1 := hid (fun w' (q : Ext W0 w') => (show w'.cell? ⟨fb, 1, none⟩ = some (.bool f.rtr) from (q.blk B7.out).cell 1 _ rfl))
  have X3 := hid (fun w' (q : Ext W0 w') => (q.blk B4.out).cell 4 _ (t.cx (j := 3) (by omega)))
  have X4 := hid (fun w' (q : Ext W0 w') => (q.blk B4.out).cell 5 _ (t.cx (j := 4) (by omega)))
  have CH_ := hid (fun w' (q : Ext W0 w') => (show w'.cell? ⟨qb, 35, none⟩ = some (.bool t.half) from (q.blk B4.out).cell 35 _ (t.tl 4)))
  have CC := hid (fun w' (q : Ext W0 w') => (show w'.cell? ⟨qb, 36, none⟩ = some (.string (mkS t.came)) from (q.blk B4.out).cell 36 _ (t.tl 5)))
  have FIN := hid (fun w' (q : Ext W0 w') (m : Qt) => (And.intro (stQ_put w' rb m ⟨_, q.blk B8.out⟩) (And.intro (putQ_blk (w := w') (b := rb) m ⟨_, q.blk B8.out⟩) (Ext.only (K0.trans q) (putQ_only w' rb m) hrw)) :
    (stQ (.pointer (some ⟨rb, 0, none⟩))  m.val).run Try.prog w' = .ok () (putQ w' rb m) ∧ Blk (putQ w' rb m) rb m.cells QT ∧ Ext w (putQ w' rb m)))
  have E0 := Ext.refl W0
  have cw : W0.cell? ⟨qb, 0, none⟩ = some (.bool t.works) := B4.out.cell 0 _ t.at0
  have lq := LQ.out _ E0
  have lf := LF.out _ E0
  have CK := hid (fun w => rcheck_v f w)
  have HB4 := hid B4.out
  clear hW0 B4 B7
  obtain ⟨wk, hwk⟩ : ∃ q, Is t.works q := ⟨_, Is.refl _⟩
  rw [hwk.eq] at cw
  have LEAVE : Hid (∀ w', Ext W0 w' → (ldQ (.pointer (some ⟨qb, 0, none⟩))).run Try.prog w' = .ok t.val w' ∧ (stQ (.pointer (some ⟨rb, 0, none⟩)) t.val).run Try.prog w' = .ok () (putQ w' rb t) ∧ Blk (putQ w' rb t) rb t.cells QT ∧ Ext w (putQ w' rb t))   := hid (fun w' q => ⟨LQ.out w' q, FIN.out w' q t⟩)
  cases wk
  · obtain rfl : R = (t, [], 0) := by rw [← hR.eq]; unfold Qt.hear; rw [if_pos (.inl hwk.eq)]
    clear hR hwk
    obtain ⟨lq9, st9, P1, P2⟩ := LEAVE.out W0 E0
    have HP := hid (And.intro P1 P2)
    clear P1 P2
    go_wp2_with fail
    exact bodyPost_ret (res_qt3 (Try.results22) rfl rfl rfl HP.out.1) rfl ⟨by first | rfl | rw [hm0], HP.out.2⟩
  by_cases n0 : now < 0
  · have e1 : decide (now < 0) = true := by simpa using n0
    obtain rfl : R = (t, [], 0) := by rw [← hR.eq]; unfold Qt.hear; rw [if_pos (.inr (.inl (by unfold tkB; simp; omega)))]
    clear hR hwk n0
    obtain ⟨lq9, st9, P1, P2⟩ := LEAVE.out W0 E0
    have HP := hid (And.intro P1 P2)
    clear P1 P2
    go_wp2_with fail
    exact bodyPost_ret (res_qt3 (Try.results22) rfl rfl rfl HP.out.1) rfl ⟨by first | rfl | rw [hm0], HP.out.2⟩
  have e1 : decide (now < 0) = false := by simpa using n0
  by_cases n1 : 2147483647 < now
  · have e2 : decide (2147483647 < now) = true := by simpa using n1
    obtain rfl : R = (t, [], 0) := by rw [← hR.eq]; unfold Qt.hear; rw [if_pos (.inr (.inl (by unfold tkB; simp; omega)))]
    clear hR hwk n0 n1
    obtain ⟨lq9, st9, P1, P2⟩ := LEAVE.out W0 E0
    have HP := hid (And.intro P1 P2)
    clear P1 P2
    go_wp2_with fail
    exact bodyPost_ret (res_qt3 (Try.results22) rfl rfl rfl HP.out.1) rfl ⟨by first | rfl | rw [hm0], HP.out.2⟩
  have e2 : decide (2147483647 < now) = false := by simpa using n1
  have htk : Hid (tkB now = true) := hid (by unfold tkB; simp; omega)
  obtain ⟨ch, hch⟩ : ∃ q, Is f.chk q := ⟨_, Is.refl _⟩
  rw [hch.eq] at CK
  clear n0 n1
  by_cases hc0 : ch = 0
  case neg =>
    have e3 : (ch != 0) = true := by simpa using hc0
    obtain rfl : R = (t, [], 0) := by rw [← hR.eq]; unfold Qt.hear; rw [if_pos (.inr (.inr (.inl (by rw [hch.eq]; exact hc0))))]
    clear hR hwk hc0 hch
    go_wp2_with fail
    (with_reducible refine (CK.out _).mono ?_); rintro e w1 ⟨rfl, k1⟩
    obtain ⟨lq9, st9, P1, P2⟩ := LEAVE.out w1 k1
    have HP := hid (And.intro P1 P2)
    clear P1 P2
    go_wp2_with fail
    exact bodyPost_ret (res_qt3 (Try.results22) rfl rfl rfl HP.out.1) rfl ⟨by first | rfl | rw [hm0], HP.out.2⟩
  subst hc0
  obtain ⟨rt, hrt⟩ : ∃ q, Is f.rtr q := ⟨_, Is.refl _⟩
  obtain ⟨id, hid0⟩ : ∃ q, Is f.id q := ⟨_, Is.refl _⟩
  go_wp2_with fail
  (with_reducible refine (CK.out _).mono ?_); rintro e w1 ⟨rfl, k1⟩
  have f1 := F1.out w1 k1
  have f0 := F0.out w1 k1
  have x3 := X3.out w1 k1
  have x4 := X4.out w1 k1
  rw [hrt.eq] at f1
  rw [hid0.eq] at f0
  have HK1 := hid k1
  clear cw lq lf
  cases rt
  case true =>
    obtain rfl : R = (t, [], 0) := by rw [← hR.eq]; unfold Qt.hear; rw [if_pos (.inr (.inr (.inr (.inl hrt.eq))))]
    clear hR hwk hch
    obtain ⟨lq9, st9, P1, P2⟩ := LEAVE.out w1 k1
    have HP := hid (And.intro P1 P2)
    clear P1 P2
    go_wp2_with fail
    exact bodyPost_ret (res_qt3 (Try.results22) rfl rfl rfl HP.out.1) rfl ⟨by first | rfl | rw [hm0], HP.out.2⟩
  obtain ⟨p3, hp3⟩ : ∃ q, Is (t.x.at 3) q := ⟨_, Is.refl _⟩
  obtain ⟨p4, hp4⟩ : ∃ q, Is (t.x.at 4) q := ⟨_, Is.refl _⟩
  rw [hp3.eq] at x3
  rw [hp4.eq] at x4
  by_cases hneither : id ≠ p3 ∧ id ≠ p4
  · have e4 : (id != p3) = true := by simpa using hneither.1
    have e5 : (id != p4) = true := by simpa using hneither.2
    obtain rfl : R = (t, [], 0) := by rw [← hR.eq]; unfold Qt.hear; rw [if_pos (.inr (.inr (.inr (.inr (by rw [hid0.eq, hp3.eq, hp4.eq]; exact hneither)))))]
    clear hR hwk hch hneither
    obtain ⟨lq9, st9, P1, P2⟩ := LEAVE.out w1 k1
    have HP := hid (And.intro P1 P2)
    clear P1 P2
    go_wp2_with fail
    exact bodyPost_ret (res_qt3 (Try.results22) rfl rfl rfl HP.out.1) rfl ⟨by first | rfl | rw [hm0], HP.out.2⟩
  have hR1 : Hid (R = if t.why f ≠ 0 then (Qt.rest (t.why f), [], t.why f) else if f.id = t.x.at 4 then (⟨t.works, t.x, t.g.whole now, false, t.came, t.came, t.failed⟩, t.came, 0) else (⟨t.works, t.x, t.g.half now, true, f.bytes, t.value, t.failed⟩, [], 0)) := hid (by
    rw [← hR.eq]
    unfold Qt.hear
    rw [if_neg (by rw [hwk.eq, htk.out, hch.eq, hrt.eq, hid0.eq, hp3.eq, hp4.eq]; simp only [not_or]; exact ⟨by simp, by simp, by simp, by simp, hneither⟩)])
  have BY := hid (fun w => rbytes_v f w HD.out.1)
  have BYT := hid (bytes_byt (f := f) HD.out.1)
  have hyl := hid (fr_bytes_len f)
  have HWHY : Hid (t.why f = if (f.bytes.length : Int) ≠ t.x.sz then 2 else if decide (id = p4) ≠ t.half then 1 else if id = p4 ∧ flipL t.came ≠ f.bytes then 3 else 0) := hid (by unfold Qt.why; rw [hid0.eq, hp4.eq])
  rw [hid0.eq, hp4.eq] at hR1
  have hguard : (id == p3) = true ∨ ((id == p3) = false ∧ (id == p4) = true) := by
    by_cases h3 : id = p3
    · exact .inl (by simpa using h3)
    · refine .inr ⟨by simpa using h3, ?_⟩
      have h4 := Decidable.not_not.1 (fun h => hneither ⟨h3, h⟩)
      simpa using h4
  generalize f.bytes = l at *
  obtain ⟨y, hy⟩ : ∃ q, Is (t.why f) q := ⟨_, Is.refl _⟩
  rw [hy.eq] at hR1 HWHY
  have hgd : ((id != p3) && (id != p4)) = false := by
    rcases hguard with h | ⟨h1, h2⟩
    · have : (id != p3) = false := by simp at h ⊢; exact h
      rw [this]; rfl
    · have : (id != p4) = false := by simp at h2 ⊢; exact h2
      rw [this]; simp
  have lf1 := LF.out w1 k1
  have hsz := rsize_c t.x
  clear hR hwk hch hneither hrt hp3 LEAVE k1
  have HGO : Hid ((id == p3) = true ∨ ((id == p3) = false ∧ (id == p4) = true)) := hid hguard
  have hcs : ((id != p3) = false) ∨ ((id != p3) = true ∧ (id != p4) = false) := by
    rcases hguard with h | ⟨h1, h2⟩
    · exact .inl (by simp at h ⊢; exact h)
    · exact .inr ⟨by simp at h1 ⊢; exact h1, by simp at h2 ⊢; exact h2⟩
  clear hguard hgd hsz
  obtain ⟨v3, hv3⟩ : ∃ q, Is (decide (id = p4)) q := ⟨_, Is.refl _⟩
  have hv3' : (id == p4) = v3 := by
    rw [← hv3.eq]
    by_cases h : id = p4
    · simp [h]
    · simp [h]
  rw [hv3.eq] at HWHY
  have hys : (mkS l).size = l.length := mkS_size l
  have HID3 := hid hv3.eq
  clear hv3
  rcases hcs with e7 | ⟨e7, e8⟩
  all_goals
    go_wp2_with fail
    (with_reducible refine (BY.out _).mono ?_); rintro e w2 ⟨u2, rfl, ho, k2⟩
    have hs2 := (Bs.own ho BYT.out).str
    have K2 : Ext W0 w2 := HK1.out.trans k2
    have f02 := F0.out w2 K2
    have x42 := X4.out w2 K2
    rw [hid0.eq] at f02
    rw [hp4.eq] at x42
    have lc := LC.out w2 K2
    have ch := CH_.out w2 K2
    have cc := CC.out w2 K2
    have SZ := hid (fun w => rsize_c t.x w)
    have HK2 := hid K2
    clear ho k2
    go_upto_block 0 with fail
    go_cut [11] (fun u11 wx => u11 = .int .i64 y ∧ Ext w2 wx)
    case first =>
      have E2 := Ext.refl w2
      by_cases c1 : (l.length : Int) = t.x.sz
      case neg =>
        have z1 : ((l.length : Int) != t.x.sz) = true := by simpa using c1
        have hyv : y = 2 := by rw [HWHY.out, if_pos c1]
        clear c1
        go_wp2_with fail
        try rw [hys]
        (with_reducible refine (SZ.out _).mono ?_); rintro e w3 ⟨rfl, k3⟩
        go_wp2_with fail
        go_meet
        case rel => exact ⟨by rw [hyv], k3⟩
      have z1 : ((l.length : Int) != t.x.sz) = false := by simpa using c1
      have hc1 : ¬ ((l.length : Int) ≠ t.x.sz) := by simpa using c1
      go_wp2_with fail
      try rw [hys]
      (with_reducible refine (SZ.out _).mono ?_); rintro e w3 ⟨rfl, k3⟩
      have ch3 := CH_.out w3 (HK2.out.trans k3)
      have cc3 := CC.out w3 (HK2.out.trans k3)
      obtain ⟨hf, hhf⟩ : ∃ q, Is t.half q := ⟨_, Is.refl _⟩
      rw [hhf.eq] at ch3
      have HWH2 : Hid (y = if v3 ≠ hf then 1 else if id = p4 ∧ flipL t.came ≠ l then 3 else 0) := hid (by rw [HWHY.out, if_neg hc1, hhf.eq])
      have hv3i := HID3.out
      clear hhf
      cases v3
      · cases hf
        · have hyv : y = 0 := by rw [HWH2.out, if_neg (by simp), if_neg (by rintro ⟨h, _⟩; rw [decide_eq_false_iff_not] at hv3i; exact hv3i h)]
          clear c1 hc1 hv3i
          go_wp2_with fail
          go_meet
          case rel => exact ⟨by rw [hyv], k3⟩
        · have hyv : y = 1 := by rw [HWH2.out, if_pos (by simp)]
          clear c1 hc1 hv3i
          go_wp2_with fail
          go_meet
          case rel => exact ⟨by rw [hyv], k3⟩
      · cases hf
        · have hyv : y = 1 := by rw [HWH2.out, if_pos (by simp)]
          clear c1 hc1 hv3i
          go_wp2_with fail
          go_meet
          case rel => exact ⟨by rw [hyv], k3⟩
        · have HFL := hid (sbW_bs w3 t.came HD.out.2.1 (by have := HD.out.2.2; omega))
          have HSE := hid (sbW_ext w3 t.came)
          have FL := hid (rflip2_c _ _ _ HFL.out (by have := HD.out.2.2; omega))
          have HFB := hid (flipL_byt HD.out.2.1)
          have k3' := hid k3
          have hsd := str_dec HFB.out BYT.out
          have hp4 : id = p4 := by simpa using hv3i
          have HYV : Hid ((flipL t.came = l → y = 0) ∧ (flipL t.came ≠ l → y = 3)) := hid ⟨fun h => by rw [HWH2.out, if_neg (by simp), if_neg (fun q => q.2 h)], fun h => by rw [HWH2.out, if_neg (by simp), if_pos ⟨hp4, h⟩]⟩
          clear c1 hc1 hp4 hv3i
          go_wp2_with fail
          (with_reducible refine (FL.out).mono ?_); rintro e w4 ⟨u4, rfl, ho4, k4⟩
          have hs4 := (Bs.own ho4 HFB.out).str
          have K4 : Ext w2 w4 := (k3'.out.trans HSE.out).trans k4
          clear ho4 k4
          by_cases c3 : flipL t.came = l
          · have z3 : decide (flipL t.came = l) = true := by simpa using c3
            rw [z3] at hsd
            have hyv := HYV.out.1 c3
            clear z3 c3
            go_wp2_with fail
            go_meet
            case rel => exact ⟨by rw [hyv], K4⟩
          · have z3 : decide (flipL t.came = l) = false := by simpa using c3
            rw [z3] at hsd
            have hyv := HYV.out.2 c3
            clear z3 c3
            go_wp2_with fail
            go_meet
            case rel => exact ⟨by rw [hyv], K4⟩
    case rest =>
      obtain ⟨rfl, k5⟩ := hcut
      have K5 : Ext W0 wc := HK2.out.trans k5
      obtain ⟨w5, hw5⟩ : ∃ w5, w5 = wc := ⟨_, rfl⟩
      subst hw5
      have HK5 := hid K5
      clear k5 HK2 K2 f02 x42 lc ch cc hs2 SZ
      by_cases hy0 : y = 0
      case neg =>
        have z1 : (y != 0) = true := by simpa using hy0
        obtain rfl : R = (Qt.rest y, [], y) := by rw [hR1.out, if_pos hy0]
        obtain ⟨st, P1, P2⟩ := FIN.out w5 K5 (Qt.rest y)
        have HP := hid (And.intro P1 P2)
        clear P1 P2 hy0 K5
        go_wp2_with fail
        exact bodyPost_ret (res_qt3 (Try.results22) rfl rfl rfl HP.out.1) rfl ⟨by first | rfl | rw [hm0], HP.out.2⟩
      subst hy0
      have hv3i := HID3.out
      have HB5 := hid (K5.blk HB4.out)
      have hBr := hid (K5.blk B8.out)
      cases v3
      · obtain rfl : R = (⟨t.works, t.x, t.g.half now, true, l, t.value, t.failed⟩, [], 0) := by
          rw [hR1.out, if_neg (by simp), if_neg (by simpa using hv3i)]
        have hb5 := HB5.out
        have c35 : w5.cell? ⟨qb, 35, none⟩ = some (.bool t.half) := hb5.cell 35 _ (t.tl 4)
        have f35 := hb5.free 35
        have hb6 := hb5.set 35 (.bool true)
        rw [t.p_half] at hb6
        have c36 : (w5.setCell ⟨qb, 35, none⟩ (.bool true)).cell? ⟨qb, 36, none⟩ = some (.string (mkS t.came)) := hb6.cell 36 _ (Qt.tl _ 5)
        have f36 := hb6.free 36
        have hb7 := hb6.set 36 (.string (mkS l))
        rw [Qt.p_came] at hb7
        have lg7 := ldG_qt hb7
        have HA := hid (rhalf_any t.g now ((w5.setCell ⟨qb, 35, none⟩ (.bool true)).setCell ⟨qb, 36, none⟩ (.string (mkS l))))
        have hrq : rb ≠ qb := fun e => hne.out.1 e.symm
        have hbr7 := hid ((hBr.out.other ⟨qb, 35, none⟩ (.bool true) hrq).other ⟨qb, 36, none⟩ (.string (mkS l)) hrq)
        have K7 := hid (((K0.trans HK5.out).set' (g := qb) (i := 35) (v := .bool true) hne.out.2).set' (g := qb) (i := 36) (v := .string (mkS l)) hne.out.2)
        have HB7 := hid hb7
        clear hb5 hb6 hb7 HB5 hBr hv3i hR1
        go_wp2_with fail
        (with_reducible refine (HA.out).mono ?_); rintro e w8 ⟨rfl, k8⟩
        have k8' : Ext _ w8 := k8
        have hb8 := k8'.blk HB7.out
        have stg := stG_qt (t.g.half now) hb8
        have hb9 := stG_blk (t.g.half now) hb8
        have ob := setCells_only qb (Rf.cells (t.g.half now)).toList 31 w8
        have hbr9 := (k8'.blk hbr7.out).kept ob hrq
        have lq9 := ldQ_blk hb9
        have st9 := stQ_put _ rb ⟨t.works, t.x, t.g.half now, true, l, t.value, t.failed⟩ ⟨_, hbr9⟩
        have P1 := putQ_blk ⟨t.works, t.x, t.g.half now, true, l, t.value, t.failed⟩ ⟨_, hbr9⟩
        have P2 := Ext.only (Ext.only (K7.out.trans k8') ob hne.out.2) (putQ_only _ rb ⟨t.works, t.x, t.g.half now, true, l, t.value, t.failed⟩) hrw
        have HP := hid (And.intro P1 P2)
        clear P1 P2 k8 k8' hb8 hb9 ob hbr9 HA c35 f35 c36 f36 lg7
        go_wp2_with fail
        exact bodyPost_ret (res_qt3 (Try.results22) rfl rfl rfl HP.out.1) rfl ⟨by first | rfl | rw [hm0], HP.out.2⟩
      · obtain rfl : R = (⟨t.works, t.x, t.g.whole now, false, t.came, t.came, t.failed⟩, t.came, 0) := by
          rw [hR1.out, if_neg (by simp), if_pos (by simpa using hv3i)]
        have hb5 := HB5.out
        have c35 : w5.cell? ⟨qb, 35, none⟩ = some (.bool t.half) := hb5.cell 35 _ (t.tl 4)
        have f35 := hb5.free 35
        have hb6 := hb5.set 35 (.bool false)
        rw [t.p_half] at hb6
        have c36 : (w5.setCell ⟨qb, 35, none⟩ (.bool false)).cell? ⟨qb, 36, none⟩ = some (.string (mkS t.came)) := hb6.cell 36 _ (Qt.tl _ 5)
        have c37 : (w5.setCell ⟨qb, 35, none⟩ (.bool false)).cell? ⟨qb, 37, none⟩ = some (.string (mkS t.value)) := hb6.cell 37 _ (Qt.tl _ 6)
        have f37 := hb6.free 37
        have hb7 := hb6.set 37 (.string (mkS t.came))
        rw [Qt.p_value] at hb7
        have lg7 := ldG_qt hb7
        have HA := hid (rwhole_any t.g now ((w5.setCell ⟨qb, 35, none⟩ (.bool false)).setCell ⟨qb, 37, none⟩ (.string (mkS t.came))))
        have hrq : rb ≠ qb := fun e => hne.out.1 e.symm
        have hbr7 := hid ((hBr.out.other ⟨qb, 35, none⟩ (.bool false) hrq).other ⟨qb, 37, none⟩ (.string (mkS t.came)) hrq)
        have K7 := hid (((K0.trans HK5.out).set' (g := qb) (i := 35) (v := .bool false) hne.out.2).set' (g := qb) (i := 37) (v := .string (mkS t.came)) hne.out.2)
        have HB7 := hid hb7
        clear hb5 hb6 hb7 HB5 hBr hv3i hR1
        go_wp2_with fail
        (with_reducible refine (HA.out).mono ?_); rintro e w8 ⟨rfl, k8⟩
        have k8' : Ext _ w8 := k8
        have hb8 := k8'.blk HB7.out
        have stg := stG_qt (t.g.whole now) hb8
        have hb9 := stG_blk (t.g.whole now) hb8
        have ob := setCells_only qb (Rf.cells (t.g.whole now)).toList 31 w8
        have hbr9 := (k8'.blk hbr7.out).kept ob hrq
        generalize hw9 : w8.setCells qb 31 (Rf.cells (t.g.whole now)).toList = w9 at *
        have lq9 := ldQ_blk hb9.drew
        have D9 : ∀ p : Addr, w9.drew.cell? p = w9.cell? p := fun p => rfl
        have c379 : w9.cell? ⟨qb, 37, none⟩ = some (.string (mkS t.came)) := hb9.cell 37 _ (Qt.tl _ 6)
        have c379' : w9.drew.cell? ⟨qb, 37, none⟩ = some (.string (mkS t.came)) := c379
        have st9 := stQ_put w9.drew rb ⟨t.works, t.x, t.g.whole now, false, t.came, t.came, t.failed⟩ ⟨_, hbr9.drew⟩
        have P1 := putQ_blk (w := w9.drew) ⟨t.works, t.x, t.g.whole now, false, t.came, t.came, t.failed⟩ ⟨_, hbr9.drew⟩
        have P2 := Ext.only (Ext.drew (Ext.only (K7.out.trans k8') ob hne.out.2)) (putQ_only w9.drew rb ⟨t.works, t.x, t.g.whole now, false, t.came, t.came, t.failed⟩) hrw
        have hbp := (hb9.drew).kept (putQ_only w9.drew rb ⟨t.works, t.x, t.g.whole now, false, t.came, t.came, t.failed⟩) hne.out.1
        have c37p : (putQ w9.drew rb ⟨t.works, t.x, t.g.whole now, false, t.came, t.came, t.failed⟩).cell? ⟨qb, 37, none⟩ = some (.string (mkS t.came)) := hbp.cell 37 _ (Qt.tl _ 6)
        have HP := hid (And.intro P1 P2)
        clear P1 P2 k8 k8' hb8 hb9 ob hbr9 HA c35 f35 c36 c37 f37 lg7 hbp
        go_wp2_with fail
        go_region
        all_goals
          go_wp2_with fail
          exact bodyPost_ret (res_qt3 (Try.results22) rfl rfl rfl HP.out.1) rfl ⟨by first | rfl | rw [hm0], HP.out.2⟩

end Go.Proofs.Ytocogmboocjjaaa
