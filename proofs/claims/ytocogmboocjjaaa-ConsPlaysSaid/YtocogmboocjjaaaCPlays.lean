/- The law ConsPlays. -/
import Derived.Test.YtocogmboocjjaaaPlayM
import Derived.Test.YtocogmboocjjaaaCLive
import Derived.Test.YtocogmboocjjaaaOpnCh
import Derived.Test.YtocogmboocjjaaaRBytes
import Derived.Deep.Cut
import Derived.Deep.CutRange
import Derived.Deep.CutBlock
import Derived.Deep.DeepCutAuto
import Derived.Deep.RegionWith
set_option linter.unusedSimpArgs false
set_option linter.unusedVariables false
set_option linter.unnecessarySimpa false
namespace Go.Proofs.Ytocogmboocjjaaa
open Go.RowKit Go.Proofs.YtocogmboocjjaaaW.PrintWords
attribute [local go_sem] max2_max min2_min max_of_two min_of_two bxF_fr stF_fr stF_fr2 stF_put ldF_put ldV_put ldF_new guard_eq guard_ne bin_eq bin_ne alF_fr bdF_none bdF_ask bdF_len bdF_dat ext_drew' ext_alloc
attribute [local go_sem ↓] ldF_in ldV_in bxF_in stF_in cvS_in alF_in bdF_in ixS_in
attribute [local go_sem] bxC_ch chguard_eq chguard_ne chbin_eq chbin_ne ldC_new bxT_v alT_v stT_put stT_new bdT_none bdT_failed bdT_v bdW_v gUpon gStill
attribute [local go_sem ↓] ldC_in bxC_in stC_in ldT_in bxT_in stT_in alT_in bdT_in bdW_in
attribute [local go_sem] alC_v bdC_tab stC_new stC_new1 stS_tab stC_old ldC_new1
attribute [local go_sem ↓] alC_in bdC_in stS_in
attribute [local go_sem] alQ_v bdQ_none
attribute [local go_sem ↓] ldQ_in stQ_in alQ_in bdQ_in
theorem bdF_id (n : Int) (w : World) : (bdF #[(0, .int .i64 n)]).run Try.prog w = .ok (Fr.val ⟨n, false, 0, 0, 0, 0, 0, 0, 0, 0, 0⟩) w := by kernel_rfl
attribute [local go_sem] bdF_id

theorem mkS_isE (l : List Int) : (mkS l).toList.isEmpty = decide (l = []) := by
  cases l <;> simp [mkS, u8s, ByteArray.toList_eq]

set_option maxRecDepth 100000 in
set_option maxHeartbeats 16000000 in
theorem cplays_c (a b : Ch) (A : Option Addr) (bl o : Nat) (c : Nat) (l : List Dd) (w : World) (hl : RowOf Dd.cells 15 w A bl o l) (hlc : l.length ≤ c) (hP : ∀ d ∈ l, d.ok) :
    Calls Try.prog 6 #[a.val, b.val, .slice A l.length c] w fun e w' => e = .returned (.bool true) ∧ Ext w w' := by
  have HP := hid hP
  have hl0 := hl.1
  have ba : Blk ((w.alloc (.cells a.cells CT)).alloc (.cells b.cells CT)) w.heap.size a.cells CT := (Blk.new w a.cells CT).alloc _
  have bb : Blk ((w.alloc (.cells a.cells CT)).alloc (.cells b.cells CT)) (w.heap.size + 1) b.cells CT := by
    have := Blk.new (w.alloc (.cells a.cells CT)) b.cells CT
    rwa [World.size_alloc] at this
  have K0 : Ext w ((w.alloc (.cells a.cells CT)).alloc (.cells b.cells CT)) := (by repeat (first | with_reducible exact Ext.refl _ | with_reducible assumption | with_reducible apply Ext.alloc | with_reducible apply Ext.drew | with_reducible apply Ext.drewN | (with_reducible refine Ext.set' ?_ (by first | omega | (simp only [World.size_alloc, World.size_setCell]; omega))) | (with_reducible refine Ext.trans ?_ (by with_reducible assumption)) | (with_reducible refine Ext.only ?_ (by with_reducible assumption) (by omega))))
  have lx : ∀ x : After ((w.alloc (.cells a.cells CT)).alloc (.cells b.cells CT)), (ldC (.pointer (some ⟨w.heap.size, 0, none⟩))).run Try.prog x.wd = .ok a.val x.wd := fun x => ldC_blk (x.ext.blk ba)
  have hsz : ((w.alloc (.cells a.cells CT)).alloc (.cells b.cells CT)).heap.size = w.heap.size + 2 := by simp
  have BA := hid ba
  have BB := hid bb
  have HSZ := hid hsz
  have e1 : (a.tks != a.tks) = false := by simp
  have e1' : (a.tks == a.tks) = true := by simp
  clear hP ba bb hsz
  go_enter Try.func6, Try.ntmps6
  go_wp2_with fail
  generalize hW0 : ((w.alloc (.cells a.cells CT)).alloc (.cells b.cells CT)) = W0 at *
  refine wp_region_go (sp := spOf (R := Ext) [(1, Told.val (R := Ext) (.bool a.tks)), (3, Told.val (R := Ext) (.bool a.tks))]) (C := fun w' => ∃ n : After W0, w' = n.wd) (R := Ext) (by kernel_rfl) (by kernel_rfl) (spOf_mono _) (After.drew _) ?_
  repeat (first | ((with_reducible refine go_nil ?_)) | (refine go_skip' (by rfl) ?_; (try simp only [Act.put, List.setIfInBounds_toArray, List.set_cons_zero, List.set_cons_succ])) | (refine go_quiet' (by rfl) (by rfl) (by rfl) ?_; intro K hK; go_big_quiet_op; go_big_quiet_on) | (refine go_nilcheck _ _ rfl rfl (by rfl) (by rfl) ?_; (try simp only [Act.put, List.setIfInBounds_toArray, List.set_cons_zero, List.set_cons_succ])))
  (refine go_act (by rfl) (by rfl) ?_ ?_; (focus (intro w' hC hM; obtain ⟨x, rfl⟩ := hC; go_simp; (with_reducible refine Calls.told (ptakes_c a _)); done)); intro v hv; obtain ⟨_, _, hv, _⟩ := hv; obtain rfl := hv; (try simp only [Act.put, List.setIfInBounds_toArray, List.set_cons_zero, List.set_cons_succ]))
  repeat (first | ((with_reducible refine go_nil ?_)) | (refine go_skip' (by rfl) ?_; (try simp only [Act.put, List.setIfInBounds_toArray, List.set_cons_zero, List.set_cons_succ])) | (refine go_quiet' (by rfl) (by rfl) (by rfl) ?_; intro K hK; go_big_quiet_op; go_big_quiet_on) | (refine go_nilcheck _ _ rfl rfl (by rfl) (by rfl) ?_; (try simp only [Act.put, List.setIfInBounds_toArray, List.set_cons_zero, List.set_cons_succ])))
  (refine go_act (by rfl) (by rfl) ?_ ?_; (focus (intro w' hC hM; obtain ⟨x, rfl⟩ := hC; go_simp; (with_reducible refine Calls.told (rtakes_c a _)); done)); intro v hv; obtain ⟨_, _, hv, _⟩ := hv; obtain rfl := hv; (try simp only [Act.put, List.setIfInBounds_toArray, List.set_cons_zero, List.set_cons_succ]))
  repeat (first | ((with_reducible refine go_nil ?_)) | (refine go_skip' (by rfl) ?_; (try simp only [Act.put, List.setIfInBounds_toArray, List.set_cons_zero, List.set_cons_succ])) | (refine go_quiet' (by rfl) (by rfl) (by rfl) ?_; intro K hK; go_big_quiet_op; go_big_quiet_on) | (refine go_nilcheck _ _ rfl rfl (by rfl) (by rfl) ?_; (try simp only [Act.put, List.setIfInBounds_toArray, List.set_cons_zero, List.set_cons_succ])))
  intro w1 hC hall
  obtain ⟨x, rfl⟩ := hC
  have K1 : Ext w x.wd := K0.trans x.ext
  have BA1 := hid (x.ext.blk BA.out)
  have BB1 := hid (x.ext.blk BB.out)
  generalize x.wd = w1 at *
  clear hall lx HSZ BA BB K0 hW0 e1 e1'
  go_wp2_with fail
  (with_reducible refine (cnew_c _).mono ?_); rintro e w2 ⟨kb, rfl, ht, hkb, k2⟩
  have hkb2 : w.heap.size ≤ kb := Nat.le_trans K1.le hkb
  have hk2 : w.heap.size ≤ w2.heap.size := Nat.le_trans K1.le k2.le
  have E0 : Ext w2 (w2.alloc (.cells (Qt.rest 0).cells QT)) := (by repeat (first | with_reducible exact Ext.refl _ | with_reducible assumption | with_reducible apply Ext.alloc | with_reducible apply Ext.drew | with_reducible apply Ext.drewN | (with_reducible refine Ext.set' ?_ (by first | omega | (simp only [World.size_alloc, World.size_setCell]; omega))) | (with_reducible refine Ext.trans ?_ (by with_reducible assumption)) | (with_reducible refine Ext.only ?_ (by with_reducible assumption) (by omega))))
  have HM0 := hid ((⟨ht.ext E0, Blk.new w2 (Qt.rest 0).cells QT, E0.blk (k2.blk BA1.out), E0.blk (k2.blk BB1.out), (K1.trans k2).trans E0, hkb2, hkb2, hkb2, hk2⟩ : PM w w.heap.size w2.heap.size a b kb kb kb (Ts.rest 0) (Qt.rest 0) (w2.alloc (.cells (Qt.rest 0).cells QT))))
  have HR0 := hid PR.start
  clear ht hkb hkb2 hk2 k2 K1 E0 BA1 BB1
  go_wp2_with fail
  obtain ⟨rb, hrb⟩ : ∃ q, Is w2.heap.size q := ⟨_, Is.refl _⟩
  obtain ⟨A0, hA0⟩ : ∃ q, Is w.heap.size q := ⟨_, Is.refl _⟩
  rw [hrb.eq, hA0.eq] at HM0 ⊢
  go_loopg [7, 9, 10] 80 (fun g u7 u9 u10 wr => ∃ (i : Nat) (now : Int) (p cb gb : Nat) (t : Ts) (r : Qt), i + g = 80 ∧ i ≤ l.length ∧ u10 = .int .i64 i ∧ u9 = .int .i64 now ∧ u7 = .pointer (some ⟨p, 0, none⟩) ∧ 0 ≤ now ∧ now ≤ 255 * i ∧ Hid (PR t r now) ∧ Hid (PM w A0 rb a b p cb gb t r wr))
  case atStart => exact ⟨0, 0, kb, kb, kb, Ts.rest 0, Qt.rest 0, rfl, by omega, rfl, rfl, rfl, by omega, by omega, HR0, HM0⟩
  case round =>
    clear HM0 HR0
    obtain ⟨i, now, p, cb, gb, t, r, hig, hil, rfl, rfl, rfl, hn0, hn1, HPR, HPM⟩ := hrel
    have K := HPM.out.ext
    by_cases hlt : i < l.length ∧ i < 80
    · obtain ⟨hlt, h80⟩ := hlt
      have e1 : decide ((i : Int) < (l.length : Int)) = true := by simpa using hlt
      have e2 : decide ((i : Int) < 80) = true := by simp; omega
      have i0 : (0 : Int) ≤ (i : Int) := by omega
      have i1 : (i : Int) < (l.length : Int) := by omega
      obtain ⟨rfl, hcell⟩ := hl.at K hlt
      have HPi := hid (HP.out l[i] (List.getElem_mem _))
      have HR := hid (hl.at (Ext.refl w) hlt).2
      generalize l[i] = d at *
      have c1 : wr.cell? ⟨bl, o + i * 15 + 1, none⟩ = some (.int .u8 d.by_) := hcell 1 _ rfl
      have s0 := HPi.out.1
      have s1 := HPi.out.2.1
      have C0 := hid (fun (w' : World) (q : Ext w w') => (show w'.cell? ⟨bl, o + i * 15, none⟩ = some (.int .i64 d.do_) from q.cell (HR.out 0 _ rfl)))
      have C2 := hid (fun (w' : World) (q : Ext w w') => (show w'.cell? ⟨bl, o + i * 15 + 2, none⟩ = some (.bool d.on) from q.cell (HR.out 2 _ rfl)))
      have C3 := hid (fun (w' : World) (q : Ext w w') => (show w'.cell? ⟨bl, o + i * 15 + 3, none⟩ = some (.bool d.other) from q.cell (HR.out 3 _ rfl)))
      have HF : Hid (∀ w', Ext w w' → (ldF (.pointer (some ⟨bl, o + i * 15 + 4, none⟩))).run Try.prog w' = .ok d.f.val w') := hid (fun w' q => ldF_mid (fun j v hv => by
        have hj : j < 11 := (List.getElem?_eq_some_iff.1 hv).1
        refine q.cell ?_
        have := HR.out (4 + j) v (by unfold Dd.cells; rw [show 4 + j = j + 1 + 1 + 1 + 1 by omega]; simpa using hv)
        rwa [← Nat.add_assoc] at this))
      obtain ⟨nw, hnw⟩ : ∃ n, Is (now + d.by_) n := ⟨_, Is.refl _⟩
      have HN : Hid (now ≤ nw ∧ 0 ≤ nw ∧ nw ≤ 100000 ∧ nw ≤ 255 * (i + 1)) := hid (by have := hnw.eq; omega)
      have HPN := hid (HPR.out.later HN.out.1 HN.out.2.2.1)
      have hwn : IntKind.i64.wrap (now + d.by_) = nw := (IntWalk.i64_in _ (by omega)).trans hnw.eq
      have la := ldC_blk HPM.out.ba
      have lb := ldC_blk (HPM.out.bb.alloc (.cells a.cells CT))
      have K1a : Ext w (wr.alloc (.cells a.cells CT)) := (by repeat (first | with_reducible exact Ext.refl _ | with_reducible assumption | with_reducible apply Ext.alloc | with_reducible apply Ext.drew | with_reducible apply Ext.drewN | (with_reducible refine Ext.set' ?_ (by first | omega | (simp only [World.size_alloc, World.size_setCell]; omega))) | (with_reducible refine Ext.trans ?_ (by with_reducible assumption)) | (with_reducible refine Ext.only ?_ (by with_reducible assumption) (by omega))))
      have c3 := C3.out _ K1a
      obtain ⟨ot, hot⟩ : ∃ q, d.other = q := ⟨_, rfl⟩
      rw [hot] at c3
      clear hcell K1a
      go_upto_if 54 with fail
      go_cut [11] from 31 to 178 (fun u11 wx => u11 = .pointer (some ⟨wr.heap.size, 0, none⟩) ∧ ∃ x : Ch, wx = wr.alloc (.cells x.cells CT))
      case first =>
        cases ot
        · go_wp2_with fail
          go_meet
          case rel => exact ⟨rfl, a, rfl⟩
        · go_wp2_with fail
          go_meet
          case rel => exact ⟨rfl, b, rfl⟩
      case rest =>
        obtain ⟨rfl, x, rfl⟩ := hcut
        have HX3 := hid (Blk.new wr x.cells CT)
        have HPM3 := hid (HPM.out.more (show Ext wr (wr.alloc (.cells x.cells CT)) from (by repeat (first | with_reducible exact Ext.refl _ | with_reducible assumption | with_reducible apply Ext.alloc | with_reducible apply Ext.drew | with_reducible apply Ext.drewN | (with_reducible refine Ext.set' ?_ (by first | omega | (simp only [World.size_alloc, World.size_setCell]; omega))) | (with_reducible refine Ext.trans ?_ (by with_reducible assumption)) | (with_reducible refine Ext.only ?_ (by with_reducible assumption) (by omega))))))
        clear la lb c3 c1 hot K HPM HPR hwn
        obtain ⟨xb, hxb⟩ : ∃ q, Is wr.heap.size q := ⟨_, Is.refl _⟩
        generalize (wr.alloc (.cells x.cells CT)) = w3 at *
        rw [hxb.eq] at HX3 ⊢
        have c0 := C0.out w3 HPM3.out.ext
        clear hxb
        go_upto_block 2 with fail
        go_cut [7] from 31 to 178 (fun u7 wx => ∃ (p' cb' gb' : Nat) (t' : Ts) (r' : Qt), u7 = .pointer (some ⟨p', 0, none⟩) ∧ Hid (PM w A0 rb a b p' cb' gb' t' r' wx) ∧ Hid (PR t' r' nw))
        case first =>
          have HD := HPi.out.2.2
          have E3 := HPM3.out.ext
          clear e1 e2 hlt h80 hn0 hn1 s0 s1 C0 C3 HR
          generalize d.do_ = dd at *
          by_cases d0 : dd = 0
          · subst d0
            have D : ∀ q : Addr, w3.drew.cell? q = w3.cell? q := fun q => rfl
            have c2 := C2.out w3 E3
            have lq : (ldQ (.pointer (some ⟨rb, 0, none⟩))).run Try.prog w3.drew = .ok r.val w3.drew := ldQ_blk HPM3.out.rq.drew
            have lx := ldC_blk HX3.out.drew
            have RB := hid (rbegin_c r nw d.on x w3.drew (fun hw => HPN.out.gb hw))
            have SB := hid (HPN.out.begin HN.out.2.1 HN.out.2.2.1 d.on x)
            obtain ⟨R, hR⟩ : ∃ R, Is (r.begin nw d.on x) R := ⟨_, Is.refl _⟩
            obtain ⟨Q, hQ⟩ : ∃ Q, Is (t.begin nw d.on x) Q := ⟨_, Is.refl _⟩
            rw [hR.eq] at RB
            rw [hR.eq, hQ.eq] at SB
            have PMd := hid (HPM3.out.more (show Ext w3 w3.drew from (by repeat (first | with_reducible exact Ext.refl _ | with_reducible assumption | with_reducible apply Ext.alloc | with_reducible apply Ext.drew | with_reducible apply Ext.drewN | (with_reducible refine Ext.set' ?_ (by first | omega | (simp only [World.size_alloc, World.size_setCell]; omega))) | (with_reducible refine Ext.trans ?_ (by with_reducible assumption)) | (with_reducible refine Ext.only ?_ (by with_reducible assumption) (by omega))))))
            have HXd := hid HX3.out.drew
            have STF := hid (fun w4 (k4 : Ext w3.drew w4) => (by
              have hm4 := PMd.out.more k4
              have o4 := putQ_only w4 rb R.1
              have h4 : QB w4 rb := ⟨_, hm4.rq⟩
              have hx4 := k4.blk HXd.out
              exact ⟨stQ_put w4 rb R.1 h4, hm4.ref o4 (putQ_blk R.1 h4), hx4.kept o4 (hx4.only_type hm4.rq (by decide))⟩ :
              (stQ (.pointer (some ⟨rb, 0, none⟩)) R.1.val).run Try.prog w4 = .ok () (putQ w4 rb R.1) ∧ PM w A0 rb a b p cb gb t R.1 (putQ w4 rb R.1) ∧ Blk (putQ w4 rb R.1) xb x.cells CT))
            clear hR PMd HXd
            go_wp2_with fail
            go_region_with (go_at_call 21; (with_reducible refine (RB.out).mono ?_); rintro e w4 ⟨rfl, k4⟩; obtain ⟨st4, q1, q2⟩ := STF.out w4 k4; have HM4 := hid q1; have HX4 := hid q2; clear q1 q2 k4)
            all_goals
              generalize putQ w4 rb R.1 = w5 at *
              have D5 : ∀ q : Addr, w5.drew.cell? q = w5.cell? q := fun q => rfl
              have c25 := C2.out w5 HM4.out.ext
              have lx5 := ldC_blk HX4.out.drew
              have HM5 := hid (HM4.out.more (show Ext w5 w5.drew from (by repeat (first | with_reducible exact Ext.refl _ | with_reducible assumption | with_reducible apply Ext.alloc | with_reducible apply Ext.drew | with_reducible apply Ext.drewN | (with_reducible refine Ext.set' ?_ (by first | omega | (simp only [World.size_alloc, World.size_setCell]; omega))) | (with_reducible refine Ext.trans ?_ (by with_reducible assumption)) | (with_reducible refine Ext.only ?_ (by with_reducible assumption) (by omega))))))
              have CB := hid (begin_c p cb gb t nw d.on x w5.drew HM5.out.tk)
              rw [hQ.eq, SB.out.2] at CB
              have f1 : (R.2 != R.2) = false := by simp
              have f1' : (R.2 == R.2) = true := by simp
              clear STF RB D c2 lq lx st4
              go_wp2_with fail
              go_region_with (go_at_call 9; (with_reducible refine (CB.out).mono ?_); rintro e w6 ⟨rfl, cb6, gb6, ht, o6, n1, n2⟩; have HM6 := hid (HM5.out.take o6 ht n1 n2); clear ht o6 n1 n2)
              all_goals
                go_wp2_with fail
                go_meet
                case rel => exact ⟨p, cb6, gb6, Q.1, R.1, rfl, HM6, hid SB.out.1⟩
          by_cases d1 : dd = 1
          · subst d1
            have D : ∀ q : Addr, w3.drew.cell? q = w3.cell? q := fun q => rfl
            have lf := HF.out w3.drew (E3.trans (show Ext w3 w3.drew from (by repeat (first | with_reducible exact Ext.refl _ | with_reducible assumption | with_reducible apply Ext.alloc | with_reducible apply Ext.drew | with_reducible apply Ext.drewN | (with_reducible refine Ext.set' ?_ (by first | omega | (simp only [World.size_alloc, World.size_setCell]; omega))) | (with_reducible refine Ext.trans ?_ (by with_reducible assumption)) | (with_reducible refine Ext.only ?_ (by with_reducible assumption) (by omega))))))
            have lq : (ldQ (.pointer (some ⟨rb, 0, none⟩))).run Try.prog w3.drew = .ok r.val w3.drew := ldQ_blk HPM3.out.rq.drew
            have RH := hid (rhear_c r nw d.f w3.drew HD HPN.out.byt HPN.out.len)
            have SB := hid (HPN.out.hear HN.out.2.1 HN.out.2.2.1 d.f HD)
            obtain ⟨R, hR⟩ : ∃ R, Is (r.hear nw d.f) R := ⟨_, Is.refl _⟩
            obtain ⟨Q, hQ⟩ : ∃ Q, Is (t.hear nw d.f) Q := ⟨_, Is.refl _⟩
            rw [hR.eq] at RH
            rw [hR.eq, hQ.eq] at SB
            have PMd := hid (HPM3.out.more (show Ext w3 w3.drew from (by repeat (first | with_reducible exact Ext.refl _ | with_reducible assumption | with_reducible apply Ext.alloc | with_reducible apply Ext.drew | with_reducible apply Ext.drewN | (with_reducible refine Ext.set' ?_ (by first | omega | (simp only [World.size_alloc, World.size_setCell]; omega))) | (with_reducible refine Ext.trans ?_ (by with_reducible assumption)) | (with_reducible refine Ext.only ?_ (by with_reducible assumption) (by omega))))))
            have STF := hid (fun w4 (k4 : Ext w3.drew w4) => (by
              have hm4 := PMd.out.more k4
              have o4 := putQ_only w4 rb R.1
              have h4 : QB w4 rb := ⟨_, hm4.rq⟩
              exact ⟨stQ_put w4 rb R.1 h4, hm4.ref o4 (putQ_blk R.1 h4)⟩ :
              (stQ (.pointer (some ⟨rb, 0, none⟩)) R.1.val).run Try.prog w4 = .ok () (putQ w4 rb R.1) ∧ PM w A0 rb a b p cb gb t R.1 (putQ w4 rb R.1)))
            clear hR PMd HX3
            go_wp2_with fail
            go_region_with (go_at_call 22; (with_reducible refine (RH.out).mono ?_); rintro e w4 ⟨rfl, k4⟩; obtain ⟨st4, q1⟩ := STF.out w4 k4; have HM4 := hid q1; clear q1 k4)
            all_goals
              generalize putQ w4 rb R.1 = w5 at *
              have lf5 := HF.out w5 HM4.out.ext
              have CB := hid (hear_c p cb gb t nw d.f w5 HM4.out.tk HD)
              rw [hQ.eq, SB.out.2] at CB
              have f1 : (R.2.2 != R.2.2) = false := by simp
              have f1' : (R.2.2 == R.2.2) = true := by simp
              have f2 : ((mkS R.2.1).toList != (mkS R.2.1).toList) = false := by simp
              have f2' : ((mkS R.2.1).toList == (mkS R.2.1).toList) = true := by simp
              clear STF RH D lf lq st4
              go_wp2_with fail
              (with_reducible refine (CB.out).mono ?_); rintro e w6 ⟨u6, rfl, hbt, ⟨cb6, gb6, ht, n1, n2⟩, o6⟩
              have HM6 := hid (HM4.out.take o6 ht n1 n2)
              obtain ⟨U6, c6, hu6⟩ := hbt.form
              subst hu6
              have hs6 := hbt.bs.str
              clear ht o6 n1 n2 hbt
              go_wp2_with fail
              go_meet
              case rel => exact ⟨p, cb6, gb6, Q.1, R.1, rfl, HM6, hid SB.out.1⟩
          by_cases d2 : dd = 2
          · subst d2
            have RC := hid (reset_c p w3 HPM3.out.tk.tb)
            clear HX3
            go_wp2_with fail
            (with_reducible refine (RC.out).mono ?_); rintro e w4 ⟨rfl, ht, o4⟩
            have HM4 := hid (HPM3.out.take (.of1 o4) ht (.inr (.inl rfl)) (.inr (.inl rfl)))
            have h4 : QB w4 rb := ⟨_, HM4.out.rq⟩
            have st4 := stQ_put w4 rb (Qt.rest 0) h4
            have HM5 := hid (HM4.out.ref (putQ_only w4 rb (Qt.rest 0)) (putQ_blk (Qt.rest 0) h4))
            clear ht o4 h4
            go_wp2_with fail
            go_meet
            case rel => exact ⟨p, p, p, Ts.rest 0, Qt.rest 0, rfl, HM5, hid (PR.rest nw)⟩
          by_cases d3 : dd = 3
          · subst d3
            have FC := hid (tfork_c p cb gb t w3 HPM3.out.tk)
            clear HX3
            go_wp2_with fail
            (with_reducible refine (FC.out).mono ?_); rintro e w4 ⟨p4, cb4, gb4, rfl, ht, l1, l2, l3, k4⟩
            have HP4 := hid (HPM3.out.fork k4 ht l1 l2 l3)
            have HH4 := hid (hear_c p cb gb t nw d.f w4 HP4.out.o HD)
            have lf4 := HF.out w4 HP4.out.m.ext
            clear ht l1 l2 l3 k4 FC
            go_wp2_with fail
            (with_reducible refine (HH4.out).mono ?_); rintro e w5 ⟨u5, rfl, hbt, ⟨cb5, gb5, ht, n1, n2⟩, o5⟩
            have HP5 := hid (HP4.out.old o5 ht n1 n2)
            have HH5 := hid (hear_c p cb5 gb5 (t.hear nw d.f).1 nw d.f w5 HP5.out.o HD)
            have lf5 := HF.out w5 HP5.out.m.ext
            clear ht n1 n2 o5 hbt HH4 lf4
            go_wp2_with fail
            (with_reducible refine (HH5.out).mono ?_); rintro e w6 ⟨u6, rfl, hbt, ⟨cb6, gb6, ht, n1, n2⟩, o6⟩
            have HP6 := hid (HP5.out.old o6 ht n1 n2)
            have RC := hid (reset_c p w6 HP6.out.o.tb)
            clear ht n1 n2 o6 hbt HH5 lf5
            go_wp2_with fail
            (with_reducible refine (RC.out).mono ?_); rintro e w7 ⟨rfl, ht, o7⟩
            have HM7 := hid (HP6.out.done o7)
            clear ht o7 RC
            go_wp2_with fail
            go_meet
            case rel => exact ⟨p4, cb4, gb4, t, r, rfl, HM7, HPN⟩
          have z0 : (dd == 0) = false := by simpa using d0
          have z1 : (dd == 1) = false := by simpa using d1
          have z2 : (dd == 2) = false := by simpa using d2
          have z3 : (dd == 3) = false := by simpa using d3
          clear d0 d1 d2 d3
          go_wp2_with fail
          go_meet
          case rel => exact ⟨p, cb, gb, t, r, rfl, HPM3, HPN⟩
        case rest =>
          obtain ⟨p5, cb5, gb5, t5, r5, rfl, HM5, HP5⟩ := hcut
          obtain ⟨w5, hw5⟩ : ∃ w5, w5 = wc := ⟨_, rfl⟩
          subst hw5
          have HNI := hid (And.intro HN.out hnw.eq)
          clear HPM3 HPN HX3 c0 HN hnw C0 C2 C3 HF HR HPi
          have VC := hid (value_c p5 cb5 gb5 t5 w5 HM5.out.tk)
          have HV := hid HP5.out.val
          obtain ⟨V, hV⟩ : ∃ q, Is t5.val q := ⟨_, Is.refl _⟩
          rw [hV.eq] at VC HV
          have hvq : ∃ q, Is (decide (V = [])) q ∧ (mkS V).toList.isEmpty = q := ⟨_, Is.refl _, mkS_isE V⟩
          obtain ⟨vq, hvd, hve⟩ := hvq
          rw [hvd.eq] at VC
          have f4 : (!vq != !vq) = false := by simp
          have f4' : (!vq == !vq) = true := by simp
          clear hV hvd
          go_wp2_with fail
          (with_reducible refine (VC.out).mono ?_); rintro e w6 ⟨u6, rfl, hbt, k6⟩
          have HM6 := hid (HM5.out.more k6)
          obtain ⟨U6, c6, hu6⟩ := hbt.form
          subst hu6
          have VB := hid (fun y : After w6 => (hbt.ext y.ext).bs)
          have CW := hid (fun y : After w6 => (works_c p5 t5.works y.wd (HM6.out.tk.ext y.ext).cw).mono (fun e w' h => (⟨h.1, h.2 ▸ Ext.refl _⟩ : e = .returned (.bool t5.works) ∧ Ext y.wd w')))
          have CF := hid (fun y : After w6 => (failed_c p5 t5.failed y.wd (HM6.out.tk.ext y.ext).cf).mono (fun e w' h => (⟨h.1, h.2 ▸ Ext.refl _⟩ : e = .returned (.int .i64 t5.failed) ∧ Ext y.wd w')))
          have R0 := After.cell (show w6.cell? ⟨rb, 0, none⟩ = some (.bool t5.works) by rw [← HV.out.1]; exact HM6.out.rq.cell 0 _ r5.at0)
          have R6 := After.cell (show w6.cell? ⟨rb, 38, none⟩ = some (.int .i64 t5.failed) by rw [← HV.out.2.1]; exact HM6.out.rq.cell 38 _ (r5.tl 7))
          have R5 := After.cell (show w6.cell? ⟨rb, 37, none⟩ = some (.string (mkS V)) by rw [← HV.out.2.2]; exact HM6.out.rq.cell 37 _ (r5.tl 6))
          have f1 : (t5.works != t5.works) = false := by simp
          have f1' : (t5.works == t5.works) = true := by simp
          have f2 : (t5.failed != t5.failed) = false := by simp
          have f2' : (t5.failed == t5.failed) = true := by simp
          have f3 : ((mkS V).toList != (mkS V).toList) = false := by simp
          have f3' : ((mkS V).toList == (mkS V).toList) = true := by simp
          clear k6 hbt VC HM5 HV
          generalize t5.works = tw at *
          generalize t5.failed = tf at *
          go_wp2_with fail
          refine wp_region_go (sp := spOf (R := Ext) [(1, Told.val (R := Ext) (.bool tw)), (7, Told.val (R := Ext) (.int .i64 tf))]) (C := fun w' => ∃ n : After w6, w' = n.wd) (R := Ext) (by kernel_rfl) (by kernel_rfl) (spOf_mono _) (After.drew _) ?_
          repeat (first | ((with_reducible refine go_nil ?_)) | (refine go_skip' (by rfl) ?_; (try simp only [Act.put, List.setIfInBounds_toArray, List.set_cons_zero, List.set_cons_succ])) | (refine go_quiet' (by rfl) (by rfl) (by rfl) ?_; intro K hK; go_big_quiet_op; go_big_quiet_on) | (refine go_nilcheck _ _ rfl rfl (by rfl) (by rfl) ?_; (try simp only [Act.put, List.setIfInBounds_toArray, List.set_cons_zero, List.set_cons_succ])))
          (refine go_act (by rfl) (by rfl) ?_ ?_; (focus (intro w' hC hM; obtain ⟨x, rfl⟩ := hC; go_simp; (with_reducible refine Calls.told (CW.out x)); done)); intro v hv; obtain ⟨_, _, hv, _⟩ := hv; obtain rfl := hv; (try simp only [Act.put, List.setIfInBounds_toArray, List.set_cons_zero, List.set_cons_succ]))
          repeat (first | ((with_reducible refine go_nil ?_)) | (refine go_skip' (by rfl) ?_; (try simp only [Act.put, List.setIfInBounds_toArray, List.set_cons_zero, List.set_cons_succ])) | (refine go_quiet' (by rfl) (by rfl) (by rfl) ?_; intro K hK; go_big_quiet_op; go_big_quiet_on) | (refine go_nilcheck _ _ rfl rfl (by rfl) (by rfl) ?_; (try simp only [Act.put, List.setIfInBounds_toArray, List.set_cons_zero, List.set_cons_succ])))
          (refine go_act (by rfl) (by rfl) ?_ ?_; (focus (intro w' hC hM; obtain ⟨x, rfl⟩ := hC; go_simp; (with_reducible refine Calls.told (CF.out x)); done)); intro v hv; obtain ⟨_, _, hv, _⟩ := hv; obtain rfl := hv; (try simp only [Act.put, List.setIfInBounds_toArray, List.set_cons_zero, List.set_cons_succ]))
          repeat (first | ((with_reducible refine go_nil ?_)) | (refine go_skip' (by rfl) ?_; (try simp only [Act.put, List.setIfInBounds_toArray, List.set_cons_zero, List.set_cons_succ])) | (refine go_quiet' (by rfl) (by rfl) (by rfl) ?_; intro K hK; go_big_quiet_op; go_big_quiet_on) | (refine go_nilcheck _ _ rfl rfl (by rfl) (by rfl) ?_; (try simp only [Act.put, List.setIfInBounds_toArray, List.set_cons_zero, List.set_cons_succ])))
          refine go_fact (by rfl) (by rfl) (.string (mkS V)) ?_ ?_
          · intro w' hC hM
            obtain ⟨y, rfl⟩ := hC
            have hs2 : (cvS (.slice U6 V.length c6)).run Try.prog y.wd = .ok (.string (mkS V)) y.wd := (VB.out y).str
            clear hM
            go_simp
          (try simp only [Act.put, List.setIfInBounds_toArray, List.set_cons_zero, List.set_cons_succ])
          repeat (first | ((with_reducible refine go_nil ?_)) | (refine go_skip' (by rfl) ?_; (try simp only [Act.put, List.setIfInBounds_toArray, List.set_cons_zero, List.set_cons_succ])) | (refine go_quiet' (by rfl) (by rfl) (by rfl) ?_; intro K hK; go_big_quiet_op; go_big_quiet_on) | (refine go_nilcheck _ _ rfl rfl (by rfl) (by rfl) ?_; (try simp only [Act.put, List.setIfInBounds_toArray, List.set_cons_zero, List.set_cons_succ])))
          intro wz hC hall
          obtain ⟨y, rfl⟩ := hC
          have HMZ := hid (HM6.out.more y.ext)
          clear hall CW CF R0 R5 R6 VB
          go_wp2_with fail
          go_roundg (gk - 1)
          case rel => exact ⟨i + 1, nw, p5, cb5, gb5, t5, r5, by omega, by omega, by go_num, rfl, rfl, HNI.out.1.2.1, by have := HNI.out.1; omega, HP5, HMZ⟩
          case measure => omega
    · by_cases hi : i = l.length
      · subst hi
        have e1 : decide ((l.length : Int) < (l.length : Int)) = false := by simp
        have LA := hid (fun w' (q : Ext wr w') => ldC_blk (q.blk HPM.out.ba))
        clear hlt HPR HPM
        go_wp2_with fail
        (with_reducible refine (reset_nil _).mono ?_); rintro e w3 ⟨rfl, rfl⟩
        go_wp2_with fail
        (with_reducible refine (hear_nil 0 _ _).mono ?_); rintro e w4 ⟨rfl, k4⟩
        go_wp2_with fail
        (with_reducible refine (value_nil' _).mono ?_); rintro e w5 ⟨rfl, rfl⟩
        go_wp2_with fail
        (with_reducible refine (clive_c _).mono ?_); rintro e w6 ⟨rfl, k6⟩
        have K6 := hid (K.trans (k4.trans k6))
        have la := LA.out w6 (k4.trans k6)
        clear k4 k6 K LA
        go_wp2_with fail
        (with_reducible refine (begin_nil 0 true a _).mono ?_); rintro e w7 ⟨rfl, k7⟩
        have K7 := hid (K6.out.trans k7)
        clear k7 la K6
        go_wp2_with fail
        (with_reducible refine (works_nil _).mono ?_); rintro e w8 ⟨rfl, rfl⟩
        go_wp2_with fail
        (with_reducible refine (failed_nil _).mono ?_); rintro e w8 ⟨rfl, rfl⟩
        go_wp2_with fail
        (with_reducible refine (tfork_nil _).mono ?_); rintro e w8 ⟨rfl, rfl⟩
        go_wp2_with fail
        go_ret
        exact ⟨rfl, K7.out⟩
      · obtain rfl : i = 80 := by omega
        have d : (80 : Int) < (l.length : Int) := by omega
        have d' : decide ((80 : Int) < (l.length : Int)) = true := by simpa using d
        have LA := hid (fun w' (q : Ext wr w') => ldC_blk (q.blk HPM.out.ba))
        clear hlt HPR HPM
        go_wp2_with fail
        (with_reducible refine (reset_nil _).mono ?_); rintro e w3 ⟨rfl, rfl⟩
        go_wp2_with fail
        (with_reducible refine (hear_nil 0 _ _).mono ?_); rintro e w4 ⟨rfl, k4⟩
        go_wp2_with fail
        (with_reducible refine (value_nil' _).mono ?_); rintro e w5 ⟨rfl, rfl⟩
        go_wp2_with fail
        (with_reducible refine (clive_c _).mono ?_); rintro e w6 ⟨rfl, k6⟩
        have K6 := hid (K.trans (k4.trans k6))
        have la := LA.out w6 (k4.trans k6)
        clear k4 k6 K LA
        go_wp2_with fail
        (with_reducible refine (begin_nil 0 true a _).mono ?_); rintro e w7 ⟨rfl, k7⟩
        have K7 := hid (K6.out.trans k7)
        clear k7 la K6
        go_wp2_with fail
        (with_reducible refine (works_nil _).mono ?_); rintro e w8 ⟨rfl, rfl⟩
        go_wp2_with fail
        (with_reducible refine (failed_nil _).mono ?_); rintro e w8 ⟨rfl, rfl⟩
        go_wp2_with fail
        (with_reducible refine (tfork_nil _).mono ?_); rintro e w8 ⟨rfl, rfl⟩
        go_wp2_with fail
        go_ret
        exact ⟨rfl, K7.out⟩

set_option maxRecDepth 100000 in
theorem cplays_entry (v0 v1 v2 : Value) (W : World) {base : Nat} (h0 : Rd Try.prog W CT v0.cells.toList) (o0 : Value.okWide Try.prog W .any base CT v0)
    (h1 : Rd Try.prog W CT v1.cells.toList) (o1 : Value.okWide Try.prog W .any base CT v1)
    (h2 : Rd Try.prog W 45 v2.cells.toList) (o2 : Value.okWide Try.prog W .any base 45 v2) :
    Calls Try.prog 6 #[v0, v1, v2] W fun e w' => e = .returned (.bool true) ∧ Below W.heap.size W w' := by
  obtain ⟨a, rfl⟩ := opn_ch h0 o0
  obtain ⟨b, rfl⟩ := opn_ch h1 o1
  obtain ⟨A, bl, o, l, c, rfl, hlc, _, _, _, hrow, hP⟩ := opn_rows Dd.cells Dd.ok 15 (by decide) Try.underlying45 (by kernel_rfl) dec_deed h2 o2
  exact cplays_c a b A bl o c l W hrow hlc hP

end Go.Proofs.Ytocogmboocjjaaa
