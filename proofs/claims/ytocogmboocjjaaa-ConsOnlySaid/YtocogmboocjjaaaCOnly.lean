/- The law ConsOnly. -/
import Derived.Test.YtocogmboocjjaaaDeed
import Derived.Test.YtocogmboocjjaaaOpnCh
import Derived.Test.YtocogmboocjjaaaRBytes
import Derived.Test.YtocogmboocjjaaaRFlip2
import Derived.Deep.Cut
import Derived.Deep.CutRange
import Derived.Deep.DeepCutAuto
import Derived.Deep.RegionWith
set_option linter.unusedSimpArgs false
set_option linter.unusedVariables false
set_option linter.unnecessarySimpa false
namespace Go.Proofs.Ytocogmboocjjaaa
open Go.RowKit Go.Proofs.YtocogmboocjjaaaW.PrintWords
attribute [local go_sem] max2_max min2_min max_of_two min_of_two bxF_fr stF_fr stF_fr2 stF_put ldF_put ldV_put ldF_new guard_eq guard_ne bin_eq bin_ne alF_fr bdF_none bdF_ask bdF_len bdF_dat ext_drew' ext_alloc
attribute [local go_sem ↓] ldF_in ldV_in bxF_in stF_in cvS_in alF_in bdF_in ixS_in
attribute [local go_sem] bxC_ch chguard_eq chguard_ne chbin_eq chbin_ne ldC_new bxT_v alT_v stT_put stT_new bdT_none bdT_failed bdT_v bdW_v gUpon gStill
attribute [local go_sem ↓] ldC_in bxC_in stC_in ldT_in bxT_in stT_in alT_in bdT_in bdW_in
attribute [local go_sem] alC_v bdC_tab stC_new stC_new1 stS_tab stC_old ldC_new1
attribute [local go_sem ↓] alC_in bdC_in stS_in

theorem tkB_in' {n : Int} (h0 : 0 ≤ n) (h1 : n ≤ 2147483647) : tkB n = true := by unfold tkB; simp [h0, h1]
set_option maxRecDepth 100000 in
set_option maxHeartbeats 8000000 in
theorem conly_c (x : Ch) (A : Option Addr) (bl o : Nat) (c : Nat) (l : List Dd) (w : World) (hl : RowOf Dd.cells 15 w A bl o l) (hlc : l.length ≤ c) (hP : ∀ d ∈ l, d.ok) :
    Calls Try.prog 4 #[x.val, .slice A l.length c] w fun e w' => e = .returned (.bool true) ∧ Ext w w' := by
  have HP := hid hP
  have hl0 := hl.1
  have HX := hid (Blk.new w x.cells CT)
  have K0 : Ext w (w.alloc (.cells x.cells CT)) := (by repeat (first | with_reducible exact Ext.refl _ | with_reducible assumption | with_reducible apply Ext.alloc | with_reducible apply Ext.drew | with_reducible apply Ext.drewN | (with_reducible refine Ext.set' ?_ (by first | omega | (simp only [World.size_alloc, World.size_setCell]; omega))) | (with_reducible refine Ext.trans ?_ (by with_reducible assumption)) | (with_reducible refine Ext.only ?_ (by with_reducible assumption) (by omega))))
  clear hP
  go_enter Try.func4, Try.ntmps4
  go_wp2_with fail
  generalize (w.alloc (.cells x.cells CT)) = w1 at *
  obtain ⟨xb, hxb⟩ : ∃ q, Is w.heap.size q := ⟨_, Is.refl _⟩
  rw [hxb.eq] at HX ⊢
  (with_reducible refine (cnew_c _).mono ?_); rintro e w2 ⟨b, rfl, ht, hb, k2⟩
  have HT := hid ht
  have HX2 := hid (k2.blk HX.out)
  have K2 := K0.trans k2
  have hb2 : w.heap.size ≤ b := Nat.le_trans K0.le hb
  have hoi := OI.start x 0
  clear ht hb k2 K0 HX
  go_wp2_with fail
  go_loopg [6, 7, 8, 9] 80 (fun g u6 u7 u8 u9 wr => ∃ (i : Nat) (now at_ : Int) (last : List Int) (t : Ts) (cb gb : Nat), i + g = 80 ∧ i ≤ l.length ∧ u9 = .int .i64 i ∧ u6 = .int .i64 now ∧ u7 = .int .i64 at_ ∧ u8 = .string (mkS last) ∧ 0 ≤ now ∧ now ≤ 255 * i ∧ 0 ≤ at_ ∧ at_ ≤ now ∧ Hid (OI x t last at_) ∧ Hid (TkAt wr b cb gb t) ∧ Hid (w.heap.size ≤ b ∧ w.heap.size ≤ cb ∧ w.heap.size ≤ gb) ∧ Hid (Blk wr xb x.cells CT) ∧ Ext w wr)
  case atStart => exact ⟨0, 0, 0, [], Ts.rest 0, b, b, rfl, by omega, rfl, rfl, rfl, rfl, by omega, by omega, by omega, by omega, hid hoi, HT, hid ⟨hb2, hb2, hb2⟩, HX2, K2⟩
  case round =>
    clear hoi HT HX2 K2
    obtain ⟨i, now, at_, last, t, cb, gb, hig, hil, rfl, rfl, rfl, rfl, hn0, hn1, ha0, ha1, HOI, HTK, HBB, HXX, K⟩ := hrel
    by_cases hlt : i < l.length ∧ i < 80
    · obtain ⟨hlt, h80⟩ := hlt
      have e1 : decide ((i : Int) < (l.length : Int)) = true := by simpa using hlt
      have e2 : decide ((i : Int) < 80) = true := by simp; omega
      have i0 : (0 : Int) ≤ (i : Int) := by omega
      have i1 : (i : Int) < (l.length : Int) := by omega
      obtain ⟨rfl, hcell⟩ := hl.at K hlt
      have HPi := hid (HP.out l[i] (List.getElem_mem _))
      have HR := hid (hl.at (Ext.refl w) hlt).2
      generalize l[i] = d at *
      have c0 : wr.cell? ⟨bl, o + i * 15 + 1, none⟩ = some (.int .u8 d.by_) := hcell 1 _ rfl
      have s0 := HPi.out.1
      have s1 := HPi.out.2.1
      obtain ⟨nw, hnw⟩ : ∃ n, Is (now + d.by_) n := ⟨_, Is.refl _⟩
      have HN : Hid (now ≤ nw ∧ 0 ≤ nw ∧ nw ≤ 255 * (i + 1)) := hid (by have := hnw.eq; omega)
      have hwn : IntKind.i64.wrap (now + d.by_) = nw := (IntWalk.i64_in _ (by omega)).trans hnw.eq
      have lx := ldC_blk HXX.out
      have hb0 := HBB.out.1
      have htk : tkB nw = true := tkB_in' HN.out.2.1 (by have := HN.out; omega)
      have HOB := hid (HOI.out.begin htk)
      have CB := hid (begin_c b cb gb t nw true x wr HTK.out)
      obtain ⟨T1, hT1⟩ : ∃ q, Is (t.begin nw true x) q := ⟨_, Is.refl _⟩
      rw [hT1.eq] at HOB CB
      have HF : Hid (∀ w', Ext w w' → (ldF (.pointer (some ⟨bl, o + i * 15 + 4, none⟩))).run Try.prog w' = .ok d.f.val w') := hid (fun w' q => ldF_mid (fun j v hv => by
        have hj : j < 11 := (List.getElem?_eq_some_iff.1 hv).1
        refine q.cell ?_
        have := HR.out (4 + j) v (by unfold Dd.cells; rw [show 4 + j = j + 1 + 1 + 1 + 1 by omega]; simpa using hv)
        rwa [← Nat.add_assoc] at this))
      clear hcell hT1
      go_wp2_with fail
      (with_reducible refine (CB.out).mono ?_); rintro e w3 ⟨rfl, cb3, gb3, ht, o3, n1, n2⟩
      have HT3 := hid ht
      have HX3 := hid (HTK.out.keep o3 HXX.out (by decide) (by decide) (by decide))
      have HC3 := hid (And.intro (n1.le hb0 HBB.out.2.1 K.le) (n2.le hb0 HBB.out.2.2 K.le))
      have K3 : Ext w w3 := o3.ext K hb0 HBB.out.2.1 HBB.out.2.2
      have lf := HF.out w3 K3
      clear ht o3 n1 n2 lx HXX HTK K CB c0
      go_wp2_with fail
      have HFB := hid (Blk.new w3 d.f.cells FT)
      have E4 : Ext w3 (w3.alloc (.cells d.f.cells FT)) := (by repeat (first | with_reducible exact Ext.refl _ | with_reducible assumption | with_reducible apply Ext.alloc | with_reducible apply Ext.drew | with_reducible apply Ext.drewN | (with_reducible refine Ext.set' ?_ (by first | omega | (simp only [World.size_alloc, World.size_setCell]; omega))) | (with_reducible refine Ext.trans ?_ (by with_reducible assumption)) | (with_reducible refine Ext.only ?_ (by with_reducible assumption) (by omega))))
      have HT4 := hid (HT3.out.ext E4)
      have HX4 := hid (E4.blk HX3.out)
      have K4 : Ext w (w3.alloc (.cells d.f.cells FT)) := K3.trans E4
      generalize hfb : w3.heap.size = fb at *
      generalize (w3.alloc (.cells d.f.cells FT)) = w4 at *
      have HH := hid (hear_c b cb3 gb3 T1.1 nw d.f w4 HT4.out HPi.out.2.2)
      have HOH := hid (HOB.out.1.hear d.f htk HOB.out.2)
      obtain ⟨R, hR⟩ : ∃ q, Is (T1.1.hear nw d.f) q := ⟨_, Is.refl _⟩
      rw [hR.eq] at HH HOH
      (with_reducible refine (HH.out).mono ?_); rintro e w5 ⟨u5, rfl, hbt, ⟨cb5, gb5, ht, n1, n2⟩, o5⟩
      have HB5 := hid hbt
      have HT5 := hid ht
      have HX5 := hid (HT4.out.keep o5 HX4.out (by decide) (by decide) (by decide))
      have HF5 := hid (HT4.out.keep o5 HFB.out (by decide) (by decide) (by decide))
      have HC5 := hid (And.intro (n1.le hb0 HC3.out.1 K4.le) (n2.le hb0 HC3.out.2 K4.le))
      have K5 : Ext w w5 := o5.ext K4 hb0 HC3.out.1 HC3.out.2
      obtain ⟨V, hV⟩ : ∃ q, Is R.2.1 q := ⟨_, Is.refl _⟩
      rw [hV.eq] at HB5 HOH
      obtain ⟨U, cu, hu⟩ := HB5.out.form
      subst hu
      clear ht o5 n1 n2 hbt HT3 HX3 K3 E4 HT4 HX4 HFB HH hR HOB lf hfb K4 htk HC3
      go_upto_region 10 with fail
      go_cut [80] from 14 to 101 (fun u80 wx => u80 = .bool false ∧ Ext w5 wx)
      case first =>
        have EE := Ext.refl w5
        rcases HOH.out.2 with hv0 | ⟨g1, g2, g3, g4, g5⟩
        · have hv0' : V.length = 0 := by rw [hv0]; rfl
          have e3 : decide ((0 : Int) < (V.length : Int)) = false := by rw [hv0']; decide
          have e3' : decide (0 < V.length) = false := by rw [hv0']; decide
          clear hv0 hv0'
          go_wp2_with fail
          go_region
          go_wp2_with fail
          go_meet
          case rel => exact ⟨rfl, EE.drew⟩
        · have e3 : decide ((0 : Int) < (V.length : Int)) = true := by
            rcases V with _ | ⟨a, q⟩
            · exact absurd rfl g5
            · simp
          have e3' : decide (0 < V.length) = true := by
            rcases V with _ | ⟨a, q⟩
            · exact absurd rfl g5
            · simp
          have C0 : ∀ y : After w5, y.wd.cell? ⟨fb, 0, none⟩ = some (.int .i64 (x.at 4)) := fun y => by rw [← g1]; exact y.ext.cell (HF5.out.cell 0 _ rfl)
          have X4 := After.cell (HX5.out.chat (j := 4) (by omega))
          have X2 := After.cell (HX5.out.chat (j := 2) (by omega))
          have l0 := fun y : After w5 => ldF_blk (y.ext.blk HF5.out)
          have VB := hid (fun y : After w5 => (HB5.out.ext y.ext).bs)
          have BY := hid (fun w => rbytes_v d.f w HPi.out.2.2)
          have BYT := hid (bytes_byt (f := d.f) HPi.out.2.2)
          rw [← g4] at BY BYT
          have HVL : Hid (V.length ≤ 8) := hid (by
            have h1 := fr_bytes_len d.f
            rw [← g4, flipL_len] at h1
            exact h1)
          subst g2
          have f1 : (x.at 4 != x.at 4) = false := by simp
          have f2 : ((mkS last).toList != (mkS last).toList) = false := by simp
          have f2' : ((mkS last).toList == (mkS last).toList) = true := by simp
          have f4 : ((mkS (flipL last)).toList != (mkS (flipL last)).toList) = false := by simp
          have f4' : ((mkS (flipL last)).toList == (mkS (flipL last)).toList) = true := by simp
          have hws : IntKind.i64.wrap (nw - at_) = nw - at_ := IntWalk.i64_in _ (by have := HN.out; omega)
          have f3 : decide (x.at 2 < nw - at_) = false := by simp; omega
          generalize x.at 4 = p4 at *
          generalize x.at 2 = p2 at *
          clear g1 g3 g4 g5
          refine wp_region_go (sp := spOf (R := Ext) [(25, Told.bs (flipL last)), (28, Told.bs (flipL last))]) (C := fun w' => ∃ n : After w5, w' = n.wd) (R := Ext) (by kernel_rfl) (by kernel_rfl) (spOf_mono _) (After.drew _) ?_
          repeat (first | ((with_reducible refine go_nil ?_)) | (refine go_skip' (by rfl) ?_; (try simp only [Act.put, List.setIfInBounds_toArray, List.set_cons_zero, List.set_cons_succ])) | (refine go_quiet' (by rfl) (by rfl) (by rfl) ?_; intro K hK; go_big_quiet_op; go_big_quiet_on) | (refine go_nilcheck _ _ rfl rfl (by rfl) (by rfl) ?_; (try simp only [Act.put, List.setIfInBounds_toArray, List.set_cons_zero, List.set_cons_succ])))
          refine go_fact (by rfl) (by rfl) (.string (mkS last)) ?_ ?_
          · intro w' hC hM
            obtain ⟨y, rfl⟩ := hC
            have hs2 := (VB.out y).str
            clear hM
            go_simp
          (try simp only [Act.put, List.setIfInBounds_toArray, List.set_cons_zero, List.set_cons_succ])
          repeat (first | ((with_reducible refine go_nil ?_)) | (refine go_skip' (by rfl) ?_; (try simp only [Act.put, List.setIfInBounds_toArray, List.set_cons_zero, List.set_cons_succ])) | (refine go_quiet' (by rfl) (by rfl) (by rfl) ?_; intro K hK; go_big_quiet_op; go_big_quiet_on) | (refine go_nilcheck _ _ rfl rfl (by rfl) (by rfl) ?_; (try simp only [Act.put, List.setIfInBounds_toArray, List.set_cons_zero, List.set_cons_succ])))
          (refine go_act (by rfl) (by rfl) ?_ ?_; (focus (intro w' hC hM; obtain ⟨x, rfl⟩ := hC; ((go_simp; exact Calls.told_bs BYT.out (rflip2_c _ _ _ (VB.out x) (by have := HVL.out; omega)))))); intro v hv; obtain ⟨_, _, hv, _⟩ := hv; ((revert hv; revert v; intro u1 hv)); (try simp only [Act.put, List.setIfInBounds_toArray, List.set_cons_zero, List.set_cons_succ]))
          refine go_fact (by rfl) (by rfl) (.string (mkS (flipL last))) ?_ ?_
          · intro w' hC hM
            obtain ⟨y, rfl⟩ := hC
            have q2 : Bs y.wd u1 (flipL last) := hM _ (.inl rfl) ⟨73, rfl, by decide⟩
            have hs2 := q2.str
            clear hM q2
            go_simp
          (try simp only [Act.put, List.setIfInBounds_toArray, List.set_cons_zero, List.set_cons_succ])
          repeat (first | ((with_reducible refine go_nil ?_)) | (refine go_skip' (by rfl) ?_; (try simp only [Act.put, List.setIfInBounds_toArray, List.set_cons_zero, List.set_cons_succ])) | (refine go_quiet' (by rfl) (by rfl) (by rfl) ?_; intro K hK; go_big_quiet_op; go_big_quiet_on) | (refine go_nilcheck _ _ rfl rfl (by rfl) (by rfl) ?_; (try simp only [Act.put, List.setIfInBounds_toArray, List.set_cons_zero, List.set_cons_succ])))
          (refine go_act (by rfl) (by rfl) ?_ ?_; (focus (intro w' hC hM; obtain ⟨x, rfl⟩ := hC; ((go_simp; exact Calls.told_bs BYT.out (BY.out x.wd))))); intro v hv; obtain ⟨_, _, hv, _⟩ := hv; ((revert hv; revert v; intro u2 hv)); (try simp only [Act.put, List.setIfInBounds_toArray, List.set_cons_zero, List.set_cons_succ]))
          refine go_fact (by rfl) (by rfl) (.string (mkS (flipL last))) ?_ ?_
          · intro w' hC hM
            obtain ⟨y, rfl⟩ := hC
            have q2 : Bs y.wd u2 (flipL last) := hM _ (.inl rfl) ⟨76, rfl, by decide⟩
            have hs2 := q2.str
            clear hM q2
            go_simp
          (try simp only [Act.put, List.setIfInBounds_toArray, List.set_cons_zero, List.set_cons_succ])
          repeat (first | ((with_reducible refine go_nil ?_)) | (refine go_skip' (by rfl) ?_; (try simp only [Act.put, List.setIfInBounds_toArray, List.set_cons_zero, List.set_cons_succ])) | (refine go_quiet' (by rfl) (by rfl) (by rfl) ?_; intro K hK; go_big_quiet_op; go_big_quiet_on) | (refine go_nilcheck _ _ rfl rfl (by rfl) (by rfl) ?_; (try simp only [Act.put, List.setIfInBounds_toArray, List.set_cons_zero, List.set_cons_succ])))
          intro wz hC hall
          obtain ⟨y, rfl⟩ := hC
          have KY := y.ext
          go_wp2_with fail
          go_meet
          case rel => exact ⟨rfl, KY⟩
      case rest =>
        obtain ⟨rfl, k6⟩ := hcut
        obtain ⟨w5', hw5'⟩ : ∃ w5', w5' = wc := ⟨_, rfl⟩
        subst hw5'
        have HT6 := hid (HT5.out.ext k6)
        have HX6 := hid (k6.blk HX5.out)
        have HF6 := hid (k6.blk HF5.out)
        have K6 := K5.trans k6
        have HOI6 := hid HOH.out.1
        clear k6 HT5 HX5 HF5 K5 HOH HB5
        have c1 : w5'.cell? ⟨fb, 1, none⟩ = some (.bool d.f.rtr) := HF6.out.cell 1 _ rfl
        have c0 : w5'.cell? ⟨fb, 0, none⟩ = some (.int .i64 d.f.id) := HF6.out.cell 0 _ rfl
        have lf := ldF_blk HF6.out
        have NB := HN.out
        have HFIN : Hid (∀ (w7 : World) (la : List Int) (a' : Int), Ext w5' w7 → note x nw d.f last at_ = (la, a') → 0 ≤ a' ∧ a' ≤ nw → (TkAt w7 b cb5 gb5 R.1 ∧ Blk w7 xb x.cells CT ∧ Ext w w7 ∧ OI x R.1 la a')) := hid (fun w7 la a' q e _ => ⟨HT6.out.ext q, q.blk HX6.out, K6.trans q, by have := HOI6.out; rw [e] at this; exact this⟩)
        have CK := hid (fun w => rcheck_v d.f w)
        have BY := hid (fun w => rbytes_v d.f w HPi.out.2.2)
        have BYT := hid (bytes_byt (f := d.f) HPi.out.2.2)
        have EE := Ext.refl w5'
        by_cases hr : d.f.rtr = true
        · have hnt := hid (show note x nw d.f last at_ = (last, at_) from by unfold note; rw [if_pos (.inl hr)])
          rw [hr] at c1
          clear hr
          go_wp2_with fail
          go_roundg (gk - 1)
          case rel =>
            obtain ⟨q1, q2, q3, q4⟩ := HFIN.out _ _ _ EE hnt.out ⟨ha0, by omega⟩
            exact ⟨i + 1, nw, at_, last, R.1, cb5, gb5, by omega, by omega, by go_num, rfl, rfl, rfl, by omega, by omega, ha0, by omega, hid q4, hid q1, hid ⟨hb0, HC5.out.1, HC5.out.2⟩, hid q2, q3⟩
          case measure => omega
        have hr' : d.f.rtr = false := by simpa using hr
        rw [hr'] at c1
        by_cases hch : d.f.chk = 0
        case neg =>
          have hnt := hid (show note x nw d.f last at_ = (last, at_) from by unfold note; rw [if_pos (.inr hch)])
          have e4 : (d.f.chk != 0) = true := by simpa using hch
          clear hr hr' hch
          go_wp2_with fail
          (with_reducible refine (CK.out _).mono ?_); rintro e w7 ⟨rfl, k7⟩
          go_wp2_with fail
          go_roundg (gk - 1)
          case rel =>
            obtain ⟨q1, q2, q3, q4⟩ := HFIN.out _ _ _ k7 hnt.out ⟨ha0, by omega⟩
            exact ⟨i + 1, nw, at_, last, R.1, cb5, gb5, by omega, by omega, by go_num, rfl, rfl, rfl, by omega, by omega, ha0, by omega, hid q4, hid q1, hid ⟨hb0, HC5.out.1, HC5.out.2⟩, hid q2, q3⟩
          case measure => omega
        have hno : ¬ (d.f.rtr = true ∨ d.f.chk ≠ 0) := by rw [hr', hch]; simp
        rw [hch] at CK
        have X3 := hid (fun w7 (q : Ext w5' w7) => (q.blk HX6.out).chat (j := 3) (by omega))
        have X4 := hid (fun w7 (q : Ext w5' w7) => (q.blk HX6.out).chat (j := 4) (by omega))
        have C0 := hid (fun w7 (q : Ext w5' w7) => q.cell c0)
        have LF := hid (fun w7 (q : Ext w5' w7) => ldF_blk (q.blk HF6.out))
        go_wp2_with fail
        (with_reducible refine (CK.out _).mono ?_); rintro e w7 ⟨rfl, k7⟩
        have c07 := C0.out w7 k7
        have x37 := X3.out w7 k7
        have x47 := X4.out w7 k7
        have lf7 := LF.out w7 k7
        by_cases hp : d.f.id = x.at 3
        · have hnt := hid (show note x nw d.f last at_ = (d.f.bytes, nw) from by unfold note; rw [if_neg hno, if_pos hp])
          have e5 : (d.f.id == x.at 3) = true := by simpa using hp
          clear hr hr' hch hp hno lf c0 c1
          go_wp2_with fail
          (with_reducible refine (BY.out _).mono ?_); rintro e w8 ⟨u8, rfl, ho8, k8⟩
          have hs8 := (Bs.own ho8 BYT.out).str
          have k78 := k7.trans k8
          clear ho8
          go_wp2_with fail
          go_roundg (gk - 1)
          case rel =>
            obtain ⟨q1, q2, q3, q4⟩ := HFIN.out _ _ _ k78 hnt.out ⟨by omega, by omega⟩
            exact ⟨i + 1, nw, nw, d.f.bytes, R.1, cb5, gb5, by omega, by omega, by go_num, rfl, rfl, rfl, by omega, by omega, by omega, by omega, hid q4, hid q1, hid ⟨hb0, HC5.out.1, HC5.out.2⟩, hid q2, q3⟩
          case measure => omega
        · have e5 : (d.f.id == x.at 3) = false := by simpa using hp
          by_cases hq : d.f.id = x.at 4
          · have hnt := hid (show note x nw d.f last at_ = ([], at_) from by unfold note; rw [if_neg hno, if_neg hp, if_pos hq])
            have e6 : (d.f.id == x.at 4) = true := by simpa using hq
            clear hr hr' hch hp hno lf c0 c1 hq
            go_wp2_with fail
            go_roundg (gk - 1)
            case rel =>
              obtain ⟨q1, q2, q3, q4⟩ := HFIN.out _ _ _ k7 hnt.out ⟨ha0, by omega⟩
              exact ⟨i + 1, nw, at_, [], R.1, cb5, gb5, by omega, by omega, by go_num, rfl, rfl, rfl, by omega, by omega, ha0, by omega, hid q4, hid q1, hid ⟨hb0, HC5.out.1, HC5.out.2⟩, hid q2, q3⟩
            case measure => omega
          · have hnt := hid (show note x nw d.f last at_ = (last, at_) from by unfold note; rw [if_neg hno, if_neg hp, if_neg hq])
            have e6 : (d.f.id == x.at 4) = false := by simpa using hq
            clear hr hr' hch hp hno lf c0 c1 hq
            go_wp2_with fail
            go_roundg (gk - 1)
            case rel =>
              obtain ⟨q1, q2, q3, q4⟩ := HFIN.out _ _ _ k7 hnt.out ⟨ha0, by omega⟩
              exact ⟨i + 1, nw, at_, last, R.1, cb5, gb5, by omega, by omega, by go_num, rfl, rfl, rfl, by omega, by omega, ha0, by omega, hid q4, hid q1, hid ⟨hb0, HC5.out.1, HC5.out.2⟩, hid q2, q3⟩
            case measure => omega
    · by_cases hi : i = l.length
      · subst hi
        have e1 : decide ((l.length : Int) < (l.length : Int)) = false := by simp
        clear hlt
        go_wp2_with fail
        (with_reducible refine (clive_c _).mono ?_); rintro e w3 ⟨rfl, k3⟩
        have K3 := K.trans k3
        go_wp2_with fail
        go_ret
        exact ⟨rfl, K3⟩
      · obtain rfl : i = 80 := by omega
        have d : (80 : Int) < (l.length : Int) := by omega
        have d' : decide ((80 : Int) < (l.length : Int)) = true := by simpa using d
        clear hlt hi
        go_wp2_with fail
        (with_reducible refine (clive_c _).mono ?_); rintro e w3 ⟨rfl, k3⟩
        have K3 := K.trans k3
        go_wp2_with fail
        go_ret
        exact ⟨rfl, K3⟩

set_option maxRecDepth 100000 in
theorem conly_entry (v0 v1 : Value) (W : World) {base : Nat} (h0 : Rd Try.prog W CT v0.cells.toList) (o0 : Value.okWide Try.prog W .any base CT v0)
    (h1 : Rd Try.prog W 45 v1.cells.toList) (o1 : Value.okWide Try.prog W .any base 45 v1) :
    Calls Try.prog 4 #[v0, v1] W fun e w' => e = .returned (.bool true) ∧ Below W.heap.size W w' := by
  obtain ⟨x, rfl⟩ := opn_ch h0 o0
  obtain ⟨A, bl, o, l, c, rfl, hlc, _, _, _, hrow, hP⟩ := opn_rows Dd.cells Dd.ok 15 (by decide) Try.underlying45 (by kernel_rfl) dec_deed h1 o1
  exact conly_c x A bl o c l W hrow hlc hP

end Go.Proofs.Ytocogmboocjjaaa
