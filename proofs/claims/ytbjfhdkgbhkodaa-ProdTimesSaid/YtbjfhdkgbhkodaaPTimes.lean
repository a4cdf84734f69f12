/- The law ProdTimes. -/
import Derived.Test.YtbjfhdkgbhkodaaTimeL
import Derived.Test.YtbjfhdkgbhkodaaRange
import Derived.Test.YtbjfhdkgbhkodaaRBytes
import Derived.Test.YtbjfhdkgbhkodaaRFlip2
import Derived.Test.YtbjfhdkgbhkodaaOpnCh
import Derived.Deep.Cut
import Derived.Deep.CutRange
import Derived.Deep.DeepCutAuto
import Derived.Deep.RegionWith
import Derived.StillTailTactics
set_option linter.unusedSimpArgs false
set_option linter.unusedVariables false
set_option linter.unnecessarySimpa false
namespace Go.Proofs.Ytbjfhdkgbhkodaa
open Go.RowKit Go.Shelf Go.Proofs.YtbjfhdkgbhkodaaW.PrintWords
attribute [local go_sem] Oper.semAt_some
theorem eq_nilfunc (f : Fn) (x y : Array Value) (w : World) : (binOp .eql 52 (.func f x y) .nilFunc).run Try.prog w = .ok (.bool false) w := by
  kernel_rfl
attribute [local go_sem] eq_nilfunc
attribute [local go_sem] max2_max min2_min max_of_two min_of_two bxF_fr stF_fr stF_fr2 stF_put ldF_put ldV_put ldF_new guard_eq guard_ne bin_eq bin_ne alF_fr bdF_none bdF_ask bdF_len bdF_dat ext_drew' ext_alloc
attribute [local go_sem ↓] ldF_in ldV_in bxF_in stF_in cvS_in alF_in bdF_in ixS_in
attribute [local go_sem] bxC_ch chguard_eq chguard_ne chbin_eq chbin_ne ldC_new bxM_v alM_v stM_put stM_new bxR_v alR_v stR_put stR_new ldM_new ldR_new bdM_none bdR_v stC_mk gUpon gStill
attribute [local go_sem ↓] ldC_in bxC_in stC_in ldM_in bxM_in stM_in alM_in ldR_in bxR_in stR_in alR_in bdM_in bdR_in
attribute [local go_sem] alC_v bdC_tab stC_new stC_new1 stS_tab stC_old ldC_new1
attribute [local go_sem ↓] alC_in bdC_in stS_in

set_option maxRecDepth 100000 in
set_option maxHeartbeats 8000000 in
theorem times_c (x : Ch) (fr stop : Int) (A : Option Addr) (bl o : Nat) (c : Nat) (l : List (List Int)) (w : World) (hf0 : 0 ≤ fr) (hf1 : fr ≤ 65535) (hs0 : 0 ≤ stop) (hs1 : stop ≤ 255) (hl : RowOf b8 8 w A bl o l) (hlc : l.length ≤ c) (hP : ∀ x ∈ l, B8 x) :
    Calls Try.prog 4 #[x.val, .int .u16 fr, .slice A l.length c, .int .u8 stop] w fun e w' => e = .returned (.bool true) ∧ Ext w w' := by
  obtain ⟨L, hL⟩ : ∃ L, L = min l.length 100 := ⟨_, rfl⟩
  have hL1 : L ≤ l.length := by omega
  have hL2 : L ≤ 100 := by omega
  have hmn : min (l.length : Int) 100 = (L : Int) := by omega
  have hl0 := hl.1
  have HP := hid hP
  clear hP
  have L0 : (0 : Int) ≤ (L : Int) := by omega
  have Lc : (L : Int) ≤ (c : Int) := by omega
  refine (callsIn_wide (n := 10)).1 ?_
  refine callsIn_of_wp_marks Try.func4 rfl trivial ?_ rfl
  simp only [Try.ntmps4, List.size_toArray, List.length_cons, List.length_nil, Nat.reduceAdd, Nat.reduceSub, Array.replicate_succ, Array.replicate_zero, List.push_toArray, List.append_toArray, List.nil_append, List.cons_append]
  refine (wpIn_wide (n := 10)).2 ?_
  go_wp2_with fail
  rw [← hL]
  have HX0 := hid (Blk.new w x.cells CT)
  have hx0 : Blk (((w.alloc (.cells x.cells CT)).alloc (.cells #[.int .u8 stop] U8)).alloc (.cells #[.bool false] 4)) w.heap.size x.cells CT := ((Blk.new w x.cells CT).alloc _).alloc _
  have ht0 : Blk (((w.alloc (.cells x.cells CT)).alloc (.cells #[.int .u8 stop] U8)).alloc (.cells #[.bool false] 4)) (w.heap.size + 1) #[.int .u8 stop] U8 := by
    have := (Blk.new (w.alloc (.cells x.cells CT)) #[.int .u8 stop] U8).alloc (.cells #[.bool false] 4)
    rwa [World.size_alloc] at this
  have hr0 : Blk (((w.alloc (.cells x.cells CT)).alloc (.cells #[.int .u8 stop] U8)).alloc (.cells #[.bool false] 4)) (w.heap.size + 1 + 1) #[.bool false] 4 := by
    have := Blk.new ((w.alloc (.cells x.cells CT)).alloc (.cells #[.int .u8 stop] U8)) #[.bool false] 4
    rwa [World.size_alloc, World.size_alloc] at this
  have K0 : Ext w (((w.alloc (.cells x.cells CT)).alloc (.cells #[.int .u8 stop] U8)).alloc (.cells #[.bool false] 4)) := (by repeat (first | with_reducible exact Ext.refl _ | with_reducible assumption | with_reducible apply Ext.alloc | with_reducible apply Ext.drew | with_reducible apply Ext.drewN | (with_reducible refine Ext.set' ?_ (by first | omega | (simp only [World.size_alloc, World.size_setCell]; omega))) | (with_reducible refine Ext.trans ?_ (by with_reducible assumption)) | (with_reducible refine Ext.only ?_ (by with_reducible assumption) (by omega))))
  (with_reducible refine (mnew_c _).mono ?_); rintro e w1 ⟨kb, rfl, hb, hkb, k1⟩
  simp only [World.size_alloc] at hkb
  have K1 : Ext w w1 := K0.trans k1
  have hx1 := hid (k1.blk hx0)
  have ht1 := hid (k1.blk ht0)
  have hr1 := hid (k1.blk hr0)
  have hb1 := hid hb
  have hk1 := hb.lt
  have OZ := hid (OwnR.zero (L := LI) w1 w.heap.size K1.le)
  have B2 := hid (Blk.new (w1.alloc (.cells #[] 3)) #[.slice (some ⟨w1.heap.size, 0, none⟩) 0 0] 45)
  have K2 : Ext w ((w1.alloc (.cells #[] 3)).alloc (.cells #[.slice (some ⟨w1.heap.size, 0, none⟩) 0 0] 45)) := (by repeat (first | with_reducible exact Ext.refl _ | with_reducible assumption | with_reducible apply Ext.alloc | with_reducible apply Ext.drew | with_reducible apply Ext.drewN | (with_reducible refine Ext.set' ?_ (by first | omega | (simp only [World.size_alloc, World.size_setCell]; omega))) | (with_reducible refine Ext.trans ?_ (by with_reducible assumption)) | (with_reducible refine Ext.only ?_ (by with_reducible assumption) (by omega))))
  have hS := TI.start x fr
  clear k1 hx0 ht0 hr0 K0 hb K1
  go_wp2_with fail
  go_loopg [11] L (fun g u11 wr => ∃ (i m : Nat) (k : Mk) (V : Value), i + g = L ∧ u11 = .int .i64 i ∧ Hid (TI x fr i k m) ∧ Hid ((0 ≤ k.last ∧ k.last ≤ fr + i) ∧ 0 ≤ k.sent ∧ k.sent ≤ i) ∧ Hid (Blk wr w.heap.size x.cells CT ∧ Blk wr (w.heap.size + 1) #[.int .u8 stop] U8 ∧ Blk wr (w.heap.size + 1 + 1) #[.bool false] 4 ∧ Blk wr kb k.cells MT ∧ Blk wr (w1.heap.size + 1) #[V] 45 ∧ OwnR LI wr w.heap.size V (upto (tk fr (x.at 1)) m) ∧ m ≤ i) ∧ Ext w wr)
  case atStart => exact ⟨0, 0, Mk.zero, _, by omega, rfl, hid hS, hid ⟨⟨by decide, by show (0 : Int) ≤ _; omega⟩, by decide, by decide⟩, hid ⟨(hx1.out.alloc _).alloc _, (ht1.out.alloc _).alloc _, (hr1.out.alloc _).alloc _, (hb1.out.alloc _).alloc _, by have := B2.out; rwa [World.size_alloc] at this, OZ.out.below ((Ext.refl _).alloc), Nat.le_refl _⟩, K2⟩
  case round =>
    clear hS OZ B2 hx1 ht1 hr1 hb1 K2 HX0
    obtain ⟨i, m, k, V, hig, rfl, hti, hbd, HW, K⟩ := hrel
    by_cases hlt : i < L
--ROUND{
    · have e1 : decide ((i : Int) < (L : Int)) = true := by simpa using hlt
      obtain ⟨rfl, hcell⟩ := hl.at K (show i < l.length by omega)
      have HPi := hid (HP.out (l[i]'(by omega)) (List.getElem_mem _))
      have HR := hid (hl.at (Ext.refl w) (show i < l.length by omega)).2
      have hblt := (hl.2.1 (by omega)).2
      generalize l[i] = bs8 at *
      have CB := hid (fun (w' : World) (n : Nat) (q : Ext w w') (hn : n ≤ 8) => b8_bs (w := w') (bl := bl) (o := o + i * 8) (l := bs8) (fun j v hv => q.cell (HR.out j v hv)) (Nat.lt_of_lt_of_le hblt q.le) HPi.out hn)
      have i0 : (0 : Int) ≤ (i : Int) := by omega
      have i1 : (i : Int) < (L : Int) := by omega
      have hw1 : IntKind.i64.wrap (fr + (i : Int)) = fr + (i : Int) := IntWalk.i64_in _ (by omega)
      have hw2 : IntKind.i64.wrap fr = fr := IntWalk.i64_in _ (by omega)
      obtain ⟨N, hN⟩ := Int.eq_ofNat_of_zero_le x.sz_ge
      obtain ⟨M, hM⟩ : ∃ M, M = min N 8 := ⟨_, rfl⟩
      have hM8 : M ≤ 8 := by omega
      have hM8' : (M : Int) ≤ 8 := by omega
      have hM0 : (0 : Int) ≤ (M : Int) := by omega
      have hm8a : (0 : Int) ≤ ((min N 8 : Nat) : Int) := by omega
      have hm8b : ((min N 8 : Nat) : Int) ≤ 8 := by omega
      have hmx : max (N : Int) 0 = (N : Int) := by omega
      have hmm : min (N : Int) 8 = (M : Int) := by omega
      have lx := fun y : After wr => ldC_blk (y.ext.blk HW.out.1)
      have RS := hid (fun w => rsize_c x w)
      rw [hN] at RS
      have E0 := Ext.refl wr
      clear hcell
      go_upto_region 8 with fail
      go_cut [13] from 27 to 98 (fun u13 wx => u13 = .slice (some ⟨bl, o + i * 8, none⟩) M 8 ∧ Ext wr wx)
      case first =>
        refine wp_region_go (sp := spOf (R := Ext) [(4, Told.val (R := Ext) (.int .i64 N))]) (C := fun w' => ∃ n : After wr, w' = n.wd) (R := Ext) (by kernel_rfl) (by kernel_rfl) (spOf_mono _) (After.drew _) ?_
        repeat (first | ((with_reducible refine go_nil ?_)) | (refine go_skip' (by rfl) ?_; (try simp only [Act.put, List.setIfInBounds_toArray, List.set_cons_zero, List.set_cons_succ])) | (refine go_quiet' (by rfl) (by rfl) (by rfl) ?_; intro K hK; go_big_quiet_op; go_big_quiet_on) | (refine go_nilcheck _ _ rfl rfl (by rfl) (by rfl) ?_; (try simp only [Act.put, List.setIfInBounds_toArray, List.set_cons_zero, List.set_cons_succ])))
        (refine go_act (by rfl) (by rfl) ?_ ?_; (focus (intro w' hC hM; obtain ⟨x, rfl⟩ := hC; go_simp; (with_reducible refine Calls.told (RS.out _)); done)); intro v hv; obtain ⟨_, _, hv, _⟩ := hv; obtain rfl := hv; (try simp only [Act.put, List.setIfInBounds_toArray, List.set_cons_zero, List.set_cons_succ]))
        repeat (first | ((with_reducible refine go_nil ?_)) | (refine go_skip' (by rfl) ?_; (try simp only [Act.put, List.setIfInBounds_toArray, List.set_cons_zero, List.set_cons_succ])) | (refine go_quiet' (by rfl) (by rfl) (by rfl) ?_; intro K hK; go_big_quiet_op; go_big_quiet_on) | (refine go_nilcheck _ _ rfl rfl (by rfl) (by rfl) ?_; (try simp only [Act.put, List.setIfInBounds_toArray, List.set_cons_zero, List.set_cons_succ])))
        intro wz hC hall
        obtain ⟨y, rfl⟩ := hC
        have KY := y.ext
        go_wp2_with fail
        go_meet
        case rel => exact ⟨by rw [hM], KY⟩
      case rest =>
        obtain ⟨rfl, k3⟩ := hcut
        obtain ⟨w3, hw3⟩ : ∃ w3, w3 = wc := ⟨_, rfl⟩
        subst hw3
        have K3 := K.trans k3
        have lx3 := ldC_blk (k3.blk HW.out.1)
        have hbs := CB.out w3 M K3 hM8
        have hln : (((bs8.take M).length : Nat) : Int) = min x.sz 8 := by
          rw [List.length_take, HPi.out.1, hN]
          omega
        have hbd' := hbd.out
        have HST := hid (hti.out.step hf0 (by omega) hln hbd'.1 hbd'.2)
        have S1 := hid (step_c kb k (fr + i) true x _ (bs8.take M) w3 (k3.blk HW.out.2.2.2.1) hbs hbd'.1.1 (by have := hbd'.1.2; omega) hbd'.2.1 (by have := hbd'.2.2; omega))
        obtain ⟨R, hR⟩ : ∃ R, Is (k.step (fr + i) true x (bs8.take M)) R := ⟨_, Is.refl _⟩
        rw [hR.eq] at HST S1
        have HBY := hid (And.intro (show (bs8.take M).length ≤ 8 by rw [List.length_take]; omega) hbs.byt)
        obtain ⟨bs, hbse⟩ : ∃ bs, Is (bs8.take M) bs := ⟨_, Is.refl _⟩
        rw [hbse.eq] at HST HBY
        have CBS := hid (fun w' (q : Ext w w') => CB.out w' M q hM8)
        rw [hbse.eq] at CBS
        have hwx : w.heap.size ≤ wr.heap.size := K.le
        have HW3 := hid (And.intro (k3.blk HW.out.1) (And.intro (k3.blk HW.out.2.1) (And.intro (k3.blk HW.out.2.2.1) (And.intro HW.out.2.2.2.1.lt (And.intro (k3.blk HW.out.2.2.2.2.1) (And.intro (HW.out.2.2.2.2.2.1.below k3) (And.intro HW.out.2.2.2.2.2.2 (k3.blk HW.out.2.2.2.1))))))))
        clear hbs hln hbd' hR hM hN hmx hmm k3 HW RS lx E0 hM0 hM8' CB hti hbd HR
        go_wp2_with fail
        (with_reducible refine (S1.out).mono ?_); rintro e w4 ⟨u, rfl, hu, hk4, k4⟩
        have K4 : Ext w w4 := Ext.only K3 k4 (by omega)
        have HW4 := hid (And.intro (HW3.out.1.kept k4 (by omega)) (And.intro (HW3.out.2.1.kept k4 (by omega)) (And.intro (HW3.out.2.2.1.kept k4 (by omega)) (And.intro hk4 (And.intro (HW3.out.2.2.2.2.1.kept k4 (by omega)) (And.intro (HW3.out.2.2.2.2.2.1.only k4 HW3.out.2.2.2.2.2.2.2 (by decide)) HW3.out.2.2.2.2.2.2.1))))))
        have hq := HST.out
        clear S1 HW3 HST k4 hk4 lx3 K3
        obtain ⟨hq1, hq2, ⟨hr, hti⟩ | ⟨hr, hsn, hky, hti⟩⟩ := hq
        · obtain rfl : u = .slice none 0 0 := by
            rcases hu with ⟨_, h⟩ | ⟨h, _⟩
            · exact h
            · exact absurd hr h
          have HT := hid hti
          clear hu hr hti
          have HQ := hid (And.intro hq1 hq2)
          clear hq1 hq2
          go_wp2_with fail
          go_roundg (gk - 1)
          case rel => exact ⟨i + 1, m, R.1, V, by omega, by go_num, HT, HQ, hid ⟨HW4.out.1, HW4.out.2.1, HW4.out.2.2.1, HW4.out.2.2.2.1, HW4.out.2.2.2.2.1, HW4.out.2.2.2.2.2.1, Nat.le_succ_of_le HW4.out.2.2.2.2.2.2⟩, K4⟩
          case measure => omega
        · obtain ⟨gu, cu, rfl, hlf, hid'⟩ : ∃ gu cu, u = .slice (some ⟨gu, 0, none⟩) 2 cu ∧ (∀ (j : Nat) (f : Fr), (two x bs)[j]? = some f → ∀ y : After w4, (ldF (.pointer (some ⟨gu, j * 11, none⟩))).run Try.prog y.wd = .ok f.val y.wd) ∧ ∀ (j : Nat) (f : Fr), (two x bs)[j]? = some f → w4.cell? ⟨gu, j * 11, none⟩ = some (.int .i64 f.id) := by
            rcases hu with ⟨h, _⟩ | ⟨_, h2⟩
            · rw [hr] at h
              exact absurd h (by unfold two; simp)
            · rw [hr] at h2
              exact h2.ids (by unfold two; simp)
          obtain ⟨_, _, _, _, _, ⟨p0, p1⟩, q0, q1⟩ := snd_in hsn
          obtain ⟨c1, y1, d1⟩ := mk_small (p := x.at 3) (l := bs) p0 p1 HBY.out.1 HBY.out.2
          obtain ⟨c2, y2, d2⟩ := mk_small (p := x.at 4) (l := flipL bs) q0 q1 (by rw [flipL_len]; exact HBY.out.1) (flipL_byt HBY.out.2)
          have l0 : ∀ y : After w4, (ldF (.pointer (some ⟨gu, 0, none⟩))).run Try.prog y.wd = .ok (mkFr (x.at 3) bs).val y.wd := fun y => hlf 0 _ rfl y
          have l1 : ∀ y : After w4, (ldF (.pointer (some ⟨gu, 11, none⟩))).run Try.prog y.wd = .ok (mkFr (x.at 4) (flipL bs)).val y.wd := fun y => hlf 1 _ rfl y
          have cc0 : w4.cell? ⟨gu, 0, none⟩ = some (.int .i64 (x.at 3)) := hid' 0 _ rfl
          have cc1 : w4.cell? ⟨gu, 11, none⟩ = some (.int .i64 (x.at 4)) := hid' 1 _ rfl
          have C0 := After.cell cc0
          have C1 := After.cell cc1
          have X3 := After.cell (HW4.out.1.chat (j := 3) (by omega))
          have X4 := After.cell (HW4.out.1.chat (j := 4) (by omega))
          have HB1 := hid (fun w => rbytes_v (mkFr (x.at 3) bs) w d1)
          have HB2 := hid (fun w => rbytes_v (mkFr (x.at 4) (flipL bs)) w d2)
          rw [y1] at HB1
          rw [y2] at HB2
          have HFB := hid (flipL_byt HBY.out.2)
          generalize mkFr (x.at 3) bs = F at *
          generalize mkFr (x.at 4) (flipL bs) = G at *
          have f1 : (x.at 3 != x.at 3) = false := by simp
          have f2 : (x.at 4 != x.at 4) = false := by simp
          have f3 : ((mkS bs).toList != (mkS bs).toList) = false := by simp
          have f4 : ((mkS (flipL bs)).toList != (mkS (flipL bs)).toList) = false := by simp
          have f5 : ((mkS bs).toList == (mkS bs).toList) = true := by simp
          have f6 : ((mkS (flipL bs)).toList == (mkS (flipL bs)).toList) = true := by simp
          generalize x.at 3 = p3 at *
          generalize x.at 4 = p4 at *
          have HT := hid hti
          have HQ := hid (And.intro hq1 hq2)
          have HKY := hid hky
          have VB := hid (fun y : After w4 => (CBS.out y.wd (K4.trans y.ext)))
          have E4 := Ext.refl w4
          clear hu hr hti hq1 hq2 hky hlf hid' c1 c2 y1 y2 d1 d2 p0 p1 q0 q1 cc0 cc1 hsn CBS
          go_wp2_with fail
          refine wp_region_go (sp := spOf (R := Ext) [(7, Told.bs bs), (17, Told.bs (flipL bs)), (20, Told.bs (flipL bs))]) (C := fun w' => ∃ n : After w4, w' = n.wd) (R := Ext) (by kernel_rfl) (by kernel_rfl) (spOf_mono _) (After.drew _) ?_
          repeat (first | ((with_reducible refine go_nil ?_)) | (refine go_skip' (by rfl) ?_; (try simp only [Act.put, List.setIfInBounds_toArray, List.set_cons_zero, List.set_cons_succ])) | (refine go_quiet' (by rfl) (by rfl) (by rfl) ?_; intro K hK; go_big_quiet_op; go_big_quiet_on) | (refine go_nilcheck _ _ rfl rfl (by rfl) (by rfl) ?_; (try simp only [Act.put, List.setIfInBounds_toArray, List.set_cons_zero, List.set_cons_succ])))
          (refine go_act (by rfl) (by rfl) ?_ ?_; (focus (intro w' hC hM; obtain ⟨x, rfl⟩ := hC; ((go_simp; exact Calls.told_bs HBY.out.2 (HB1.out x.wd))))); intro v hv; obtain ⟨_, _, hv, _⟩ := hv; ((revert hv; revert v; intro u1 hv)); (try simp only [Act.put, List.setIfInBounds_toArray, List.set_cons_zero, List.set_cons_succ]))
          refine go_fact (by rfl) (by rfl) (.string (mkS bs)) ?_ ?_
          · intro w' hC hM
            obtain ⟨y, rfl⟩ := hC
            have f2 : Bs y.wd u1 bs := hM _ (.inl rfl) ⟨60, rfl, by decide⟩
            have hs2 := f2.str
            clear hM f2
            go_simp
          (try simp only [Act.put, List.setIfInBounds_toArray, List.set_cons_zero, List.set_cons_succ])
          repeat (first | ((with_reducible refine go_nil ?_)) | (refine go_skip' (by rfl) ?_; (try simp only [Act.put, List.setIfInBounds_toArray, List.set_cons_zero, List.set_cons_succ])) | (refine go_quiet' (by rfl) (by rfl) (by rfl) ?_; intro K hK; go_big_quiet_op; go_big_quiet_on) | (refine go_nilcheck _ _ rfl rfl (by rfl) (by rfl) ?_; (try simp only [Act.put, List.setIfInBounds_toArray, List.set_cons_zero, List.set_cons_succ])))
          refine go_fact (by rfl) (by rfl) (.string (mkS bs)) ?_ ?_
          · intro w' hC hM
            obtain ⟨y, rfl⟩ := hC
            have hs2 := (VB.out y).str
            clear hM
            go_simp
          (try simp only [Act.put, List.setIfInBounds_toArray, List.set_cons_zero, List.set_cons_succ])
          repeat (first | ((with_reducible refine go_nil ?_)) | (refine go_skip' (by rfl) ?_; (try simp only [Act.put, List.setIfInBounds_toArray, List.set_cons_zero, List.set_cons_succ])) | (refine go_quiet' (by rfl) (by rfl) (by rfl) ?_; intro K hK; go_big_quiet_op; go_big_quiet_on) | (refine go_nilcheck _ _ rfl rfl (by rfl) (by rfl) ?_; (try simp only [Act.put, List.setIfInBounds_toArray, List.set_cons_zero, List.set_cons_succ])))
          (refine go_act (by rfl) (by rfl) ?_ ?_; (focus (intro w' hC hM; obtain ⟨x, rfl⟩ := hC; ((go_simp; exact Calls.told_bs HFB.out (HB2.out x.wd))))); intro v hv; obtain ⟨_, _, hv, _⟩ := hv; ((revert hv; revert v; intro u2 hv)); (try simp only [Act.put, List.setIfInBounds_toArray, List.set_cons_zero, List.set_cons_succ]))
          refine go_fact (by rfl) (by rfl) (.string (mkS (flipL bs))) ?_ ?_
          · intro w' hC hM
            obtain ⟨y, rfl⟩ := hC
            have f2 : Bs y.wd u2 (flipL bs) := hM _ (.inl rfl) ⟨70, rfl, by decide⟩
            have hs2 := f2.str
            clear hM f2
            go_simp
          (try simp only [Act.put, List.setIfInBounds_toArray, List.set_cons_zero, List.set_cons_succ])
          repeat (first | ((with_reducible refine go_nil ?_)) | (refine go_skip' (by rfl) ?_; (try simp only [Act.put, List.setIfInBounds_toArray, List.set_cons_zero, List.set_cons_succ])) | (refine go_quiet' (by rfl) (by rfl) (by rfl) ?_; intro K hK; go_big_quiet_op; go_big_quiet_on) | (refine go_nilcheck _ _ rfl rfl (by rfl) (by rfl) ?_; (try simp only [Act.put, List.setIfInBounds_toArray, List.set_cons_zero, List.set_cons_succ])))
          (refine go_act (by rfl) (by rfl) ?_ ?_; (focus (intro w' hC hM; obtain ⟨x, rfl⟩ := hC; ((go_simp; exact Calls.told_bs HFB.out (rflip2_c _ _ _ (VB.out x) (by have := HBY.out.1; omega)))))); intro v hv; obtain ⟨_, _, hv, _⟩ := hv; ((revert hv; revert v; intro u3 hv)); (try simp only [Act.put, List.setIfInBounds_toArray, List.set_cons_zero, List.set_cons_succ]))
          refine go_fact (by rfl) (by rfl) (.string (mkS (flipL bs))) ?_ ?_
          · intro w' hC hM
            obtain ⟨y, rfl⟩ := hC
            have f2 : Bs y.wd u3 (flipL bs) := hM _ (.inl rfl) ⟨73, rfl, by decide⟩
            have hs2 := f2.str
            clear hM f2
            go_simp
          (try simp only [Act.put, List.setIfInBounds_toArray, List.set_cons_zero, List.set_cons_succ])
          repeat (first | ((with_reducible refine go_nil ?_)) | (refine go_skip' (by rfl) ?_; (try simp only [Act.put, List.setIfInBounds_toArray, List.set_cons_zero, List.set_cons_succ])) | (refine go_quiet' (by rfl) (by rfl) (by rfl) ?_; intro K hK; go_big_quiet_op; go_big_quiet_on) | (refine go_nilcheck _ _ rfl rfl (by rfl) (by rfl) ?_; (try simp only [Act.put, List.setIfInBounds_toArray, List.set_cons_zero, List.set_cons_succ])))
          intro wz hC hall
          obtain ⟨y, rfl⟩ := hC
          have K5 : Ext w y.wd := K4.trans y.ext
          have HW5 := hid (And.intro (y.ext.blk HW4.out.1) (And.intro (y.ext.blk HW4.out.2.1) (And.intro (y.ext.blk HW4.out.2.2.1) (And.intro (y.ext.blk HW4.out.2.2.2.1) (And.intro (y.ext.blk HW4.out.2.2.2.2.1) (And.intro (HW4.out.2.2.2.2.2.1.below y.ext) HW4.out.2.2.2.2.2.2))))))
          generalize y.wd = w5 at *
          have cv := HW5.out.2.2.2.2.1.cell 0 _ rfl
          have fv := HW5.out.2.2.2.2.1.free 0
          have hln : (upto (tk fr (x.at 1)) m).length + 1 ≤ 1000000 := by rw [upto_length]; have := HW5.out.2.2.2.2.2.2; omega
          have OO := HW5.out.2.2.2.2.2.1
          clear hall hv C0 C1 X3 X4 f1 f2 f3 f4 f5 f6 VB HB1 HB2 l0 l1 E4 HW4 K4
          go_wp2_with (first | (at_builtin; go_must (refine appR LI rfl (.tmp 95) (.tmp 97) rfl w.heap.size rfl rfl (by first | with_reducible rfl | simp only [World.size_alloc, World.size_setCell] | rfl | simp) OO (by first | omega | (simp only [List.length_append, List.length_cons, List.length_nil]; omega)) (Ext.le (by repeat (first | with_reducible exact Ext.refl _ | with_reducible assumption | with_reducible apply Ext.alloc | with_reducible apply Ext.drew | with_reducible apply Ext.drewN | (with_reducible refine Ext.set' ?_ (by first | omega | (simp only [World.size_alloc, World.size_setCell]; omega))) | (with_reducible refine Ext.trans ?_ (by with_reducible assumption)) | (with_reducible refine Ext.only ?_ (by with_reducible assumption) (by omega))))) ?_); intro v6 w6 o6 k6 kk6; have K6 : Ext w w6 := Ext.back (by repeat (first | with_reducible exact Ext.refl _ | with_reducible assumption | with_reducible apply Ext.alloc | with_reducible apply Ext.drew | with_reducible apply Ext.drewN | (with_reducible refine Ext.set' ?_ (by first | omega | (simp only [World.size_alloc, World.size_setCell]; omega))) | (with_reducible refine Ext.trans ?_ (by with_reducible assumption)) | (with_reducible refine Ext.only ?_ (by with_reducible assumption) (by omega)))) k6; clear k6; ((obtain ⟨A6, c6, e6⟩ := OwnR.form o6; obtain ⟨n6, hn6⟩ : ∃ n, Is (upto (tk fr (x.at 1)) m ++ [fr + (i : Int)]).length n := ⟨_, Is.refl _⟩; rw [hn6.eq] at e6; subst e6; have B6 := hid (kk6.blk HW5.out.2.2.2.2.1 (by decide)); have cv6 := B6.out.cell 0 _ rfl; have fv6 := B6.out.free 0))) | fail)
          have hup : upto (tk fr (x.at 1)) (m + 1) = upto (tk fr (x.at 1)) m ++ [fr + (i : Int)] := by rw [upto_succ, ← HKY.out]
          have hwk1 : w.heap.size + 1 + 1 < w1.heap.size := by omega
          go_roundg (gk - 1)
          case rel => exact ⟨i + 1, m + 1, R.1, _, by omega, by go_num, HT, HQ, hid ⟨(kk6.blk HW5.out.1 (by decide)).other _ _ (by show w.heap.size ≠ w1.heap.size + 1; omega), (kk6.blk HW5.out.2.1 (by decide)).other _ _ (by show w.heap.size + 1 ≠ w1.heap.size + 1; omega), (kk6.blk HW5.out.2.2.1 (by decide)).other _ _ (by show w.heap.size + 1 + 1 ≠ w1.heap.size + 1; omega), (kk6.blk HW5.out.2.2.2.1 (by decide)).other _ _ (by show kb ≠ w1.heap.size + 1; omega), B6.out.set 0 _, (by rw [hup]; exact o6.only ((Only.refl _ _).set 0 _) B6.out (by decide)), Nat.succ_le_succ HW5.out.2.2.2.2.2.2⟩, K6.set' (by omega)⟩
          case measure => omega
--ROUND}
    · obtain rfl : i = L := by omega
      have e1 : decide ((i : Int) < (i : Int)) = false := by simp
      have hwL : IntKind.i64.wrap (fr + (i : Int)) = fr + (i : Int) := IntWalk.i64_in _ (by omega)
      have hwM : IntKind.i64.wrap (fr + (i : Int) - 1) = fr + (i : Int) - 1 := IntWalk.i64_in _ (by omega)
      have hw2 : IntKind.i64.wrap fr = fr := IntWalk.i64_in _ (by omega)
      have HN := hid (Blk.new wr #[.int .i64 0] 3)
      have lx := ldC_blk (HW.out.1.alloc (.cells #[.int .i64 0] 3))
      have hnb : wr.heap.size < (wr.alloc (.cells #[.int .i64 0] 3)).heap.size := by simp
      have KN : Ext wr (wr.alloc (.cells #[.int .i64 0] 3)) := (by repeat (first | with_reducible exact Ext.refl _ | with_reducible assumption | with_reducible apply Ext.alloc | with_reducible apply Ext.drew | with_reducible apply Ext.drewN | (with_reducible refine Ext.set' ?_ (by first | omega | (simp only [World.size_alloc, World.size_setCell]; omega))) | (with_reducible refine Ext.trans ?_ (by with_reducible assumption)) | (with_reducible refine Ext.only ?_ (by with_reducible assumption) (by omega))))
      obtain ⟨AA, ra, cc, rfl, hmc, hrow⟩ := OwnR.rows HW.out.2.2.2.2.2.1 (by rw [upto_length]; have := HW.out.2.2.2.2.2.2; omega)
      rw [upto_length] at hmc
      have hwr : w1.heap.size + 1 < wr.heap.size := HW.out.2.2.2.2.1.lt
      have hsq := hid (show SQ x stop fr (.slice AA m cc) m w.heap.size (w.heap.size + 1) (w.heap.size + 1 + 1) (w1.heap.size + 1) ra wr.heap.size wr from ⟨⟨HW.out.1, HW.out.1.lt⟩, ⟨HW.out.2.1, HW.out.2.1.lt⟩, ⟨HW.out.2.2.1, HW.out.2.2.1.lt⟩, ⟨by have h := HW.out.2.2.2.2.1; rw [upto_length] at h; exact h, hwr⟩, fun j hj => by
        have h1 := hrow.at (Ext.refl wr) (i := j) (by rw [upto_length]; exact hj)
        have h2 := h1.2 0 (.int .i64 (tk fr (x.at 1) j)) (by simp [LI, upto])
        have h3 := (hrow.2.1 (by rw [upto_length]; omega)).2
        refine ⟨?_, h3⟩
        simpa [LI] using h2⟩)
      have hAA : Hid (0 < m → AA = some ⟨ra, 0, none⟩) := hid (fun h => (hrow.2.1 (by rw [upto_length]; exact h)).1)
      have HM := hid HW.out.2.2.2.2.2.2
      have HTI := hid hti.out
      clear HW hrow hbd hti
      rw [hL] at e1
      go_wp2_with fail
      rw [← hL]
      have HLi := hid hL
      clear hL hmn
      have hsqn := hid (hsq.out.ext KN)
      have KWN : Ext w (wr.alloc (.cells #[.int .i64 0] 3)) := K.trans KN
      generalize hnb' : wr.heap.size = nb at *
      generalize (wr.alloc (.cells #[.int .i64 0] 3)) = wn at *
      refine (callsIn_wide (n := 9)).1 ((times_in 9 x fr (fr + i - 1) wn).mono ?_)
      rintro e w2 ⟨rfl, hw2e⟩
      have hKW2 : Ext wn w2 := by rw [hw2e]; exact (((Ext.refl wn).alloc).alloc).alloc
      have hbx : Blk w2 wn.heap.size x.cells CT := by rw [hw2e]; exact ((Blk.new wn x.cells CT).alloc _).alloc _
      have hbf : Blk w2 (wn.heap.size + 1) #[.int .i64 fr] 3 := by
        rw [hw2e]
        have := (Blk.new (wn.alloc (.cells x.cells CT)) #[.int .i64 fr] 3).alloc (.cells #[.int .i64 (fr + (i : Int) - 1)] 3)
        rwa [World.size_alloc] at this
      have hbt : Blk w2 (wn.heap.size + 1 + 1) #[.int .i64 (fr + (i : Int) - 1)] 3 := by
        rw [hw2e]
        have := Blk.new ((wn.alloc (.cells x.cells CT)).alloc (.cells #[.int .i64 fr] 3)) #[.int .i64 (fr + (i : Int) - 1)] 3
        rwa [World.size_alloc, World.size_alloc] at this
      have hst := times_stops 9 (by omega) wn.heap.size (wn.heap.size + 1) (wn.heap.size + 1 + 1) x fr (fr + i - 1) hf0 (by omega) (by omega) w2 hbx (hbf.cell 0 _ rfl) (hbt.cell 0 _ rfl) hbf.lt hbt.lt
      have hb2 := hKW2.blk HN.out
      have hsq2 := hid (hsqn.out.ext hKW2)
      have K2 : Ext w w2 := KWN.trans hKW2
      have hl0' := hbx.lt
      have hl1' := hbf.lt
      have hl2' := hbt.lt
      clear hw2e hKW2 hbx hbf hbt HN lx hsq hsqn KN KWN K e1 hwL hwM hw2 hnb'
      go_wp2_with fail
      refine (wpIn_wide (n := 10)).1 ?_
      refine range_own rfl (by omega) (gf := 27) (lb := #[.pointer (some ⟨wn.heap.size, 0, none⟩), .pointer (some ⟨wn.heap.size + 1, 0, none⟩), .pointer (some ⟨wn.heap.size + 1 + 1, 0, none⟩)]) rfl trivial (enters_of Try.func27 (by kernel_rfl) rfl)
        hst (fun h k => ⟨h.1.trans k.1, h.2.1.trans k.2.1, h.2.2.trans k.2.2⟩) (fun W l o o' h1 h2 _ _ => ⟨kept_b (by omega) W l o o' h1 h2, kept_b (by omega) W l o o' h1 h2, kept_b (by omega) W l o o' h1 h2⟩) (Below.refl _ _) (fun _ => rfl)
        (fun pre W => (∃ n : Nat, pre = upto (tk fr (x.at 1)) n ∧ n ≤ m ∧ Blk W nb #[.int .i64 n] 3 ∧ SQ x stop fr (.slice AA m cc) m w.heap.size (w.heap.size + 1) (w.heap.size + 1 + 1) (w1.heap.size + 1) ra nb W) ∧ Below w.heap.size w W)
        (fun c pre W => x.snd = true → NoT fr (x.at 1) (fr + i - 1) pre)
        (OwnFrom.and (Own.from (fun s A B row hs hg hr => by
          obtain ⟨n, h1, h2, h3, h4⟩ := hs
          exact ⟨n, h1, h2, blk_kept h3 hg hr, h4.kept hg hr⟩) _) (ownFrom_below (Nat.le_refl _) K2.le))
        (fun c => Own.from (fun s A B row hs hg hr => hs) _)
        ⟨⟨0, rfl, Nat.zero_le _, hb2, hsq2.out⟩, K2⟩ ?rounds ?done ?stop
      case rounds =>
        constructor
        constructor
        · intro l x W K hK
          gi_wp2
          exact hK
        · rintro l pre y W ⟨⟨n, rfl, hnm, hbn, hsqW⟩, hKW⟩ _
          have hsqh := hid hsqW
          have cn := hbn.cell 0 _ rfl
          have fn := hbn.free 0
          have ca := hsqW.2.2.2.1.1.cell 0 _ rfl
          have cr := hsqW.2.2.1.1.cell 0 _ rfl
          have fr' := hsqW.2.2.1.1.free 0
          have hrb := hsqW.2.2.1.2
          have HBN := hid hbn
          have hwn : IntKind.i64.wrap ((n : Int) + 1) = (n : Int) + 1 := IntWalk.i64_in _ (by have := HM.out; omega)
          by_cases hlt : n < m
          · obtain ⟨ct, hra⟩ := hsqW.2.2.2.2 n hlt
            obtain rfl := hAA.out (by omega)
            have e1 : decide ((m : Int) ≤ (n : Int)) = false := by simp; omega
            have i0 : (0 : Int) ≤ (n : Int) := by omega
            have i1 : (n : Int) < (m : Int) := by omega
            by_cases hy : y = tk fr (x.at 1) n
            · have e2 : (tk fr (x.at 1) n != y) = false := by simp [hy]
              clear hsqW hbn hlt
              gi_wp2
              refine ⟨(KeepsOthers.setCell _ _ _).from _, ⟨kept_set _ (by omega), kept_set _ (by omega), kept_set _ (by omega)⟩, ⟨n + 1, by first | rw [upto_succ, hy] | rw [upto_succ], by omega, by have := HBN.out.set 0 (.int .i64 ((n : Int) + 1)); simpa using this, hsqh.out.set (Nat.le_refl _)⟩, hKW.setCell (p := ⟨nb, 0, none⟩) (by show w.heap.size ≤ nb; omega) _⟩
            · have e2 : (tk fr (x.at 1) n != y) = true := by simpa using (fun e => hy e.symm)
              clear hsqW hbn
              gi_wp2
              exact ⟨(KeepsOthers.setCell _ _ _).from _, fun hs hno => hy (HTI.out.next hs hnm hno).2⟩
          · have e1 : decide ((m : Int) ≤ (n : Int)) = true := by simp; omega
            clear hsqW hbn
            gi_wp2
            exact ⟨(KeepsOthers.setCell _ _ _).from _, fun hs hno => hlt (HTI.out.next hs hnm hno).1⟩
      case done =>
        rintro D ys W hD hS ⟨⟨n, rfl, hnm, hbn, hsqW⟩, hKW⟩ hK
        obtain rfl := HTI.out.all hnm hS
        have HS := hid hsqW
        have HBN := hid hbn
        have hDl : D < W.heap.size := (Array.getElem?_eq_some_iff.1 hK).1
        have lx := ldC_blk (hsqW.1.1.alloc (.cells #[.int .i64 0] 3))
        have HN2 := hid (Blk.new W #[.int .i64 0] 3)
        have KN2 : Ext W (W.alloc (.cells #[.int .i64 0] 3)) := (by repeat (first | with_reducible exact Ext.refl _ | with_reducible assumption | with_reducible apply Ext.alloc | with_reducible apply Ext.drew | with_reducible apply Ext.drewN | (with_reducible refine Ext.set' ?_ (by first | omega | (simp only [World.size_alloc, World.size_setCell]; omega))) | (with_reducible refine Ext.trans ?_ (by with_reducible assumption)) | (with_reducible refine Ext.only ?_ (by with_reducible assumption) (by omega))))
        have HDK := hid hK
        clear hsqW hbn
        go_wp2_with fail
        refine (callsIn_wide (n := 9)).1 ((times_in 9 x 0 1000 _).mono ?_)
        rintro e w3 ⟨rfl, hw3e⟩
        have HSN := hid (HS.out.ext KN2)
        have hbnn := hid (KN2.blk HBN.out)
        have KWn : Ext w (W.alloc (.cells #[.int .i64 0] 3)) := Ext.back hKW ((KN2 : Below W.heap.size W _).mono hKW.size)
        have hdn : (W.alloc (.cells #[.int .i64 0] 3)).heap[D]? = some (.deferred (some [])) := ((KN2 : Below W.heap.size W _).block D hDl).trans HDK.out
        have hzn : W.heap.size < (W.alloc (.cells #[.int .i64 0] 3)).heap.size := by simp
        generalize (W.alloc (.cells #[.int .i64 0] 3)) = wn2 at *
        have hKW3 : Ext wn2 w3 := by rw [hw3e]; exact (((Ext.refl wn2).alloc).alloc).alloc
        have hbx : Blk w3 wn2.heap.size x.cells CT := by rw [hw3e]; exact ((Blk.new wn2 x.cells CT).alloc _).alloc _
        have hbf : Blk w3 (wn2.heap.size + 1) #[.int .i64 0] 3 := by
          rw [hw3e]
          have := (Blk.new (wn2.alloc (.cells x.cells CT)) #[.int .i64 0] 3).alloc (.cells #[.int .i64 1000] 3)
          rwa [World.size_alloc] at this
        have hbt : Blk w3 (wn2.heap.size + 1 + 1) #[.int .i64 1000] 3 := by
          rw [hw3e]
          have := Blk.new ((wn2.alloc (.cells x.cells CT)).alloc (.cells #[.int .i64 0] 3)) #[.int .i64 1000] 3
          rwa [World.size_alloc, World.size_alloc] at this
        have hst2 := times_stops 9 (by omega) wn2.heap.size (wn2.heap.size + 1) (wn2.heap.size + 1 + 1) x 0 1000 (by omega) (by omega) (by omega) w3 hbx (hbf.cell 0 _ rfl) (hbt.cell 0 _ rfl) hbf.lt hbt.lt
        have hbs3 := hKW3.blk HN2.out
        have hbn3 := hKW3.blk hbnn.out
        have hsq3 := hid (HSN.out.ext hKW3)
        have K3 : Ext w w3 := KWn.trans hKW3
        have hd3 : w3.heap[D]? = some (.deferred (some [])) := ((hKW3 : Below wn2.heap.size wn2 w3).block D (by omega)).trans hdn
        have hl0'' := hbx.lt
        have hl1'' := hbf.lt
        have hl2'' := hbt.lt
        have hnW := HBN.out.lt
        clear hw3e hKW3 hbx hbf hbt HN2 lx HS HSN hbnn HBN KN2 KWn HDK hdn hK hst hb2 hsq2 K2
        go_wp2_with fail
        refine (wpIn_wide (n := 10)).1 ?_
        refine range_own rfl (by omega) (gf := 27) (lb := #[.pointer (some ⟨wn2.heap.size, 0, none⟩), .pointer (some ⟨wn2.heap.size + 1, 0, none⟩), .pointer (some ⟨wn2.heap.size + 1 + 1, 0, none⟩)]) rfl trivial (enters_of Try.func27 (by kernel_rfl) rfl)
          hst2 (fun h k => ⟨h.1.trans k.1, h.2.1.trans k.2.1, h.2.2.trans k.2.2⟩) (fun W l o o' h1 h2 _ _ => ⟨kept_b (by omega) W l o o' h1 h2, kept_b (by omega) W l o o' h1 h2, kept_b (by omega) W l o o' h1 h2⟩) (Below.refl _ _) (fun _ => rfl)
          (fun pre V => (∃ sn : Int, 0 ≤ sn ∧ sn ≤ stop ∧ Blk V W.heap.size #[.int .i64 sn] 3 ∧ Blk V nb #[.int .i64 n] 3 ∧ SQ x stop fr (.slice AA n cc) n w.heap.size (w.heap.size + 1) (w.heap.size + 1 + 1) (w1.heap.size + 1) ra nb V) ∧ Below w.heap.size w V ∧ V.heap[D]? = some (.deferred (some [])))
          (fun c pre V => c = .exit 4 ∧ (∃ sn : Int, 0 ≤ sn ∧ sn ≤ stop ∧ Blk V W.heap.size #[.int .i64 sn] 3 ∧ Blk V nb #[.int .i64 n] 3 ∧ SQ x stop fr (.slice AA n cc) n w.heap.size (w.heap.size + 1) (w.heap.size + 1 + 1) (w1.heap.size + 1) ra nb V) ∧ Below w.heap.size w V ∧ V.heap[D]? = some (.deferred (some [])))
          (OwnFrom.and (Own.from (fun s A B row hs hg hr => by
            obtain ⟨sn, h1, h2, h3, h4, h5⟩ := hs
            exact ⟨sn, h1, h2, blk_kept h3 hg hr, blk_kept h4 hg hr, h5.kept hg hr⟩) _) (OwnFrom.and (ownFrom_below (Nat.le_refl _) K3.le) (fun _ X Y row hs hg hr => dfr_kept hs (by omega) hg hr)))
          (fun c => OwnFrom.and (ownFrom_pure _ (fun _ => c = .exit 4)) (OwnFrom.and (Own.from (fun s A B row hs hg hr => by
            obtain ⟨sn, h1, h2, h3, h4, h5⟩ := hs
            exact ⟨sn, h1, h2, blk_kept h3 hg hr, blk_kept h4 hg hr, h5.kept hg hr⟩) _) (OwnFrom.and (ownFrom_below (Nat.le_refl _) K3.le) (fun _ X Y row hs hg hr => dfr_kept hs (by omega) hg hr))))
          ⟨⟨0, Int.le_refl _, hs0, hbs3, hbn3, hsq3.out⟩, K3, hd3⟩ ?rounds2 ?done2 ?stop2
        case rounds2 =>
          constructor
          constructor
          · intro l x W K hK
            gi_wp2
            exact hK
          · rintro l pre y V ⟨⟨sn, h1, h2, hbs, hbn, hsqV⟩, hKV, hDV⟩ _
            have HX := hid (show (∃ sn : Int, 0 ≤ sn ∧ sn ≤ stop ∧ Blk V W.heap.size #[.int .i64 sn] 3 ∧ Blk V nb #[.int .i64 n] 3 ∧ SQ x stop fr (.slice AA n cc) n w.heap.size (w.heap.size + 1) (w.heap.size + 1 + 1) (w1.heap.size + 1) ra nb V) ∧ Below w.heap.size w V ∧ V.heap[D]? = some (.deferred (some [])) from ⟨⟨sn, h1, h2, hbs, hbn, hsqV⟩, hKV, hDV⟩)
            have cs := hbs.cell 0 _ rfl
            have fs := hbs.free 0
            have ct := hsqV.2.1.1.cell 0 _ rfl
            have HB := hid (And.intro hbs (And.intro hbn hsqV))
            have hw : IntKind.i64.wrap (sn + 1) = sn + 1 := IntWalk.i64_in _ (by omega)
            have hws : IntKind.i64.wrap stop = stop := IntWalk.i64_in _ (by omega)
            have HD := hid (And.intro hKV hDV)
            clear hbs hbn hsqV hKV hDV
            by_cases hq : sn = stop
            · have e1 : (sn == stop) = true := by simpa using hq
              clear hq
              gi_wp2
              exact ⟨KeepsFrom.refl _ _, rfl, HX.out⟩
            · have e1 : (sn == stop) = false := by simpa using hq
              gi_wp2
              exact ⟨(KeepsOthers.setCell _ _ _).from _, ⟨kept_set _ (by omega), kept_set _ (by omega), kept_set _ (by omega)⟩, ⟨sn + 1, by omega, by omega, (by have := HB.out.1.set 0 (.int .i64 (sn + 1)); simpa using this), HB.out.2.1.other _ _ (by show nb ≠ W.heap.size; omega), HB.out.2.2.set (by omega)⟩, HD.out.1.setCell (p := ⟨W.heap.size, 0, none⟩) (by show w.heap.size ≤ W.heap.size; exact hKW.size) _, (Below.heap_setCell _ _ _ _ (by show D ≠ W.heap.size; omega)).trans HD.out.2⟩
        case done2 =>
          rintro D2 ys2 V hD2 - ⟨⟨sn, hs1', hs2, hbsV, hbnV, hsqV⟩, hKV, hDV⟩ hK2'
          have hrb := hsqV.2.2.1.2
          have hrne : w.heap.size + 1 + 1 ≠ w.heap.size ∧ w.heap.size + 1 + 1 ≠ w.heap.size + 1 ∧ w.heap.size + 1 + 1 ≠ w1.heap.size + 1 ∧ w.heap.size + 1 + 1 ≠ nb ∧ w.heap.size + 1 + 1 ≠ W.heap.size ∧ w.heap.size ≤ w.heap.size + 1 + 1 ∧ w.heap.size + 1 + 1 < w.heap.size + 1 + 1 + 1 := by omega
          obtain ⟨rb', hrb'⟩ : ∃ q, w.heap.size + 1 + 1 = q := ⟨_, rfl⟩
          have EO := hid hrne
          have hDr : D ≠ w.heap.size + 1 + 1 := by omega
          have hDr2 : D2 ≠ w.heap.size + 1 + 1 := by have := hbsV.lt; omega
          have cn := fun y : St V rb' #[.bool false] #[.bool true] 4 => St.cell (show (⟨nb, 0, none⟩ : Addr).block ≠ rb' from fun e => EO.out.2.2.2.1 (by rw [hrb']; exact e.symm)) (hbnV.cell 0 _ rfl) y
          have cs := fun y : St V rb' #[.bool false] #[.bool true] 4 => St.cell (show (⟨W.heap.size, 0, none⟩ : Addr).block ≠ rb' from fun e => EO.out.2.2.2.2.1 (by rw [hrb']; exact e.symm)) (hbsV.cell 0 _ rfl) y
          have ct := fun y : St V rb' #[.bool false] #[.bool true] 4 => St.cell (show (⟨w.heap.size + 1, 0, none⟩ : Addr).block ≠ rb' from fun e => EO.out.2.1 (by rw [hrb']; exact e.symm)) (hsqV.2.1.1.cell 0 _ rfl) y
          have ca := fun y : St V rb' #[.bool false] #[.bool true] 4 => St.cell (show (⟨w1.heap.size + 1, 0, none⟩ : Addr).block ≠ rb' from fun e => EO.out.2.2.1 (by rw [hrb']; exact e.symm)) (hsqV.2.2.2.1.1.cell 0 _ rfl) y
          have lxx := fun y : St V rb' #[.bool false] #[.bool true] 4 => ldC_blk (St.blk (fun e => EO.out.1 (by rw [hrb']; exact e.symm)) hsqV.1.1 y)
          have f1 : decide (sn ≤ stop) = true := by simpa using hs2
          have f2 : ((n : Int) == (n : Int)) = true := by simp
          have hws : IntKind.i64.wrap stop = stop := IntWalk.i64_in _ (by omega)
          have f3 := HTI.out.some
          have hb2 := hsqV.2.2.1.1
          have LV := hid live_c
          have SV := hid (fun w => rsends_c x w)
          obtain ⟨sb, hsb⟩ : ∃ q, x.snd = q := ⟨_, rfl⟩
          rw [hsb] at f3 SV
          have HKV := hid (And.intro hKV (And.intro hDV (And.intro hK2' (And.intro hDr hDr2))))
          rw [hrb'] at hb2 hDr hDr2
          have hrw : w.heap.size ≤ rb' := by omega
          clear hbnV hbsV hsqV hKV hDV hK2' hrne
          have hcs : (sb = false ∧ n = 0) ∨ (sb = true ∧ n = 0 ∧ i = 0) ∨ (sb = true ∧ 0 < n ∧ 0 < i) := by
            cases sb
            · refine .inl ⟨rfl, ?_⟩
              simp only [Bool.false_and, beq_iff_eq, decide_eq_false_iff_not] at f3
              omega
            · simp only [Bool.true_and, beq_iff_eq, decide_eq_decide] at f3
              by_cases hp : 0 < n
              · exact .inr (.inr ⟨rfl, hp, by omega⟩)
              · exact .inr (.inl ⟨rfl, by omega, by omega⟩)
          clear f3
          rcases hcs with ⟨rfl, g1⟩ | ⟨rfl, g1, g2⟩ | ⟨rfl, g1, g2⟩
          · have d1 : decide ((0 : Int) < (n : Int)) = false := by simp; omega
            have d2 : decide (0 < n) = false := by simp; omega
            clear g1
            go_wp2_with fail
            try rw [hrb']
            have hne_ : Nonempty (St V rb' #[.bool false] #[.bool true] 4) := ⟨⟨_, Only.refl _ _, .inl hb2⟩⟩; refine wp_region_go (sp := spOf (R := Rst rb' #[.bool true] 4) [(0, Told.val (.bool true)), (17, Told.val (.bool false)), (25, Told.blk)]) (C := fun w' => ∃ n : St V rb' #[.bool false] #[.bool true] 4, w' = n.wd) (R := Rst rb' #[.bool true] 4) (by kernel_rfl) (by kernel_rfl) (spOf_mono _) (St.drew hb2) ?_
            (refine go_act (by rfl) (by rfl) ?_ ?_; (focus (intro w' hC hM; obtain ⟨x, rfl⟩ := hC; go_simp; (with_reducible refine Calls.st (LV.out _)); done)); intro v hv; obtain ⟨_, _, hv, _⟩ := hv; obtain rfl := hv; (try simp only [Act.put, List.setIfInBounds_toArray, List.set_cons_zero, List.set_cons_succ]))
            repeat (first | ((with_reducible refine go_nil ?_)) | (refine go_skip' (by rfl) ?_; (try simp only [Act.put, List.setIfInBounds_toArray, List.set_cons_zero, List.set_cons_succ])) | (refine go_quiet' (by rfl) (by rfl) (by rfl) ?_; intro K hK; go_big_quiet_op; go_big_quiet_on) | (refine go_nilcheck _ _ rfl rfl (by rfl) (by rfl) ?_; (try simp only [Act.put, List.setIfInBounds_toArray, List.set_cons_zero, List.set_cons_succ])))
            (refine go_act (by rfl) (by rfl) ?_ ?_; (focus (intro w' hC hM; obtain ⟨x, rfl⟩ := hC; go_simp; (with_reducible refine Calls.st (SV.out _)); done)); intro v hv; obtain ⟨_, _, hv, _⟩ := hv; obtain rfl := hv; (try simp only [Act.put, List.setIfInBounds_toArray, List.set_cons_zero, List.set_cons_succ]))
            repeat (first | ((with_reducible refine go_nil ?_)) | (refine go_skip' (by rfl) ?_; (try simp only [Act.put, List.setIfInBounds_toArray, List.set_cons_zero, List.set_cons_succ])) | (refine go_quiet' (by rfl) (by rfl) (by rfl) ?_; intro K hK; go_big_quiet_op; go_big_quiet_on) | (refine go_nilcheck _ _ rfl rfl (by rfl) (by rfl) ?_; (try simp only [Act.put, List.setIfInBounds_toArray, List.set_cons_zero, List.set_cons_succ])))
            refine go_act (by rfl) (by rfl) ?_ ?_
            · intro w' hC hM
              obtain ⟨y, rfl⟩ := hC
              obtain ⟨u, hcell, hfz⟩ := y.has (i := 0) (u := .bool false) (v := .bool true) rfl rfl
              have hput := y.put (i := 0) (v := .bool true) rfl rfl
              go_simp
              first | exact hput | exact hput.2 | exact hput.2.2 | exact ⟨hput.1, hput.2.2⟩
            intro v hv
            clear hv
            (try simp only [Act.put])
            refine go_nil ?_
            intro wA hCA hall
            obtain ⟨yA, rfl⟩ := hCA
            have hF : Blk yA.wd rb' #[.bool true] 4 := hall _ (.inl rfl)
            have KA : Ext w yA.wd := Ext.only HKV.out.1 yA.only hrw
            have hKa : yA.wd.heap[D]? = some (.deferred (some [])) := (yA.only.block D (Array.getElem?_eq_some_iff.1 HKV.out.2.1).1 hDr).trans HKV.out.2.1
            have hKb : yA.wd.heap[D2]? = some (.deferred (some [])) := (yA.only.block D2 (Array.getElem?_eq_some_iff.1 HKV.out.2.2.1).1 hDr2).trans HKV.out.2.2.1
            generalize yA.wd = wA at *
            clear hall cn cs ct ca lxx LV SV hne_ hb2
            have hKa2 := ((grownBy_putObj' wA D2 (.deferred none)).block D (Array.getElem?_eq_some_iff.1 hKa).1 (fun e => by cases e; omega)).trans hKa
            go_wp2_with fail
            refine ⟨by simp, .inl ⟨_, _, rfl, run_takeDeferred hKb, ?_⟩⟩
            refine ⟨by simp, .inl ⟨_, _, rfl, run_takeDeferred hKa2, ?_⟩⟩
            have hc5 := cell_kept (cell_kept (hF.cell 0 _ rfl) (grownBy_putObj' _ D2 (.deferred none)) (fun r e => by cases e; exact ⟨_, hKb, rfl⟩)) (grownBy_putObj' _ D (.deferred none)) (fun r e => by cases e; exact ⟨_, hKa2, rfl⟩)
            have hDw : w.heap.size ≤ D := by have := HKV.out.1; omega
            have hD2w : w.heap.size ≤ D2 := by omega
            refine ⟨.bool true, ?_, rfl, (KA.trans_b (belowK_b (w := w) (Nat.le_refl _) _ D2 _ _ hD2w hKb rfl rfl)).trans_b (belowK_b (w := w) (Nat.le_refl _) _ D _ _ hDw hKa2 rfl rfl)⟩
            simp [results, Try.f4, go_sem, hc5]
          · have d1 : decide ((0 : Int) < (n : Int)) = false := by simp; omega
            have d2 : decide (0 < n) = false := by simp; omega
            have d3 : decide ((0 : Int) < (i : Int)) = false := by simp; omega
            have d4 : decide (0 < i) = false := by simp; omega
            clear g1 g2
            go_wp2_with fail
            try rw [hrb']
            have hne_ : Nonempty (St V rb' #[.bool false] #[.bool true] 4) := ⟨⟨_, Only.refl _ _, .inl hb2⟩⟩; refine wp_region_go (sp := spOf (R := Rst rb' #[.bool true] 4) [(0, Told.val (.bool true)), (17, Told.val (.bool true)), (25, Told.blk)]) (C := fun w' => ∃ n : St V rb' #[.bool false] #[.bool true] 4, w' = n.wd) (R := Rst rb' #[.bool true] 4) (by kernel_rfl) (by kernel_rfl) (spOf_mono _) (St.drew hb2) ?_
            (refine go_act (by rfl) (by rfl) ?_ ?_; (focus (intro w' hC hM; obtain ⟨x, rfl⟩ := hC; go_simp; (with_reducible refine Calls.st (LV.out _)); done)); intro v hv; obtain ⟨_, _, hv, _⟩ := hv; obtain rfl := hv; (try simp only [Act.put, List.setIfInBounds_toArray, List.set_cons_zero, List.set_cons_succ]))
            repeat (first | ((with_reducible refine go_nil ?_)) | (refine go_skip' (by rfl) ?_; (try simp only [Act.put, List.setIfInBounds_toArray, List.set_cons_zero, List.set_cons_succ])) | (refine go_quiet' (by rfl) (by rfl) (by rfl) ?_; intro K hK; go_big_quiet_op; go_big_quiet_on) | (refine go_nilcheck _ _ rfl rfl (by rfl) (by rfl) ?_; (try simp only [Act.put, List.setIfInBounds_toArray, List.set_cons_zero, List.set_cons_succ])))
            (refine go_act (by rfl) (by rfl) ?_ ?_; (focus (intro w' hC hM; obtain ⟨x, rfl⟩ := hC; go_simp; (with_reducible refine Calls.st (SV.out _)); done)); intro v hv; obtain ⟨_, _, hv, _⟩ := hv; obtain rfl := hv; (try simp only [Act.put, List.setIfInBounds_toArray, List.set_cons_zero, List.set_cons_succ]))
            repeat (first | ((with_reducible refine go_nil ?_)) | (refine go_skip' (by rfl) ?_; (try simp only [Act.put, List.setIfInBounds_toArray, List.set_cons_zero, List.set_cons_succ])) | (refine go_quiet' (by rfl) (by rfl) (by rfl) ?_; intro K hK; go_big_quiet_op; go_big_quiet_on) | (refine go_nilcheck _ _ rfl rfl (by rfl) (by rfl) ?_; (try simp only [Act.put, List.setIfInBounds_toArray, List.set_cons_zero, List.set_cons_succ])))
            refine go_act (by rfl) (by rfl) ?_ ?_
            · intro w' hC hM
              obtain ⟨y, rfl⟩ := hC
              obtain ⟨u, hcell, hfz⟩ := y.has (i := 0) (u := .bool false) (v := .bool true) rfl rfl
              have hput := y.put (i := 0) (v := .bool true) rfl rfl
              go_simp
              first | exact hput | exact hput.2 | exact hput.2.2 | exact ⟨hput.1, hput.2.2⟩
            intro v hv
            clear hv
            (try simp only [Act.put])
            refine go_nil ?_
            intro wA hCA hall
            obtain ⟨yA, rfl⟩ := hCA
            have hF : Blk yA.wd rb' #[.bool true] 4 := hall _ (.inl rfl)
            have KA : Ext w yA.wd := Ext.only HKV.out.1 yA.only hrw
            have hKa : yA.wd.heap[D]? = some (.deferred (some [])) := (yA.only.block D (Array.getElem?_eq_some_iff.1 HKV.out.2.1).1 hDr).trans HKV.out.2.1
            have hKb : yA.wd.heap[D2]? = some (.deferred (some [])) := (yA.only.block D2 (Array.getElem?_eq_some_iff.1 HKV.out.2.2.1).1 hDr2).trans HKV.out.2.2.1
            generalize yA.wd = wA at *
            clear hall cn cs ct ca lxx LV SV hne_ hb2
            have hKa2 := ((grownBy_putObj' wA D2 (.deferred none)).block D (Array.getElem?_eq_some_iff.1 hKa).1 (fun e => by cases e; omega)).trans hKa
            go_wp2_with fail
            refine ⟨by simp, .inl ⟨_, _, rfl, run_takeDeferred hKb, ?_⟩⟩
            refine ⟨by simp, .inl ⟨_, _, rfl, run_takeDeferred hKa2, ?_⟩⟩
            have hc5 := cell_kept (cell_kept (hF.cell 0 _ rfl) (grownBy_putObj' _ D2 (.deferred none)) (fun r e => by cases e; exact ⟨_, hKb, rfl⟩)) (grownBy_putObj' _ D (.deferred none)) (fun r e => by cases e; exact ⟨_, hKa2, rfl⟩)
            have hDw : w.heap.size ≤ D := by have := HKV.out.1; omega
            have hD2w : w.heap.size ≤ D2 := by omega
            refine ⟨.bool true, ?_, rfl, (KA.trans_b (belowK_b (w := w) (Nat.le_refl _) _ D2 _ _ hD2w hKb rfl rfl)).trans_b (belowK_b (w := w) (Nat.le_refl _) _ D _ _ hDw hKa2 rfl rfl)⟩
            simp [results, Try.f4, go_sem, hc5]
          · have d1 : decide ((0 : Int) < (n : Int)) = true := by simp; omega
            have d2 : decide (0 < n) = true := by simp; omega
            have d3 : decide ((0 : Int) < (i : Int)) = true := by simp; omega
            have d4 : decide (0 < i) = true := by simp; omega
            clear g1 g2
            go_wp2_with fail
            try rw [hrb']
            have hne_ : Nonempty (St V rb' #[.bool false] #[.bool true] 4) := ⟨⟨_, Only.refl _ _, .inl hb2⟩⟩; refine wp_region_go (sp := spOf (R := Rst rb' #[.bool true] 4) [(0, Told.val (.bool true)), (17, Told.val (.bool true)), (25, Told.blk)]) (C := fun w' => ∃ n : St V rb' #[.bool false] #[.bool true] 4, w' = n.wd) (R := Rst rb' #[.bool true] 4) (by kernel_rfl) (by kernel_rfl) (spOf_mono _) (St.drew hb2) ?_
            (refine go_act (by rfl) (by rfl) ?_ ?_; (focus (intro w' hC hM; obtain ⟨x, rfl⟩ := hC; go_simp; (with_reducible refine Calls.st (LV.out _)); done)); intro v hv; obtain ⟨_, _, hv, _⟩ := hv; obtain rfl := hv; (try simp only [Act.put, List.setIfInBounds_toArray, List.set_cons_zero, List.set_cons_succ]))
            repeat (first | ((with_reducible refine go_nil ?_)) | (refine go_skip' (by rfl) ?_; (try simp only [Act.put, List.setIfInBounds_toArray, List.set_cons_zero, List.set_cons_succ])) | (refine go_quiet' (by rfl) (by rfl) (by rfl) ?_; intro K hK; go_big_quiet_op; go_big_quiet_on) | (refine go_nilcheck _ _ rfl rfl (by rfl) (by rfl) ?_; (try simp only [Act.put, List.setIfInBounds_toArray, List.set_cons_zero, List.set_cons_succ])))
            (refine go_act (by rfl) (by rfl) ?_ ?_; (focus (intro w' hC hM; obtain ⟨x, rfl⟩ := hC; go_simp; (with_reducible refine Calls.st (SV.out _)); done)); intro v hv; obtain ⟨_, _, hv, _⟩ := hv; obtain rfl := hv; (try simp only [Act.put, List.setIfInBounds_toArray, List.set_cons_zero, List.set_cons_succ]))
            repeat (first | ((with_reducible refine go_nil ?_)) | (refine go_skip' (by rfl) ?_; (try simp only [Act.put, List.setIfInBounds_toArray, List.set_cons_zero, List.set_cons_succ])) | (refine go_quiet' (by rfl) (by rfl) (by rfl) ?_; intro K hK; go_big_quiet_op; go_big_quiet_on) | (refine go_nilcheck _ _ rfl rfl (by rfl) (by rfl) ?_; (try simp only [Act.put, List.setIfInBounds_toArray, List.set_cons_zero, List.set_cons_succ])))
            refine go_act (by rfl) (by rfl) ?_ ?_
            · intro w' hC hM
              obtain ⟨y, rfl⟩ := hC
              obtain ⟨u, hcell, hfz⟩ := y.has (i := 0) (u := .bool false) (v := .bool true) rfl rfl
              have hput := y.put (i := 0) (v := .bool true) rfl rfl
              go_simp
              first | exact hput | exact hput.2 | exact hput.2.2 | exact ⟨hput.1, hput.2.2⟩
            intro v hv
            clear hv
            (try simp only [Act.put])
            refine go_nil ?_
            intro wA hCA hall
            obtain ⟨yA, rfl⟩ := hCA
            have hF : Blk yA.wd rb' #[.bool true] 4 := hall _ (.inl rfl)
            have KA : Ext w yA.wd := Ext.only HKV.out.1 yA.only hrw
            have hKa : yA.wd.heap[D]? = some (.deferred (some [])) := (yA.only.block D (Array.getElem?_eq_some_iff.1 HKV.out.2.1).1 hDr).trans HKV.out.2.1
            have hKb : yA.wd.heap[D2]? = some (.deferred (some [])) := (yA.only.block D2 (Array.getElem?_eq_some_iff.1 HKV.out.2.2.1).1 hDr2).trans HKV.out.2.2.1
            generalize yA.wd = wA at *
            clear hall cn cs ct ca lxx LV SV hne_ hb2
            have hKa2 := ((grownBy_putObj' wA D2 (.deferred none)).block D (Array.getElem?_eq_some_iff.1 hKa).1 (fun e => by cases e; omega)).trans hKa
            go_wp2_with fail
            refine ⟨by simp, .inl ⟨_, _, rfl, run_takeDeferred hKb, ?_⟩⟩
            refine ⟨by simp, .inl ⟨_, _, rfl, run_takeDeferred hKa2, ?_⟩⟩
            have hc5 := cell_kept (cell_kept (hF.cell 0 _ rfl) (grownBy_putObj' _ D2 (.deferred none)) (fun r e => by cases e; exact ⟨_, hKb, rfl⟩)) (grownBy_putObj' _ D (.deferred none)) (fun r e => by cases e; exact ⟨_, hKa2, rfl⟩)
            have hDw : w.heap.size ≤ D := by have := HKV.out.1; omega
            have hD2w : w.heap.size ≤ D2 := by omega
            refine ⟨.bool true, ?_, rfl, (KA.trans_b (belowK_b (w := w) (Nat.le_refl _) _ D2 _ _ hD2w hKb rfl rfl)).trans_b (belowK_b (w := w) (Nat.le_refl _) _ D _ _ hDw hKa2 rfl rfl)⟩
            simp [results, Try.f4, go_sem, hc5]
        case stop2 =>
          rintro D2 cc2 ys2 V hD2 - ⟨rfl, ⟨sn, hs1', hs2, hbsV, hbnV, hsqV⟩, hKV, hDV⟩ hK2'
          refine (wpIn_wide (n := 10)).2 ?_
          have hrb := hsqV.2.2.1.2
          have hrne : w.heap.size + 1 + 1 ≠ w.heap.size ∧ w.heap.size + 1 + 1 ≠ w.heap.size + 1 ∧ w.heap.size + 1 + 1 ≠ w1.heap.size + 1 ∧ w.heap.size + 1 + 1 ≠ nb ∧ w.heap.size + 1 + 1 ≠ W.heap.size ∧ w.heap.size ≤ w.heap.size + 1 + 1 ∧ w.heap.size + 1 + 1 < w.heap.size + 1 + 1 + 1 := by omega
          obtain ⟨rb', hrb'⟩ : ∃ q, w.heap.size + 1 + 1 = q := ⟨_, rfl⟩
          have EO := hid hrne
          have hDr : D ≠ w.heap.size + 1 + 1 := by omega
          have hDr2 : D2 ≠ w.heap.size + 1 + 1 := by have := hbsV.lt; omega
          have cn := fun y : St V rb' #[.bool false] #[.bool true] 4 => St.cell (show (⟨nb, 0, none⟩ : Addr).block ≠ rb' from fun e => EO.out.2.2.2.1 (by rw [hrb']; exact e.symm)) (hbnV.cell 0 _ rfl) y
          have cs := fun y : St V rb' #[.bool false] #[.bool true] 4 => St.cell (show (⟨W.heap.size, 0, none⟩ : Addr).block ≠ rb' from fun e => EO.out.2.2.2.2.1 (by rw [hrb']; exact e.symm)) (hbsV.cell 0 _ rfl) y
          have ct := fun y : St V rb' #[.bool false] #[.bool true] 4 => St.cell (show (⟨w.heap.size + 1, 0, none⟩ : Addr).block ≠ rb' from fun e => EO.out.2.1 (by rw [hrb']; exact e.symm)) (hsqV.2.1.1.cell 0 _ rfl) y
          have ca := fun y : St V rb' #[.bool false] #[.bool true] 4 => St.cell (show (⟨w1.heap.size + 1, 0, none⟩ : Addr).block ≠ rb' from fun e => EO.out.2.2.1 (by rw [hrb']; exact e.symm)) (hsqV.2.2.2.1.1.cell 0 _ rfl) y
          have lxx := fun y : St V rb' #[.bool false] #[.bool true] 4 => ldC_blk (St.blk (fun e => EO.out.1 (by rw [hrb']; exact e.symm)) hsqV.1.1 y)
          have f1 : decide (sn ≤ stop) = true := by simpa using hs2
          have f2 : ((n : Int) == (n : Int)) = true := by simp
          have hws : IntKind.i64.wrap stop = stop := IntWalk.i64_in _ (by omega)
          have f3 := HTI.out.some
          have hb2 := hsqV.2.2.1.1
          have LV := hid live_c
          have SV := hid (fun w => rsends_c x w)
          obtain ⟨sb, hsb⟩ : ∃ q, x.snd = q := ⟨_, rfl⟩
          rw [hsb] at f3 SV
          have HKV := hid (And.intro hKV (And.intro hDV (And.intro hK2' (And.intro hDr hDr2))))
          rw [hrb'] at hb2 hDr hDr2
          have hrw : w.heap.size ≤ rb' := by omega
          clear hbnV hbsV hsqV hKV hDV hK2' hrne
          have hcs : (sb = false ∧ n = 0) ∨ (sb = true ∧ n = 0 ∧ i = 0) ∨ (sb = true ∧ 0 < n ∧ 0 < i) := by
            cases sb
            · refine .inl ⟨rfl, ?_⟩
              simp only [Bool.false_and, beq_iff_eq, decide_eq_false_iff_not] at f3
              omega
            · simp only [Bool.true_and, beq_iff_eq, decide_eq_decide] at f3
              by_cases hp : 0 < n
              · exact .inr (.inr ⟨rfl, hp, by omega⟩)
              · exact .inr (.inl ⟨rfl, by omega, by omega⟩)
          clear f3
          rcases hcs with ⟨rfl, g1⟩ | ⟨rfl, g1, g2⟩ | ⟨rfl, g1, g2⟩
          · have d1 : decide ((0 : Int) < (n : Int)) = false := by simp; omega
            have d2 : decide (0 < n) = false := by simp; omega
            clear g1
            go_wp2_with fail
            try rw [hrb']
            have hne_ : Nonempty (St V rb' #[.bool false] #[.bool true] 4) := ⟨⟨_, Only.refl _ _, .inl hb2⟩⟩; refine wp_region_go (sp := spOf (R := Rst rb' #[.bool true] 4) [(0, Told.val (.bool true)), (17, Told.val (.bool false)), (25, Told.blk)]) (C := fun w' => ∃ n : St V rb' #[.bool false] #[.bool true] 4, w' = n.wd) (R := Rst rb' #[.bool true] 4) (by kernel_rfl) (by kernel_rfl) (spOf_mono _) (St.drew hb2) ?_
            (refine go_act (by rfl) (by rfl) ?_ ?_; (focus (intro w' hC hM; obtain ⟨x, rfl⟩ := hC; go_simp; (with_reducible refine Calls.st (LV.out _)); done)); intro v hv; obtain ⟨_, _, hv, _⟩ := hv; obtain rfl := hv; (try simp only [Act.put, List.setIfInBounds_toArray, List.set_cons_zero, List.set_cons_succ]))
            repeat (first | ((with_reducible refine go_nil ?_)) | (refine go_skip' (by rfl) ?_; (try simp only [Act.put, List.setIfInBounds_toArray, List.set_cons_zero, List.set_cons_succ])) | (refine go_quiet' (by rfl) (by rfl) (by rfl) ?_; intro K hK; go_big_quiet_op; go_big_quiet_on) | (refine go_nilcheck _ _ rfl rfl (by rfl) (by rfl) ?_; (try simp only [Act.put, List.setIfInBounds_toArray, List.set_cons_zero, List.set_cons_succ])))
            (refine go_act (by rfl) (by rfl) ?_ ?_; (focus (intro w' hC hM; obtain ⟨x, rfl⟩ := hC; go_simp; (with_reducible refine Calls.st (SV.out _)); done)); intro v hv; obtain ⟨_, _, hv, _⟩ := hv; obtain rfl := hv; (try simp only [Act.put, List.setIfInBounds_toArray, List.set_cons_zero, List.set_cons_succ]))
            repeat (first | ((with_reducible refine go_nil ?_)) | (refine go_skip' (by rfl) ?_; (try simp only [Act.put, List.setIfInBounds_toArray, List.set_cons_zero, List.set_cons_succ])) | (refine go_quiet' (by rfl) (by rfl) (by rfl) ?_; intro K hK; go_big_quiet_op; go_big_quiet_on) | (refine go_nilcheck _ _ rfl rfl (by rfl) (by rfl) ?_; (try simp only [Act.put, List.setIfInBounds_toArray, List.set_cons_zero, List.set_cons_succ])))
            refine go_act (by rfl) (by rfl) ?_ ?_
            · intro w' hC hM
              obtain ⟨y, rfl⟩ := hC
              obtain ⟨u, hcell, hfz⟩ := y.has (i := 0) (u := .bool false) (v := .bool true) rfl rfl
              have hput := y.put (i := 0) (v := .bool true) rfl rfl
              go_simp
              first | exact hput | exact hput.2 | exact hput.2.2 | exact ⟨hput.1, hput.2.2⟩
            intro v hv
            clear hv
            (try simp only [Act.put])
            refine go_nil ?_
            intro wA hCA hall
            obtain ⟨yA, rfl⟩ := hCA
            have hF : Blk yA.wd rb' #[.bool true] 4 := hall _ (.inl rfl)
            have KA : Ext w yA.wd := Ext.only HKV.out.1 yA.only hrw
            have hKa : yA.wd.heap[D]? = some (.deferred (some [])) := (yA.only.block D (Array.getElem?_eq_some_iff.1 HKV.out.2.1).1 hDr).trans HKV.out.2.1
            have hKb : yA.wd.heap[D2]? = some (.deferred (some [])) := (yA.only.block D2 (Array.getElem?_eq_some_iff.1 HKV.out.2.2.1).1 hDr2).trans HKV.out.2.2.1
            generalize yA.wd = wA at *
            clear hall cn cs ct ca lxx LV SV hne_ hb2
            have hKa2 := ((grownBy_putObj' wA D2 (.deferred none)).block D (Array.getElem?_eq_some_iff.1 hKa).1 (fun e => by cases e; omega)).trans hKa
            go_wp2_with fail
            refine ⟨by simp, .inl ⟨_, _, rfl, run_takeDeferred hKb, ?_⟩⟩
            refine ⟨by simp, .inl ⟨_, _, rfl, run_takeDeferred hKa2, ?_⟩⟩
            have hc5 := cell_kept (cell_kept (hF.cell 0 _ rfl) (grownBy_putObj' _ D2 (.deferred none)) (fun r e => by cases e; exact ⟨_, hKb, rfl⟩)) (grownBy_putObj' _ D (.deferred none)) (fun r e => by cases e; exact ⟨_, hKa2, rfl⟩)
            have hDw : w.heap.size ≤ D := by have := HKV.out.1; omega
            have hD2w : w.heap.size ≤ D2 := by omega
            refine ⟨.bool true, ?_, rfl, (KA.trans_b (belowK_b (w := w) (Nat.le_refl _) _ D2 _ _ hD2w hKb rfl rfl)).trans_b (belowK_b (w := w) (Nat.le_refl _) _ D _ _ hDw hKa2 rfl rfl)⟩
            simp [results, Try.f4, go_sem, hc5]
          · have d1 : decide ((0 : Int) < (n : Int)) = false := by simp; omega
            have d2 : decide (0 < n) = false := by simp; omega
            have d3 : decide ((0 : Int) < (i : Int)) = false := by simp; omega
            have d4 : decide (0 < i) = false := by simp; omega
            clear g1 g2
            go_wp2_with fail
            try rw [hrb']
            have hne_ : Nonempty (St V rb' #[.bool false] #[.bool true] 4) := ⟨⟨_, Only.refl _ _, .inl hb2⟩⟩; refine wp_region_go (sp := spOf (R := Rst rb' #[.bool true] 4) [(0, Told.val (.bool true)), (17, Told.val (.bool true)), (25, Told.blk)]) (C := fun w' => ∃ n : St V rb' #[.bool false] #[.bool true] 4, w' = n.wd) (R := Rst rb' #[.bool true] 4) (by kernel_rfl) (by kernel_rfl) (spOf_mono _) (St.drew hb2) ?_
            (refine go_act (by rfl) (by rfl) ?_ ?_; (focus (intro w' hC hM; obtain ⟨x, rfl⟩ := hC; go_simp; (with_reducible refine Calls.st (LV.out _)); done)); intro v hv; obtain ⟨_, _, hv, _⟩ := hv; obtain rfl := hv; (try simp only [Act.put, List.setIfInBounds_toArray, List.set_cons_zero, List.set_cons_succ]))
            repeat (first | ((with_reducible refine go_nil ?_)) | (refine go_skip' (by rfl) ?_; (try simp only [Act.put, List.setIfInBounds_toArray, List.set_cons_zero, List.set_cons_succ])) | (refine go_quiet' (by rfl) (by rfl) (by rfl) ?_; intro K hK; go_big_quiet_op; go_big_quiet_on) | (refine go_nilcheck _ _ rfl rfl (by rfl) (by rfl) ?_; (try simp only [Act.put, List.setIfInBounds_toArray, List.set_cons_zero, List.set_cons_succ])))
            (refine go_act (by rfl) (by rfl) ?_ ?_; (focus (intro w' hC hM; obtain ⟨x, rfl⟩ := hC; go_simp; (with_reducible refine Calls.st (SV.out _)); done)); intro v hv; obtain ⟨_, _, hv, _⟩ := hv; obtain rfl := hv; (try simp only [Act.put, List.setIfInBounds_toArray, List.set_cons_zero, List.set_cons_succ]))
            repeat (first | ((with_reducible refine go_nil ?_)) | (refine go_skip' (by rfl) ?_; (try simp only [Act.put, List.setIfInBounds_toArray, List.set_cons_zero, List.set_cons_succ])) | (refine go_quiet' (by rfl) (by rfl) (by rfl) ?_; intro K hK; go_big_quiet_op; go_big_quiet_on) | (refine go_nilcheck _ _ rfl rfl (by rfl) (by rfl) ?_; (try simp only [Act.put, List.setIfInBounds_toArray, List.set_cons_zero, List.set_cons_succ])))
            refine go_act (by rfl) (by rfl) ?_ ?_
            · intro w' hC hM
              obtain ⟨y, rfl⟩ := hC
              obtain ⟨u, hcell, hfz⟩ := y.has (i := 0) (u := .bool false) (v := .bool true) rfl rfl
              have hput := y.put (i := 0) (v := .bool true) rfl rfl
              go_simp
              first | exact hput | exact hput.2 | exact hput.2.2 | exact ⟨hput.1, hput.2.2⟩
            intro v hv
            clear hv
            (try simp only [Act.put])
            refine go_nil ?_
            intro wA hCA hall
            obtain ⟨yA, rfl⟩ := hCA
            have hF : Blk yA.wd rb' #[.bool true] 4 := hall _ (.inl rfl)
            have KA : Ext w yA.wd := Ext.only HKV.out.1 yA.only hrw
            have hKa : yA.wd.heap[D]? = some (.deferred (some [])) := (yA.only.block D (Array.getElem?_eq_some_iff.1 HKV.out.2.1).1 hDr).trans HKV.out.2.1
            have hKb : yA.wd.heap[D2]? = some (.deferred (some [])) := (yA.only.block D2 (Array.getElem?_eq_some_iff.1 HKV.out.2.2.1).1 hDr2).trans HKV.out.2.2.1
            generalize yA.wd = wA at *
            clear hall cn cs ct ca lxx LV SV hne_ hb2
            have hKa2 := ((grownBy_putObj' wA D2 (.deferred none)).block D (Array.getElem?_eq_some_iff.1 hKa).1 (fun e => by cases e; omega)).trans hKa
            go_wp2_with fail
            refine ⟨by simp, .inl ⟨_, _, rfl, run_takeDeferred hKb, ?_⟩⟩
            refine ⟨by simp, .inl ⟨_, _, rfl, run_takeDeferred hKa2, ?_⟩⟩
            have hc5 := cell_kept (cell_kept (hF.cell 0 _ rfl) (grownBy_putObj' _ D2 (.deferred none)) (fun r e => by cases e; exact ⟨_, hKb, rfl⟩)) (grownBy_putObj' _ D (.deferred none)) (fun r e => by cases e; exact ⟨_, hKa2, rfl⟩)
            have hDw : w.heap.size ≤ D := by have := HKV.out.1; omega
            have hD2w : w.heap.size ≤ D2 := by omega
            refine ⟨.bool true, ?_, rfl, (KA.trans_b (belowK_b (w := w) (Nat.le_refl _) _ D2 _ _ hD2w hKb rfl rfl)).trans_b (belowK_b (w := w) (Nat.le_refl _) _ D _ _ hDw hKa2 rfl rfl)⟩
            simp [results, Try.f4, go_sem, hc5]
          · have d1 : decide ((0 : Int) < (n : Int)) = true := by simp; omega
            have d2 : decide (0 < n) = true := by simp; omega
            have d3 : decide ((0 : Int) < (i : Int)) = true := by simp; omega
            have d4 : decide (0 < i) = true := by simp; omega
            clear g1 g2
            go_wp2_with fail
            try rw [hrb']
            have hne_ : Nonempty (St V rb' #[.bool false] #[.bool true] 4) := ⟨⟨_, Only.refl _ _, .inl hb2⟩⟩; refine wp_region_go (sp := spOf (R := Rst rb' #[.bool true] 4) [(0, Told.val (.bool true)), (17, Told.val (.bool true)), (25, Told.blk)]) (C := fun w' => ∃ n : St V rb' #[.bool false] #[.bool true] 4, w' = n.wd) (R := Rst rb' #[.bool true] 4) (by kernel_rfl) (by kernel_rfl) (spOf_mono _) (St.drew hb2) ?_
            (refine go_act (by rfl) (by rfl) ?_ ?_; (focus (intro w' hC hM; obtain ⟨x, rfl⟩ := hC; go_simp; (with_reducible refine Calls.st (LV.out _)); done)); intro v hv; obtain ⟨_, _, hv, _⟩ := hv; obtain rfl := hv; (try simp only [Act.put, List.setIfInBounds_toArray, List.set_cons_zero, List.set_cons_succ]))
            repeat (first | ((with_reducible refine go_nil ?_)) | (refine go_skip' (by rfl) ?_; (try simp only [Act.put, List.setIfInBounds_toArray, List.set_cons_zero, List.set_cons_succ])) | (refine go_quiet' (by rfl) (by rfl) (by rfl) ?_; intro K hK; go_big_quiet_op; go_big_quiet_on) | (refine go_nilcheck _ _ rfl rfl (by rfl) (by rfl) ?_; (try simp only [Act.put, List.setIfInBounds_toArray, List.set_cons_zero, List.set_cons_succ])))
            (refine go_act (by rfl) (by rfl) ?_ ?_; (focus (intro w' hC hM; obtain ⟨x, rfl⟩ := hC; go_simp; (with_reducible refine Calls.st (SV.out _)); done)); intro v hv; obtain ⟨_, _, hv, _⟩ := hv; obtain rfl := hv; (try simp only [Act.put, List.setIfInBounds_toArray, List.set_cons_zero, List.set_cons_succ]))
            repeat (first | ((with_reducible refine go_nil ?_)) | (refine go_skip' (by rfl) ?_; (try simp only [Act.put, List.setIfInBounds_toArray, List.set_cons_zero, List.set_cons_succ])) | (refine go_quiet' (by rfl) (by rfl) (by rfl) ?_; intro K hK; go_big_quiet_op; go_big_quiet_on) | (refine go_nilcheck _ _ rfl rfl (by rfl) (by rfl) ?_; (try simp only [Act.put, List.setIfInBounds_toArray, List.set_cons_zero, List.set_cons_succ])))
            refine go_act (by rfl) (by rfl) ?_ ?_
            · intro w' hC hM
              obtain ⟨y, rfl⟩ := hC
              obtain ⟨u, hcell, hfz⟩ := y.has (i := 0) (u := .bool false) (v := .bool true) rfl rfl
              have hput := y.put (i := 0) (v := .bool true) rfl rfl
              go_simp
              first | exact hput | exact hput.2 | exact hput.2.2 | exact ⟨hput.1, hput.2.2⟩
            intro v hv
            clear hv
            (try simp only [Act.put])
            refine go_nil ?_
            intro wA hCA hall
            obtain ⟨yA, rfl⟩ := hCA
            have hF : Blk yA.wd rb' #[.bool true] 4 := hall _ (.inl rfl)
            have KA : Ext w yA.wd := Ext.only HKV.out.1 yA.only hrw
            have hKa : yA.wd.heap[D]? = some (.deferred (some [])) := (yA.only.block D (Array.getElem?_eq_some_iff.1 HKV.out.2.1).1 hDr).trans HKV.out.2.1
            have hKb : yA.wd.heap[D2]? = some (.deferred (some [])) := (yA.only.block D2 (Array.getElem?_eq_some_iff.1 HKV.out.2.2.1).1 hDr2).trans HKV.out.2.2.1
            generalize yA.wd = wA at *
            clear hall cn cs ct ca lxx LV SV hne_ hb2
            have hKa2 := ((grownBy_putObj' wA D2 (.deferred none)).block D (Array.getElem?_eq_some_iff.1 hKa).1 (fun e => by cases e; omega)).trans hKa
            go_wp2_with fail
            refine ⟨by simp, .inl ⟨_, _, rfl, run_takeDeferred hKb, ?_⟩⟩
            refine ⟨by simp, .inl ⟨_, _, rfl, run_takeDeferred hKa2, ?_⟩⟩
            have hc5 := cell_kept (cell_kept (hF.cell 0 _ rfl) (grownBy_putObj' _ D2 (.deferred none)) (fun r e => by cases e; exact ⟨_, hKb, rfl⟩)) (grownBy_putObj' _ D (.deferred none)) (fun r e => by cases e; exact ⟨_, hKa2, rfl⟩)
            have hDw : w.heap.size ≤ D := by have := HKV.out.1; omega
            have hD2w : w.heap.size ≤ D2 := by omega
            refine ⟨.bool true, ?_, rfl, (KA.trans_b (belowK_b (w := w) (Nat.le_refl _) _ D2 _ _ hD2w hKb rfl rfl)).trans_b (belowK_b (w := w) (Nat.le_refl _) _ D _ _ hDw hKa2 rfl rfl)⟩
            simp [results, Try.f4, go_sem, hc5]
      case stop =>
        rintro D c pre W hD ⟨hs, hpre⟩ hno hK
        exact absurd hpre (hno hs)

end Go.Proofs.Ytbjfhdkgbhkodaa
