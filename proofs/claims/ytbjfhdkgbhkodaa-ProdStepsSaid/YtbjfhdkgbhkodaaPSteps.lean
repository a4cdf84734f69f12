/- The law ProdSteps. -/
import Derived.Test.YtbjfhdkgbhkodaaPStepsL
import Derived.Test.YtbjfhdkgbhkodaaOpnCh
import Derived.Test.YtbjfhdkgbhkodaaTick
import Derived.Deep.Cut
import Derived.Deep.CutRange
import Derived.Deep.DeepCutAuto
import Derived.Deep.RegionWith
set_option linter.unusedSimpArgs false
set_option linter.unusedVariables false
set_option linter.unnecessarySimpa false
namespace Go.Proofs.Ytbjfhdkgbhkodaa
open Go.RowKit Go.Proofs.YtbjfhdkgbhkodaaW.PrintWords
attribute [local go_sem] max2_max min2_min max_of_two min_of_two bxF_fr stF_fr stF_fr2 stF_put ldF_put ldV_put ldF_new guard_eq guard_ne bin_eq bin_ne alF_fr bdF_none bdF_ask bdF_len bdF_dat ext_drew' ext_alloc
attribute [local go_sem ↓] ldF_in ldV_in bxF_in stF_in cvS_in alF_in bdF_in ixS_in
attribute [local go_sem] bxC_ch chguard_eq chguard_ne chbin_eq chbin_ne ldC_new bxM_v alM_v stM_put stM_new bxR_v alR_v stR_put stR_new ldM_new ldR_new bdM_none bdR_v stC_mk gUpon gStill
attribute [local go_sem ↓] ldC_in bxC_in stC_in ldM_in bxM_in stM_in alM_in ldR_in bxR_in stR_in alR_in bdM_in bdR_in
attribute [local go_sem] alC_v bdC_tab stC_new stC_new1 stS_tab stC_old ldC_new1
attribute [local go_sem ↓] alC_in bdC_in stS_in

theorem Mk.step_len (k : Mk) (now : Int) (on : Bool) (x : Ch) (l : List Int) : (k.step now on x l).2.length ≤ 1000000 := by
  unfold Mk.step two
  split
  · simp
  · split
    · simp
    · split
      · simp
      · simp
theorem PI.bounds {k : Mk} {r : Rm} {now : Int} (h : PI k r now) (h0 : 0 ≤ now) (h1 : now ≤ 2147483647) : -1 ≤ r.last ∧ r.last ≤ 2147483647 ∧ r.sent = k.sent ∧ 0 ≤ k.last ∧ k.last ≤ 2147483647 := by
  obtain ⟨g1, g2, g3, g4, g5⟩ := h
  cases hk : k.works
  · have := g2 hk
    omega
  · have := (g1 hk).1
    omega
theorem bdR_one (w : World) : (bdR #[(0, .int .i64 (-1))]).run Try.prog w = .ok (Rm.val ⟨-1, Ch.zero, 0⟩) w := by kernel_rfl
attribute [local go_sem] bdR_one

set_option maxRecDepth 100000 in
set_option maxHeartbeats 16000000 in
theorem steps_c (a b : Ch) (A : Option Addr) (bl o : Nat) (c : Nat) (l : List Tk) (w : World) (hl : RowOf Tk.cells 12 w A bl o l) (hlc : l.length ≤ c) (hP : ∀ x ∈ l, x.ok) :
    Calls Try.prog 5 #[a.val, b.val, .slice A l.length c] w fun e w' => e = .returned (.bool true) ∧ Ext w w' := by
  have HP := hid hP
  have hl0 := hl.1
  have ba : Blk ((w.alloc (.cells a.cells CT)).alloc (.cells b.cells CT)) w.heap.size a.cells CT := (Blk.new w a.cells CT).alloc _
  have bb : Blk ((w.alloc (.cells a.cells CT)).alloc (.cells b.cells CT)) (w.heap.size + 1) b.cells CT := by
    have := Blk.new (w.alloc (.cells a.cells CT)) b.cells CT
    rwa [World.size_alloc] at this
  have K0 : Ext w ((w.alloc (.cells a.cells CT)).alloc (.cells b.cells CT)) := (by repeat (first | with_reducible exact Ext.refl _ | with_reducible assumption | with_reducible apply Ext.alloc | with_reducible apply Ext.drew | with_reducible apply Ext.drewN | (with_reducible refine Ext.set' ?_ (by first | omega | (simp only [World.size_alloc, World.size_setCell]; omega))) | (with_reducible refine Ext.trans ?_ (by with_reducible assumption)) | (with_reducible refine Ext.only ?_ (by with_reducible assumption) (by omega))))
  have lx : ∀ x : After ((w.alloc (.cells a.cells CT)).alloc (.cells b.cells CT)), (ldC (.pointer (some ⟨w.heap.size, 0, none⟩))).run Try.prog x.wd = .ok a.val x.wd := fun x => ldC_blk (x.ext.blk ba)
  have hsz : ((w.alloc (.cells a.cells CT)).alloc (.cells b.cells CT)).heap.size = w.heap.size + 2 := by simp
  have BA := hid ba
  have BB := hid bb
  have HSZ := hid hsz
  have e1 : (a.sz != a.sz) = false := by simp
  have e2 : (a.snd != a.snd) = false := by simp
  have e1' : (a.sz == a.sz) = true := by simp
  have e2' : (a.snd == a.snd) = true := by simp
  clear hP ba bb hsz
  go_enter Try.func5, Try.ntmps5
  go_wp2_with fail
  generalize hW0 : ((w.alloc (.cells a.cells CT)).alloc (.cells b.cells CT)) = W0 at *
  refine wp_region_go (sp := spOf (R := Ext) [(1, Told.val (R := Ext) (.int .i64 a.sz)), (3, Told.val (R := Ext) (.int .i64 a.sz)), (7, Told.val (R := Ext) (.bool a.snd)), (9, Told.val (R := Ext) (.bool a.snd))]) (C := fun w' => ∃ n : After W0, w' = n.wd) (R := Ext) (by kernel_rfl) (by kernel_rfl) (spOf_mono _) (After.drew _) ?_
  repeat (first | ((with_reducible refine go_nil ?_)) | (refine go_skip' (by rfl) ?_; (try simp only [Act.put, List.setIfInBounds_toArray, List.set_cons_zero, List.set_cons_succ])) | (refine go_quiet' (by rfl) (by rfl) (by rfl) ?_; intro K hK; go_big_quiet_op; go_big_quiet_on) | (refine go_nilcheck _ _ rfl rfl (by rfl) (by rfl) ?_; (try simp only [Act.put, List.setIfInBounds_toArray, List.set_cons_zero, List.set_cons_succ])))
  (refine go_act (by rfl) (by rfl) ?_ ?_; (focus (intro w' hC hM; obtain ⟨x, rfl⟩ := hC; go_simp; (with_reducible refine Calls.told (psize_c a _)); done)); intro v hv; obtain ⟨_, _, hv, _⟩ := hv; obtain rfl := hv; (try simp only [Act.put, List.setIfInBounds_toArray, List.set_cons_zero, List.set_cons_succ]))
  repeat (first | ((with_reducible refine go_nil ?_)) | (refine go_skip' (by rfl) ?_; (try simp only [Act.put, List.setIfInBounds_toArray, List.set_cons_zero, List.set_cons_succ])) | (refine go_quiet' (by rfl) (by rfl) (by rfl) ?_; intro K hK; go_big_quiet_op; go_big_quiet_on) | (refine go_nilcheck _ _ rfl rfl (by rfl) (by rfl) ?_; (try simp only [Act.put, List.setIfInBounds_toArray, List.set_cons_zero, List.set_cons_succ])))
  (refine go_act (by rfl) (by rfl) ?_ ?_; (focus (intro w' hC hM; obtain ⟨x, rfl⟩ := hC; go_simp; (with_reducible refine Calls.told (rsize_c a _)); done)); intro v hv; obtain ⟨_, _, hv, _⟩ := hv; obtain rfl := hv; (try simp only [Act.put, List.setIfInBounds_toArray, List.set_cons_zero, List.set_cons_succ]))
  repeat (first | ((with_reducible refine go_nil ?_)) | (refine go_skip' (by rfl) ?_; (try simp only [Act.put, List.setIfInBounds_toArray, List.set_cons_zero, List.set_cons_succ])) | (refine go_quiet' (by rfl) (by rfl) (by rfl) ?_; intro K hK; go_big_quiet_op; go_big_quiet_on) | (refine go_nilcheck _ _ rfl rfl (by rfl) (by rfl) ?_; (try simp only [Act.put, List.setIfInBounds_toArray, List.set_cons_zero, List.set_cons_succ])))
  (refine go_act (by rfl) (by rfl) ?_ ?_; (focus (intro w' hC hM; obtain ⟨x, rfl⟩ := hC; go_simp; (with_reducible refine Calls.told (psends_c a _)); done)); intro v hv; obtain ⟨_, _, hv, _⟩ := hv; obtain rfl := hv; (try simp only [Act.put, List.setIfInBounds_toArray, List.set_cons_zero, List.set_cons_succ]))
  repeat (first | ((with_reducible refine go_nil ?_)) | (refine go_skip' (by rfl) ?_; (try simp only [Act.put, List.setIfInBounds_toArray, List.set_cons_zero, List.set_cons_succ])) | (refine go_quiet' (by rfl) (by rfl) (by rfl) ?_; intro K hK; go_big_quiet_op; go_big_quiet_on) | (refine go_nilcheck _ _ rfl rfl (by rfl) (by rfl) ?_; (try simp only [Act.put, List.setIfInBounds_toArray, List.set_cons_zero, List.set_cons_succ])))
  (refine go_act (by rfl) (by rfl) ?_ ?_; (focus (intro w' hC hM; obtain ⟨x, rfl⟩ := hC; go_simp; (with_reducible refine Calls.told (rsends_c a _)); done)); intro v hv; obtain ⟨_, _, hv, _⟩ := hv; obtain rfl := hv; (try simp only [Act.put, List.setIfInBounds_toArray, List.set_cons_zero, List.set_cons_succ]))
  repeat (first | ((with_reducible refine go_nil ?_)) | (refine go_skip' (by rfl) ?_; (try simp only [Act.put, List.setIfInBounds_toArray, List.set_cons_zero, List.set_cons_succ])) | (refine go_quiet' (by rfl) (by rfl) (by rfl) ?_; intro K hK; go_big_quiet_op; go_big_quiet_on) | (refine go_nilcheck _ _ rfl rfl (by rfl) (by rfl) ?_; (try simp only [Act.put, List.setIfInBounds_toArray, List.set_cons_zero, List.set_cons_succ])))
  intro w1 hC hall
  obtain ⟨x, rfl⟩ := hC
  have K1 : Ext w x.wd := K0.trans x.ext
  have BA1 := hid (x.ext.blk BA.out)
  have BB1 := hid (x.ext.blk BB.out)
  have hs1 : w.heap.size + 2 ≤ x.wd.heap.size := by have := x.ext.le; rw [HSZ.out] at this; exact this
  generalize x.wd = w1 at *
  clear hall lx HSZ BA BB K0 hW0 e1 e2 e1' e2'
  go_wp2_with fail
  (with_reducible refine (mnew_c _).mono ?_); rintro e w2 ⟨kb, rfl, hb, hkb, k2⟩
  have BA2 := hid (k2.blk BA1.out)
  have BB2 := hid (k2.blk BB1.out)
  have HB := hid hb
  have K2 := K1.trans k2
  have hs2 : w.heap.size + 2 ≤ w2.heap.size := Nat.le_trans hs1 k2.le
  have hkw := HB.out.lt
  have RB := hid (Blk.new w2 (Rm.cells ⟨-1, Ch.zero, 0⟩) RT)
  have K3 : Ext w (w2.alloc (.cells (Rm.cells ⟨-1, Ch.zero, 0⟩) RT)) := (by repeat (first | with_reducible exact Ext.refl _ | with_reducible assumption | with_reducible apply Ext.alloc | with_reducible apply Ext.drew | with_reducible apply Ext.drewN | (with_reducible refine Ext.set' ?_ (by first | omega | (simp only [World.size_alloc, World.size_setCell]; omega))) | (with_reducible refine Ext.trans ?_ (by with_reducible assumption)) | (with_reducible refine Ext.only ?_ (by with_reducible assumption) (by omega))))
  have hpi : PI Mk.zero ⟨-1, Ch.zero, 0⟩ 0 := ⟨fun h => (by cases h), fun _ => rfl, rfl, by decide, by decide⟩
  clear hb K1 K2 k2 BA1 BB1
  go_wp2_with fail
  go_loopg [9, 10] 60 (fun g u9 u10 wr => ∃ (i : Nat) (now : Int) (k : Mk) (r : Rm), i + g = 60 ∧ i ≤ l.length ∧ u10 = .int .i64 i ∧ u9 = .int .i64 now ∧ 0 ≤ now ∧ now ≤ 255 * i ∧ Hid (PI k r now) ∧ Hid (0 ≤ k.sent ∧ k.sent ≤ i) ∧ Blk wr kb k.cells MT ∧ Blk wr w2.heap.size r.cells RT ∧ Blk wr w.heap.size a.cells CT ∧ Blk wr (w.heap.size + 1) b.cells CT ∧ Ext w wr)
  case atStart => exact ⟨0, 0, Mk.zero, _, rfl, by omega, rfl, rfl, by omega, by omega, hid hpi, hid ⟨by decide, by decide⟩, HB.out.alloc _, RB.out, BA2.out.alloc _, BB2.out.alloc _, K3⟩
  case round =>
    clear hpi K3 RB HB BA2 BB2
    obtain ⟨i, now, k, r, hig, hil, rfl, rfl, hn0, hn1, hpi, hse, hb, hr, ha, hbb, K⟩ := hrel
    by_cases hlt : i < l.length ∧ i < 60
    · obtain ⟨hlt, h60⟩ := hlt
      have e1 : decide ((i : Int) < (l.length : Int)) = true := by simpa using hlt
      have e2 : decide ((i : Int) < 60) = true := by simp; omega
      have i0 : (0 : Int) ≤ (i : Int) := by omega
      have i1 : (i : Int) < (l.length : Int) := by omega
      obtain ⟨rfl, hcell⟩ := hl.at K hlt
      have HPi := hid (HP.out l[i] (List.getElem_mem _))
      have HR := hid (hl.at (Ext.refl w) hlt).2
      have hblt := (hl.2.1 (by omega)).2
      generalize l[i] = tk at *
      have c0 : wr.cell? ⟨bl, o + i * 12, none⟩ = some (.int .u8 tk.s) := hcell 0 _ rfl
      have s0 := HPi.out.1
      have s1 := HPi.out.2.1
      have C1 := hid (fun (w' : World) (q : Ext w w') => (show w'.cell? ⟨bl, o + i * 12 + 1, none⟩ = some (.bool tk.on) from q.cell (HR.out 1 _ rfl)))
      have C2 := hid (fun (w' : World) (q : Ext w w') => (show w'.cell? ⟨bl, o + i * 12 + 2, none⟩ = some (.bool tk.other) from q.cell (HR.out 2 _ rfl)))
      have C11 := hid (fun (w' : World) (q : Ext w w') => (show w'.cell? ⟨bl, o + i * 12 + 11, none⟩ = some (.bool tk.sh) from q.cell (HR.out 11 _ rfl)))
      have CB := hid (fun (w' : World) (n : Nat) (q : Ext w w') (hn : n ≤ 8) => Tk.bs (w := w') (bl := bl) (o := o + i * 12) (t := tk) (fun j v hv => q.cell (HR.out j v hv)) (Nat.lt_of_lt_of_le hblt q.le) HPi.out hn)
      generalize w2.heap.size = rb at *
      have la := ldC_blk ha
      have K1a : Ext w (wr.alloc (.cells a.cells CT)) := (by repeat (first | with_reducible exact Ext.refl _ | with_reducible assumption | with_reducible apply Ext.alloc | with_reducible apply Ext.drew | with_reducible apply Ext.drewN | (with_reducible refine Ext.set' ?_ (by first | omega | (simp only [World.size_alloc, World.size_setCell]; omega))) | (with_reducible refine Ext.trans ?_ (by with_reducible assumption)) | (with_reducible refine Ext.only ?_ (by with_reducible assumption) (by omega))))
      have lb := ldC_blk (hbb.alloc (.cells a.cells CT))
      have c2 := C2.out _ K1a
      obtain ⟨nw, hnw⟩ : ∃ n, Is (now + tk.s) n := ⟨_, Is.refl _⟩
      have HN : Hid (now ≤ nw ∧ 0 ≤ nw ∧ nw ≤ 2147483647 ∧ nw ≤ 255 * (i + 1)) := hid (by have := hnw.eq; omega)
      obtain ⟨ot, hot⟩ : ∃ q, tk.other = q := ⟨_, rfl⟩
      rw [hot] at c2
      clear hcell K1a
      go_upto_if 56 with fail
      rw [hnw.eq]
      go_cut [11] (fun u11 wx => u11 = .pointer (some ⟨wr.heap.size, 0, none⟩) ∧ ∃ x : Ch, wx = wr.alloc (.cells x.cells CT))
      case first =>
        cases ot
        · go_wp2_with fail
          go_meet
          case rel => exact ⟨rfl, a, rfl⟩
        · go_wp2_with fail
          go_meet
          case rel => exact ⟨rfl, b, rfl⟩
      case rest =>
        obtain ⟨rfl, x, rfl⟩ := hcut
        clear la lb c2
        go_wp2_with fail
        (with_reducible refine (rsize_c x _).mono ?_); rintro e w3 ⟨rfl, k3⟩
        obtain ⟨N, hN⟩ := Int.eq_ofNat_of_zero_le x.sz_ge
        obtain ⟨M, hM⟩ : ∃ M, M = min N 8 := ⟨_, rfl⟩
        have hM8 : M ≤ 8 := by omega
        have hmn : min (N : Int) 8 = (M : Int) := by omega
        have K3 : Ext w w3 := Ext.trans (Ext.trans K ((Ext.refl wr).alloc)) k3
        have E3 : Ext wr w3 := Ext.trans ((Ext.refl wr).alloc) k3
        have c11 := C11.out w3 K3
        have con := C1.out w3 K3
        rw [hN]
        have HK := hid (And.intro (E3.blk hb) (And.intro (E3.blk hr) (And.intro (E3.blk ha) (And.intro (E3.blk hbb) (And.intro (k3.blk (Blk.new wr x.cells CT)) (And.intro K3 hr.lt))))))
        have hcs : tk.sh = false ∨ (tk.sh = true ∧ decide (0 < (M : Int)) = true) ∨ (tk.sh = true ∧ decide (0 < (M : Int)) = false) := by
          cases tk.sh
          · exact .inl rfl
          · by_cases h : 0 < M
            · exact .inr (.inl ⟨rfl, by simp; omega⟩)
            · exact .inr (.inr ⟨rfl, by simp; omega⟩)
        clear hN hM hb hr ha hbb k3 E3 K3
        generalize wr.heap.size = xb at *
        go_upto_region 14 with fail
        go_cut [69] (fun u69 wx => u69 = .bool (tk.sh && decide (0 < M)) ∧ w3 = wx)
        case first =>
          rcases hcs with hsh | ⟨hsh, e3⟩ | ⟨hsh, e3⟩
          all_goals
            rw [hsh] at c11
            go_wp2_with fail
            go_meet
            case rel => exact ⟨by rw [hsh]; rfl, rfl⟩
        case rest =>
          obtain ⟨rfl, rfl⟩ := hcut
          clear hcs
          obtain ⟨sb', hsb⟩ : ∃ q, Is (tk.sh && decide (0 < M)) q := ⟨_, Is.refl _⟩
          rw [hsb.eq]
          go_upto_if 69 with fail
          go_cut [12] (fun u12 wx => (∃ m : Nat, m ≤ 8 ∧ u12 = .int .i64 m) ∧ w3 = wx)
          case first =>
            cases sb'
            · go_wp2_with fail
              go_meet
              case rel => exact ⟨⟨M, hM8, rfl⟩, rfl⟩
            · have m1 : (0 : Int) < (M : Int) := by
                have := hsb.eq
                simp only [Bool.and_eq_true, decide_eq_true_iff] at this
                omega
              obtain ⟨m, hm⟩ : ∃ m : Nat, (M : Int) - 1 = (m : Int) := ⟨M - 1, by omega⟩
              go_wp2_with fail
              go_meet
              case rel => exact ⟨⟨m, by omega, rfl⟩, rfl⟩
          case rest =>
            obtain ⟨⟨m, hm8', rfl⟩, rfl⟩ := hcut
            clear hsb c11 hmn hM8
            have HM := hid hm8'
            have D : ∀ p : Addr, w3.drew.cell? p = w3.cell? p := fun p => rfl
            have lr : (ldR (.pointer (some ⟨rb, 0, none⟩))).run Try.prog w3.drew = .ok r.val w3.drew := ldR_blk HK.out.2.1.drew
            have lx := ldC_blk HK.out.2.2.2.2.1.drew
            have hbs := CB.out w3.drew m HK.out.2.2.2.2.2.1.drew HM.out
            have hm0 : (0 : Int) ≤ (m : Int) := by omega
            have hm8 : (m : Int) ≤ 8 := by omega
            have SS := hid (step_same (on := tk.on) (x := x) (l := tk.b.take m) hpi.out HN.out.1 HN.out.2.1 HN.out.2.2.1)
            have SL := hid (k.step_len nw tk.on x (tk.b.take m))
            have hpb := PI.bounds hpi.out hn0 (by omega)
            have RS := hid (rstep_c r nw tk.on x _ (tk.b.take m) w3.drew hbs hpb.1 hpb.2.1 (by rw [hpb.2.2.1]; exact hse.out.1) (by rw [hpb.2.2.1]; have := hse.out; omega))
            have S1 := hid (fun w' (h : Blk w' kb k.cells MT) (q : Ext w w') => step_c kb k nw tk.on x _ (tk.b.take m) w' h (CB.out w' m q HM.out) hpb.2.2.2.1 hpb.2.2.2.2 hse.out.1 (by have := hse.out; omega))
            obtain ⟨R, hR⟩ : ∃ R, Is (r.step nw tk.on x (tk.b.take m)) R := ⟨_, Is.refl _⟩
            obtain ⟨Q, hQ⟩ : ∃ Q, Is (k.step nw tk.on x (tk.b.take m)) Q := ⟨_, Is.refl _⟩
            rw [hR.eq, hQ.eq] at SS
            rw [hR.eq] at RS
            rw [hQ.eq] at S1 SL
            have hrb3 : rb < w3.drew.heap.size := HK.out.2.1.lt
            have STF := hid (fun w4 (k4 : Ext w3.drew w4) (ub : Value) (hub : FrO w4 w3.drew.heap.size ub R.2) => (by
              have hr4 := k4.blk HK.out.2.1.drew
              exact ⟨stR_put w4 rb R.1 ⟨_, hr4⟩, hub.only (putR_only w4 rb R.1) hrb3, putR_blk (w := w4) (b := rb) R.1 ⟨_, hr4⟩, ((Only.of_ext ((Ext.refl w3).drew)).ext k4).trans (putR_only w4 rb R.1)⟩ :
              (stR (.pointer (some ⟨rb, 0, none⟩)) R.1.val).run Try.prog w4 = .ok () (putR w4 rb R.1) ∧ FrO (putR w4 rb R.1) w3.drew.heap.size ub R.2 ∧ Blk (putR w4 rb R.1) rb R.1.cells RT ∧ Only rb w3 (putR w4 rb R.1)))
            clear hpb hbs hR hQ
            go_upto_region 17 with fail
            go_cut [13] (fun u13 wx => FrO wx w3.drew.heap.size u13 R.2 ∧ Blk wx rb R.1.cells RT ∧ Only rb w3 wx)
            case first =>
              go_region_with (go_at_call 19; (with_reducible refine (RS.out).mono ?_); rintro e w4 ⟨ub, rfl, hub, k4⟩; obtain ⟨st4, q1, q2, q3⟩ := STF.out w4 k4 ub hub; have HQ := hid (And.intro q1 (And.intro q2 q3)); clear q1 q2 q3 hub)
              all_goals
                go_wp2_with fail
                go_meet
                case rel => exact HQ.out
            case rest =>
              obtain ⟨hub, hr5, P5⟩ := hcut
              clear lr lx D con RS STF
              have HU := hid hub
              obtain ⟨w5, hw5⟩ : ∃ w5, w5 = wc := ⟨_, rfl⟩
              subst hw5
              have hrx := HK.out.2.2.2.2.2.2
              have HB5 := hid (HK.out.1.kept P5 (by omega))
              have HX5 := hid (HK.out.2.2.2.2.1.kept P5 (by omega))
              have HA5 := hid (HK.out.2.2.1.kept P5 (by omega))
              have HBB5 := hid (HK.out.2.2.2.1.kept P5 (by omega))
              have K5 : Ext w w5 := Ext.only HK.out.2.2.2.2.2.1 P5 (by omega)
              have HR5 := hid hr5
              have con5 := C1.out _ K5
              have D5 : ∀ p : Addr, w5.drew.cell? p = w5.cell? p := fun p => rfl
              have lx5 := ldC_blk HX5.out.drew
              have S2 := hid (S1.out w5.drew HB5.out.drew K5.drew)
              have hkb3 : kb < w3.drew.heap.size := HK.out.1.lt
              have KD : Hid (∀ w6, Only kb w5.drew w6 → Only kb w5 w6) := hid (fun w6 k6 => (Only.of_ext ((Ext.refl w5).drew)).trans k6)
              have SM : Hid (∀ w6 ua, Only kb w5.drew w6 → FrO w6 w5.drew.heap.size ua Q.2 → Calls Try.prog 10 #[ua, u13] w6 fun e w' => e = .returned (.bool true) ∧ Ext w6 w') := hid (fun w6 ua k6 hua => by
                have hub6 := (HU.out.ext ((Ext.refl w5).drew)).only k6 hkb3
                rw [SS.out.1] at hub6
                exact same_c ua u13 Q.2 _ _ w6 hua hub6 SL.out)
              have RC : Hid (∀ w6, Only kb w5 w6 → w6.cell? ⟨rb, 31, none⟩ = some (.int .i64 Q.1.sent)) := hid (fun w6 k6 => by
                have h := (HR5.out.kept k6 (by omega)).cell 31 _ (Rm.c31 _)
                rw [SS.out.2.1.2.2.1] at h
                exact h)
              have hse2 : (Q.1.sent != Q.1.sent) = false := by simp
              clear hub hr5 P5 S1 HK
              go_upto_region 18 with fail
              go_cut [114] (fun u114 wx => u114 = .bool false ∧ Blk wx kb Q.1.cells MT ∧ Only kb w5 wx)
              case first =>
                go_region_with (first
                  | (go_at_call 9; (with_reducible refine (S2.out).mono ?_); rintro e w6 ⟨ua, rfl, hua, hb6, k6⟩; have SM6 := hid (SM.out w6 ua k6 hua); have kk6 := KD.out w6 k6; have c31 := RC.out w6 kk6; clear hua k6)
                  | (go_at_call 10; (with_reducible refine (SM6.out).mono ?_); rintro e w7 ⟨rfl, k7⟩; have kk7 := kk6.ext k7; have hb7 := k7.blk hb6; have c31' := RC.out w7 kk7)
                  | (go_at_call 20; (with_reducible refine (sent_c kb Q.1 _ hb7).mono ?_); rintro e w8 ⟨rfl, k8⟩; have kk8 := kk7.ext k8; have hb8 := k8.blk hb7; have c31'' := RC.out w8 kk8))
                all_goals
                  go_wp2_with fail
                  go_meet
                  case rel => exact ⟨rfl, hb8, kk8⟩
              case rest =>
                obtain ⟨rfl, hb6, k6⟩ := hcut
                have hr6 := HR5.out.kept k6 (by omega)
                have ha6 := HA5.out.kept k6 (by omega)
                have hbb6 := HBB5.out.kept k6 (by omega)
                have K6 : Ext w wc := Ext.only K5 k6 (by omega)
                obtain ⟨-, hpi', hqi', hsn'⟩ := SS.out
                have HPI := hid hpi'
                have HSN := hid hsn'
                have HK6 := hid (And.intro hb6 (And.intro hr6 (And.intro ha6 (And.intro hbb6 K6))))
                have hse3 : 0 ≤ Q.1.sent ∧ Q.1.sent ≤ ((i + 1 : Nat) : Int) := by have := hse.out; omega
                have HSE := hid hse3
                clear lx5 D5 con5 S2 SM RC KD hb6 hr6 ha6 hbb6 K6 k6 hsn' hse3
                cases hwk : Q.1.works
                · have hl1 : R.1.last = -1 := hpi'.2.1 hwk
                  have NX := hid (next_off kb Q.1 nw wc HK6.out.1 hwk)
                  have C0 : Hid (∀ w', Ext wc w' → w'.cell? ⟨rb, 0, none⟩ = some (.int .i64 (-1))) := hid (fun w' q => by have h := (q.blk HK6.out.2.1).cell 0 _ (Rm.c0 _); rw [hl1] at h; exact h)
                  clear hpi' hqi' hl1 hwk
                  go_wp2_with fail
                  (with_reducible refine (NX.out).mono ?_); rintro e w9 ⟨rfl, k9⟩
                  have c0 := C0.out w9 k9
                  go_wp2_with fail
                  go_roundg (gk - 1)
                  case rel => exact ⟨i + 1, nw, Q.1, R.1, by omega, by omega, by go_num, rfl, HN.out.2.1, by have := HN.out; omega, HPI, HSE, k9.blk HK6.out.1, k9.blk HK6.out.2.1, k9.blk HK6.out.2.2.1, k9.blk HK6.out.2.2.2.1, HK6.out.2.2.2.2.trans k9⟩
                  case measure => omega
                · obtain ⟨hl1, hx1⟩ := hpi'.1 hwk
                  obtain ⟨hq1, hq2⟩ := hqi' hwk
                  have hl0 := hpi'.2.2.2.1
                  have hl2 := hpi'.2.2.2.2
                  have NX := hid (next_on kb Q.1 nw wc HK6.out.1 hwk HN.out.2.1 HN.out.2.2.1 hl0 hl2 hq1 hq2)
                  have C0 : Hid (∀ w', Ext wc w' → w'.cell? ⟨rb, 0, none⟩ = some (.int .i64 Q.1.last)) := hid (fun w' q => by have h := (q.blk HK6.out.2.1).cell 0 _ (Rm.c0 _); rw [hl1] at h; exact h)
                  have C2' : Hid (∀ w', Ext wc w' → w'.cell? ⟨rb, 2, none⟩ = some (.int .i64 (Q.1.x.at 1))) := hid (fun w' q => by have h := (q.blk HK6.out.2.1).cell 2 _ (Rm.cx _ (j := 1) (by omega)); rw [hx1] at h; exact h)
                  generalize Q.1.x.at 1 = t at *
                  generalize hLL : Q.1.last = ql at *
                  have f0 : decide (0 ≤ ql) = true := by simpa using hl0
                  have hw1 : IntKind.i64.wrap (nw - ql) = nw - ql := IntWalk.i64_in _ (by have := HN.out; omega)
                  have hw2 : IntKind.i64.wrap (t - (nw - ql)) = t - (nw - ql) := IntWalk.i64_in _ (by have := HN.out; omega)
                  have f1 : ((t - (nw - ql)) != (t - (nw - ql))) = false := by simp
                  clear hpi' hqi' hl1 hx1 hwk
                  go_wp2_with fail
                  (with_reducible refine (NX.out).mono ?_); rintro e w9 ⟨rfl, k9⟩
                  have c0 := C0.out w9 k9
                  have c2 := C2'.out w9 k9
                  go_wp2_with fail
                  go_roundg (gk - 1)
                  case rel => exact ⟨i + 1, nw, Q.1, R.1, by omega, by omega, by go_num, rfl, HN.out.2.1, by have := HN.out; omega, HPI, HSE, k9.blk HK6.out.1, k9.blk HK6.out.2.1, k9.blk HK6.out.2.2.1, k9.blk HK6.out.2.2.2.1, HK6.out.2.2.2.2.trans k9⟩
                  case measure => omega

    · by_cases hi : i = l.length
      · subst hi
        have e1 : decide ((l.length : Int) < (l.length : Int)) = false := by simp
        clear hlt
        go_wp2_with fail
        (with_reducible refine (next_nil 0 _).mono ?_); rintro e w3 ⟨rfl, k3⟩
        have K3 := K.trans k3
        go_wp2_with fail
        (with_reducible refine (live_c _).mono ?_); rintro e w4 ⟨rfl, k4⟩
        have K4 := K3.trans k4
        go_wp2_with fail
        (with_reducible refine (table_c 1 _).mono ?_); rintro e w5 ⟨rfl, k5⟩
        have K5 := K4.trans k5
        have K5' : Ext w (w5.alloc (.cells #[.int .u8 1] U8)) := (by repeat (first | with_reducible exact Ext.refl _ | with_reducible assumption | with_reducible apply Ext.alloc | with_reducible apply Ext.drew | with_reducible apply Ext.drewN | (with_reducible refine Ext.set' ?_ (by first | omega | (simp only [World.size_alloc, World.size_setCell]; omega))) | (with_reducible refine Ext.trans ?_ (by with_reducible assumption)) | (with_reducible refine Ext.only ?_ (by with_reducible assumption) (by omega))))
        go_wp2_with fail
        (with_reducible refine (step_nil 0 true (tab 1) _ _).mono ?_); rintro e w6 ⟨rfl, k6⟩
        have K6 := K5'.trans k6
        go_wp2_with fail
        (with_reducible refine (sent_nil _).mono ?_); rintro e w7 ⟨rfl, k7⟩
        have K7 := K6.trans k7
        go_wp2_with fail
        (with_reducible refine (mfork_nil _).mono ?_); rintro e w8 ⟨rfl, k8⟩
        have K8 := K7.trans k8
        go_wp2_with fail
        go_ret
        exact ⟨rfl, K8⟩

      · obtain rfl : i = 60 := by omega
        have d : (60 : Int) < (l.length : Int) := by omega
        have d' : decide ((60 : Int) < (l.length : Int)) = true := by simpa using d
        clear hlt hi
        go_wp2_with fail
        (with_reducible refine (next_nil 0 _).mono ?_); rintro e w3 ⟨rfl, k3⟩
        have K3 := K.trans k3
        go_wp2_with fail
        (with_reducible refine (live_c _).mono ?_); rintro e w4 ⟨rfl, k4⟩
        have K4 := K3.trans k4
        go_wp2_with fail
        (with_reducible refine (table_c 1 _).mono ?_); rintro e w5 ⟨rfl, k5⟩
        have K5 := K4.trans k5
        have K5' : Ext w (w5.alloc (.cells #[.int .u8 1] U8)) := (by repeat (first | with_reducible exact Ext.refl _ | with_reducible assumption | with_reducible apply Ext.alloc | with_reducible apply Ext.drew | with_reducible apply Ext.drewN | (with_reducible refine Ext.set' ?_ (by first | omega | (simp only [World.size_alloc, World.size_setCell]; omega))) | (with_reducible refine Ext.trans ?_ (by with_reducible assumption)) | (with_reducible refine Ext.only ?_ (by with_reducible assumption) (by omega))))
        go_wp2_with fail
        (with_reducible refine (step_nil 0 true (tab 1) _ _).mono ?_); rintro e w6 ⟨rfl, k6⟩
        have K6 := K5'.trans k6
        go_wp2_with fail
        (with_reducible refine (sent_nil _).mono ?_); rintro e w7 ⟨rfl, k7⟩
        have K7 := K6.trans k7
        go_wp2_with fail
        (with_reducible refine (mfork_nil _).mono ?_); rintro e w8 ⟨rfl, k8⟩
        have K8 := K7.trans k8
        go_wp2_with fail
        go_ret
        exact ⟨rfl, K8⟩


theorem steps_entry (v0 v1 v2 : Value) (W : World) {base : Nat} (h0 : Rd Try.prog W CT v0.cells.toList) (o0 : Value.okWide Try.prog W .any base CT v0)
    (h1 : Rd Try.prog W CT v1.cells.toList) (o1 : Value.okWide Try.prog W .any base CT v1)
    (h2 : Rd Try.prog W 22 v2.cells.toList) (o2 : Value.okWide Try.prog W .any base 22 v2) :
    Calls Try.prog 5 #[v0, v1, v2] W fun e w' => e = .returned (.bool true) ∧ Below W.heap.size W w' := by
  obtain ⟨a, rfl⟩ := opn_ch h0 o0
  obtain ⟨b, rfl⟩ := opn_ch h1 o1
  obtain ⟨A, bl, o, l, c, rfl, hlc, _, _, _, hrow, hP⟩ := opn_rows Tk.cells Tk.ok 12 (by decide) Try.underlying22 (by kernel_rfl) dec_tick h2 o2
  exact steps_c a b A bl o c l W hrow hlc hP

end Go.Proofs.Ytbjfhdkgbhkodaa
