/- The law ChunkTakes. -/
import Derived.Test.YtpdomjinhbnmfaaTakesL
import Derived.Test.YtpdomjinhbnmfaaLv
import Derived.Deep.Cut
import Derived.Deep.CutRange
import Derived.Deep.DeepCutAuto
import Derived.Deep.RegionWith
set_option linter.unusedSimpArgs false
set_option linter.unusedVariables false
set_option linter.unnecessarySimpa false
set_option maxRecDepth 100000
namespace Go.Proofs.Ytpdomjinhbnmfaa
open Go.RowKit Go.Proofs.YtpdomjinhbnmfaaW.PrintWords
attribute [local go_sem] max2_max min2_min max_of_two min_of_two alL_v bdL_none bdL_one bxL_ln lnguard_eq lnguard_ne lnbin_eq lnbin_ne
attribute [local go_sem ↓] ldL_in bxL_in stL_in alL_in bdL_in cvS_in
attribute [local go_sem] alK_v bxK_v gUpon gStill
attribute [local go_sem ↓] ldK_in bxK_in stK_in alK_in
noncomputable def bdK (l : Array (Nat × Value)) : Sem Value := Instr.build KT l
theorem bdK_in (l : Array (Nat × Value)) : Instr.build KT l = bdK l := rfl
theorem bdK_v (n : Int) (w : World) : (bdK #[(2, .int .i64 n)]).run Try.prog w = .ok (Kd'.val ⟨.slice none 0 0, 0, n, false⟩) w := by kernel_rfl
theorem stK_new (w : World) (n : Int) : (stK (.pointer (some ⟨w.heap.size, 0, none⟩)) (Kd'.val ⟨.slice none 0 0, 0, n, false⟩)).run Try.prog (w.alloc (.cells Kd'.zero.cells KT)) = .ok () (w.alloc (.cells (Kd'.cells ⟨.slice none 0 0, 0, n, false⟩) KT)) := by
  rw [stK_put _ _ ⟨.slice none 0 0, 0, n, false⟩ Kd'.zero none 0 0 rfl (Blk.new w Kd'.zero.cells KT), set_row_last]
attribute [local go_sem] bdK_v stK_new
attribute [local go_sem ↓] bdK_in

/-- The memory of the two receivers. -/
structure MM (w : World) (g rb : Nat) (u : Value) (t : Td) (r : Rk) (wx : World) : Prop where
  tk : TdAt wx w.heap.size g t
  rq : Blk wx rb (Kd'.cells ⟨u, r.n, r.blk, r.last⟩) KT
  row : OwnR lnLay wx 0 u r.l
  ext : Ext w wx
  g0 : w.heap.size ≤ g
  r0 : w.heap.size ≤ rb
theorem Blk.only_ne {w : World} {a b : Nat} {cs ds : Array Value} {t s : TypeId} (h : Blk w a cs t) (k : Blk w b ds s) (hn : t ≠ s) : a ≠ b := by
  rintro rfl
  unfold Blk at h k
  rw [h] at k
  injection k with k
  injection k with _ k _
  exact hn k
theorem MM.more {w wx wy : World} {g rb : Nat} {u : Value} {t : Td} {r : Rk} (h : MM w g rb u t r wx) (k : Ext wx wy) : MM w g rb u t r wy :=
  ⟨h.tk.ext k, k.blk h.rq, h.row.below k, h.ext.trans k, h.g0, h.r0⟩
theorem own_keep {w w' : World} {B g : Nat} {v : Value} {l : List Ln} {cs : Array Value} {t : TypeId} (h : OwnR lnLay w B v l) (hb : Blk w g cs t) (ht : t ≠ LT) (k : ∀ i cs t, Blk w i cs t → t ≠ U8 → i ≠ g → Blk w' i cs t) : OwnR lnLay w' B v l := by
  have ha := h.apart hb ht
  obtain ⟨h0, h⟩ := h
  refine ⟨h0, ?_⟩
  rcases h with h | ⟨i, cap, cur, hv, hg, hh, r⟩
  · exact .inl h
  · exact .inr ⟨i, cap, cur, hv, hg, k i cur LT hh (by decide) (fun e => ha (by rw [hv, e]; rfl)), r⟩
theorem MM.take {w wx wy : World} {g rb : Nat} {u : Value} {t t' : Td} {r : Rk} (h : MM w g rb u t r wx) (ht : TdAt wy w.heap.size g t') (o : O8 w.heap.size g wx wy) : MM w g rb u t' r wy := by
  obtain ⟨v, hb, _⟩ := h.tk
  exact ⟨ht, o.keep _ _ _ h.rq (by decide) (h.rq.only_ne hb (by decide)), own_keep h.row hb (by decide) o.keep, Below.trans h.ext o.below, h.g0, h.r0⟩
theorem MM.ref {w wx wy : World} {g rb : Nat} {u u' : Value} {t : Td} {r r' : Rk} (h : MM w g rb u t r wx) (o : Only rb wx wy) (hr : Blk wy rb (Kd'.cells ⟨u', r'.n, r'.blk, r'.last⟩) KT) (hu : OwnR lnLay wy 0 u' r'.l) : MM w g rb u' t r' wy := by
  obtain ⟨v, hb, ho, hq⟩ := h.tk
  refine ⟨⟨v, hb.kept o (hb.only_ne h.rq (by decide)), ?_, hq⟩, hr, hu, Ext.only h.ext o h.r0, h.g0, h.r0⟩
  have ha := own_apart ho h.rq (by decide)
  obtain ⟨h0, hh⟩ := ho
  refine ⟨h0, ?_⟩
  rcases hh with hh | ⟨i, cap, cur, hv, hg, hi, q⟩
  · exact .inl hh
  · exact .inr ⟨i, cap, cur, hv, hg, Blk.kept (b := i) (cs := cur) (t := U8) hi o (fun e => ha (by rw [hv, e]; rfl)), q⟩

theorem rput_blk (r : Rk) (x : Ln) : (r.put x).1.blk = r.blk := by
  unfold Rk.put
  split
  · rfl
  · split
    · rfl
    · split
      · split <;> rfl
      · rfl

set_option maxHeartbeats 8000000 in
theorem ctakes_c (k : Int) (A : Option Addr) (bl o c : Nat) (l : List Cm) (spare : Int) (w : World) (hl : RowOf Cm.cells 9 w A bl o l) (hlc : l.length ≤ c) (hP : ∀ d ∈ l, d.ok) :
    Calls Try.prog 4 #[.int .i64 k, .slice A l.length c, .int .i64 spare] w fun e w' => e = .returned (.bool true) ∧ Ext w w' := by
  have LV := hid (fun w => clive_c w)
  by_cases hm : mayN k = true
  case neg =>
    have hm' : mayN k = false := by simpa using hm
    have NT := hid (newtake_no k w hm')
    have PN := hid (fun w => put_nil ⟨[1, 0, 0, 0, 0, 0, 0, 0], rfl⟩ w)
    have hk : decide (k < 1) = true ∨ (decide (k < 1) = false ∧ decide (127 < k) = true) := by
      unfold mayN at hm'
      by_cases h1 : k < 1
      · exact .inl (by simpa using h1)
      · refine .inr ⟨by simpa using h1, ?_⟩
        rw [decide_eq_true (show 1 ≤ k by omega)] at hm'
        simp at hm'
        simpa using hm'
    clear hm hm' hl hP
    rcases hk with e1 | ⟨e1, e2⟩
    all_goals
      go_enter Try.func4, Try.ntmps4
      go_wp2_with fail
      (with_reducible refine (NT.out).mono ?_); rintro e w1 ⟨rfl, rfl⟩
      go_wp2_with fail
      (with_reducible refine (PN.out _).mono ?_); rintro e w2 ⟨rfl, k2⟩
      have K2 := hid k2
      clear k2
      go_wp2_with fail
      (with_reducible refine (tend_nil _ _).mono ?_); rintro e w3 ⟨rfl, rfl⟩
      go_wp2_with fail
      (with_reducible refine (tack_nil _).mono ?_); rintro e w3 ⟨rfl, rfl⟩
      go_wp2_with fail
      (with_reducible refine (LV.out _).mono ?_); rintro e w3 ⟨rfl, k3⟩
      have K3 := hid (K2.out.trans k3)
      clear k3
      go_wp2_with fail
      (with_reducible refine (whole_nil _).mono ?_); rintro e w4 ⟨rfl, rfl⟩
      go_wp2_with fail
      go_ret
      exact ⟨rfl, K3.out⟩
  have HP := hid hP
  have hl0 := hl.1
  have NT := hid (newtake_c k w hm)
  have hk1 : 1 ≤ k ∧ k ≤ 127 := by
    unfold mayN at hm
    simp only [Bool.and_eq_true, decide_eq_true_iff] at hm
    exact hm
  have e1 : decide (k < 1) = false := by simp; omega
  have e2 : decide (127 < k) = false := by simp; omega
  have HC0 := hid (CI.start hm)
  clear hP hm
  go_enter Try.func4, Try.ntmps4
  go_wp2_with fail
  (with_reducible refine (NT.out).mono ?_); rintro e w1 ⟨g, rfl, ht, hg, k1⟩
  have E1 : Ext w1 (w1.alloc (.cells (Kd'.cells ⟨.slice none 0 0, 0, k, false⟩) KT)) := (by repeat (first | with_reducible exact Ext.refl _ | with_reducible assumption | with_reducible apply Ext.alloc | with_reducible apply Ext.drew | with_reducible apply Ext.drewN | (with_reducible refine Ext.set' ?_ (by first | omega | (simp only [World.size_alloc, World.size_setCell]; omega))) | (with_reducible refine Ext.trans ?_ (by with_reducible assumption)) | (with_reducible refine Ext.only ?_ (by with_reducible assumption) (by omega))))
  have HM0 := hid ((⟨ht.ext E1, Blk.new w1 _ KT, OwnR.nil _ _, k1.trans E1, hg, k1.le⟩ : MM w g w1.heap.size (.slice none 0 0) ⟨k, 0, [], false⟩ ⟨[], 0, k, false⟩ (w1.alloc (.cells (Kd'.cells ⟨.slice none 0 0, 0, k, false⟩) KT))))
  obtain ⟨rb, hrb⟩ : ∃ q, Is w1.heap.size q := ⟨_, Is.refl _⟩
  rw [hrb.eq] at HM0
  clear ht hg k1 NT E1
  go_wp2_with fail
  rw [hrb.eq]
  go_loopg [16] 40 (fun gg u16 wr => ∃ (i : Nat) (u : Value) (t : Td) (r : Rk), i + gg = 40 ∧ i ≤ l.length ∧ u16 = .int .i64 (i : Int) ∧ Is r.blk k ∧ Hid (CI t r) ∧ Hid (MM w g rb u t r wr))
  case atStart => exact ⟨0, _, _, _, rfl, by omega, rfl, Is.refl _, HC0, HM0⟩
  case round =>
    clear HM0 HC0
    obtain ⟨i, u, t, r, hig, hil, rfl, hrk, HCI, HMM⟩ := hrel
    by_cases hlt : i < l.length ∧ i < 40
    · obtain ⟨hlt, h40⟩ := hlt
      have e1 : decide ((i : Int) < (l.length : Int)) = true := by simpa using hlt
      have e2 : decide ((i : Int) < 40) = true := by simp; omega
      have i0 : (0 : Int) ≤ (i : Int) := by omega
      have i1 : (i : Int) < (l.length : Int) := by omega
      obtain ⟨rfl, hcell⟩ := hl.at HMM.out.ext hlt
      have HPi := hid (HP.out l[i] (List.getElem_mem _))
      have HR := hid (hl.at (Ext.refl w) hlt).2
      generalize l[i] = d at *
      have c0 : wr.cell? ⟨bl, o + i * 9, none⟩ = some (.bool d.ack) := hcell 0 _ rfl
      have HL : Hid (∀ w', Ext w w' → (ldL (.pointer (some ⟨bl, o + i * 9 + 1, none⟩))).run Try.prog w' = .ok d.x.val w') := hid (fun w' q => ldL_mid (fun j v hv => by
        refine q.cell ?_
        have := HR.out (1 + j) v (by unfold Cm.cells; rw [Nat.add_comm 1 j, List.getElem?_cons_succ]; simpa [Ln.cells] using hv)
        rwa [← Nat.add_assoc] at this))
      clear hcell
      obtain ⟨q, hq⟩ : ∃ q, d.ack = q := ⟨_, rfl⟩
      rw [hq] at c0
      clear hq
      go_upto_if 95 with fail
      go_cut [16] from 81 to 144 (fun u16 wx => u16 = .int .i64 (i : Int) ∧ ∃ (u' : Value) (t' : Td) (r' : Rk), Is r'.blk k ∧ Hid (CI t' r') ∧ Hid (MM w g rb u' t' r' wx))
      case first =>
        cases q
        · have HD := hid (HPi.out : Byt d.x.l)
          obtain ⟨A1, c1, hu⟩ := HMM.out.row.form
          have D : ∀ p : Addr, wr.drew.cell? p = wr.cell? p := fun p => rfl
          have lk : (ldK (.pointer (some ⟨rb, 0, none⟩))).run Try.prog wr.drew = .ok (Kd'.val ⟨u, r.n, r.blk, r.last⟩) wr.drew := ldK_blk HMM.out.rq.drew
          have ll := HL.out wr.drew (HMM.out.ext.drew)
          have RP := hid (rput_c u r d.x wr.drew (HMM.out.row.below (Ext.refl wr).drew) HD.out (by have := HCI.out.len; omega) ⟨HCI.out.n0, by have := HCI.out.n1; have := HCI.out.k1; omega⟩)
          have HC2 := hid (HCI.out.put d.x HD.out)
          have hb2 : Is (r.put d.x).1.blk k := Is.mk ((rput_blk r d.x).trans hrk.eq)
          have hn2 : 0 ≤ t.n ∧ t.n ≤ 1000 := by have := HCI.out.n; have := HCI.out.n0; have := HCI.out.n1; have := HCI.out.k1; omega
          obtain ⟨R, hR⟩ : ∃ R, Is (r.put d.x) R := ⟨_, Is.refl _⟩
          obtain ⟨T, hT⟩ : ∃ T, Is (t.put d.x) T := ⟨_, Is.refl _⟩
          rw [hR.eq] at RP hb2
          rw [hR.eq, hT.eq] at HC2
          have MD := hid (HMM.out.more (show Ext wr wr.drew from (Ext.refl wr).drew))
          have STF := hid (fun w4 u4 (k4 : Ext wr.drew w4) (ho4 : OwnR lnLay w4 0 u4 R.1.l) => (by
            have hm4 := MD.out.more k4
            obtain ⟨A4, c4, rfl⟩ := ho4.form
            have o4 := putK_only w4 rb (Kd'.cells ⟨.slice A4 R.1.l.length c4, R.1.n, R.1.blk, R.1.last⟩)
            exact ⟨stK_put w4 rb ⟨.slice A4 R.1.l.length c4, R.1.n, R.1.blk, R.1.last⟩ _ A4 _ c4 rfl hm4.rq, hm4.ref o4 (putK_blk ⟨.slice A4 R.1.l.length c4, R.1.n, R.1.blk, R.1.last⟩ hm4.rq) (own_only ho4 hm4.rq (by decide) o4)⟩ :
            (stK (.pointer (some ⟨rb, 0, none⟩)) (Kd'.val ⟨u4, R.1.n, R.1.blk, R.1.last⟩)).run Try.prog w4 = .ok () (w4.setRow rb (Kd'.cells ⟨u4, R.1.n, R.1.blk, R.1.last⟩)) ∧ MM w g rb u4 t R.1 (w4.setRow rb (Kd'.cells ⟨u4, R.1.n, R.1.blk, R.1.last⟩))))
          clear hR MD hu
          go_wp2_with fail
          go_region_with (go_at_call 24; (with_reducible refine (RP.out).mono ?_); rintro e w4 ⟨u4, rfl, ho4, k4⟩; obtain ⟨st4, q1⟩ := STF.out w4 u4 k4 ho4; have HM4 := hid q1; clear q1 k4 ho4)
          all_goals
            generalize w4.setRow rb (Kd'.cells ⟨u4, R.1.n, R.1.blk, R.1.last⟩) = w5 at *
            have ll5 := HL.out w5 HM4.out.ext
            have CB := hid (put_c w.heap.size g t d.x w5 HM4.out.tk HD.out HM4.out.g0 HM4.out.ext.le hn2)
            rw [hT.eq, HC2.out.2] at CB
            have f1 : (R.2.1 != R.2.1) = false := by simp
            have f1' : (R.2.1 == R.2.1) = true := by simp
            have f2 : (R.2.2 != R.2.2) = false := by simp
            have f2' : (R.2.2 == R.2.2) = true := by simp
            clear STF RP D lk ll st4
            go_wp2_with fail
            (with_reducible refine (CB.out).mono ?_); rintro e w6 ⟨rfl, ht, o6⟩
            have HM6 := hid (HM4.out.take ht o6)
            clear ht o6
            go_wp2_with fail
            go_meet
            case rel => exact ⟨rfl, u4, T.1, R.1, hb2, hid HC2.out.1, HM6⟩
        · have TA := hid (tack_c w.heap.size g t wr HMM.out.tk HMM.out.g0 HMM.out.ext.le)
          have hn := HCI.out.n
          have hs := HCI.out.size
          rw [hn, hs, hrk.eq] at TA
          have f1 : (r.n != r.n) = false := by simp
          have f2 : (k != k) = false := by simp
          have f1' : (r.n == r.n) = true := by simp
          have f2' : (k == k) = true := by simp
          have HAK := hid HCI.out.ack
          rw [hs, hrk.eq] at HAK
          clear hn hs
          go_wp2_with fail
          (with_reducible refine (TA.out).mono ?_); rintro e w3 ⟨rfl, ht, o3⟩
          have HM3 := hid (HMM.out.take ht o3)
          have cn : w3.cell? ⟨rb, 1, none⟩ = some (.int .i64 r.n) := HM3.out.rq.cell 1 _ rfl
          have zn := HM3.out.rq.free 1
          have oo := (Only.refl rb w3).set 1 (.int .i64 0)
          have HM4 := hid (HM3.out.ref (u' := u) (r' := ⟨r.l, 0, r.blk, r.last⟩) oo (HM3.out.rq.set 1 _) (own_only HM3.out.row HM3.out.rq (by decide) oo))
          rw [hrk.eq] at HM4
          clear ht o3 oo
          go_wp2_with fail
          go_meet
          case rel => exact ⟨rfl, u, _, _, Is.refl _, HAK, HM4⟩
      case rest =>
        obtain ⟨rfl, u5, t5, r5, hk5, HC5, HM5⟩ := hcut
        obtain ⟨w5, hw5⟩ : ∃ w5, w5 = wc := ⟨_, rfl⟩
        subst hw5
        have CW := hid (fun y : After w5 => (whole_c g r5.last y.wd (by
          obtain ⟨v, hb, _⟩ := HM5.out.tk
          have : y.wd.cell? ⟨g, 3, none⟩ = some (.bool t5.last) := y.ext.cell (hb.cell 3 _ rfl)
          rw [HC5.out.last] at this
          exact this)).mono (fun e w' h => (⟨h.1, h.2 ▸ Ext.refl _⟩ : e = .returned (.bool r5.last) ∧ Ext y.wd w')))
        have R3 := After.cell (show w5.cell? ⟨rb, 3, none⟩ = some (.bool r5.last) from HM5.out.rq.cell 3 _ rfl)
        have f1 : (r5.last != r5.last) = false := by simp
        have f1' : (r5.last == r5.last) = true := by simp
        obtain ⟨ql, hql⟩ : ∃ q, Is r5.last q := ⟨_, Is.refl _⟩
        rw [hql.eq] at CW R3 f1 f1'
        clear c0 HMM HCI hrk
        go_wp2_with fail
        refine wp_region_go (sp := spOf (R := Ext) [(1, Told.val (R := Ext) (.bool ql))]) (C := fun w' => ∃ n : After w5, w' = n.wd) (R := Ext) (by kernel_rfl) (by kernel_rfl) (spOf_mono _) (After.drew _) ?_
        repeat (first | ((with_reducible refine go_nil ?_)) | (refine go_skip' (by rfl) ?_; (try simp only [Act.put, List.setIfInBounds_toArray, List.set_cons_zero, List.set_cons_succ])) | (refine go_quiet' (by rfl) (by rfl) (by rfl) ?_; intro K hK; go_big_quiet_op; go_big_quiet_on) | (refine go_nilcheck _ _ rfl rfl (by rfl) (by rfl) ?_; (try simp only [Act.put, List.setIfInBounds_toArray, List.set_cons_zero, List.set_cons_succ])))
        (refine go_act (by rfl) (by rfl) ?_ ?_; (focus (intro w' hC hM; obtain ⟨x, rfl⟩ := hC; go_simp; (with_reducible refine Calls.told (CW.out x)); done)); intro v hv; obtain ⟨_, _, hv, _⟩ := hv; obtain rfl := hv; (try simp only [Act.put, List.setIfInBounds_toArray, List.set_cons_zero, List.set_cons_succ]))
        repeat (first | ((with_reducible refine go_nil ?_)) | (refine go_skip' (by rfl) ?_; (try simp only [Act.put, List.setIfInBounds_toArray, List.set_cons_zero, List.set_cons_succ])) | (refine go_quiet' (by rfl) (by rfl) (by rfl) ?_; intro K hK; go_big_quiet_op; go_big_quiet_on) | (refine go_nilcheck _ _ rfl rfl (by rfl) (by rfl) ?_; (try simp only [Act.put, List.setIfInBounds_toArray, List.set_cons_zero, List.set_cons_succ])))
        intro wz hC hall
        obtain ⟨y, rfl⟩ := hC
        have HMZ := hid (HM5.out.more y.ext)
        clear hall CW R3
        go_wp2_with fail
        go_roundg (gk - 1)
        case rel => exact ⟨i + 1, u5, t5, r5, by omega, by omega, by go_num, hk5, HC5, HMZ⟩
        case measure => omega
    · by_cases hi : i = l.length
      · subst hi
        have e1 : decide ((l.length : Int) < (l.length : Int)) = false := by simp
        have LV := hid (fun w => clive_c w)
        have HE := HCI.out
        have hbl := HE.b
        by_cases hq : r.last = false ∨ spare < 0 ∨ 7 < spare
        · have TE := hid (fun w' (k : Ext wr w') => tend_no g r.last spare w' (by obtain ⟨v, hb, _⟩ := HMM.out.tk; have : w'.cell? ⟨g, 3, none⟩ = some (.bool t.last) := k.cell (hb.cell 3 _ rfl); rw [HE.last] at this; exact this) hq)
          have RE := hid (fun w' => rtend_no u r.n r.blk spare r.last w' hq)
          have lk := ldK_blk HMM.out.rq
          have s0 := fun (w' : World) => (Bs.nil w').str
          obtain ⟨C, hC⟩ : ∃ C : Int, (if r.last = false then (134217762 : Int) else 101122064) = C := ⟨_, rfl⟩
          rw [hC] at TE RE
          have K := hid HMM.out.ext
          clear hq hC HMM HCI HE hbl hlt
          go_wp2_with fail
          (with_reducible refine (TE.out _ (Ext.refl _)).mono ?_); rintro e w3 ⟨rfl, rfl⟩
          go_wp2_with fail
          (with_reducible refine (RE.out _).mono ?_); rintro e w4 ⟨rfl, k4⟩
          have K4 := hid (K.out.trans k4)
          clear k4
          go_wp2_with fail
          (with_reducible refine (LV.out _).mono ?_); rintro e w5 ⟨rfl, k5⟩
          have K5 := hid (K4.out.trans k5)
          clear k5
          go_wp2_with fail
          go_ret
          exact ⟨rfl, K5.out⟩
        · simp only [not_or] at hq
          have hlast : r.last = true := by simpa using hq.1
          obtain ⟨sp, rfl⟩ := Int.eq_ofNat_of_zero_le (show 0 ≤ spare by omega)
          have hne := HE.ne hlast
          have hfl := flatB_len r.l
          have TE := hid (fun w' (k : Ext wr w') => tend_c w.heap.size g t sp w' (HMM.out.tk.ext k) (by rw [HE.last]; exact hlast) (by omega) (by rw [hbl, hfl]; omega))
          have RE := hid (fun w' (k : Ext wr w') => rtend_c u r.l r.n r.blk sp w' (HMM.out.row.below k) HE.byt (by have := HE.len; omega) (by omega) (by omega))
          have lk := ldK_blk HMM.out.rq
          rw [hlast] at lk
          rw [hbl] at TE
          have BYT := hid (show Byt ((flatB r.l).take ((flatB r.l).length - sp)) from fun z hz => flatB_byt HE.byt z (List.mem_of_mem_take hz))
          generalize (flatB r.l).take ((flatB r.l).length - sp) = V at *
          have f1 : ((mkS V).toList == (mkS V).toList) = true := by simp
          have K := hid HMM.out.ext
          have LKX := hid (fun w' (k : Ext wr w') => (by have := ldK_blk (k.blk HMM.out.rq); rw [hlast] at this; exact this : (ldK (.pointer (some ⟨rb, 0, none⟩))).run Try.prog w' = .ok (Kd'.val ⟨u, r.n, r.blk, true⟩) w'))
          clear hq hlast hne hfl HMM HCI HE hbl hlt
          go_wp2_with fail
          (with_reducible refine (TE.out _ (Ext.refl _)).mono ?_); rintro e w3 ⟨u3, rfl, ho3, k3⟩
          have lk3 := LKX.out w3 k3
          have RE3 := hid (RE.out w3 k3)
          have HB3 := hid (Bs.own ho3 BYT.out)
          have K3 := hid (K.out.trans k3)
          obtain ⟨A3, c3, hu3⟩ := HB3.out.form
          subst hu3
          clear ho3 k3 lk
          go_wp2_with fail
          (with_reducible refine (RE3.out).mono ?_); rintro e w4 ⟨u4, rfl, hb4, k4⟩
          have HB3' := hid (HB3.out.ext k4)
          have HB4 := hid hb4
          have K4 := hid (K3.out.trans k4)
          obtain ⟨A4, c4, hu4⟩ := HB4.out.form
          subst hu4
          clear k4 hb4 lk3
          go_wp2_with fail
          (with_reducible refine (LV.out _).mono ?_); rintro e w5 ⟨rfl, k5⟩
          have s3 := (HB3'.out.ext k5).str
          have s4 := (HB4.out.ext k5).str
          have K5 := hid (K4.out.trans k5)
          clear k5
          go_wp2_with fail
          go_ret
          exact ⟨rfl, K5.out⟩
      · obtain rfl : i = 40 := by omega
        have d : (40 : Int) < (l.length : Int) := by omega
        have d' : decide ((40 : Int) < (l.length : Int)) = true := by simpa using d
        have LV := hid (fun w => clive_c w)
        have HE := HCI.out
        have hbl := HE.b
        by_cases hq : r.last = false ∨ spare < 0 ∨ 7 < spare
        · have TE := hid (fun w' (k : Ext wr w') => tend_no g r.last spare w' (by obtain ⟨v, hb, _⟩ := HMM.out.tk; have : w'.cell? ⟨g, 3, none⟩ = some (.bool t.last) := k.cell (hb.cell 3 _ rfl); rw [HE.last] at this; exact this) hq)
          have RE := hid (fun w' => rtend_no u r.n r.blk spare r.last w' hq)
          have lk := ldK_blk HMM.out.rq
          have s0 := fun (w' : World) => (Bs.nil w').str
          obtain ⟨C, hC⟩ : ∃ C : Int, (if r.last = false then (134217762 : Int) else 101122064) = C := ⟨_, rfl⟩
          rw [hC] at TE RE
          have K := hid HMM.out.ext
          clear hq hC HMM HCI HE hbl hlt
          go_wp2_with fail
          (with_reducible refine (TE.out _ (Ext.refl _)).mono ?_); rintro e w3 ⟨rfl, rfl⟩
          go_wp2_with fail
          (with_reducible refine (RE.out _).mono ?_); rintro e w4 ⟨rfl, k4⟩
          have K4 := hid (K.out.trans k4)
          clear k4
          go_wp2_with fail
          (with_reducible refine (LV.out _).mono ?_); rintro e w5 ⟨rfl, k5⟩
          have K5 := hid (K4.out.trans k5)
          clear k5
          go_wp2_with fail
          go_ret
          exact ⟨rfl, K5.out⟩
        · simp only [not_or] at hq
          have hlast : r.last = true := by simpa using hq.1
          obtain ⟨sp, rfl⟩ := Int.eq_ofNat_of_zero_le (show 0 ≤ spare by omega)
          have hne := HE.ne hlast
          have hfl := flatB_len r.l
          have TE := hid (fun w' (k : Ext wr w') => tend_c w.heap.size g t sp w' (HMM.out.tk.ext k) (by rw [HE.last]; exact hlast) (by omega) (by rw [hbl, hfl]; omega))
          have RE := hid (fun w' (k : Ext wr w') => rtend_c u r.l r.n r.blk sp w' (HMM.out.row.below k) HE.byt (by have := HE.len; omega) (by omega) (by omega))
          have lk := ldK_blk HMM.out.rq
          rw [hlast] at lk
          rw [hbl] at TE
          have BYT := hid (show Byt ((flatB r.l).take ((flatB r.l).length - sp)) from fun z hz => flatB_byt HE.byt z (List.mem_of_mem_take hz))
          generalize (flatB r.l).take ((flatB r.l).length - sp) = V at *
          have f1 : ((mkS V).toList == (mkS V).toList) = true := by simp
          have K := hid HMM.out.ext
          have LKX := hid (fun w' (k : Ext wr w') => (by have := ldK_blk (k.blk HMM.out.rq); rw [hlast] at this; exact this : (ldK (.pointer (some ⟨rb, 0, none⟩))).run Try.prog w' = .ok (Kd'.val ⟨u, r.n, r.blk, true⟩) w'))
          clear hq hlast hne hfl HMM HCI HE hbl hlt
          go_wp2_with fail
          (with_reducible refine (TE.out _ (Ext.refl _)).mono ?_); rintro e w3 ⟨u3, rfl, ho3, k3⟩
          have lk3 := LKX.out w3 k3
          have RE3 := hid (RE.out w3 k3)
          have HB3 := hid (Bs.own ho3 BYT.out)
          have K3 := hid (K.out.trans k3)
          obtain ⟨A3, c3, hu3⟩ := HB3.out.form
          subst hu3
          clear ho3 k3 lk
          go_wp2_with fail
          (with_reducible refine (RE3.out).mono ?_); rintro e w4 ⟨u4, rfl, hb4, k4⟩
          have HB3' := hid (HB3.out.ext k4)
          have HB4 := hid hb4
          have K4 := hid (K3.out.trans k4)
          obtain ⟨A4, c4, hu4⟩ := HB4.out.form
          subst hu4
          clear k4 hb4 lk3
          go_wp2_with fail
          (with_reducible refine (LV.out _).mono ?_); rintro e w5 ⟨rfl, k5⟩
          have s3 := (HB3'.out.ext k5).str
          have s4 := (HB4.out.ext k5).str
          have K5 := hid (K4.out.trans k5)
          clear k5
          go_wp2_with fail
          go_ret
          exact ⟨rfl, K5.out⟩

theorem ctakes_entry (v0 v1 v2 : Value) (W : World) {base : Nat} (h0 : Rd Try.prog W 3 v0.cells.toList) (o0 : Value.okWide Try.prog W .any base 3 v0)
    (h1 : Rd Try.prog W 48 v1.cells.toList) (o1 : Value.okWide Try.prog W .any base 48 v1)
    (h2 : Rd Try.prog W 3 v2.cells.toList) (o2 : Value.okWide Try.prog W .any base 3 v2) :
    Calls Try.prog 4 #[v0, v1, v2] W fun e w' => e = .returned (.bool true) ∧ Below W.heap.size W w' := by
  obtain ⟨k, rfl, _⟩ := opn_int Try.underlying3 h0 o0
  obtain ⟨sp, rfl, _⟩ := opn_int Try.underlying3 h2 o2
  obtain ⟨A, bl, o, l, c, rfl, hlc, _, _, _, hrow, hP⟩ := opn_rows Cm.cells Cm.ok 9 (by decide) Try.underlying48 (by kernel_rfl) dec_came h1 o1
  exact ctakes_c k A bl o c l sp W hrow hlc hP

end Go.Proofs.Ytpdomjinhbnmfaa
