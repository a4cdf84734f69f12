/- The reference's step; Next. -/
import Derived.Test.YtbjfhdkgbhkodaaPTab
set_option linter.unusedSimpArgs false
set_option linter.unusedVariables false
set_option linter.unnecessarySimpa false
namespace Go.Proofs.Ytbjfhdkgbhkodaa
open Go.RowKit Go.Proofs.YtbjfhdkgbhkodaaW.PrintWords
attribute [local go_sem] max2_max min2_min max_of_two min_of_two bxF_fr stF_fr stF_fr2 stF_put ldF_put ldV_put ldF_new guard_eq guard_ne bin_eq bin_ne alF_fr bdF_none bdF_ask bdF_len bdF_dat ext_drew' ext_alloc
attribute [local go_sem ↓] ldF_in ldV_in bxF_in stF_in cvS_in alF_in bdF_in ixS_in
attribute [local go_sem] bxC_ch chguard_eq chguard_ne chbin_eq chbin_ne ldC_new bxM_v alM_v stM_put stM_new bxR_v alR_v stR_put stR_new ldM_new ldR_new bdM_none bdR_v stC_mk gUpon gStill
attribute [local go_sem ↓] ldC_in bxC_in stC_in ldM_in bxM_in stM_in alM_in ldR_in bxR_in stR_in alR_in bdM_in bdR_in

theorem step_nil (now : Int) (on : Bool) (x : Ch) (v : Value) (w : World) : Calls Try.prog 9 #[.pointer none, .int .i64 now, .bool on, x.val, v] w fun e w' => e = .returned (.slice none 0 0) ∧ Ext w w' := by
  have K0 : Ext w (w.alloc (.cells x.cells CT)) := (by repeat (first | with_reducible exact Ext.refl _ | with_reducible assumption | with_reducible apply Ext.alloc | with_reducible apply Ext.drew | with_reducible apply Ext.drewN | (with_reducible refine Ext.set' ?_ (by first | omega | (simp only [World.size_alloc, World.size_setCell]; omega))) | (with_reducible refine Ext.trans ?_ (by with_reducible assumption)) | (with_reducible refine Ext.only ?_ (by with_reducible assumption) (by omega))))
  go_enter Try.func9, Try.ntmps9
  go_wp2_with fail
  go_ret
  exact ⟨rfl, K0⟩
theorem next_nil (now : Int) (w : World) : Calls Try.prog 21 #[.pointer none, .int .i64 now] w fun e w' => e = .returned (.tuple #[.int .i64 0, .bool false]) ∧ Ext w w' := by
  go_enter Try.func21, Try.ntmps21
  go_wp2_with fail
  go_ret2
  exact ⟨rfl, (by repeat (first | with_reducible exact Ext.refl _ | with_reducible assumption | with_reducible apply Ext.alloc | with_reducible apply Ext.drew | with_reducible apply Ext.drewN | (with_reducible refine Ext.set' ?_ (by first | omega | (simp only [World.size_alloc, World.size_setCell]; omega))) | (with_reducible refine Ext.trans ?_ (by with_reducible assumption)) | (with_reducible refine Ext.only ?_ (by with_reducible assumption) (by omega))))⟩
theorem next_off (b : Nat) (k : Mk) (now : Int) (w : World) (h : Blk w b k.cells MT) (hk : k.works = false) : Calls Try.prog 21 #[.pointer (some ⟨b, 0, none⟩), .int .i64 now] w fun e w' => e = .returned (.tuple #[.int .i64 0, .bool false]) ∧ Ext w w' := by
  have c0 := h.cell 0 _ k.c0
  rw [hk] at c0
  go_enter Try.func21, Try.ntmps21
  go_wp2_with fail
  go_ret2
  exact ⟨rfl, (by repeat (first | with_reducible exact Ext.refl _ | with_reducible assumption | with_reducible apply Ext.alloc | with_reducible apply Ext.drew | with_reducible apply Ext.drewN | (with_reducible refine Ext.set' ?_ (by first | omega | (simp only [World.size_alloc, World.size_setCell]; omega))) | (with_reducible refine Ext.trans ?_ (by with_reducible assumption)) | (with_reducible refine Ext.only ?_ (by with_reducible assumption) (by omega))))⟩
set_option maxRecDepth 100000 in
set_option maxHeartbeats 1000000 in
theorem next_on (b : Nat) (k : Mk) (now : Int) (w : World) (h : Blk w b k.cells MT) (hk : k.works = true) (h0 : 0 ≤ now) (h1 : now ≤ 2147483647) (h2 : 0 ≤ k.last) (h3 : k.last ≤ now) (h4 : now - k.last ≤ k.x.at 1) (h5 : k.x.at 1 ≤ 65535) :
    Calls Try.prog 21 #[.pointer (some ⟨b, 0, none⟩), .int .i64 now] w fun e w' => e = .returned (.tuple #[.int .i64 (k.x.at 1 - (now - k.last)), .bool true]) ∧ Ext w w' := by
  have c0 := h.cell 0 _ k.c0
  rw [hk] at c0
  have TK := hid (fun w => tick_c now w)
  have htk : tkB now = true := by unfold tkB; simp [h0, h1]
  rw [htk] at TK
  have H31 := hid (fun w' (q : Ext w w') => (q.blk h).cell 31 _ k.c31)
  have H2 : Hid (∀ w', Ext w w' → w'.cell? ⟨b, 2, none⟩ = some (.int .i64 (k.x.at 1))) := hid (fun w' (q : Ext w w') => (q.blk h).cell 2 _ (k.cx (j := 1) (by omega)))
  have hw1 : IntKind.i64.wrap (now - k.last) = now - k.last := IntWalk.i64_in _ (by omega)
  have hw2 : IntKind.i64.wrap (k.x.at 1 - (now - k.last)) = k.x.at 1 - (now - k.last) := IntWalk.i64_in _ (by omega)
  have hm1 : max 0 (now - k.last) = now - k.last := by omega
  have hm2 : max 0 (k.x.at 1 - (now - k.last)) = k.x.at 1 - (now - k.last) := by omega
  clear h htk
  generalize k.x.at 1 = t at *
  generalize k.last = last at *
  go_enter Try.func21, Try.ntmps21
  go_wp2_with fail
  (with_reducible refine (TK.out _).mono ?_); rintro e w1 ⟨rfl, k1⟩
  have c31 := H31.out _ k1
  have c2 := H2.out _ k1
  have D : ∀ p : Addr, w1.drew.cell? p = w1.cell? p := fun p => rfl
  have K1 : Ext w w1.drew := k1.drew
  clear k1 c0
  go_wp2_with fail
  go_region
  go_wp2_with fail
  exact bodyPost_ret (v := .tuple #[.int .i64 (t - (now - last)), .bool true]) (by simp [results, Try.results21, go_sem, *]) rfl ⟨rfl, K1⟩

/-- Must a pair go now, says the reference. -/
def Rm.due (r : Rm) (now : Int) (x : Ch) : Bool := !(decide (0 ≤ r.last) && (chEq r.x x && decide (now - r.last < x.at 1)))
def Rm.step (r : Rm) (now : Int) (on : Bool) (x : Ch) (l : List Int) : Rm × List Fr :=
  if tkB now = false then (r, []) else if goes on x l = false then (⟨-1, r.x, r.sent⟩, [])
  else if r.due now x = false then (r, []) else (⟨now, x, r.sent + 1⟩, two x l)

set_option maxRecDepth 100000 in
set_option maxHeartbeats 4000000 in
theorem rstep_c (r : Rm) (now : Int) (on : Bool) (x : Ch) (v : Value) (l : List Int) (w : World) (hv : Bs w v l) (hl0 : -1 ≤ r.last) (hl1 : r.last ≤ 2147483647) (hs0 : 0 ≤ r.sent) (hs1 : r.sent ≤ 1000000) :
    Calls Try.prog 19 #[r.val, .int .i64 now, .bool on, x.val, v] w fun e w' => ∃ u, e = .returned (.tuple #[(r.step now on x l).1.val, u]) ∧ FrO w' w.heap.size u (r.step now on x l).2 ∧ Ext w w' := by
  have HV := hid hv
  obtain ⟨A, bl, o, cc, rfl, hlc, hrow, hby⟩ := hv
  have hl2 := hrow.1
  clear hrow hlc
  have E0 := Ext.refl (((w.alloc (.cells r.cells RT)).alloc (.cells x.cells CT)).alloc (.cells Rm.zero.cells RT))
  have K0 : Ext w (((w.alloc (.cells r.cells RT)).alloc (.cells x.cells CT)).alloc (.cells Rm.zero.cells RT)) := (by repeat (first | with_reducible exact Ext.refl _ | with_reducible assumption | with_reducible apply Ext.alloc | with_reducible apply Ext.drew | with_reducible apply Ext.drewN | (with_reducible refine Ext.set' ?_ (by first | omega | (simp only [World.size_alloc, World.size_setCell]; omega))) | (with_reducible refine Ext.trans ?_ (by with_reducible assumption)) | (with_reducible refine Ext.only ?_ (by with_reducible assumption) (by omega))))
  have b5 : Blk (((w.alloc (.cells r.cells RT)).alloc (.cells x.cells CT)).alloc (.cells Rm.zero.cells RT)) w.heap.size r.cells RT := ((Blk.new w r.cells RT).alloc _).alloc _
  have b8 : Blk (((w.alloc (.cells r.cells RT)).alloc (.cells x.cells CT)).alloc (.cells Rm.zero.cells RT)) (w.heap.size + 1) x.cells CT := by
    have := (Blk.new (w.alloc (.cells r.cells RT)) x.cells CT).alloc (.cells Rm.zero.cells RT)
    rwa [World.size_alloc] at this
  have b10 : Blk (((w.alloc (.cells r.cells RT)).alloc (.cells x.cells CT)).alloc (.cells Rm.zero.cells RT)) (w.heap.size + 1 + 1) Rm.zero.cells RT := by
    have := Blk.new ((w.alloc (.cells r.cells RT)).alloc (.cells x.cells CT)) Rm.zero.cells RT
    rwa [World.size_alloc, World.size_alloc] at this
  have HL := hid (fun w' (q : Ext _ w') => ldR_blk (q.blk b5))
  have HX := hid (fun w' (q : Ext _ w') => ldC_blk (q.blk b8))
  have HC0 := hid (fun w' (q : Ext _ w') => (q.blk b5).cell 0 _ r.c0)
  have HC31 := hid (fun w' (q : Ext _ w') => (q.blk b5).cell 31 _ r.c31)
  have HXR := hid (fun w' (q : Ext _ w') => ldC_rm (q.blk b5))
  have HX1 := hid (fun w' (q : Ext _ w') => (q.blk b8).chat (j := 1) (by omega))
  have HX3 := hid (fun w' (q : Ext _ w') => (q.blk b8).chat (j := 3) (by omega))
  have HX4 := hid (fun w' (q : Ext _ w') => (q.blk b8).chat (j := 4) (by omega))
  have HST := hid (fun w' (q : Ext _ w') (m : Rm) => stR_put w' (w.heap.size + 1 + 1) m ⟨_, q.blk b10⟩)
  have HPB := hid (fun w' (q : Ext _ w') (m : Rm) => putR_blk (w := w') (b := w.heap.size + 1 + 1) m ⟨_, q.blk b10⟩)
  have HKP := hid (fun w' (q : Ext _ w') (m : Rm) => Ext.only (K0.trans q) (putR_only w' (w.heap.size + 1 + 1) m) (by omega))
  have OFF := hid (fun w' (q : Ext _ w') => (by
      have hb := q.blk b5
      have hs := hb.set 0 (.int .i64 (-1))
      rw [r.p0] at hs
      have hz := (q.blk b10).other ⟨w.heap.size, 0, none⟩ (.int .i64 (-1)) (by show w.heap.size + 1 + 1 ≠ w.heap.size; omega)
      exact ⟨hb.cell 0 _ r.c0, hb.free 0, ldR_blk hs, stR_put _ _ _ ⟨_, hz⟩, putR_blk _ ⟨_, hz⟩, Ext.only (Ext.only (K0.trans q) ((Only.refl w.heap.size w').set 0 (.int .i64 (-1))) (Nat.le_refl _)) (putR_only _ _ _) (by omega)⟩ :
    w'.cell? ⟨w.heap.size, 0, none⟩ = some (.int .i64 r.last) ∧ w'.frozen? ⟨w.heap.size, 0, none⟩ = false ∧
    (ldR (.pointer (some ⟨w.heap.size, 0, none⟩))).run Try.prog (w'.setCell ⟨w.heap.size, 0, none⟩ (.int .i64 (-1))) = .ok (Rm.val ⟨-1, r.x, r.sent⟩) (w'.setCell ⟨w.heap.size, 0, none⟩ (.int .i64 (-1))) ∧
    (stR (.pointer (some ⟨w.heap.size + 1 + 1, 0, none⟩)) (Rm.val ⟨-1, r.x, r.sent⟩)).run Try.prog (w'.setCell ⟨w.heap.size, 0, none⟩ (.int .i64 (-1))) = .ok () (putR (w'.setCell ⟨w.heap.size, 0, none⟩ (.int .i64 (-1))) (w.heap.size + 1 + 1) ⟨-1, r.x, r.sent⟩) ∧
    Blk (putR (w'.setCell ⟨w.heap.size, 0, none⟩ (.int .i64 (-1))) (w.heap.size + 1 + 1) ⟨-1, r.x, r.sent⟩) (w.heap.size + 1 + 1) (Rm.cells ⟨-1, r.x, r.sent⟩) RT ∧
    Ext w (putR (w'.setCell ⟨w.heap.size, 0, none⟩ (.int .i64 (-1))) (w.heap.size + 1 + 1) ⟨-1, r.x, r.sent⟩)))
  clear b5 b8 b10
  obtain ⟨R, hR⟩ : ∃ R, Is (r.step now on x l) R := ⟨_, Is.refl _⟩
  rw [hR.eq]
  have SN := hid (fun w => rsends_c x w)
  have SZ := hid (fun w => rsize_c x w)
  by_cases hn0 : now < 0
  · have e1 : decide (now < 0) = true := by simpa using hn0
    obtain rfl : R = (r, []) := by rw [← hR.eq]; unfold Rm.step; rw [if_pos (by unfold tkB; simp; omega)]
    have l0 := HL.out _ E0
    have s0 := HST.out _ E0 r
    have PB := hid (HPB.out _ E0 r)
    have KP := HKP.out _ E0 r
    clear hR hn0
    go_enter Try.func19, Try.ntmps19
    go_wp2_with fail
    exact bodyPost_ret (res_rm (Try.results19) rfl rfl PB.out) rfl ⟨_, rfl, .inl ⟨rfl, rfl⟩, KP⟩
  · have e1 : decide (now < 0) = false := by simpa using hn0
    by_cases hn1 : 2147483647 < now
    · have e2 : decide (2147483647 < now) = true := by simpa using hn1
      obtain rfl : R = (r, []) := by rw [← hR.eq]; unfold Rm.step; rw [if_pos (by unfold tkB; simp; omega)]
      have l0 := HL.out _ E0
      have s0 := HST.out _ E0 r
      have PB := hid (HPB.out _ E0 r)
      have KP := HKP.out _ E0 r
      clear hR hn0 hn1
      go_enter Try.func19, Try.ntmps19
      go_wp2_with fail
      exact bodyPost_ret (res_rm (Try.results19) rfl rfl PB.out) rfl ⟨_, rfl, .inl ⟨rfl, rfl⟩, KP⟩
    · have e2 : decide (2147483647 < now) = false := by simpa using hn1
      have htk : tkB now = true := by unfold tkB; simp; omega
      cases on
      · obtain rfl : R = (⟨-1, r.x, r.sent⟩, []) := by rw [← hR.eq]; unfold Rm.step; rw [htk]; rfl
        obtain ⟨r', hr'⟩ : ∃ r', Is (Rm.mk (-1) r.x r.sent) r' := ⟨_, Is.refl _⟩
        have hp0 : r.cells.setIfInBounds 0 (.int .i64 (-1)) = r'.cells := by rw [r.p0, hr'.eq]
        rw [hr'.eq]
        have c0 := HC0.out _ E0
        have b5 : Blk (((w.alloc (.cells r'.cells RT)).alloc (.cells x.cells CT)).alloc (.cells Rm.zero.cells RT)) w.heap.size r'.cells RT := ((Blk.new w r'.cells RT).alloc _).alloc _
        have b10 : Blk (((w.alloc (.cells r'.cells RT)).alloc (.cells x.cells CT)).alloc (.cells Rm.zero.cells RT)) (w.heap.size + 1 + 1) Rm.zero.cells RT := by
          have := Blk.new ((w.alloc (.cells r'.cells RT)).alloc (.cells x.cells CT)) Rm.zero.cells RT
          rwa [World.size_alloc, World.size_alloc] at this
        have f0 : (((w.alloc (.cells r.cells RT)).alloc (.cells x.cells CT)).alloc (.cells Rm.zero.cells RT)).frozen? ⟨w.heap.size, 0, none⟩ = false := Blk.free (((Blk.new w r.cells RT).alloc _).alloc _) 0
        have l0 := ldR_blk b5
        have s0 := stR_put _ _ r' ⟨_, b10⟩
        have pb := putR_blk r' ⟨_, b10⟩
        have K0' : Ext w (((w.alloc (.cells r'.cells RT)).alloc (.cells x.cells CT)).alloc (.cells Rm.zero.cells RT)) := (by repeat (first | with_reducible exact Ext.refl _ | with_reducible assumption | with_reducible apply Ext.alloc | with_reducible apply Ext.drew | with_reducible apply Ext.drewN | (with_reducible refine Ext.set' ?_ (by first | omega | (simp only [World.size_alloc, World.size_setCell]; omega))) | (with_reducible refine Ext.trans ?_ (by with_reducible assumption)) | (with_reducible refine Ext.only ?_ (by with_reducible assumption) (by omega))))
        have KP := Ext.only K0' (putR_only _ (w.heap.size + 1 + 1) r') (by omega)
        have PB := hid pb
        clear hR pb hn0 hn1 b5 b10 K0'
        go_enter Try.func19, Try.ntmps19
        go_wp2_with fail
        exact bodyPost_ret (res_rm (Try.results19) rfl rfl PB.out) rfl ⟨_, rfl, .inl ⟨rfl, rfl⟩, KP⟩
      · have lx := HX.out _ E0
        obtain ⟨sn, hsn⟩ : ∃ q, Is x.snd q := ⟨_, Is.refl _⟩
        rw [hsn.eq] at SN
        cases sn
        · obtain rfl : R = (⟨-1, r.x, r.sent⟩, []) := by rw [← hR.eq]; unfold Rm.step goes; rw [htk, hsn.eq]; rfl
          clear hR hn0 hn1
          go_enter Try.func19, Try.ntmps19
          go_wp2_with fail
          (with_reducible refine (SN.out _).mono ?_); rintro e w1 ⟨rfl, k1⟩
          obtain ⟨c0, f0, l0, s0, pb, KP⟩ := OFF.out _ k1
          have PB := hid pb
          clear pb
          go_wp2_with fail
          exact bodyPost_ret (res_rm (Try.results19) rfl rfl PB.out) rfl ⟨_, rfl, .inl ⟨rfl, rfl⟩, KP⟩
        · by_cases hln : (l.length : Int) = x.sz
          · have e3 : ((l.length : Int) != x.sz) = false := by simpa using hln
            have hgo : goes true x l = true := by unfold goes; rw [hsn.eq, decide_eq_true hln]; rfl
            have hmk := make_ok hsn.eq hln hby
            have hws : IntKind.i64.wrap (r.sent + 1) = r.sent + 1 := IntWalk.i64_in _ (by omega)
            have hwl : IntKind.i64.wrap (now - r.last) = now - r.last := IntWalk.i64_in _ (by omega)
            have hdu : r.due now x = !(decide (0 ≤ r.last) && (chEq r.x x && decide (now - r.last < x.at 1))) := rfl
            have hstep : r.step now true x l = if r.due now x = false then (r, []) else (⟨now, x, r.sent + 1⟩, two x l) := by unfold Rm.step; rw [htk, hgo]; rfl
            rw [hdu] at hstep
            have MK := hid (fun w' (q : Ext w w') => prmake_c (x.at 3) (x.at 4) _ l w' (HV.out.ext q))
            have MP : Hid (∀ w' base u, mkPost w' base (x.at 3) (x.at 4) l u → FrO w' base u (two x l)) := hid (fun w' base u hp => by
              rcases hp with hp | hp
              · exact absurd hmk hp.1
              · exact .inr ⟨by unfold two; simp, hp.2⟩)
            rw [hmk] at MK
            obtain ⟨p1, hp1⟩ : ∃ q, Is (decide (0 ≤ r.last)) q := ⟨_, Is.refl _⟩
            obtain ⟨p2, hp2⟩ : ∃ q, Is (chEq r.x x) q := ⟨_, Is.refl _⟩
            obtain ⟨p3, hp3⟩ : ∃ q, Is (decide (now - r.last < x.at 1)) q := ⟨_, Is.refl _⟩
            have q1 := hp1.eq
            have q2 := hp2.eq
            have q3 := hp3.eq
            rw [q1, q2, q3] at hstep
            have HR := hid (hR.eq.symm.trans hstep)
            clear hR hstep hdu hgo hp1 hp2 hp3 hln hn0 hn1
            generalize two x l = TW at *
            generalize x.sz = z at *
            generalize x.at 3 = p at *
            generalize x.at 4 = q at *
            generalize x.at 1 = t at *
            have HCS : Hid ((p1 = true ∧ p2 = true ∧ p3 = true) ∨ ((p1 = false ∨ (p1 = true ∧ p2 = false) ∨ (p1 = true ∧ p2 = true ∧ p3 = false)))) := hid (by cases p1 <;> cases p2 <;> cases p3 <;> simp)
            go_enter Try.func19, Try.ntmps19
            go_wp2_with fail
            (with_reducible refine (SN.out _).mono ?_); rintro e w1 ⟨rfl, k1⟩
            have lx1 := HX.out _ k1
            go_wp2_with fail
            (with_reducible refine (SZ.out _).mono ?_); rintro e w2 ⟨rfl, k2⟩
            have k12 := k1.trans k2
            have c0 := HC0.out _ k12
            have lr := HXR.out _ k12
            have lx2 := HX.out _ k12
            have x1 := HX1.out _ k12
            have hcs := HCS.out
            rcases hcs with ⟨rfl, rfl, rfl⟩ | hcs
            · obtain rfl : R = (r, []) := by rw [HR.out]; rfl
              have l0 := HL.out _ k12
              have s0 := HST.out _ k12 r
              have PB := hid (HPB.out _ k12 r)
              have KP := HKP.out _ k12 r
              go_wp2_with fail
              exact bodyPost_ret (res_rm (Try.results19) rfl rfl PB.out) rfl ⟨_, rfl, .inl ⟨rfl, rfl⟩, KP⟩
            · obtain rfl : R = (⟨now, x, r.sent + 1⟩, TW) := by
                rw [HR.out]
                rcases hcs with rfl | ⟨rfl, rfl⟩ | ⟨rfl, rfl, rfl⟩
                · rfl
                · rfl
                · rfl
              have x3 := HX3.out _ k12
              have x4 := HX4.out _ k12
              clear HR HCS
              rcases hcs with rfl | ⟨rfl, rfl⟩ | ⟨rfl, rfl, rfl⟩
              all_goals
                go_wp2_with fail
                (with_reducible refine (MK.out _ (K0.trans k12)).mono ?_); rintro e w3 ⟨u, rfl, hp, k3⟩
                have k13 := k12.trans k3
                have lx3 := HX.out _ k13
                have c31 := HC31.out _ k13
                have s0 := HST.out _ k13 ⟨now, x, r.sent + 1⟩
                have PB := hid (HPB.out _ k13 ⟨now, x, r.sent + 1⟩)
                have KP := HKP.out _ k13 ⟨now, x, r.sent + 1⟩
                have hsz : w.heap.size + 1 + 1 < w2.heap.size := by have := k12.le; simp only [World.size_alloc] at this; omega
                have HU := hid (((MP.out _ _ _ hp).only (putR_only w3 (w.heap.size + 1 + 1) ⟨now, x, r.sent + 1⟩) hsz).lower (K0.trans k12).le)
                clear hp
                go_wp2_with fail
                exact bodyPost_ret (res_rm (Try.results19) rfl rfl PB.out) rfl ⟨_, rfl, HU.out, KP⟩
          · have e3 : ((l.length : Int) != x.sz) = true := by simpa using hln
            obtain rfl : R = (⟨-1, r.x, r.sent⟩, []) := by rw [← hR.eq]; unfold Rm.step goes; rw [htk, hsn.eq, decide_eq_false hln]; rfl
            clear hR hln hn0 hn1
            generalize x.sz = z at *
            go_enter Try.func19, Try.ntmps19
            go_wp2_with fail
            (with_reducible refine (SN.out _).mono ?_); rintro e w1 ⟨rfl, k1⟩
            have lx1 := HX.out _ k1
            go_wp2_with fail
            (with_reducible refine (SZ.out _).mono ?_); rintro e w2 ⟨rfl, k2⟩
            obtain ⟨c0, f0, l0, s0, pb, KP⟩ := OFF.out _ (k1.trans k2)
            have PB := hid pb
            clear pb
            go_wp2_with fail
            exact bodyPost_ret (res_rm (Try.results19) rfl rfl PB.out) rfl ⟨_, rfl, .inl ⟨rfl, rfl⟩, KP⟩

end Go.Proofs.Ytbjfhdkgbhkodaa
