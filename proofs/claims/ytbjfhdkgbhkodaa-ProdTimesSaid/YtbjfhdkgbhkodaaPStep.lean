/- Package prod: a maker's step. -/
import Derived.Test.YtbjfhdkgbhkodaaPMeth
set_option linter.unusedSimpArgs false
set_option linter.unusedVariables false
set_option linter.unnecessarySimpa false
namespace Go.Proofs.Ytbjfhdkgbhkodaa
open Go.RowKit Go.Proofs.YtbjfhdkgbhkodaaW.PrintWords
attribute [local go_sem] max2_max min2_min max_of_two min_of_two bxF_fr stF_fr stF_fr2 stF_put ldF_put ldV_put ldF_new guard_eq guard_ne bin_eq bin_ne alF_fr bdF_none bdF_ask bdF_len bdF_dat ext_drew' ext_alloc
attribute [local go_sem ↓] ldF_in ldV_in bxF_in stF_in cvS_in alF_in bdF_in ixS_in
attribute [local go_sem] bxC_ch chguard_eq chguard_ne chbin_eq chbin_ne ldC_new bxM_v alM_v stM_put stM_new bxR_v alR_v stR_put stR_new ldM_new ldR_new bdM_none bdR_v stC_mk gUpon gStill
attribute [local go_sem ↓] ldC_in bxC_in stC_in ldM_in bxM_in stM_in alM_in ldR_in bxR_in stR_in alR_in bdM_in bdR_in

theorem byt_getD {l : List Int} (h : Byt l) (j : Nat) : 0 ≤ l.getD j 0 ∧ l.getD j 0 ≤ 255 := by
  by_cases hj : j < l.length
  · exact h.at hj
  · rw [List.getD_eq_getElem?_getD, List.getElem?_eq_none (by omega)]
    decide
theorem mk_small {p : Int} {l : List Int} (h0 : 0 ≤ p) (h1 : p ≤ 2047) (hl : l.length ≤ 8) (hb : Byt l) : (mkFr p l).chk = 0 ∧ (mkFr p l).bytes = l ∧ Byt (mkFr p l).data := by
  have hp : ¬ (p < 0 ∨ 2047 < p) := by omega
  have key : (mkFr p l).chk = 0 ∧ (mkFr p l).data.take (mkFr p l).len.toNat = l := by
    rcases l with _ | ⟨a0, _ | ⟨a1, _ | ⟨a2, _ | ⟨a3, _ | ⟨a4, _ | ⟨a5, _ | ⟨a6, _ | ⟨a7, _ | ⟨a8, t⟩⟩⟩⟩⟩⟩⟩⟩⟩
    all_goals first | (exfalso; simp only [List.length_cons] at hl; omega; done) | (refine ⟨?_, rfl⟩; unfold Fr.chk; rw [if_neg (by exact hp), if_neg (by show ¬ (_ ∨ _); simp [mkFr])]; simp [mkFr, Fr.plain, frEq])
  refine ⟨key.1, ?_, ?_⟩
  · unfold Fr.bytes Fr.has
    rw [key.1]
    exact key.2
  · intro x hx
    have : ∃ j, x = l.getD j 0 := by
      simp only [mkFr, Fr.data, List.mem_cons, List.not_mem_nil, or_false] at hx
      rcases hx with rfl | rfl | rfl | rfl | rfl | rfl | rfl | rfl <;> exact ⟨_, rfl⟩
    obtain ⟨j, rfl⟩ := this
    exact byt_getD hb j

/-- The two frames of a value. -/
def two (x : Ch) (l : List Int) : List Fr := [mkFr (x.at 3) l, mkFr (x.at 4) (flipL l)]
def goes (on : Bool) (x : Ch) (l : List Int) : Bool := on && (x.snd && decide ((l.length : Int) = x.sz))
/-- What a maker's step does. -/
def Mk.step (k : Mk) (now : Int) (on : Bool) (x : Ch) (l : List Int) : Mk × List Fr :=
  if tkB now = false then (k, []) else if goes on x l = false then (⟨false, k.x, k.last, k.sent⟩, [])
  else if k.due now x = false then (k, []) else (⟨true, x, now, k.sent + 1⟩, two x l)
/-- The frames that came out: none, or a row. -/
def FrO (w : World) (base : Nat) (u : Value) (L : List Fr) : Prop := (L = [] ∧ u = .slice none 0 0) ∨ (L ≠ [] ∧ OwnF w base u L)
theorem FrO.ext {a b : World} {base : Nat} {u : Value} {L : List Fr} (h : FrO a base u L) (k : Ext a b) : FrO b base u L := by
  rcases h with h | ⟨h1, h2⟩
  · exact .inl h
  · exact .inr ⟨h1, h2.below k⟩
theorem FrO.only {a w : World} {base b : Nat} {u : Value} {L : List Fr} (h : FrO a base u L) (k : Only b a w) (hb : b < base) : FrO w base u L := by
  rcases h with h | ⟨h1, h2⟩
  · exact .inl h
  · exact .inr ⟨h1, h2.only k hb⟩
theorem FrO.lower {a : World} {base B : Nat} {u : Value} {L : List Fr} (h : FrO a base u L) (hb : B ≤ base) : FrO a B u L := by
  rcases h with h | ⟨h1, h0, h2⟩
  · exact .inl h
  · refine .inr ⟨h1, h0, ?_⟩
    rcases h2 with h2 | ⟨g, cap, cur, hv, hg, r⟩
    · exact .inl h2
    · exact .inr ⟨g, cap, cur, hv, Nat.le_trans hb hg, r⟩
theorem snd_facts {x : Ch} (h : x.snd = true) : x.at 0 = 1 ∧ 1 ≤ x.at 1 ∧ x.at 1 ≤ 65535 ∧ 1 ≤ x.sz ∧ x.sz ≤ 8 ∧ 0 ≤ x.at 3 ∧ x.at 3 ≤ 2047 ∧ 0 ≤ x.at 4 ∧ x.at 4 ≤ 2047 := by
  unfold Ch.snd sndB idB at h
  simp only [Bool.and_eq_true, decide_eq_true_iff] at h
  omega
theorem make_ok {x : Ch} {l : List Int} (h : x.snd = true) (hl : (l.length : Int) = x.sz) (hb : Byt l) : mkE (x.at 3) (x.at 4) l = 0 := by
  obtain ⟨_, _, _, h1, h2, h3, h4, h5, h6⟩ := snd_facts h
  have hl2 : l.length ≤ 8 := by omega
  unfold mkE
  rw [if_neg (by omega), (mk_small h3 h4 hl2 hb).1, (mk_small h5 h6 (by rw [flipL_len]; exact hl2) (flipL_byt hb)).1]
  rfl

set_option maxRecDepth 100000 in
set_option maxHeartbeats 4000000 in
theorem step_c (b : Nat) (k : Mk) (now : Int) (on : Bool) (x : Ch) (v : Value) (l : List Int) (w : World) (h : Blk w b k.cells MT) (hv : Bs w v l) (hl0 : 0 ≤ k.last) (hl1 : k.last ≤ 2147483647) (hs0 : 0 ≤ k.sent) (hs1 : k.sent ≤ 1000000) :
    Calls Try.prog 9 #[.pointer (some ⟨b, 0, none⟩), .int .i64 now, .bool on, x.val, v] w fun e w' => ∃ u, e = .returned u ∧ FrO w' w.heap.size u (k.step now on x l).2 ∧ Blk w' b (k.step now on x l).1.cells MT ∧ Only b w w' := by
  have K0 : Ext w (w.alloc (.cells x.cells CT)) := (by repeat (first | with_reducible exact Ext.refl _ | with_reducible assumption | with_reducible apply Ext.alloc | with_reducible apply Ext.drew | with_reducible apply Ext.drewN | (with_reducible refine Ext.set' ?_ (by first | omega | (simp only [World.size_alloc, World.size_setCell]; omega))) | (with_reducible refine Ext.trans ?_ (by with_reducible assumption)) | (with_reducible refine Ext.only ?_ (by with_reducible assumption) (by omega))))
  have hlt := h.lt
  have HX := hid (Blk.new w x.cells CT)
  have HV := hid hv
  have HB := hid h
  obtain ⟨A, bl, o, cc, rfl, hlc, hrow, hby⟩ := hv
  have hl2 := hrow.1
  clear hrow hlc
  obtain ⟨R, hR⟩ : ∃ R, Is (k.step now on x l) R := ⟨_, Is.refl _⟩
  rw [hR.eq]
  have TK := hid (fun w => tick_c now w)
  have SN := hid (fun w => psends_c x w)
  have SZ := hid (fun w => psize_c x w)
  have LX := hid (fun w' (q : Ext (w.alloc (.cells x.cells CT)) w') => ldC_all HX.out w' q)
  obtain ⟨tk, htk⟩ : ∃ q, Is (tkB now) q := ⟨_, Is.refl _⟩
  rw [htk.eq] at TK
  cases tk
  · obtain rfl : R = (k, []) := by rw [← hR.eq]; unfold Mk.step; rw [if_pos htk.eq]
    clear hR
    go_enter Try.func9, Try.ntmps9
    go_wp2_with fail
    (with_reducible refine (TK.out _).mono ?_); rintro e w1 ⟨rfl, k1⟩
    have K1 := K0.trans k1
    go_wp2_with fail
    go_ret
    exact ⟨_, rfl, .inl ⟨rfl, rfl⟩, K1.blk HB.out, Only.of_ext K1⟩
  · have ht : 0 ≤ now ∧ now ≤ 2147483647 := by have := htk.eq; unfold tkB at this; simpa using this
    cases on
    · obtain rfl : R = (⟨false, k.x, k.last, k.sent⟩, []) := by rw [← hR.eq]; unfold Mk.step; rw [htk.eq]; rfl
      have PT := hid (fun w' (q : Ext w w') => (by have := (q.blk HB.out).set 0 (.bool false); rw [k.p0] at this; exact ⟨(q.blk HB.out).cell 0 _ k.c0, (q.blk HB.out).free 0, this⟩ : w'.cell? ⟨b, 0, none⟩ = some (.bool k.works) ∧ w'.frozen? ⟨b, 0, none⟩ = false ∧ Blk (w'.setCell ⟨b, 0, none⟩ (.bool false)) b (Mk.cells ⟨false, k.x, k.last, k.sent⟩) MT))
      clear hR
      go_enter Try.func9, Try.ntmps9
      go_wp2_with fail
      (with_reducible refine (TK.out _).mono ?_); rintro e w1 ⟨rfl, k1⟩
      have K1 := K0.trans k1
      obtain ⟨c0, f0, hset⟩ := PT.out w1 K1
      have HS := hid hset
      clear hset
      go_wp2_with fail
      go_ret
      exact ⟨_, rfl, .inl ⟨rfl, rfl⟩, HS.out, (Only.of_ext K1).set 0 _⟩
    · obtain ⟨sn, hsn⟩ : ∃ q, Is x.snd q := ⟨_, Is.refl _⟩
      rw [hsn.eq] at SN
      cases sn
      · obtain rfl : R = (⟨false, k.x, k.last, k.sent⟩, []) := by rw [← hR.eq]; unfold Mk.step goes; rw [htk.eq, hsn.eq]; rfl
        have PT := hid (fun w' (q : Ext w w') => (by have := (q.blk HB.out).set 0 (.bool false); rw [k.p0] at this; exact ⟨(q.blk HB.out).cell 0 _ k.c0, (q.blk HB.out).free 0, this⟩ : w'.cell? ⟨b, 0, none⟩ = some (.bool k.works) ∧ w'.frozen? ⟨b, 0, none⟩ = false ∧ Blk (w'.setCell ⟨b, 0, none⟩ (.bool false)) b (Mk.cells ⟨false, k.x, k.last, k.sent⟩) MT))
        clear hR
        go_enter Try.func9, Try.ntmps9
        go_wp2_with fail
        (with_reducible refine (TK.out _).mono ?_); rintro e w1 ⟨rfl, k1⟩
        have K1 := K0.trans k1
        have l1 := LX.out w1 k1
        go_wp2_with fail
        (with_reducible refine (SN.out _).mono ?_); rintro e w2 ⟨rfl, k2⟩
        have K2 := K1.trans k2
        obtain ⟨c0, f0, hset⟩ := PT.out w2 K2
        have HS := hid hset
        clear hset
        go_wp2_with fail
        go_ret
        exact ⟨_, rfl, .inl ⟨rfl, rfl⟩, HS.out, (Only.of_ext K2).set 0 _⟩
      · by_cases hln : (l.length : Int) = x.sz
        · have e1 : ((l.length : Int) != x.sz) = false := by simpa using hln
          have hgo : goes true x l = true := by unfold goes; rw [hsn.eq, decide_eq_true hln]; rfl
          have hmk := make_ok hsn.eq hln hby
          have HA := hid (snd_facts hsn.eq)
          have DU := hid (fun w' (q : Ext w w') => due_c b k now x w' (q.blk HB.out) ht.1 ht.2 hl0 hl1)
          obtain ⟨du, hdu⟩ : ∃ q, Is (k.due now x) q := ⟨_, Is.refl _⟩
          rw [hdu.eq] at DU
          cases du
          · obtain rfl : R = (k, []) := by rw [← hR.eq]; unfold Mk.step; rw [htk.eq, hgo, hdu.eq]; rfl
            clear hR hln hgo hmk
            generalize x.sz = z at *
            go_enter Try.func9, Try.ntmps9
            go_wp2_with fail
            (with_reducible refine (TK.out _).mono ?_); rintro e w1 ⟨rfl, k1⟩
            have K1 := K0.trans k1
            have l1 := LX.out w1 k1
            go_wp2_with fail
            (with_reducible refine (SN.out _).mono ?_); rintro e w2 ⟨rfl, k2⟩
            have K2 := K1.trans k2
            have l2 := LX.out w2 (k1.trans k2)
            go_wp2_with fail
            (with_reducible refine (SZ.out _).mono ?_); rintro e w3 ⟨rfl, k3⟩
            have K3 := K2.trans k3
            have l3 := LX.out w3 ((k1.trans k2).trans k3)
            go_wp2_with fail
            (with_reducible refine (DU.out _ K3).mono ?_); rintro e w4 ⟨rfl, k4⟩
            have K4 := K3.trans k4
            go_wp2_with fail
            go_ret
            exact ⟨_, rfl, .inl ⟨rfl, rfl⟩, K4.blk HB.out, Only.of_ext K4⟩
          · obtain rfl : R = (⟨true, x, now, k.sent + 1⟩, two x l) := by rw [← hR.eq]; unfold Mk.step; rw [htk.eq, hgo, hdu.eq]; rfl
            have MK := hid (fun w' (q : Ext w w') => pmake_c (x.at 3) (x.at 4) _ l w' (HV.out.ext q))
            have MP : Hid (∀ w' base u, mkPost w' base (x.at 3) (x.at 4) l u → FrO w' base u (two x l)) := hid (fun w' base u hp => by
              rcases hp with hp | hp
              · exact absurd hmk hp.1
              · exact .inr ⟨by unfold two; simp, hp.2⟩)
            rw [hmk] at MK
            have HX3 := hid (fun w' (q : Ext (w.alloc (.cells x.cells CT)) w') => (q.blk HX.out).chat (j := 3) (by omega))
            have HX4 := hid (fun w' (q : Ext (w.alloc (.cells x.cells CT)) w') => (q.blk HX.out).chat (j := 4) (by omega))
            have hws : IntKind.i64.wrap (k.sent + 1) = k.sent + 1 := IntWalk.i64_in _ (by omega)
            generalize two x l = TW at *
            clear hR hln hgo hmk
            generalize x.sz = z at *
            generalize x.at 3 = p at *
            generalize x.at 4 = q at *
            go_enter Try.func9, Try.ntmps9
            go_wp2_with fail
            (with_reducible refine (TK.out _).mono ?_); rintro e w1 ⟨rfl, k1⟩
            have K1 := K0.trans k1
            have l1 := LX.out w1 k1
            go_wp2_with fail
            (with_reducible refine (SN.out _).mono ?_); rintro e w2 ⟨rfl, k2⟩
            have K2 := K1.trans k2
            have l2 := LX.out w2 (k1.trans k2)
            go_wp2_with fail
            (with_reducible refine (SZ.out _).mono ?_); rintro e w3 ⟨rfl, k3⟩
            have K3 := K2.trans k3
            have l3 := LX.out w3 ((k1.trans k2).trans k3)
            go_wp2_with fail
            (with_reducible refine (DU.out _ K3).mono ?_); rintro e w4 ⟨rfl, k4⟩
            have K4 := K3.trans k4
            have k14 := ((k1.trans k2).trans k3).trans k4
            have c3 := HX3.out w4 k14
            have c4 := HX4.out w4 k14
            go_wp2_with fail
            (with_reducible refine (MK.out _ K4).mono ?_); rintro e w5 ⟨u, rfl, hp, k5⟩
            have K5 := K4.trans k5
            have HU := hid ((MP.out _ _ _ hp).lower K4.le)
            have hx5 := (k14.trans k5).blk HX.out
            have hb0 : Blk w5 b k.cells MT := K5.blk HB.out
            have hb1 := (hb0.set 0 (.bool true)).drew
            rw [k.p0] at hb1
            have hb2 := putC_blk x hb1
            have hb3 := hb2.set 31 (.int .i64 now)
            rw [Mk.p31] at hb3
            have hb4 := hb3.set 32 (.int .i64 (k.sent + 1))
            rw [Mk.p32] at hb4
            simp only at hb1 hb2 hb3 hb4
            have m1 : MB (w5.setCell ⟨b, 0, none⟩ (.bool true)).drew b := ⟨_, hb1⟩
            have f0 := hb0.cell 0 _ k.c0
            have z0 := hb0.free 0
            have D : ∀ p : Addr, w5.drew.cell? p = w5.cell? p := fun p => rfl
            have D' : ∀ p : Addr, w5.drew.frozen? p = w5.frozen? p := fun p => rfl
            have f2 := hb2.cell 31 _ (Mk.c31 _)
            have z2 := hb2.free 31
            have f3 := hb3.cell 32 _ (Mk.c32 _)
            have z3 := hb3.free 32
            have hne : w.heap.size ≠ b := by omega
            have lx0 : (ldC (.pointer (some ⟨w.heap.size, 0, none⟩))).run Try.prog w5.drew = .ok x.val w5.drew := ldC_blk hx5.drew
            have lx1 : (ldC (.pointer (some ⟨w.heap.size, 0, none⟩))).run Try.prog (w5.setCell ⟨b, 0, none⟩ (.bool true)).drew = .ok x.val (w5.setCell ⟨b, 0, none⟩ (.bool true)).drew := ldC_blk (hx5.other ⟨b, 0, none⟩ _ hne).drew
            have o4 : Only b w (((putC (w5.setCell ⟨b, 0, none⟩ (.bool true)).drew b x).setCell ⟨b, 31, none⟩ (.int .i64 now)).setCell ⟨b, 32, none⟩ (.int .i64 (k.sent + 1))) :=
              ((((Only.of_ext K5).set 0 _).drew.trans (putC_only _ b x)).set 31 _).set 32 _
            have o5 : Only b w5 (((putC (w5.setCell ⟨b, 0, none⟩ (.bool true)).drew b x).setCell ⟨b, 31, none⟩ (.int .i64 now)).setCell ⟨b, 32, none⟩ (.int .i64 (k.sent + 1))) :=
              ((((Only.refl b w5).set 0 _).drew.trans (putC_only _ b x)).set 31 _).set 32 _
            have HB4 := hid hb4
            clear hb0 hb1 hb2 hb3 hb4 hp hx5
            go_wp2_with fail
            go_region
            go_wp2_with fail
            go_ret
            exact ⟨_, rfl, HU.out.only o5 hlt, HB4.out, o4⟩
        · have e1 : ((l.length : Int) != x.sz) = true := by simpa using hln
          obtain rfl : R = (⟨false, k.x, k.last, k.sent⟩, []) := by rw [← hR.eq]; unfold Mk.step goes; rw [htk.eq, hsn.eq, decide_eq_false hln]; rfl
          have PT := hid (fun w' (q : Ext w w') => (by have := (q.blk HB.out).set 0 (.bool false); rw [k.p0] at this; exact ⟨(q.blk HB.out).cell 0 _ k.c0, (q.blk HB.out).free 0, this⟩ : w'.cell? ⟨b, 0, none⟩ = some (.bool k.works) ∧ w'.frozen? ⟨b, 0, none⟩ = false ∧ Blk (w'.setCell ⟨b, 0, none⟩ (.bool false)) b (Mk.cells ⟨false, k.x, k.last, k.sent⟩) MT))
          clear hR hln
          generalize x.sz = z at *
          go_enter Try.func9, Try.ntmps9
          go_wp2_with fail
          (with_reducible refine (TK.out _).mono ?_); rintro e w1 ⟨rfl, k1⟩
          have K1 := K0.trans k1
          have l1 := LX.out w1 k1
          go_wp2_with fail
          (with_reducible refine (SN.out _).mono ?_); rintro e w2 ⟨rfl, k2⟩
          have K2 := K1.trans k2
          have l2 := LX.out w2 (k1.trans k2)
          go_wp2_with fail
          (with_reducible refine (SZ.out _).mono ?_); rintro e w3 ⟨rfl, k3⟩
          have K3 := K2.trans k3
          obtain ⟨c0, f0, hset⟩ := PT.out w3 K3
          have HS := hid hset
          clear hset
          go_wp2_with fail
          go_ret
          exact ⟨_, rfl, .inl ⟨rfl, rfl⟩, HS.out, (Only.of_ext K3).set 0 _⟩

end Go.Proofs.Ytbjfhdkgbhkodaa
