/- The reference's sender: Block; are two lists of lines the same? -/
import Derived.Test.YtpdomjinhbnmfaaRSd2
import Derived.Deep.RegionWith
set_option linter.unusedSimpArgs false
set_option linter.unusedVariables false
set_option linter.unnecessarySimpa false
set_option maxRecDepth 100000
namespace Go.Proofs.Ytpdomjinhbnmfaa
open Go.RowKit Go.Proofs.YtpdomjinhbnmfaaW.PrintWords
attribute [local go_sem] max2_max min2_min max_of_two min_of_two alL_v bdL_none bdL_one bxL_ln lnguard_eq lnguard_ne lnbin_eq lnbin_ne
attribute [local go_sem ↓] ldL_in bxL_in stL_in alL_in bdL_in cvS_in
attribute [local go_sem] gUpon gStill alQ_v bxQ_v bsL_one bsL_none
attribute [local go_sem ↓] ldQ_in bxQ_in stQ_in alQ_in bsL_in

theorem own_only' {w w' : World} {B g : Nat} {v : Value} {l : List Ln} {cs : Array Value} {t : TypeId} (h : OwnR lnLay w B v l) (hb : Blk w g cs t) (ht : t ≠ LT) (k : Only g w w') : OwnR lnLay w' B v l := by
  have ha := h.apart hb ht
  obtain ⟨h0, h⟩ := h
  refine ⟨h0, ?_⟩
  rcases h with h | ⟨i, cap, cur, hv, hg, hh, r⟩
  · exact .inl h
  · refine .inr ⟨i, cap, cur, hv, hg, ?_, r⟩
    exact Blk.kept (b := i) (cs := cur) (t := LT) hh k (fun e => ha (by rw [hv, e]; rfl))
set_option maxHeartbeats 4000000 in
theorem rblock_c (u : Value) (b : List Int) (d n : Nat) (y k : Int) (w : World) (hu : Bs w u b) (hl : b.length ≤ 64) (hd : d ≤ nseg b) (hk : 1 ≤ k ∧ k ≤ 127) (hn : min k ((nseg b : Int) - d) = (n : Int)) :
    Calls Try.prog 11 #[Qs.val ⟨u, d, y, k⟩] w fun e w' => ∃ v, e = .returned (.tuple #[Qs.val ⟨u, d, (if n = 0 then y else n), k⟩, v]) ∧ OwnR lnLay w' w.heap.size v (segLs b d n) ∧ Ext w w' := by
  have K0 : Ext w ((w.alloc (.cells (Qs.cells ⟨u, d, y, k⟩) QT)).alloc (.cells Qs.zero.cells QT)) := (by repeat (first | with_reducible exact Ext.refl _ | with_reducible assumption | with_reducible apply Ext.alloc | with_reducible apply Ext.drew | with_reducible apply Ext.drewN | (with_reducible refine Ext.set' ?_ (by first | omega | (simp only [World.size_alloc, World.size_setCell]; omega))) | (with_reducible refine Ext.trans ?_ (by with_reducible assumption)) | (with_reducible refine Ext.only ?_ (by with_reducible assumption) (by omega))))
  have bk := (Blk.new w (Qs.cells ⟨u, d, y, k⟩) QT).alloc (.cells Qs.zero.cells QT)
  have bz := Blk.new (w.alloc (.cells (Qs.cells ⟨u, d, y, k⟩) QT)) Qs.zero.cells QT
  rw [World.size_alloc] at bz
  generalize hw1 : ((w.alloc (.cells (Qs.cells ⟨u, d, y, k⟩) QT)).alloc (.cells Qs.zero.cells QT)) = w1 at *
  have SG := hid (segs_c u b w1 (hu.ext K0) hl)
  obtain ⟨Y, hY⟩ : ∃ Y : Int, Is (if n = 0 then y else (n : Int)) Y := ⟨_, Is.refl _⟩
  rw [hY.eq]
  obtain ⟨A, c, rfl⟩ := hu.form
  have CQ := hid (fun w' (q : Ext w1 w') => q.blk bk)
  have CZ := hid (fun w' (q : Ext w1 w') => q.blk bz)
  have c0 : w1.cell? ⟨w.heap.size, 0, none⟩ = some (.slice A b.length c) := bk.cell 0 _ rfl
  have HK := hid K0
  have hN10 : nseg b ≤ 10 := by unfold nseg; omega
  have HN := hid (And.intro hn (And.intro hd hN10))
  clear hu bk bz K0 hn hd
  go_enter Try.func11, Try.ntmps11
  go_wp2_with fail
  (with_reducible refine (SG.out).mono ?_); rintro e w2 ⟨v2, S, rfl, ho, hS, hB, k2⟩
  obtain ⟨A2, bl2, c2, hv2, hc2, hrow2⟩ := ho.rows (by omega)
  subst hv2
  have hN1 : 1 ≤ nseg b := by unfold nseg; omega
  obtain ⟨rfl, _⟩ := hrow2.2.1 (by omega)
  obtain ⟨N, hNN⟩ : ∃ N, Is (nseg b) N := ⟨_, Is.refl _⟩
  rw [hS, hNN.eq]
  have HS := hid (And.intro hS (And.intro hB hrow2))
  have K2 := hid k2
  have O3 := hid (OwnR.zero (L := lnLay) w2 w2.heap.size (Nat.le_refl _))
  have X3 : Hid (Ext w2 (w2.alloc (.cells #[] LT))) := hid (Ext.alloc (Ext.refl w2))
  have HNI := hid (show min k ((N : Int) - d) = (n : Int) ∧ d ≤ N ∧ N ≤ 10 from by have := HN.out; rw [hNN.eq] at this; exact this)
  have hc2' : Hid (N ≤ c2) := hid (by have := hNN.eq; omega)
  clear ho hS hB hrow2 k2 SG c0 hc2 hN10 hN1
  go_wp2_with fail
  go_loopg [5, 6] n (fun g u5 u6 wr => ∃ i : Nat, i + g = n ∧ u6 = .int .i64 (i : Int) ∧ Hid (OwnR lnLay wr w2.heap.size u5 ((segLs b d n).take i)) ∧ Hid (Ext w2 wr))
  case atStart => exact ⟨0, by omega, rfl, O3, X3⟩
  case round =>
    clear O3 X3
    obtain ⟨i, hig, rfl, HO, HX⟩ := hrel
    have b1 := CQ.out wr (K2.out.trans HX.out)
    have c1 : wr.cell? ⟨w.heap.size, 1, none⟩ = some (.int .i64 (d : Int)) := b1.cell 1 _ rfl
    have c3 : wr.cell? ⟨w.heap.size, 3, none⟩ = some (.int .i64 k) := b1.cell 3 _ rfl
    have HB1 := hid b1
    clear b1
    obtain ⟨m, hm⟩ : ∃ m, Is (d + i) m := ⟨_, Is.refl _⟩
    have wm : IntKind.i64.wrap ((d : Int) + (i : Int)) = (m : Int) := (IntWalk.i64_in _ (by have := HNI.out; omega)).trans (by have := hm.eq; omega)
    by_cases hlt : i < n
    · have e1 : decide ((i : Int) < k) = true := by have := HNI.out; simp; omega
      have e2 : decide ((m : Int) < (N : Int)) = true := by have := HNI.out; have := hm.eq; simp; omega
      have e2n : decide (m < N) = true := by simpa using e2
      have wi : IntKind.i64.wrap ((i : Int) + 1) = (i : Int) + 1 := IntWalk.i64_in _ (by have := HNI.out; omega)
      have wN : IntKind.i64.wrap ((N : Int) - 1) = (N : Int) - 1 := IntWalk.i64_in _ (by have := HNI.out; omega)
      have j0 : (0 : Int) ≤ (m : Int) := by omega
      have j1 : (m : Int) < (N : Int) := by have := HNI.out; have := hm.eq; omega
      have hmS : m < S.length := by have h1 := HS.out.1; have h2 := hNN.eq; omega
      have cS := HS.out.2.2.2.2 m S[m] (List.getElem?_eq_getElem hmS) 0 (.slice (S[m]).A (S[m]).n (S[m]).c) rfl
      have bS := HS.out.2.1 m hmS
      generalize S[m] = x3 at cS bS
      obtain ⟨A3, n3, c3'⟩ := x3
      have cSd : wr.drew.cell? ⟨bl2, m, none⟩ = some (.slice A3 n3 c3') := by
        have e : 0 + m * slLay.k + 0 = m := by show 0 + m * 1 + 0 = m; omega
        rw [e] at cS
        exact HX.out.cell cS
      have cSa : (wr.alloc (.cells Ln.zero.cells LT)).drew.cell? ⟨bl2, m, none⟩ = some (.slice A3 n3 c3') := (((Ext.refl wr).alloc).drew).cell cSd
      have c1a : (wr.alloc (.cells Ln.zero.cells LT)).drew.cell? ⟨w.heap.size, 1, none⟩ = some (.int .i64 (d : Int)) := (((Ext.refl wr).alloc).drew).cell c1
      have D : ∀ p : Addr, wr.drew.cell? p = wr.cell? p := fun p => rfl
      obtain ⟨q, hq⟩ : ∃ q, ((m : Int) == (N : Int) - 1) = q := ⟨_, rfl⟩
      have hq2 : decide (d + i = nseg b - 1) = q := by
        rw [hm.eq, hNN.eq, ← hq, Bool.eq_iff_iff]
        have := HNI.out
        simp
        omega
      have BSX := hid (show Bs wr.drew (.slice A3 n3 c3') (segB b m) from (bS.ext HX.out).ext ((Ext.refl wr).drew))
      have RS := hid (rseg_c ((i : Int) + 1) q (.slice A3 n3 c3') (segB b m) wr.drew (by omega) (by have := HNI.out; omega) BSX.out (segB_len b m))
      have TK := hid (segLs_take b d n i hlt)
      rw [hq2, hm.eq] at TK
      obtain ⟨X, hX⟩ : ∃ X, Is (lnOf (segK ((i : Int) + 1) q) (segB b m)) X := ⟨_, Is.refl _⟩
      have RSA := hid (rseg_c ((i : Int) + 1) q (.slice A3 n3 c3') (segB b m) (wr.alloc (.cells Ln.zero.cells LT)).drew (by omega) (by have := HNI.out; omega) ((bS.ext HX.out).ext (((Ext.refl wr).alloc).drew)) (segB_len b m))
      have HZA := hid ((Blk.new wr Ln.zero.cells LT).drew)
      rw [hX.eq] at TK RS RSA
      have hlen : ((segLs b d n).take i).length + 1 ≤ 1000000 := by have := HNI.out; rw [List.length_take, segLs_len]; omega
      clear hq2 cS bS
      go_wp2_with fail
      go_region_with (first
        | (go_at_call 32; (with_reducible refine (RS.out).mono ?_); rintro e w4 ⟨rfl, k4⟩; have st4 := stL_new w4 X Ln.zero; have K4 := hid k4; clear k4)
        | (go_at_call 32; (with_reducible refine (RSA.out).mono ?_); rintro e w4 ⟨rfl, k4⟩; have HZ4 := hid (k4.blk HZA.out); have st4 := stL_put w4 wr.heap.size X ⟨_, HZ4.out⟩; have K4B := hid k4; clear k4))
      all_goals
        first
        | (have K5 := hid (show Ext wr (w4.alloc (.cells X.cells LT)) from Ext.alloc (((Ext.refl wr).drew).trans K4.out))
           have ld4 := ldL_blk (Blk.new w4 X.cells LT)
           have HO5 := hid (HO.out.below K5.out)
           have E5 := HX.out.trans K5.out
           have hb5 : w2.heap.size ≤ (w4.alloc (.cells X.cells LT)).heap.size := E5.le
           have HE5 := hid E5
           go_wp2_with (at_builtin; go_must (refine appLn (v := u5) (l := (segLs b d n).take i) (f := X) rfl (.tmp 49) (.tmp 51) rfl w2.heap.size rfl rfl (by first | with_reducible rfl | simp only [World.size_alloc] | rfl) HO5.out hlen hb5 ?_); intro v7 w7 o7 k7 kk7; rw [← TK.out] at o7; have HO7 := hid o7; have K7 : Hid (Ext w2 w7) := hid (Below.trans HE5.out k7); clear o7 k7 kk7)
           go_roundg (gk - 1)
           case rel => exact ⟨i + 1, by omega, by go_num, HO7, K7⟩
           case measure => omega)
        | (have K5 := hid (show Ext wr (putL w4 wr.heap.size X) from Ext.only ((((Ext.refl wr).alloc).drew).trans K4B.out) (putL_only w4 wr.heap.size X) (Nat.le_refl _))
           have ld4 := ldL_blk (putL_blk (w := w4) (b := wr.heap.size) X ⟨_, HZ4.out⟩)
           have HO5 := hid (HO.out.below K5.out)
           have E5 := HX.out.trans K5.out
           have hb5 : w2.heap.size ≤ (putL w4 wr.heap.size X).heap.size := E5.le
           have HE5 := hid E5
           generalize putL w4 wr.heap.size X = w5 at *
           go_wp2_with (at_builtin; go_must (refine appLn (v := u5) (l := (segLs b d n).take i) (f := X) rfl (.tmp 49) (.tmp 51) rfl w2.heap.size rfl rfl (by first | with_reducible rfl | simp only [World.size_alloc] | rfl) HO5.out hlen hb5 ?_); intro v7 w7 o7 k7 kk7; rw [← TK.out] at o7; have HO7 := hid o7; have K7 : Hid (Ext w2 w7) := hid (Below.trans HE5.out k7); clear o7 k7 kk7)
           go_roundg (gk - 1)
           case rel => exact ⟨i + 1, by omega, by go_num, HO7, K7⟩
           case measure => omega)
    · obtain rfl : i = n := by omega
      have hO := HO.out
      rw [List.take_of_length_le (by rw [segLs_len]; exact Nat.le_refl _)] at hO
      obtain ⟨A5, c5, hu5⟩ := hO.form
      rw [segLs_len] at hu5
      subst hu5
      have KW : Ext w wr := (HK.out.trans K2.out).trans HX.out
      have HOF := hid (hO.lower (show w.heap.size ≤ w2.heap.size from (HK.out.trans K2.out).le))
      have hcases : (decide ((i : Int) < k) = false) ∨ (decide ((i : Int) < k) = true ∧ decide ((m : Int) < (N : Int)) = false) := by
        have h1 := HNI.out
        have h2 := hm.eq
        by_cases h : (i : Int) < k
        · exact .inr ⟨by simpa using h, by simp; omega⟩
        · exact .inl (by simpa using h)
      have bzr := CZ.out wr (K2.out.trans HX.out)
      by_cases hz : i = 0
      · have e9 : decide ((0 : Int) < (i : Int)) = false := by simp; omega
        have e9n : decide (0 < i) = false := by simp; omega
        obtain rfl : Y = y := by rw [← hY.eq, if_pos hz]
        have lq := ldQ_blk HB1.out
        obtain ⟨st, hp, hk⟩ := ack_fin A b.length c (d : Int) Y k KW bzr (Nat.le_succ _)
        have HP := hid hp
        have HKF := hid hk
        have HOL := hid (own_only' HOF.out bzr (by decide) (putQ_only wr (w.heap.size + 1) (Qs.cells ⟨.slice A b.length c, (d : Int), Y, k⟩)))
        clear hO KW bzr hp hk hz
        rcases hcases with e1 | ⟨e1, e2⟩
        · go_wp2_with fail
          exact bodyPost_ret (res_q2 (Try.results11) rfl rfl HP.out) rfl ⟨_, rfl, HOL.out, HKF.out⟩
        · have e2n : decide (m < N) = false := by simpa using e2
          go_wp2_with fail
          exact bodyPost_ret (res_q2 (Try.results11) rfl rfl HP.out) rfl ⟨_, rfl, HOL.out, HKF.out⟩
      · have e9 : decide ((0 : Int) < (i : Int)) = true := by simp; omega
        have e9n : decide (0 < i) = true := by simp; omega
        have c2w : wr.cell? ⟨w.heap.size, 2, none⟩ = some (.int .i64 y) := HB1.out.cell 2 _ rfl
        have z2w := HB1.out.free 2
        have oo := (Only.refl w.heap.size wr).set 2 (.int .i64 (i : Int))
        have B9 := HB1.out.set 2 (.int .i64 (i : Int))
        have lq := ldQ_blk (k := ⟨.slice A b.length c, (d : Int), (i : Int), k⟩) B9
        have bz9 := bzr.kept oo (by omega)
        have K9 : Ext w (wr.setCell ⟨w.heap.size, 2, none⟩ (.int .i64 (i : Int))) := Ext.only KW oo (Nat.le_refl _)
        obtain ⟨st, hp, hk⟩ := ack_fin A b.length c (d : Int) (i : Int) k K9 bz9 (Nat.le_succ _)
        have HP := hid hp
        have HKF := hid hk
        have HOL := hid (own_only' (own_only' HOF.out HB1.out (by decide) oo) bz9 (by decide) (putQ_only (wr.setCell ⟨w.heap.size, 2, none⟩ (.int .i64 (i : Int))) (w.heap.size + 1) (Qs.cells ⟨.slice A b.length c, (d : Int), (i : Int), k⟩)))
        obtain rfl : Y = (i : Int) := by rw [← hY.eq, if_neg hz]
        clear hO KW bzr hp hk oo B9 bz9 K9 hz
        rcases hcases with e1 | ⟨e1, e2⟩
        · go_wp2_with fail
          exact bodyPost_ret (res_q2 (Try.results11) rfl rfl HP.out) rfl ⟨_, rfl, HOL.out, HKF.out⟩
        · have e2n : decide (m < N) = false := by simpa using e2
          go_wp2_with fail
          exact bodyPost_ret (res_q2 (Try.results11) rfl rfl HP.out) rfl ⟨_, rfl, HOL.out, HKF.out⟩

end Go.Proofs.Ytpdomjinhbnmfaa
