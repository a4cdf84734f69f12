/- The law FrameMakes. -/
import Derived.Test.YtcahjmnkcdcbpaaFBytes
import Derived.Test.YtcahjmnkcdcbpaaFrV
import Derived.Test.YtcahjmnkcdcbpaaFrameOpen
import Derived.Deep.RegionHeld
set_option linter.unusedSimpArgs false
set_option linter.unusedVariables false
set_option linter.unnecessarySimpa false
namespace Go.Proofs.Ytcahjmnkcdcbpaa
open Go.RowKit Go.Proofs.YtcahjmnkcdcbpaaW.PrintWords
attribute [local go_sem] max2_max min2_min max_of_two min_of_two bxF_fr stF_fr guard_eq guard_ne bin_eq bin_ne alF_fr bdF_none bdF_ask bdF_len bdF_dat
attribute [local go_sem ↓] ldF_in ldV_in bxF_in stF_in cvS_in alF_in bdF_in

theorem rbytes_v (f : Fr) (w : World) (hd : Byt f.data) : Calls Try.prog 20 #[f.val] w fun e w' => ∃ v, e = .returned v ∧ Own8 w' w.heap.size v f.bytes ∧ Ext w w' := by
  obtain ⟨id, rtr, len, d0, d1, d2, d3, d4, d5, d6, d7⟩ := f
  exact rbytes_c id rtr len d0 d1 d2 d3 d4 d5 d6 d7 w hd

set_option maxRecDepth 100000 in
set_option maxHeartbeats 4000000 in
theorem makes_c (f : Fr) (fid n : Int) (v : Value) (l : List Int) (w : World) (hd : Byt f.data) (hv : Bs w v l) :
    Calls Try.prog 5 #[f.val, .int .i64 fid, .int .i64 n, v] w fun e w' => e = .returned (.bool true) ∧ Ext w w' := by
  have hv' := hv
  obtain ⟨A, bl, o, c, rfl, hlc, hrow, hb⟩ := hv'
  have hl0 := hrow.1
  by_cases h20 : 20 < l.length
  · have e1 : decide (20 < (l.length : Int)) = true := by simp; omega
    go_enter Try.func5, Try.ntmps5
    go_wp2_with fail
    (with_reducible refine (live_c _).mono ?_); rintro e w1 ⟨rfl, k1⟩
    go_wp2_with fail
    go_ret
    exact ⟨rfl, (by repeat (first | with_reducible exact Ext.refl _ | with_reducible assumption | with_reducible apply Ext.alloc | with_reducible apply Ext.drew | with_reducible apply Ext.drewN | (with_reducible refine Ext.set' ?_ (by first | omega | (simp only [World.size_alloc, World.size_setCell]; omega))) | (with_reducible refine Ext.trans ?_ (by with_reducible assumption)) | (with_reducible refine Ext.only ?_ (by with_reducible assumption) (by omega))))⟩
  · have e1 : decide (20 < (l.length : Int)) = false := by simp; omega
    have N1 := hid (fun w h => new_c fid (.slice A l.length c) l w h)
    have N2 := hid (fun w h => rnew_c fid (.slice A l.length c) l w h)
    generalize Fr.ckd (mkFr fid l) = G at *
    generalize Fr.chk (mkFr fid l) = M at *
    have B1 := hid (fun w => bytes_v f w hd)
    have B2 := hid (fun w => rbytes_v f w hd)
    have HBY := hid (bytes_byt (f := f) hd)
    generalize f.bytes = L at *
    have f1 := frEq_refl G
    have f2 := frEq_refl Fr.zero
    have f3 := frEq_refl ⟨fid, true, n, 0, 0, 0, 0, 0, 0, 0, 0⟩
    clear hd hrow hb h20
    have HV := hid (fun w1 (k : Ext w w1) => hv.ext k)
    clear hv
    go_enter Try.func5, Try.ntmps5
    go_wp2_with fail
    have b0 := Blk.new w f.cells FT
    (with_reducible refine (N1.out _ (HV.out _ (by repeat (first | with_reducible exact Ext.refl _ | with_reducible assumption | with_reducible apply Ext.alloc | with_reducible apply Ext.drew | with_reducible apply Ext.drewN | (with_reducible refine Ext.set' ?_ (by first | omega | (simp only [World.size_alloc, World.size_setCell]; omega))) | (with_reducible refine Ext.trans ?_ (by with_reducible assumption)) | (with_reducible refine Ext.only ?_ (by with_reducible assumption) (by omega)))))).mono ?_); rintro e w1 ⟨rfl, k1⟩
    have K1 : Ext w w1 := (by repeat (first | with_reducible exact Ext.refl _ | with_reducible assumption | with_reducible apply Ext.alloc | with_reducible apply Ext.drew | with_reducible apply Ext.drewN | (with_reducible refine Ext.set' ?_ (by first | omega | (simp only [World.size_alloc, World.size_setCell]; omega))) | (with_reducible refine Ext.trans ?_ (by with_reducible assumption)) | (with_reducible refine Ext.only ?_ (by with_reducible assumption) (by omega))))
    have b1 := (k1.blk b0).alloc (.cells G.cells FT)
    have x1 := Blk.new w1 G.cells FT
    clear k1 b0 N1
    go_wp2_with fail
    (with_reducible refine (N2.out _ (HV.out _ (by repeat (first | with_reducible exact Ext.refl _ | with_reducible assumption | with_reducible apply Ext.alloc | with_reducible apply Ext.drew | with_reducible apply Ext.drewN | (with_reducible refine Ext.set' ?_ (by first | omega | (simp only [World.size_alloc, World.size_setCell]; omega))) | (with_reducible refine Ext.trans ?_ (by with_reducible assumption)) | (with_reducible refine Ext.only ?_ (by with_reducible assumption) (by omega)))))).mono ?_); rintro e w2 ⟨rfl, k2⟩
    have KW : Ext w (w2.alloc (.cells G.cells FT)) := (by repeat (first | with_reducible exact Ext.refl _ | with_reducible assumption | with_reducible apply Ext.alloc | with_reducible apply Ext.drew | with_reducible apply Ext.drewN | (with_reducible refine Ext.set' ?_ (by first | omega | (simp only [World.size_alloc, World.size_setCell]; omega))) | (with_reducible refine Ext.trans ?_ (by with_reducible assumption)) | (with_reducible refine Ext.only ?_ (by with_reducible assumption) (by omega))))
    have LF := ldF_all ((k2.blk b1).alloc (.cells G.cells FT))
    have LX := ldF_all ((k2.blk x1).alloc (.cells G.cells FT))
    have LY := ldF_all (Blk.new w2 G.cells FT)
    clear k2 b1 x1 N2 K1 HV
    have CK := hid (fun w => check_v f w)
    have CR := hid (fun w => rcheck_v f w)
    have A1 := hid (fun w => ask_c fid n w)
    have A2 := hid (fun w => rcheck_v ⟨fid, true, n, 0, 0, 0, 0, 0, 0, 0, 0⟩ w)
    generalize f.chk = m at *
    obtain ⟨G2, M2, HA, HM, HG2⟩ : ∃ (G2 : Fr) (M2 : Int), Is (Fr.ckd ⟨fid, true, n, 0, 0, 0, 0, 0, 0, 0, 0⟩) G2 ∧ Is (Fr.chk ⟨fid, true, n, 0, 0, 0, 0, 0, 0, 0, 0⟩) M2 ∧ Hid ((M2 = 0 ∧ G2 = ⟨fid, true, n, 0, 0, 0, 0, 0, 0, 0, 0⟩) ∨ (M2 ≠ 0 ∧ G2 = Fr.zero)) := by
      refine ⟨_, _, Is.refl _, Is.refl _, hid ?_⟩
      unfold Fr.ckd
      split
      · exact .inl ⟨by assumption, rfl⟩
      · exact .inr ⟨by assumption, rfl⟩
    rw [HA.eq, HM.eq] at A1
    rw [HM.eq] at A2
    clear HA HM
    generalize hW : w2.alloc (.cells G.cells FT) = W at *
    have E0 := Ext.refl W
    go_upto_region 5 with fail
    try clear hW
    go_cut [55] (fun u55 wr => u55 = .bool false ∧ Ext W wr)
    case first =>
      go_region_held (fun w' => Ext W w') (first | assumption | exact Ext.drew (by assumption))
        (first | (go_at_call 11; (with_reducible refine (CK.out _).mono ?_); rintro e w' ⟨rfl, k⟩; have K' := Ext.trans (by assumption) k; clear k) | (go_at_call 13; (with_reducible refine (CR.out _).mono ?_); rintro e w' ⟨rfl, k⟩; have K' := Ext.trans (by assumption) k; clear k) | (go_at_call 19; (with_reducible refine (B1.out _).mono ?_); rintro e w' ⟨v, rfl, ho, k⟩; have hb1 := Bs.own ho HBY.out; have hs1 := hb1.str; have K' := Ext.trans (by assumption) k; clear k) | (go_at_call 20; (with_reducible refine (B2.out _).mono ?_); rintro e w' ⟨v, rfl, ho, k⟩; have hb2 := Bs.own ho HBY.out; have hs2 := hb2.str; (try have hs3 := (Bs.ext hb1 k).str); have K' := Ext.trans (by assumption) k; clear k))
      all_goals
        go_wp2_with fail
        go_meet
        case rel => exact ⟨rfl, by assumption⟩
    case rest =>
      obtain ⟨rfl, E5⟩ := hcut
      have E5' := Ext.trans KW E5
      clear E0 B1 B2 HBY CK CR LF LX LY f1 KW E5
      rcases HG2.out with ⟨rfl, rfl⟩ | ⟨h2, rfl⟩
      · go_wp2_with (first | ((with_reducible refine (A1.out _).mono ?_); rintro e w3 ⟨rfl, k3⟩))
        have K3 := Ext.trans E5' k3
        have LA := ldF_all (Blk.new w3 (Fr.cells ⟨fid, true, n, 0, 0, 0, 0, 0, 0, 0, 0⟩) FT)
        (with_reducible refine (A2.out _).mono ?_); rintro e w4 ⟨rfl, k4⟩
        have K4 : Ext w w4 := (by repeat (first | with_reducible exact Ext.refl _ | with_reducible assumption | with_reducible apply Ext.alloc | with_reducible apply Ext.drew | with_reducible apply Ext.drewN | (with_reducible refine Ext.set' ?_ (by first | omega | (simp only [World.size_alloc, World.size_setCell]; omega))) | (with_reducible refine Ext.trans ?_ (by with_reducible assumption)) | (with_reducible refine Ext.only ?_ (by with_reducible assumption) (by omega))))
        go_wp2_with fail
        (with_reducible refine (live_c _).mono ?_); rintro e w5 ⟨rfl, k5⟩
        have k6 := Ext.trans k4 k5
        have K5 := Ext.trans K4 k5
        clear k4 k5
        go_wp2_with fail
        go_ret
        exact ⟨rfl, K5⟩
      · have e2 : (M2 != 0) = true := by simpa using h2
        go_wp2_with (first | ((with_reducible refine (A1.out _).mono ?_); rintro e w3 ⟨rfl, k3⟩))
        have K3 := Ext.trans E5' k3
        have LA := ldF_all (Blk.new w3 Fr.zero.cells FT)
        (with_reducible refine (A2.out _).mono ?_); rintro e w4 ⟨rfl, k4⟩
        have K4 : Ext w w4 := (by repeat (first | with_reducible exact Ext.refl _ | with_reducible assumption | with_reducible apply Ext.alloc | with_reducible apply Ext.drew | with_reducible apply Ext.drewN | (with_reducible refine Ext.set' ?_ (by first | omega | (simp only [World.size_alloc, World.size_setCell]; omega))) | (with_reducible refine Ext.trans ?_ (by with_reducible assumption)) | (with_reducible refine Ext.only ?_ (by with_reducible assumption) (by omega))))
        go_wp2_with fail
        (with_reducible refine (live_c _).mono ?_); rintro e w5 ⟨rfl, k5⟩
        have k6 := Ext.trans k4 k5
        have K5 := Ext.trans K4 k5
        clear k4 k5
        go_wp2_with fail
        go_ret
        exact ⟨rfl, K5⟩

theorem makes_entry (v0 v1 v2 v3 : Value) (W : World) {base : Nat} (h0 : Rd Try.prog W 24 v0.cells.toList) (o0 : Value.okWide Try.prog W .any base 24 v0)
    (h1 : Rd Try.prog W 3 v1.cells.toList) (o1 : Value.okWide Try.prog W .any base 3 v1)
    (h2 : Rd Try.prog W 3 v2.cells.toList) (o2 : Value.okWide Try.prog W .any base 3 v2)
    (h3 : Rd Try.prog W 37 v3.cells.toList) (o3 : Value.okWide Try.prog W .any base 37 v3) :
    Calls Try.prog 5 #[v0, v1, v2, v3] W fun e w' => e = .returned (.bool true) ∧ Below W.heap.size W w' := by
  obtain ⟨f, rfl, hf, _⟩ := opn_frame h0 o0
  obtain ⟨x, rfl, _⟩ := opn_int Try.underlying3 h1 o1
  obtain ⟨y, rfl, _⟩ := opn_int Try.underlying3 h2 o2
  obtain ⟨A, bl, o, l, c, rfl, hlc, hcm, hre, _, hrow, hb⟩ := opn_bytes Try.underlying37 Try.underlying5 (by kernel_rfl) (by kernel_rfl) h3 o3
  exact makes_c f x y _ l W hf (Bs.row hlc hrow hb)

end Go.Proofs.Ytcahjmnkcdcbpaa
