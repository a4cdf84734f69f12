/- The reference's Text of a frame. -/
import Derived.Test.YtcahjmnkcdcbpaaFRSign
import Derived.Deep.RegionHeld
import Derived.Deep.RegionWith
set_option linter.unusedSimpArgs false
set_option linter.unusedVariables false
set_option linter.unnecessarySimpa false
namespace Go.Proofs.Ytcahjmnkcdcbpaa
open Go.RowKit Go.Proofs.YtcahjmnkcdcbpaaW.PrintWords
attribute [local go_sem] max2_max min2_min max_of_two min_of_two bxF_fr stF_fr stF_fr2 stF_put ldF_put ldV_put ldF_new guard_eq guard_ne bin_eq bin_ne alF_fr bdF_none bdF_ask bdF_len bdF_dat ext_drew' ext_alloc
attribute [local go_sem ↓] ldF_in ldV_in bxF_in stF_in cvS_in alF_in bdF_in

attribute [local go_sem] cvS_new cvS_new' mkS_app mkS_hash mkS_R mkS_size

set_option maxRecDepth 100000 in
set_option maxHeartbeats 4000000 in
/-- Of a frame that may be. -/
theorem rtext_v (f : Fr) (w : World) (hd : Byt f.data) (hc : f.chk = 0) :
    Calls Try.prog 15 #[f.val] w fun e w' => e = .returned (.string (mkS f.text)) ∧ Ext w w' := by
  obtain ⟨i0, i1, l0, l1⟩ := chk_bounds hc
  clear hc
  have b0 := Blk.new w f.cells FT
  have K0 : Ext w (w.alloc (.cells f.cells FT)) := (by repeat (first | with_reducible exact Ext.refl _ | with_reducible assumption | with_reducible apply Ext.alloc | with_reducible apply Ext.drew | with_reducible apply Ext.drewN | (with_reducible refine Ext.set' ?_ (by first | omega | (simp only [World.size_alloc, World.size_setCell]; omega))) | (with_reducible refine Ext.trans ?_ (by with_reducible assumption)) | (with_reducible refine Ext.only ?_ (by with_reducible assumption) (by omega))))
  obtain ⟨n, hn⟩ := Int.eq_ofNat_of_zero_le i0
  obtain ⟨k, hk⟩ := Int.eq_ofNat_of_zero_le l0
  have HCELL : Hid (∀ w' i, Ext (w.alloc (.cells f.cells FT)) w' → i < 8 → w'.cell? ⟨w.heap.size, 3 + i, none⟩ = some (.int .u8 (f.data.getD i 0))) := hid fun w' i q hi => Fr.cellAt (q.blk b0) hi
  have HD := hid hd
  have C0 : ∀ w', Ext (w.alloc (.cells f.cells FT)) w' → w'.cell? ⟨w.heap.size, 0, none⟩ = some (.int .i64 f.id) := fun w' q => (q.blk b0).cell 0 _ rfl
  have C1 : ∀ w', Ext (w.alloc (.cells f.cells FT)) w' → w'.cell? ⟨w.heap.size, 1, none⟩ = some (.bool f.rtr) := fun w' q => (q.blk b0).cell 1 _ rfl
  have C2 : ∀ w', Ext (w.alloc (.cells f.cells FT)) w' → w'.cell? ⟨w.heap.size, 2, none⟩ = some (.int .i64 f.len) := fun w' q => (q.blk b0).cell 2 _ rfl
  have hT : f.text = headT n ++ if f.rtr then [82, sgnI k] else tailT (f.data.take k) := by
    unfold Fr.text
    rw [hn, hk, Int.toNat_natCast]
  have hL : f.data.length = 8 := rfl
  have HL := hid hL
  rw [hT]
  rw [hn] at C0 i1
  rw [hk] at C2 l1
  clear hT hn hk i0 l0 hd b0 hL
  generalize f.rtr = rtr at *
  generalize f.data = D at *
  have S1 := hid (fun w => sign_c ((n : Int) / 256) w (by omega) (by omega))
  have S2 := hid (fun w => sign_c ((n : Int) / 16 % 16) w (by omega) (by omega))
  have S3 := hid (fun w => sign_c ((n : Int) % 16) w (by omega) (by omega))
  have SK := hid (fun w => sign_c (k : Int) w (by omega) (by omega))
  have hH : headT n = [sgnI ((n : Int) / 256), sgnI ((n : Int) / 16 % 16), sgnI ((n : Int) % 16), 35] := rfl
  obtain ⟨RT, hRT⟩ : ∃ RT, Is (headT n ++ if rtr then [82, sgnI k] else tailT (D.take k)) RT := ⟨_, Is.refl _⟩
  rw [hRT.eq]
  rw [hH] at hRT
  clear hH
  have n0 : (0 : Int) ≤ (n : Int) := by omega
  generalize hW : w.alloc (.cells f.cells FT) = W at *
  have E0 := Ext.refl W
  have dq : Int.tdiv (n : Int) 256 = (n : Int) / 256 := Int.tdiv_eq_ediv_of_nonneg n0
  have dq2 : Int.tdiv (n : Int) 16 = (n : Int) / 16 := Int.tdiv_eq_ediv_of_nonneg n0
  have dw : IntKind.i64.wrap ((n : Int) / 256) = (n : Int) / 256 := IntWalk.i64_in _ (by omega)
  have dw2 : IntKind.i64.wrap ((n : Int) / 16) = (n : Int) / 16 := IntWalk.i64_in _ (by omega)
  have dm : Int.tmod ((n : Int) / 16) 16 = (n : Int) / 16 % 16 := Int.tmod_eq_emod_of_nonneg (by omega)
  have dm2 : Int.tmod (n : Int) 16 = (n : Int) % 16 := Int.tmod_eq_emod_of_nonneg n0
  go_enter Try.func15, Try.ntmps15
  go_upto_region 1 with fail
  go_cut [3] (fun u3 wr => u3 = .string (mkS [sgnI ((n : Int) / 256), sgnI ((n : Int) / 16 % 16), sgnI ((n : Int) % 16), 35]) ∧ Ext W wr)
  case first =>
    go_region_held (fun w' => Ext W w') (first | assumption | exact Ext.drew (by assumption)) (first | (go_at_call 27; (with_reducible refine (S1.out _).mono ?_); rintro e w' ⟨rfl, k⟩; (skip); have K' := Ext.trans (by assumption) k; clear k) | (go_at_call 27; (with_reducible refine (S2.out _).mono ?_); rintro e w' ⟨rfl, k⟩; (skip); have K' := Ext.trans (by assumption) k; clear k) | (go_at_call 27; (with_reducible refine (S3.out _).mono ?_); rintro e w' ⟨rfl, k⟩; (skip); have K' := Ext.trans (by assumption) k; clear k))
    all_goals
      go_wp2_with fail
      go_meet
      case rel => exact ⟨rfl, by assumption⟩
  case rest =>
    obtain ⟨rfl, E1⟩ := hcut
    clear S1 S2 S3 C0 E0 hW dq dq2 dw dw2 dm dm2
    have HHL : [sgnI ((n : Int) / 256), sgnI ((n : Int) / 16 % 16), sgnI ((n : Int) % 16), 35].length ≤ 10 := by simp
    generalize [sgnI ((n : Int) / 256), sgnI ((n : Int) / 16 % 16), sgnI ((n : Int) % 16), 35] = H at *
    have hk8 : k ≤ 8 := by omega
    have hH4 : H.length ≤ 10 := HHL
    cases rtr
    · have hR2 : Is (H ++ tailT (D.take k)) RT := Is.mk (by rw [← hRT.eq]; rfl)
      clear hRT
      go_wp2_with fail
      clear C1
      go_loopg [3, 4] k (fun g u3 u4 wr => ∃ i : Nat, i + g = k ∧ u4 = .int .i64 i ∧ u3 = .string (mkS (H ++ tailT (D.take i))) ∧ Ext W wr)
      case atStart => exact ⟨0, by omega, rfl, by rw [List.take_zero]; simp [tailT], E1⟩
      case round =>
        clear E1
        obtain ⟨i, hig, rfl, rfl, K⟩ := hrel
        by_cases hk : gk = 0
        · subst hk
          obtain rfl : i = k := by omega
          have e1 : decide ((i : Int) < (i : Int)) = false := by simp
          go_wp2_with fail
          go_ret
          exact ⟨by rw [← hR2.eq]; rfl, K0.trans K⟩
        · have e1 : decide ((i : Int) < (k : Int)) = true := by simp; omega
          have i0 : (0 : Int) ≤ (i : Int) := by omega
          have i1 : (i : Int) < 8 := by omega
          have c3 : ∀ w', Ext W w' → w'.cell? ⟨w.heap.size, 3 + i, none⟩ = some (.int .u8 (D.getD i 0)) := fun w' q => HCELL.out w' i q (by omega)
          have hx := HD.out.at (i := i) (by have := HL.out; omega)
          have hsn : D.take (i + 1) = D.take i ++ [D.getD i 0] := by
            have := HL.out
            rw [List.take_add_one, List.getElem?_eq_getElem (by omega), getD_at (by omega)]
            rfl
          have hT : tailT (D.take (i + 1)) = tailT (D.take i) ++ [sgnI (D.getD i 0 / 16), sgnI (D.getD i 0 % 16)] := by rw [hsn, tailT_snoc]
          generalize D.getD i 0 = x at *
          obtain ⟨x0, x1⟩ := hx
          have T1 := hid (fun w => sign_c (x / 16) w (by omega) (by omega))
          have T2 := hid (fun w => sign_c (x % 16) w (by omega) (by omega))
          have dq : Int.tdiv x 16 = x / 16 := Int.tdiv_eq_ediv_of_nonneg x0
          have dm : Int.tmod x 16 = x % 16 := Int.tmod_eq_emod_of_nonneg x0
          have dw : IntKind.i64.wrap (x / 16) = x / 16 := IntWalk.i64_in _ (by omega)
          have dx : IntKind.i64.wrap x = x := IntWalk.i64_in _ (by omega)
          have hA : H ++ tailT (D.take (i + 1)) = (H ++ tailT (D.take i)) ++ [sgnI (x / 16), sgnI (x % 16)] := by rw [hT, List.append_assoc]
          have HT := hid hA
          clear hT hsn hA
          have hTT : (H ++ tailT (D.take i)).length ≤ 100 := by rw [List.length_append, tailT_len, List.length_take]; omega
          generalize H ++ tailT (D.take i) = TT at *
          go_wp2_with fail
          go_region_held (fun w' => Ext W w') (first | assumption | exact Ext.drew (by assumption)) (first | (go_at_call 27; (with_reducible refine (T1.out _).mono ?_); rintro e w' ⟨rfl, k⟩; (skip); have K' := Ext.trans (by assumption) k; clear k) | (go_at_call 27; (with_reducible refine (T2.out _).mono ?_); rintro e w' ⟨rfl, k⟩; (skip); have K' := Ext.trans (by assumption) k; clear k))
          all_goals
            go_wp2_with fail
            go_roundg (gk - 1)
            case rel => exact ⟨i + 1, by omega, by go_num, by rw [HT.out], by assumption⟩
            case measure => omega
    · have hR2 : Is (H ++ [82, sgnI k]) RT := Is.mk (by rw [← hRT.eq]; rfl)
      clear hRT
      go_wp2_with fail
      (with_reducible refine (SK.out _).mono ?_); rintro e w1 ⟨rfl, k1⟩
      go_wp2_with fail
      go_ret
      exact ⟨by rw [← hR2.eq]; first | rfl | simp, (by repeat (first | with_reducible exact Ext.refl _ | with_reducible assumption | with_reducible apply Ext.alloc | with_reducible apply Ext.drew | with_reducible apply Ext.drewN | (with_reducible refine Ext.set' ?_ (by first | omega | (simp only [World.size_alloc, World.size_setCell]; omega))) | (with_reducible refine Ext.trans ?_ (by with_reducible assumption)) | (with_reducible refine Ext.only ?_ (by with_reducible assumption) (by omega))))⟩

end Go.Proofs.Ytcahjmnkcdcbpaa
