/- The law FrameFlips. -/
import Derived.Test.YtcahjmnkcdcbpaaFFlip
import Derived.Test.YtcahjmnkcdcbpaaFRank
import Derived.Test.YtcahjmnkcdcbpaaFrameOpen
import Derived.Deep.RegionHeld
set_option linter.unusedSimpArgs false
set_option linter.unusedVariables false
set_option linter.unnecessarySimpa false
namespace Go.Proofs.Ytcahjmnkcdcbpaa
open Go.RowKit Go.Proofs.YtcahjmnkcdcbpaaW.PrintWords
attribute [local go_sem] max2_max min2_min max_of_two min_of_two bxF_fr stF_fr stF_put ldF_put ldV_put ldF_new guard_eq guard_ne bin_eq bin_ne alF_fr bdF_none bdF_ask bdF_len bdF_dat ext_drew' ext_alloc
attribute [local go_sem ↓] ldF_in ldV_in bxF_in stF_in cvS_in alF_in bdF_in

theorem rank_v (f : Fr) (w : World) : Calls Try.prog 8 #[f.val] w fun e w' => e = .returned (.int .i64 f.rank) ∧ Ext w w' := by
  obtain ⟨id, rtr, len, d0, d1, d2, d3, d4, d5, d6, d7⟩ := f
  exact rank_c id rtr len d0 d1 d2 d3 d4 d5 d6 d7 w

theorem flip_len8 (f : Fr) : (flipL (f.data.take f.len.toNat) ++ f.data.drop f.len.toNat).length = 8 := by
  rw [List.length_append, flipL_len, List.length_take, List.length_drop]
  show min _ 8 + (8 - _) = 8
  omega
theorem mkD_dat (id : Int) (rtr : Bool) (len : Int) (D : List Int) (hD : D.length = 8) : (mkD id rtr len D).data = D := by
  rcases D with _ | ⟨a0, _ | ⟨a1, _ | ⟨a2, _ | ⟨a3, _ | ⟨a4, _ | ⟨a5, _ | ⟨a6, _ | ⟨a7, _ | ⟨a8, t⟩⟩⟩⟩⟩⟩⟩⟩⟩
  all_goals first | (simp at hD; done) | (simp at hD; omega) | rfl
theorem flip_byt {f : Fr} (hd : Byt f.data) : Byt f.flip.data := by
  unfold Fr.flip
  split
  · rw [mkD_dat _ _ _ _ (flip_len8 f)]
    exact (flipL_byt (hd.take _)).append (hd.drop _)
  · exact hd

theorem chk_iff (f : Fr) (h : f.has = true) : f.flip.chk = 0 := by
  obtain ⟨hr, l0, l1, hc⟩ := has_len h
  obtain ⟨i0, i1, _, _⟩ := chk_bounds hc
  have e : f.flip = mkD f.id f.rtr f.len (flipL (f.data.take f.len.toNat) ++ f.data.drop f.len.toNat) := by simp [Fr.flip, h]
  rw [e]
  refine chk_good (by show ¬ (f.id < 0 ∨ 2047 < f.id); omega) (by show ¬ (f.len < 0 ∨ 8 < f.len); omega) (fun i hi hcnd => ?_)
  rw [mkD_dat _ _ _ _ (flip_len8 f)]
  have hle : f.len ≤ i := by rcases hcnd with hcnd | hcnd; (have : f.rtr = true := hcnd; rw [hr] at this; cases this); exact hcnd
  have hz : f.data.getD i 0 = 0 := by
    by_cases hne : f.data.getD i 0 = 0
    · exact hne
    · have := chk_bad (f := f) (by omega) (by omega) hi (.inr hle) hne
      omega
  obtain ⟨n, hn⟩ := Int.eq_ofNat_of_zero_le l0
  rw [hn, Int.toNat_natCast]
  have hni : n ≤ i := by omega
  have el : (flipL (f.data.take n)).length = n := by rw [flipL_len, List.length_take]; show min n 8 = n; omega
  rw [List.getD_eq_getElem?_getD, List.getElem?_append_right (by omega), el, List.getElem?_drop, show n + (i - n) = i by omega, ← List.getD_eq_getElem?_getD]
  exact hz

theorem flip_has (f : Fr) : f.flip.has = f.has := by
  by_cases h : f.has = true
  · have hr := (has_len h).1
    have e : f.flip.rtr = f.rtr := by simp [Fr.flip, h, mkD]
    unfold Fr.has
    rw [chk_iff f h, e, hr, (has_len h).2.2.2]
  · simp [Fr.flip, h]
theorem flip_eq {f : Fr} (h : f.has = true) : f.flip = mkD f.id f.rtr f.len (flipL (f.data.take f.len.toNat) ++ f.data.drop f.len.toNat) := by unfold Fr.flip; rw [if_pos h]
theorem flip_flip (f : Fr) : f.flip.flip = f := by
  by_cases h : f.has = true
  · have h2 := flip_has f
    rw [h] at h2
    have e : f.flip = mkD f.id f.rtr f.len (flipL (f.data.take f.len.toNat) ++ f.data.drop f.len.toNat) := by simp [Fr.flip, h]
    have e2 : f.flip.flip = mkD f.flip.id f.flip.rtr f.flip.len (flipL (f.flip.data.take f.flip.len.toNat) ++ f.flip.data.drop f.flip.len.toNat) := flip_eq h2
    rw [e2, e, mkD_dat _ _ _ _ (flip_len8 f)]
    show mkD f.id f.rtr f.len _ = f
    obtain ⟨_, l0, l1, _⟩ := has_len h
    obtain ⟨n, hn⟩ := Int.eq_ofNat_of_zero_le l0
    have el : (flipL (f.data.take n)).length = n := by rw [flipL_len, List.length_take]; show min n 8 = n; omega
    have ex : ∀ l, l = f.len.toNat → (flipL ((flipL (f.data.take f.len.toNat) ++ f.data.drop f.len.toNat).take l) ++ (flipL (f.data.take f.len.toNat) ++ f.data.drop f.len.toNat).drop l) = f.data := by
      rintro l rfl
      rw [hn, Int.toNat_natCast, List.take_append_of_le_length (by omega), List.take_of_length_le (by omega), flipL_flip, List.drop_append_of_le_length (by omega), List.drop_of_length_le (by omega), List.nil_append, List.take_append_drop]
    rw [show (mkD f.id f.rtr f.len (flipL (f.data.take f.len.toNat) ++ f.data.drop f.len.toNat)).len.toNat = f.len.toNat from rfl, ex _ rfl]
    rfl
  · have e : f.flip = f := by simp [Fr.flip, h]
    rw [e, e]
theorem flip_rank (f : Fr) : f.flip.rank = f.rank := by
  by_cases h : f.has = true
  · have hc := chk_iff f h
    have e1 : f.flip.id = f.id := by simp [Fr.flip, h, mkD]
    have e2 : f.flip.rtr = f.rtr := by simp [Fr.flip, h, mkD]
    unfold Fr.rank
    rw [hc, e1, e2, (has_len h).2.2.2]
  · simp [Fr.flip, h]
theorem flip_bytes (f : Fr) : f.flip.bytes = flipL f.bytes := by
  unfold Fr.bytes
  rw [flip_has f]
  by_cases h : f.has = true
  · rw [if_pos h, if_pos h]
    have e : f.flip = mkD f.id f.rtr f.len (flipL (f.data.take f.len.toNat) ++ f.data.drop f.len.toNat) := by simp [Fr.flip, h]
    rw [e, mkD_dat _ _ _ _ (flip_len8 f)]
    show List.take f.len.toNat _ = _
    obtain ⟨_, l0, l1, _⟩ := has_len h
    obtain ⟨n, hn⟩ := Int.eq_ofNat_of_zero_le l0
    have el : (flipL (f.data.take n)).length = n := by rw [flipL_len, List.length_take]; show min n 8 = n; omega
    rw [hn, Int.toNat_natCast, List.take_append_of_le_length (by omega), List.take_of_length_le (by omega)]
  · rw [if_neg h, if_neg h]
    rfl

theorem xor_flip {x : Int} (h0 : 0 ≤ x) (h1 : x ≤ 255) : Go.bits .xor .u8 x (255 - x) = 255 := by
  obtain ⟨q, rfl⟩ := Int.eq_ofNat_of_zero_le h0
  have : ∀ q : Fin 256, Go.bits .xor .u8 ((q.val : Nat) : Int) (255 - ((q.val : Nat) : Int)) = 255 := by decide +kernel
  exact this ⟨q, by omega⟩
theorem flipL_at {l : List Int} {i : Nat} (h : i < l.length) : (flipL l).getD i 0 = 255 - l.getD i 0 := by
  rw [getD_at (by rw [flipL_len]; exact h), getD_at h]
  simp [flipL]

set_option maxRecDepth 100000 in
set_option maxHeartbeats 4000000 in
theorem flips_c (f : Fr) (w : World) (hd : Byt f.data) :
    Calls Try.prog 6 #[f.val] w fun e w' => e = .returned (.bool true) ∧ Ext w w' := by
  have F1 := hid (fun w => flip_v f w hd)
  have F2 := hid (fun w => flip_v f.flip w (flip_byt hd))
  have F3 := hid (fun w => rflip_v f w hd)
  have R1 := hid (fun w => rank_v f w)
  have R2 := hid (fun w => rank_v f.flip w)
  have B1 := hid (fun w => bytes_v f w hd)
  have B2 := hid (fun w => bytes_v f.flip w (flip_byt hd))
  have HL := hid (bytes_byt hd)
  have HN : f.bytes.length ≤ 8 := by unfold Fr.bytes; split; (rw [List.length_take]; exact Nat.min_le_right _ _); simp
  rw [flip_flip] at F2
  rw [flip_rank] at R2
  rw [flip_bytes] at B2
  generalize f.flip = X at *
  generalize f.rank = r at *
  generalize f.bytes = L at *
  have f1 := frEq_refl X
  have f2 := frEq_refl f
  clear hd
  go_enter Try.func6, Try.ntmps6
  go_wp2_with fail
  have b0 := Blk.new w f.cells FT
  (with_reducible refine (F1.out _).mono ?_); rintro e w1 ⟨rfl, k1⟩
  have LF := ldF_all ((k1.blk b0).alloc (.cells X.cells FT))
  have LX := ldF_all (Blk.new w1 X.cells FT)
  have K1 : Ext w (w1.alloc (.cells X.cells FT)) := (by repeat (first | with_reducible exact Ext.refl _ | with_reducible assumption | with_reducible apply Ext.alloc | with_reducible apply Ext.drew | with_reducible apply Ext.drewN | (with_reducible refine Ext.set' ?_ (by first | omega | (simp only [World.size_alloc, World.size_setCell]; omega))) | (with_reducible refine Ext.trans ?_ (by with_reducible assumption)) | (with_reducible refine Ext.only ?_ (by with_reducible assumption) (by omega))))
  clear k1 b0
  generalize hW : w1.alloc (.cells X.cells FT) = W at *
  have E0 := Ext.refl W
  go_upto_region 2 with fail
  go_region_held (fun w' => Ext W w') (first | assumption | exact Ext.drew (by assumption)) (first | (go_at_call 22; (with_reducible refine (F2.out _).mono ?_); rintro e w' ⟨rfl, k⟩; (skip); have K' := Ext.trans (by assumption) k; clear k) | (go_at_call 23; (with_reducible refine (F3.out _).mono ?_); rintro e w' ⟨rfl, k⟩; (skip); have K' := Ext.trans (by assumption) k; clear k) | (go_at_call 8; (with_reducible refine (R1.out _).mono ?_); rintro e w' ⟨rfl, k⟩; (skip); have K' := Ext.trans (by assumption) k; clear k) | (go_at_call 8; (with_reducible refine (R2.out _).mono ?_); rintro e w' ⟨rfl, k⟩; (skip); have K' := Ext.trans (by assumption) k; clear k))
  go_upto_region 4 with fail
  go_region_held (fun w' => Ext W w') (first | assumption | exact Ext.drew (by assumption)) (first | (go_at_call 19; (with_reducible refine (B1.out _).mono ?_); rintro e w' ⟨v1, rfl, ho, k⟩; (have hb1 := Bs.own ho HL.out); have K' := Ext.trans (by assumption) k; clear k) | (go_at_call 19; (with_reducible refine (B2.out _).mono ?_); rintro e w' ⟨v2, rfl, ho2, k⟩; ((have hb2 := Bs.own ho2 (flipL_byt HL.out); have hb3 := Bs.ext hb1 k)); have K' := Ext.trans (by assumption) k; clear k))
  rename_i K5
  obtain ⟨A, bl, o, c, rfl, hlc, hrow, hb⟩ := hb3
  obtain ⟨A2, bl2, o2, c2, rfl, hlc2, hrow2, _⟩ := hb2
  rw [flipL_len] at hlc2 ⊢
  have HB := hid hb
  have KW : Ext w w' := K1.trans K'
  obtain ⟨n, hn⟩ : ∃ n, L.length = n := ⟨_, rfl⟩
  have HLN := hid hn
  rw [hn] at HN hlc hlc2 ⊢
  clear F1 F2 F3 R1 R2 B1 B2 LF LX f1 f2 hW ho ho2 hb1 hb K' K5 K1 E0 hn
  go_wp2_with fail
  have E1 := Ext.refl w'
  go_loopg [6] n (fun g u6 wr => ∃ i : Nat, i + g = n ∧ u6 = .int .i64 i ∧ Ext w' wr)
  case atStart => exact ⟨0, by omega, rfl, E1⟩
  case round =>
    clear E1
    obtain ⟨i, hig, rfl, K⟩ := hrel
    by_cases hk : gk = 0
    · subst hk
      obtain rfl : i = n := by omega
      have e1 : decide ((i : Int) < (i : Int)) = false := by simp
      go_wp2_with fail
      (with_reducible refine (live_c _).mono ?_); rintro e w5 ⟨rfl, k5⟩
      go_wp2_with fail
      go_ret
      exact ⟨rfl, (by repeat (first | with_reducible exact Ext.refl _ | with_reducible assumption | with_reducible apply Ext.alloc | with_reducible apply Ext.drew | with_reducible apply Ext.drewN | (with_reducible refine Ext.set' ?_ (by first | omega | (simp only [World.size_alloc, World.size_setCell]; omega))) | (with_reducible refine Ext.trans ?_ (by with_reducible assumption)) | (with_reducible refine Ext.only ?_ (by with_reducible assumption) (by omega))))⟩
    · have hlt : i < L.length := by have := HLN.out; omega
      have e1 : decide ((i : Int) < (n : Int)) = true := by simp; omega
      have i0 : (0 : Int) ≤ (i : Int) := by omega
      have i1 : (i : Int) < (n : Int) := by omega
      obtain ⟨rfl, hc⟩ := hrow.cell K hlt
      obtain ⟨rfl, hc2⟩ := hrow2.cell K (i := i) (by rw [flipL_len]; exact hlt)
      rw [flipL_at hlt] at hc2
      have hx := HB.out.at hlt
      have hxx := xor_flip hx.1 hx.2
      generalize L.getD i 0 = x at *
      have D : ∀ a : Addr, wr.drew.cell? a = wr.cell? a := fun a => rfl
      go_wp2_with fail
      go_region
      all_goals
        go_wp2_with fail
        go_roundg (gk - 1)
        case rel => exact ⟨i + 1, by omega, by go_num, by first | exact K | exact K.drew⟩
        case measure => omega

theorem flips_entry (v0 : Value) (W : World) {base : Nat} (h0 : Rd Try.prog W 24 v0.cells.toList) (o0 : Value.okWide Try.prog W .any base 24 v0) :
    Calls Try.prog 6 #[v0] W fun e w' => e = .returned (.bool true) ∧ Below W.heap.size W w' := by
  obtain ⟨f, rfl, hf, _⟩ := opn_frame h0 o0
  exact flips_c f W hf

end Go.Proofs.Ytcahjmnkcdcbpaa
