/- The law FrameTexts. -/
import Derived.Test.YtcahjmnkcdcbpaaFPure
import Derived.Test.YtcahjmnkcdcbpaaFRank
import Derived.Test.YtcahjmnkcdcbpaaFrameOpen
import Derived.Test.YtcahjmnkcdcbpaaOrd
set_option linter.unusedSimpArgs false
set_option linter.unusedVariables false
set_option linter.unnecessarySimpa false
namespace Go.Proofs.Ytcahjmnkcdcbpaa
open Go.RowKit Go.Proofs.YtcahjmnkcdcbpaaW.PrintWords
attribute [local go_sem] max2_max min2_min max_of_two min_of_two bxF_fr stF_fr stF_fr2 stF_put ldF_put ldV_put ldF_new guard_eq guard_ne bin_eq bin_ne alF_fr bdF_none bdF_ask bdF_len bdF_dat ext_drew' ext_alloc
attribute [local go_sem ↓] ldF_in ldV_in bxF_in stF_in cvS_in alF_in bdF_in ixS_in

theorem text_v (f : Fr) (w : World) (hd : Byt f.data) : Calls Try.prog 12 #[f.val] w fun e w' => e = .returned (.tuple #[.string (if f.chk = 0 then mkS f.text else ⟨#[]⟩), .int .i64 f.chk]) ∧ Ext w w' := by
  obtain ⟨id, rtr, len, d0, d1, d2, d3, d4, d5, d6, d7⟩ := f
  exact text_c id rtr len d0 d1 d2 d3 d4 d5 d6 d7 w hd

theorem text_short {f : Fr} (hc : f.chk = 0) : f.text.length ≤ 20 := by
  obtain ⟨i0, i1, l0, l1⟩ := chk_bounds hc
  unfold Fr.text headT
  split
  · simp
  · simp only [List.length_append, List.length_cons, List.length_nil, tailT_len, List.length_take]
    have : f.len.toNat ≤ 8 := by omega
    omega

set_option maxRecDepth 100000 in
set_option maxHeartbeats 4000000 in
theorem texts_c (f : Fr) (s : ByteArray) (w : World) (hd : Byt f.data) (hs : s.size ≤ 140737488355000) :
    Calls Try.prog 4 #[f.val, .string s] w fun e w' => e = .returned (.bool true) ∧ Ext w w' := by
  have T1 := hid (fun w => text_v f w hd)
  obtain ⟨TX, hTX⟩ : ∃ TX, Is (if f.chk = 0 then mkS f.text else (⟨#[]⟩ : ByteArray)) TX := ⟨_, Is.refl _⟩
  rw [hTX.eq] at T1
  have CR := hid (fun w => rcheck_v f w)
  obtain ⟨q, hq⟩ : ∃ q, Is f.chk q := ⟨_, Is.refl _⟩
  rw [hq.eq] at T1 CR
  have PS := hid (fun w => parse_c s w hs)
  have RS := hid (fun w => rparse_c s w hs)
  have HPS : Hid ((parseV (sb s)).2 = 0 → (parseV (sb s)).1.chk = 0 ∧ mkS (parseV (sb s)).1.text = s ∧ Byt (parseV (sb s)).1.data) := hid fun h => by
    obtain ⟨h1, h2, h3, _⟩ := parse_sound h
    exact ⟨h1, by rw [h2, mkS_sb], h3⟩
  rw [rparse_eq] at RS
  generalize (parseV (sb s)).1 = X at *
  generalize (parseV (sb s)).2 = m at *
  have b0 := Blk.new w f.cells FT
  have K0 : Ext w (w.alloc (.cells f.cells FT)) := (by repeat (first | with_reducible exact Ext.refl _ | with_reducible assumption | with_reducible apply Ext.alloc | with_reducible apply Ext.drew | with_reducible apply Ext.drewN | (with_reducible refine Ext.set' ?_ (by first | omega | (simp only [World.size_alloc, World.size_setCell]; omega))) | (with_reducible refine Ext.trans ?_ (by with_reducible assumption)) | (with_reducible refine Ext.only ?_ (by with_reducible assumption) (by omega))))
  have LF := ldF_all b0
  have E0 := Ext.refl (w.alloc (.cells f.cells FT))
  have fx := frEq_refl X
  have ff := frEq_refl f
  clear b0
  go_enter Try.func4, Try.ntmps4
  go_wp2_with fail
  generalize w.alloc (.cells f.cells FT) = W at *
  (with_reducible refine (T1.out _).mono ?_); rintro e w1 ⟨rfl, k1⟩
  have K1 := K0.trans k1
  go_wp2_with fail
  (with_reducible refine (CR.out _).mono ?_); rintro e w2 ⟨rfl, k2⟩
  have K2 := K1.trans k2
  have k3 := k1.trans k2
  clear k1 k2 K1 E0
  go_upto_if 24 with fail
  go_cut [4] (fun u4 wr => Ext w wr)
  case first =>
    by_cases hc : f.chk = 0
    · have RT := hid (fun w => rtext_v f w hd hc)
      have P1 := hid (fun w => parse_c (mkS f.text) w (by rw [mkS_size]; have := text_short hc; omega))
      rw [sb_mkS (text_byt hd hc), parse_text hd hc] at P1
      obtain rfl : mkS f.text = TX := by rw [← hTX.eq, if_pos hc]
      obtain rfl : 0 = q := by rw [← hq.eq, hc]
      clear T1 CR hTX hq hc
      go_wp2_with fail
      (with_reducible refine (P1.out _).mono ?_); rintro e w3 ⟨rfl, k4⟩
      have LX := ldF_all (Blk.new w3 f.cells FT)
      have k5 := k3.trans k4
      have K3 := K2.trans k4
      clear k4 k3
      go_wp2_with fail
      (with_reducible refine (RT.out _).mono ?_); rintro e w4 ⟨rfl, k6⟩
      have k7 := (Ext.alloc k5).trans k6
      have K4 := (Ext.alloc K3).trans k6
      go_wp2_with fail
      go_meet
      case rel => exact K4
    · have e0 : (q != 0) = true := by rw [← hq.eq]; simpa using hc
      obtain rfl : (⟨#[]⟩ : ByteArray) = TX := by rw [← hTX.eq, if_neg hc]
      clear T1 CR hTX hc hq
      go_wp2_with fail
      go_meet
      case rel => exact K2
  case rest =>
    clear T1 CR LF ff k3 K2 K0
    go_wp2_with fail
    (with_reducible refine (PS.out _).mono ?_); rintro e w5 ⟨rfl, k5⟩
    have K5 := Ext.trans hcut k5
    have LX := ldF_all (Blk.new w5 X.cells FT)
    clear k5 hcut
    go_wp2_with fail
    (with_reducible refine (RS.out _).mono ?_); rintro e w6 ⟨rfl, k6⟩
    have K6 := (Ext.alloc K5).trans k6
    have LY := ldF_all (Blk.new w6 X.cells FT)
    have k7 := Ext.alloc (o := .cells X.cells FT) k6
    have E7 := Ext.refl (w6.alloc (.cells X.cells FT))
    have K7 := Ext.alloc (o := .cells X.cells FT) K6

    clear k6 K6 K5
    by_cases hm : m = 0
    · obtain ⟨hx, htx, hbx⟩ := HPS.out hm
      subst hm
      have TX2 := hid (fun w => text_v X w hbx)
      rw [if_pos hx, htx, hx] at TX2
      go_wp2_with fail
      (with_reducible refine (TX2.out _).mono ?_); rintro e w8 ⟨rfl, k8⟩
      have K8 := K7.trans k8
      clear k8
      go_wp2_with fail
      (with_reducible refine (live_c _).mono ?_); rintro e w9 ⟨rfl, k9⟩
      go_wp2_with fail
      go_ret
      exact ⟨rfl, K8.trans k9⟩
    · have e0 : (m != 0) = true := by simpa using hm
      clear HPS
      go_wp2_with fail
      (with_reducible refine (live_c _).mono ?_); rintro e w9 ⟨rfl, k9⟩
      go_wp2_with fail
      go_ret
      exact ⟨rfl, K7.trans k9⟩

theorem texts_entry (v0 v1 : Value) (W : World) {base : Nat} (h0 : Rd Try.prog W 24 v0.cells.toList) (o0 : Value.okWide Try.prog W .any base 24 v0)
    (h1 : Rd Try.prog W 9 v1.cells.toList) (o1 : Value.okWide Try.prog W .any base 9 v1) :
    Calls Try.prog 4 #[v0, v1] W fun e w' => e = .returned (.bool true) ∧ Below W.heap.size W w' := by
  obtain ⟨f, rfl, hf, _⟩ := opn_frame h0 o0
  obtain ⟨s, rfl, hs⟩ := opn_string Try.underlying9 h1 o1
  exact texts_c f s W hf (by unfold reachBytes at hs; omega)

end Go.Proofs.Ytcahjmnkcdcbpaa
