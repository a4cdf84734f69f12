/- Layer 27: what must be whatever is asked. -/
import Derived.Test.YtfjmflkfnccohaaPMake
import Derived.Test.YtfjmflkfnccohaaPair3
set_option linter.unusedSimpArgs false
set_option linter.unusedVariables false
set_option linter.unnecessarySimpa false
namespace Go.Proofs.Ytfjmflkfnccohaa
open Go.RowKit Go.Proofs.YtfjmflkfnccohaaW.PrintWords
attribute [local go_sem] max2_max min2_min max_of_two min_of_two bxF_fr stF_fr stF_fr2 stF_put ldF_put ldV_put ldF_new guard_eq guard_ne bin_eq bin_ne alF_fr bdF_none bdF_ask bdF_len bdF_dat ext_drew' ext_alloc
attribute [local go_sem ↓] ldF_in ldV_in bxF_in stF_in cvS_in alF_in bdF_in ixS_in
attribute [local go_sem] gUpon bsF_one bsF_two
attribute [local go_sem ↓] bsF_in

set_option maxRecDepth 100000 in
set_option maxHeartbeats 4000000 in
theorem live_c (w : World) : Calls Try.prog 12 #[] w fun e w' => e = .returned (.bool true) ∧ Ext w w' := by
  have hE : mkE 257 258 [5] = 0 := by decide +kernel
  have hG : frEq (mkFr 258 (flipL [5])) ⟨258, false, 1, 250, 0, 0, 0, 0, 0, 0, 0⟩ = true := by decide +kernel
  have HA := hid (Bs.own (own8_one w w.heap.size 5 (Nat.le_refl _)) (Byt.one (x := 5) (by omega) (by omega)))
  have K0 : Ext w (w.alloc (.cells #[.int .u8 5] U8)) := (by repeat (first | with_reducible exact Ext.refl _ | with_reducible assumption | with_reducible apply Ext.alloc | with_reducible apply Ext.drew | with_reducible apply Ext.drewN | (with_reducible refine Ext.set' ?_ (by first | omega | (simp only [World.size_alloc, World.size_setCell]; omega))) | (with_reducible refine Ext.trans ?_ (by with_reducible assumption)) | (with_reducible refine Ext.only ?_ (by with_reducible assumption) (by omega))))
  have HE := hid hE
  clear hE
  generalize hGG : mkFr 258 (flipL [5]) = G at *
  go_enter Try.func12, Try.ntmps12
  go_wp2_with fail
  (with_reducible refine (pmake_c 257 258 _ _ _ HA.out).mono ?_); rintro e w1 ⟨u, rfl, hp, k1⟩
  rw [HE.out]
  rcases hp with ⟨hp, _⟩ | ⟨_, hp⟩
  · exact absurd HE.out hp
  have K1 : Ext w w1 := (by repeat (first | with_reducible exact Ext.refl _ | with_reducible assumption | with_reducible apply Ext.alloc | with_reducible apply Ext.drew | with_reducible apply Ext.drewN | (with_reducible refine Ext.set' ?_ (by first | omega | (simp only [World.size_alloc, World.size_setCell]; omega))) | (with_reducible refine Ext.trans ?_ (by with_reducible assumption)) | (with_reducible refine Ext.only ?_ (by with_reducible assumption) (by omega))))
  rw [hGG] at hp
  obtain ⟨gg, gc, rfl, _, hp⟩ := hp
  have LF : ∀ w', Ext w1 w' → (ldF (.pointer (some ⟨gg, 11, none⟩))).run Try.prog w' = .ok G.val w' := fun w' k => hp 1 _ rfl w' k
  clear hp k1 K0
  go_wp2_with fail
  (with_reducible refine (knew_c 1 _).mono ?_); rintro e w2 hk
  rw [if_neg (by omega)] at hk
  obtain ⟨g, rfl, hc, hg, k2⟩ := hk
  have HC := hid (CkAt.ext hc ((Ext.refl w2).alloc (o := .cells #[.int .u8 5] U8)))
  have HA2 := hid (Bs.own (own8_one w2 w2.heap.size 5 (Nat.le_refl _)) (Byt.one (x := 5) (by omega) (by omega)))
  have P1 := hid (show Ck.plain ⟨1, false, [], []⟩ [5] = (⟨1, true, [5], []⟩, 1) by simp [Ck.plain])
  have P2 := hid (show Ck.turned ⟨1, true, [5], []⟩ [250] = (⟨1, false, [], [5]⟩, 2) by simp [Ck.turned, flipL])
  clear hc
  go_wp2_with fail
  (with_reducible refine (plain_c g _ _ _ _ HC.out HA2.out (by decide)).mono ?_); rintro e w3 ⟨rfl, hc, k3⟩
  rw [P1.out] at hc ⊢
  simp only at hc
  have K2 : Ext w1 (w2.alloc (.cells #[.int .u8 5] U8)) := k2.alloc
  have K3 : Ext w1 w3 := Ext.only K2 k3 hg
  have HC3 := hid (CkAt.ext hc ((Ext.refl w3).alloc (o := .cells #[.int .u8 250] U8)))
  have HA3 := hid (Bs.own (own8_one w3 w3.heap.size 250 (Nat.le_refl _)) (Byt.one (x := 250) (by omega) (by omega)))
  clear hc k3 k2 K2 HC HA2 HA
  go_wp2_with fail
  (with_reducible refine (turned_c g _ _ _ _ HC3.out HA3.out (by decide)).mono ?_); rintro e w4 ⟨rfl, hc, k4⟩
  rw [P2.out] at hc ⊢
  simp only at hc
  have K4 : Ext w1 w4 := Ext.only (K3.alloc (o := .cells #[.int .u8 250] U8)) k4 hg
  have KW : Ext w w4 := K1.trans K4
  have HC4 := hid hc
  clear hc k4 K3 HC3 HA3 P1 P2
  have e1 : ((⟨#[5]⟩ : ByteArray).toList == (⟨#[5]⟩ : ByteArray).toList) = true := by simp
  go_wp2_with fail
  (with_reducible refine (value_k g _ _ HC4.out (by decide)).mono ?_); rintro e w5 ⟨v5, rfl, o5, k5⟩
  have hs := (Bs.own o5 (Byt.one (x := 5) (by omega) (by omega))).str
  rw [show mkS [5] = ⟨#[5]⟩ from rfl] at hs
  have K5 : Ext w w5 := KW.trans k5
  clear o5 k5
  go_wp2_with fail
  go_ret
  exact ⟨rfl, K5⟩

end Go.Proofs.Ytfjmflkfnccohaa
