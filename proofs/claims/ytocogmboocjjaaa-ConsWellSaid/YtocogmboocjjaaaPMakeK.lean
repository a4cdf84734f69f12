/- Package pair: Make; the reference's Make. -/
import Derived.Test.YtocogmboocjjaaaFrRow
import Derived.Test.YtocogmboocjjaaaFRNew
import Derived.Test.YtocogmboocjjaaaWFlip
import Derived.Test.YtocogmboocjjaaaRFlip2
import Derived.Test.YtocogmboocjjaaaOrd
set_option linter.unusedSimpArgs false
set_option linter.unusedVariables false
set_option linter.unnecessarySimpa false
namespace Go.Proofs.Ytocogmboocjjaaa
open Go.RowKit Go.Proofs.YtocogmboocjjaaaW.PrintWords
attribute [local go_sem] max2_max min2_min max_of_two min_of_two bxF_fr stF_fr stF_fr2 stF_put ldF_put ldV_put ldF_new guard_eq guard_ne bin_eq bin_ne alF_fr bdF_none bdF_ask bdF_len bdF_dat ext_drew' ext_alloc
attribute [local go_sem ↓] ldF_in ldV_in bxF_in stF_in cvS_in alF_in bdF_in ixS_in
attribute [local go_sem] gUpon bsF_one bsF_two
attribute [local go_sem ↓] bsF_in

/-- A value's two frames: what is told. -/
def mkE (p t : Int) (l : List Int) : Int :=
  if l.length < 1 ∨ 8 < l.length then 11 else if (mkFr p l).chk ≠ 0 then (mkFr p l).chk else (mkFr t (flipL l)).chk
def mkPost (w' : World) (base : Nat) (p t : Int) (l : List Int) (v : Value) : Prop :=
  (mkE p t l ≠ 0 ∧ v = .slice none 0 0) ∨ (mkE p t l = 0 ∧ OwnF w' base v [mkFr p l, mkFr t (flipL l)])
theorem OwnF.only {w w' : World} {base b : Nat} {v : Value} {l : List Fr} (h : OwnF w base v l) (k : Only b w w') (hb : b < base) : OwnF w' base v l := by
  obtain ⟨h0, h⟩ := h
  refine ⟨h0, ?_⟩
  rcases h with h | ⟨g, cap, cur, hv, hg, hh, r⟩
  · exact .inl h
  · have hlt : g < w.heap.size := lt_of_block hh
    exact .inr ⟨g, cap, cur, hv, hg, by rw [k.block g hlt (by omega)]; exact hh, r⟩
theorem OwnF.two (f g : Fr) (w : World) (base : Nat) (hb : base ≤ w.heap.size) : OwnF (w.alloc (.cells (fcs [f, g]).toArray FT)) base (.slice (some ⟨w.heap.size, 0, none⟩) 2 2) [f, g] := by
  have hl := fcs_len [f, g]
  refine ⟨hl, .inr ⟨w.heap.size, 2, (fcs [f, g]).toArray, rfl, hb, Blk.new w _ FT, Nat.le_refl _, by decide, by simpa using hl, ?_⟩⟩
  rw [List.take_of_length_le (by rw [List.toList_toArray, hl]; exact Nat.le_refl _)]
theorem ckd_of {f : Fr} (h : f.chk = 0) : f.ckd = f := by unfold Fr.ckd; rw [if_pos h]

set_option maxRecDepth 100000 in
set_option maxHeartbeats 4000000 in
theorem prmake_c (p t : Int) (v : Value) (l : List Int) (w : World) (hv : Bs w v l) :
    Calls Try.prog 17 #[.int .i64 p, .int .i64 t, v] w fun e w' => ∃ u, e = .returned (.tuple #[u, .int .i64 (mkE p t l)]) ∧ mkPost w' w.heap.size p t l u ∧ Ext w w' := by
  have hv' := hv
  obtain ⟨A, bl, o, c, rfl, hlc, hrow, hb⟩ := hv'
  have hl0 := hrow.1
  clear hrow
  by_cases hlen : l.length < 1 ∨ 8 < l.length
  · have hE : mkE p t l = 11 := by unfold mkE; rw [if_pos hlen]
    have hcase : ((l.length : Int) == 0) = true ∨ (((l.length : Int) == 0) = false ∧ decide (8 < (l.length : Int)) = true) := by
      by_cases h : l.length < 1
      · exact .inl (by simp; exact List.eq_nil_of_length_eq_zero (by omega))
      · exact .inr ⟨by simp; intro e; rw [e] at h; exact h (by decide), by simp; omega⟩
    have HE := hid hE
    clear hE hlen
    rw [HE.out]
    rcases hcase with e1 | ⟨e1, e2⟩
    all_goals
      go_enter Try.func17, Try.ntmps17
      go_wp2_with fail
      exact bodyPost_ret (v := .tuple #[.slice none 0 0, .int .i64 11]) (by simp [results, Try.results17, go_sem, *]) rfl ⟨_, rfl, .inl ⟨by rw [HE.out]; omega, rfl⟩, (by repeat (first | with_reducible exact Ext.refl _ | with_reducible assumption | with_reducible apply Ext.alloc | with_reducible apply Ext.drew | with_reducible apply Ext.drewN | (with_reducible refine Ext.set' ?_ (by first | omega | (simp only [World.size_alloc, World.size_setCell]; omega))) | (with_reducible refine Ext.trans ?_ (by with_reducible assumption)) | (with_reducible refine Ext.only ?_ (by with_reducible assumption) (by omega))))⟩
  · have e1 : ((l.length : Int) == 0) = false := by rw [beq_eq_false_iff_ne]; omega
    have e2 : decide (8 < (l.length : Int)) = false := by simp; omega
    have hE : mkE p t l = if (mkFr p l).chk ≠ 0 then (mkFr p l).chk else (mkFr t (flipL l)).chk := by unfold mkE; rw [if_neg hlen]
    have N1 := hid (fun w h => rnew_c p (.slice A l.length c) l w h)
    have N2 := hid (fun v w h => rnew_c t v (flipL l) w h)
    have WF := hid (fun w h => rflip2_c (.slice A l.length c) l w h (by omega))
    have HB := hid (flipL_byt hb)
    have HV := hid (fun w1 (k : Ext w w1) => hv.ext k)
    obtain ⟨E, hEE⟩ : ∃ E, Is (mkE p t l) E := ⟨_, Is.refl _⟩
    have HP : Hid (∀ (w' : World) (u : Value), (E ≠ 0 ∧ u = .slice none 0 0) ∨ (E = 0 ∧ OwnF w' w.heap.size u [mkFr p l, mkFr t (flipL l)]) → mkPost w' w.heap.size p t l u) := hid (fun w' u h => by unfold mkPost; rw [hEE.eq]; exact h)
    have hE' : Is E (if (mkFr p l).chk ≠ 0 then (mkFr p l).chk else (mkFr t (flipL l)).chk) := Is.mk (by rw [← hE, hEE.eq])
    rw [hEE.eq]
    clear hE hEE hv hb hlen
    have hc1 := hid (fun h => ckd_of (f := mkFr p l) h)
    have hc2 := hid (fun h => ckd_of (f := mkFr t (flipL l)) h)
    generalize hF : mkFr p l = F at *
    generalize hG : mkFr t (flipL l) = G at *
    clear hF hG
    obtain ⟨m1, hm1⟩ : ∃ m, Is F.chk m := ⟨_, Is.refl _⟩
    obtain ⟨m2, hm2⟩ : ∃ m, Is G.chk m := ⟨_, Is.refl _⟩
    rw [hm1.eq] at N1 hE' hc1
    rw [hm2.eq] at N2 hE' hc2
    clear hm1 hm2
    by_cases hm : m1 = 0
    · subst hm
      rw [hc1.out rfl] at N1
      by_cases hm : m2 = 0
      · subst hm
        rw [hc2.out rfl] at N2
        have HE : Hid (E = 0) := hid (by rw [hE'.eq, if_neg (by simp)])
        clear hc1 hc2 hE'
        go_enter Try.func17, Try.ntmps17
        go_wp2_with fail
        (with_reducible refine (N1.out _ (HV.out _ (by repeat (first | with_reducible exact Ext.refl _ | with_reducible assumption | with_reducible apply Ext.alloc | with_reducible apply Ext.drew | with_reducible apply Ext.drewN | (with_reducible refine Ext.set' ?_ (by first | omega | (simp only [World.size_alloc, World.size_setCell]; omega))) | (with_reducible refine Ext.trans ?_ (by with_reducible assumption)) | (with_reducible refine Ext.only ?_ (by with_reducible assumption) (by omega)))))).mono ?_); rintro e w1 ⟨rfl, k1⟩
        have K1 : Ext w (w1.alloc (.cells F.cells FT)) := (by repeat (first | with_reducible exact Ext.refl _ | with_reducible assumption | with_reducible apply Ext.alloc | with_reducible apply Ext.drew | with_reducible apply Ext.drewN | (with_reducible refine Ext.set' ?_ (by first | omega | (simp only [World.size_alloc, World.size_setCell]; omega))) | (with_reducible refine Ext.trans ?_ (by with_reducible assumption)) | (with_reducible refine Ext.only ?_ (by with_reducible assumption) (by omega))))
        have b1 := Blk.new w1 F.cells FT
        clear k1
        go_wp2_with fail
        (with_reducible refine (WF.out _ (HV.out _ (by repeat (first | with_reducible exact Ext.refl _ | with_reducible assumption | with_reducible apply Ext.alloc | with_reducible apply Ext.drew | with_reducible apply Ext.drewN | (with_reducible refine Ext.set' ?_ (by first | omega | (simp only [World.size_alloc, World.size_setCell]; omega))) | (with_reducible refine Ext.trans ?_ (by with_reducible assumption)) | (with_reducible refine Ext.only ?_ (by with_reducible assumption) (by omega)))))).mono ?_); rintro e w2 ⟨v2, rfl, oo, k2⟩
        have K2 : Ext w w2 := (by repeat (first | with_reducible exact Ext.refl _ | with_reducible assumption | with_reducible apply Ext.alloc | with_reducible apply Ext.drew | with_reducible apply Ext.drewN | (with_reducible refine Ext.set' ?_ (by first | omega | (simp only [World.size_alloc, World.size_setCell]; omega))) | (with_reducible refine Ext.trans ?_ (by with_reducible assumption)) | (with_reducible refine Ext.only ?_ (by with_reducible assumption) (by omega))))
        have b2 := k2.blk b1
        have hvv := Bs.own oo HB.out
        clear b1 K1 k2
        go_wp2_with fail
        (with_reducible refine (N2.out _ _ hvv).mono ?_); rintro e w3 ⟨rfl, k3⟩
        have K3 : Ext w (w3.alloc (.cells G.cells FT)) := (by repeat (first | with_reducible exact Ext.refl _ | with_reducible assumption | with_reducible apply Ext.alloc | with_reducible apply Ext.drew | with_reducible apply Ext.drewN | (with_reducible refine Ext.set' ?_ (by first | omega | (simp only [World.size_alloc, World.size_setCell]; omega))) | (with_reducible refine Ext.trans ?_ (by with_reducible assumption)) | (with_reducible refine Ext.only ?_ (by with_reducible assumption) (by omega))))
        have L1 := ldF_blk ((k3.blk b2).alloc (.cells G.cells FT))
        have K4 : Ext w ((w3.alloc (.cells G.cells FT)).alloc (.cells (fcs [F, G]).toArray FT)) := (by repeat (first | with_reducible exact Ext.refl _ | with_reducible assumption | with_reducible apply Ext.alloc | with_reducible apply Ext.drew | with_reducible apply Ext.drewN | (with_reducible refine Ext.set' ?_ (by first | omega | (simp only [World.size_alloc, World.size_setCell]; omega))) | (with_reducible refine Ext.trans ?_ (by with_reducible assumption)) | (with_reducible refine Ext.only ?_ (by with_reducible assumption) (by omega))))
        have HFR := hid (OwnF.two F G (w3.alloc (.cells G.cells FT)) w.heap.size K3.le)
        clear b2 k3 K2 oo hvv
        go_wp2_with fail
        exact bodyPost_ret (v := .tuple #[.slice (some ⟨w3.heap.size + 1, 0, none⟩) 2 2, .int .i64 0]) (by simp [results, Try.results17, go_sem, *]) rfl ⟨_, by rw [HE.out], HP.out _ _ (.inr ⟨HE.out, by simpa using HFR.out⟩), K4⟩
      · have e5 : (m2 != 0) = true := by simpa using hm
        have HE : Hid (E = m2 ∧ m2 ≠ 0) := hid ⟨by rw [hE'.eq, if_neg (by simp)], hm⟩
        clear hc1 hc2 hE'
        go_enter Try.func17, Try.ntmps17
        go_wp2_with fail
        (with_reducible refine (N1.out _ (HV.out _ (by repeat (first | with_reducible exact Ext.refl _ | with_reducible assumption | with_reducible apply Ext.alloc | with_reducible apply Ext.drew | with_reducible apply Ext.drewN | (with_reducible refine Ext.set' ?_ (by first | omega | (simp only [World.size_alloc, World.size_setCell]; omega))) | (with_reducible refine Ext.trans ?_ (by with_reducible assumption)) | (with_reducible refine Ext.only ?_ (by with_reducible assumption) (by omega)))))).mono ?_); rintro e w1 ⟨rfl, k1⟩
        have K1 : Ext w (w1.alloc (.cells F.cells FT)) := (by repeat (first | with_reducible exact Ext.refl _ | with_reducible assumption | with_reducible apply Ext.alloc | with_reducible apply Ext.drew | with_reducible apply Ext.drewN | (with_reducible refine Ext.set' ?_ (by first | omega | (simp only [World.size_alloc, World.size_setCell]; omega))) | (with_reducible refine Ext.trans ?_ (by with_reducible assumption)) | (with_reducible refine Ext.only ?_ (by with_reducible assumption) (by omega))))
        clear k1
        go_wp2_with fail
        (with_reducible refine (WF.out _ (HV.out _ (by repeat (first | with_reducible exact Ext.refl _ | with_reducible assumption | with_reducible apply Ext.alloc | with_reducible apply Ext.drew | with_reducible apply Ext.drewN | (with_reducible refine Ext.set' ?_ (by first | omega | (simp only [World.size_alloc, World.size_setCell]; omega))) | (with_reducible refine Ext.trans ?_ (by with_reducible assumption)) | (with_reducible refine Ext.only ?_ (by with_reducible assumption) (by omega)))))).mono ?_); rintro e w2 ⟨v2, rfl, oo, k2⟩
        have K2 : Ext w w2 := (by repeat (first | with_reducible exact Ext.refl _ | with_reducible assumption | with_reducible apply Ext.alloc | with_reducible apply Ext.drew | with_reducible apply Ext.drewN | (with_reducible refine Ext.set' ?_ (by first | omega | (simp only [World.size_alloc, World.size_setCell]; omega))) | (with_reducible refine Ext.trans ?_ (by with_reducible assumption)) | (with_reducible refine Ext.only ?_ (by with_reducible assumption) (by omega))))
        have hvv := Bs.own oo HB.out
        clear K1 k2
        go_wp2_with fail
        (with_reducible refine (N2.out _ _ hvv).mono ?_); rintro e w3 ⟨rfl, k3⟩
        have K3 : Ext w w3 := (by repeat (first | with_reducible exact Ext.refl _ | with_reducible assumption | with_reducible apply Ext.alloc | with_reducible apply Ext.drew | with_reducible apply Ext.drewN | (with_reducible refine Ext.set' ?_ (by first | omega | (simp only [World.size_alloc, World.size_setCell]; omega))) | (with_reducible refine Ext.trans ?_ (by with_reducible assumption)) | (with_reducible refine Ext.only ?_ (by with_reducible assumption) (by omega))))
        clear k3 K2 oo hvv
        go_wp2_with fail
        exact bodyPost_ret (v := .tuple #[.slice none 0 0, .int .i64 m2]) (by simp [results, Try.results17, go_sem, *]) rfl ⟨_, by rw [HE.out.1], HP.out _ _ (.inl ⟨by rw [HE.out.1]; exact HE.out.2, rfl⟩), (by repeat (first | with_reducible exact Ext.refl _ | with_reducible assumption | with_reducible apply Ext.alloc | with_reducible apply Ext.drew | with_reducible apply Ext.drewN | (with_reducible refine Ext.set' ?_ (by first | omega | (simp only [World.size_alloc, World.size_setCell]; omega))) | (with_reducible refine Ext.trans ?_ (by with_reducible assumption)) | (with_reducible refine Ext.only ?_ (by with_reducible assumption) (by omega))))⟩
    · have e5 : (m1 != 0) = true := by simpa using hm
      have HE : Hid (E = m1 ∧ m1 ≠ 0) := hid ⟨by rw [hE'.eq, if_pos hm], hm⟩
      clear hc1 hc2 hE'
      go_enter Try.func17, Try.ntmps17
      go_wp2_with fail
      (with_reducible refine (N1.out _ (HV.out _ (by repeat (first | with_reducible exact Ext.refl _ | with_reducible assumption | with_reducible apply Ext.alloc | with_reducible apply Ext.drew | with_reducible apply Ext.drewN | (with_reducible refine Ext.set' ?_ (by first | omega | (simp only [World.size_alloc, World.size_setCell]; omega))) | (with_reducible refine Ext.trans ?_ (by with_reducible assumption)) | (with_reducible refine Ext.only ?_ (by with_reducible assumption) (by omega)))))).mono ?_); rintro e w1 ⟨rfl, k1⟩
      have K1 : Ext w w1 := (by repeat (first | with_reducible exact Ext.refl _ | with_reducible assumption | with_reducible apply Ext.alloc | with_reducible apply Ext.drew | with_reducible apply Ext.drewN | (with_reducible refine Ext.set' ?_ (by first | omega | (simp only [World.size_alloc, World.size_setCell]; omega))) | (with_reducible refine Ext.trans ?_ (by with_reducible assumption)) | (with_reducible refine Ext.only ?_ (by with_reducible assumption) (by omega))))
      clear k1
      go_wp2_with fail
      exact bodyPost_ret (v := .tuple #[.slice none 0 0, .int .i64 m1]) (by simp [results, Try.results17, go_sem, *]) rfl ⟨_, by rw [HE.out.1], HP.out _ _ (.inl ⟨by rw [HE.out.1]; exact HE.out.2, rfl⟩), (by repeat (first | with_reducible exact Ext.refl _ | with_reducible assumption | with_reducible apply Ext.alloc | with_reducible apply Ext.drew | with_reducible apply Ext.drewN | (with_reducible refine Ext.set' ?_ (by first | omega | (simp only [World.size_alloc, World.size_setCell]; omega))) | (with_reducible refine Ext.trans ?_ (by with_reducible assumption)) | (with_reducible refine Ext.only ?_ (by with_reducible assumption) (by omega))))⟩

end Go.Proofs.Ytocogmboocjjaaa
