/- Package pair: the checker's Plain, Turned, Fork. -/
import Derived.Test.YtocogmboocjjaaaPair1
set_option linter.unusedSimpArgs false
set_option linter.unusedVariables false
set_option linter.unnecessarySimpa false
namespace Go.Proofs.Ytocogmboocjjaaa
open Go.RowKit Go.Proofs.YtocogmboocjjaaaW.PrintWords
attribute [local go_sem] max2_max min2_min max_of_two min_of_two bxF_fr stF_fr stF_fr2 stF_put ldF_put ldV_put ldF_new guard_eq guard_ne bin_eq bin_ne alF_fr bdF_none bdF_ask bdF_len bdF_dat ext_drew' ext_alloc
attribute [local go_sem ↓] ldF_in ldV_in bxF_in stF_in cvS_in alF_in bdF_in ixS_in

def Ck.plain (s : Ck) (l : List Int) : Ck × Int :=
  if (l.length : Int) ≠ s.size then (s.clear, 4) else if s.half = true then (s.clear, 3) else (⟨s.size, true, l, s.value⟩, 1)
def Ck.turned (s : Ck) (l : List Int) : Ck × Int :=
  if (l.length : Int) ≠ s.size then (s.clear, 4) else if s.half = false then (s.clear, 3) else if flipL s.b ≠ l then (s.clear, 5) else (⟨s.size, false, [], s.b⟩, 2)

set_option maxHeartbeats 2000000 in
theorem plain_c (c : Nat) (s : Ck) (v : Value) (l : List Int) (w : World) (h : CkAt w c s) (hv : Bs w v l) (hn : l.length ≤ 140737488355000) :
    Calls Try.prog 31 #[.pointer (some ⟨c, 0, none⟩), v] w fun e w' => e = .returned (.int .i64 (s.plain l).2) ∧ CkAt w' c (s.plain l).1 ∧ Only c w w' := by
  obtain ⟨vb, vv, h1, h2, h3⟩ := id h
  have c1 := h1.cell 1 _ rfl
  have CL := hid (clear_c c s w h)
  have HB := hid (fun w' (k : Only c w w') => h.bs hv k)
  obtain ⟨R, hR⟩ : ∃ R, Is (s.plain l) R := ⟨_, Is.refl _⟩
  rw [hR.eq]
  obtain ⟨A, bl, o, cp, rfl, _⟩ := hv
  obtain ⟨size, half, sb', sv⟩ := s
  simp only at c1
  clear h h1 h2 h3
  by_cases hl : (l.length : Int) = size
  · have e1 : ((l.length : Int) != size) = false := by simpa using hl
    have e2 : decide ((l.length : Int) = size) = true := by simpa using hl
    cases half
    · obtain rfl : R = (⟨size, true, l, sv⟩, 1) := by rw [← hR.eq]; simp [Ck.plain, hl]
      clear hR hl
      go_enter Try.func31, Try.ntmps31
      go_wp2_with fail
      (with_reducible refine (CL.out).mono ?_); rintro e w1 ⟨rfl, hk, k1⟩
      obtain ⟨ub, uv, b1, g2, g3⟩ := hk
      simp only [Ck.clear] at b1 g2 g3
      have d0 := b1.cell 0 _ rfl
      have hvv := HB.out w1 k1
      have H1 := hid (And.intro b1 (And.intro g2 g3))
      clear b1 g2 g3 c1 CL
      go_wp2_with fail
      (with_reducible refine (clone_c _ _ _ hvv hn).mono ?_); rintro e w2 ⟨u, rfl, ho, k2⟩
      obtain ⟨A2, bl2, o2, cp2, rfl, _⟩ := ho.row
      have b2 := k2.blk H1.out.1
      have d1 := b2.cell 1 _ rfl
      have t1 := b2.free 1
      have b3 := b2.set 1 (.bool true)
      have d2 := b3.cell 2 _ rfl
      have t2 := b3.free 2
      have b4 := b3.set 2 (.slice A2 l.length cp2)
      have k4 : Only c w2 ((w2.setCell ⟨c, 1, none⟩ (.bool true)).setCell ⟨c, 2, none⟩ (.slice A2 l.length cp2)) := ((Only.refl c w2).set 1 _).set 2 _
      have hb2 : CkAt w2 c ⟨size, false, [], sv⟩ := ⟨_, _, b2, H1.out.2.1.ext k2, H1.out.2.2.ext k2⟩
      have HH := hid (And.intro b4 (And.intro (hb2.bt (Bt.own ho (Bs.byt hvv)) k4) (And.intro (hb2.bt (H1.out.2.2.ext k2) k4) ((k1.ext k2).trans k4))))
      clear b2 b3 b4 k4 hb2 ho k2 H1 hvv k1 HB d0
      go_wp2_with fail
      go_ret
      exact ⟨rfl, ⟨_, _, HH.out.1, HH.out.2.1, HH.out.2.2.1⟩, HH.out.2.2.2⟩
    · obtain rfl : R = (Ck.clear ⟨size, true, sb', sv⟩, 3) := by rw [← hR.eq]; simp [Ck.plain, hl]
      clear hR hl HB
      go_enter Try.func31, Try.ntmps31
      go_wp2_with fail
      (with_reducible refine (CL.out).mono ?_); rintro e w1 ⟨rfl, hk, k1⟩
      have HK := hid hk
      obtain ⟨ub, uv, b1, g2, g3⟩ := hk
      simp only [Ck.clear] at b1 g2 g3
      have d0 := b1.cell 0 _ rfl
      clear b1 g2 g3 c1 CL
      go_wp2_with fail
      go_ret
      exact ⟨rfl, HK.out, k1⟩
  · have e1 : ((l.length : Int) != size) = true := by simpa using hl
    have e2 : decide ((l.length : Int) = size) = false := by simpa using hl
    obtain rfl : R = (Ck.clear ⟨size, half, sb', sv⟩, 4) := by rw [← hR.eq]; simp [Ck.plain, hl]
    clear hR hl HB
    go_enter Try.func31, Try.ntmps31
    go_wp2_with fail
    (with_reducible refine (CL.out).mono ?_); rintro e w1 ⟨rfl, hk, k1⟩
    have HK := hid hk
    obtain ⟨ub, uv, b1, g2, g3⟩ := hk
    simp only [Ck.clear] at b1 g2 g3
    have d0 := b1.cell 0 _ rfl
    clear b1 g2 g3 c1 CL
    go_wp2_with fail
    go_ret
    exact ⟨rfl, HK.out, k1⟩

set_option maxHeartbeats 2000000 in
theorem turned_c (c : Nat) (s : Ck) (v : Value) (l : List Int) (w : World) (h : CkAt w c s) (hv : Bs w v l) (hn : s.b.length ≤ 140737488355000) :
    Calls Try.prog 33 #[.pointer (some ⟨c, 0, none⟩), v] w fun e w' => e = .returned (.int .i64 (s.turned l).2) ∧ CkAt w' c (s.turned l).1 ∧ Only c w w' := by
  obtain ⟨vb, vv, h1, h2, h3⟩ := id h
  have HH0 : Hid (CkAt w.drew c s) := hid (h.ext (Ext.drew (Ext.refl _)))
  have CL := hid (clear_c c s w h)
  have HB := hid (fun w' (k : Only c w w') => And.intro (h.bs hv k) (h.bt h2 k))
  obtain ⟨R, hR⟩ : ∃ R, Is (s.turned l) R := ⟨_, Is.refl _⟩
  rw [hR.eq]
  obtain ⟨A, bl, o, cp, rfl, _⟩ := hv
  obtain ⟨A2, bl2, o2, cp2, rfl, _⟩ := h2.bs
  obtain ⟨size, half, sb', sv⟩ := s
  simp only at hn
  have c1 : w.cell? ⟨c, 1, none⟩ = some (.bool half) := h1.cell 1 _ rfl
  have c2 : w.cell? ⟨c, 2, none⟩ = some (.slice A2 sb'.length cp2) := h1.cell 2 _ rfl
  have hbb := h2.2
  clear h h1 h2 h3
  have D : ∀ a : Addr, w.drew.cell? a = w.cell? a := fun a => rfl
  have KD : Only c w.drew w.drew := Only.refl c _
  have CLD := hid (clear_c c ⟨size, half, sb', sv⟩ w.drew)
  have hR' : Is (if (l.length : Int) ≠ size then (Ck.clear ⟨size, half, sb', sv⟩, 4) else if half = false then (Ck.clear ⟨size, half, sb', sv⟩, 3) else if flipL sb' ≠ l then (Ck.clear ⟨size, half, sb', sv⟩, 5) else (⟨size, false, [], sb'⟩, 2)) R := Is.mk (by rw [← hR.eq]; rfl)
  clear hR
  have H0 : Hid (CkAt w.drew c ⟨size, half, sb', sv⟩) := HH0
  by_cases hl : (l.length : Int) = size
  · have e1 : ((l.length : Int) != size) = false := by simpa using hl
    have e2 : decide ((l.length : Int) = size) = true := by simpa using hl
    cases half
    · obtain rfl : R = (Ck.clear ⟨size, false, sb', sv⟩, 3) := by rw [← hR'.eq, if_neg (by simpa using hl), if_pos rfl]
      clear hR' hl HB
      go_enter Try.func33, Try.ntmps33
      go_wp2_with fail
      go_region
      go_wp2_with fail
      (with_reducible refine (CLD.out H0.out).mono ?_); rintro e w1 ⟨rfl, hk, k1⟩
      have HK := hid hk
      obtain ⟨ub, uv, b1, g2, g3⟩ := hk
      simp only [Ck.clear] at b1 g2 g3
      have d0 := b1.cell 0 _ rfl
      clear b1 g2 g3 c1 c2 CL CLD
      go_wp2_with fail
      go_ret
      exact ⟨rfl, HK.out, ((Only.refl c w).drew).trans k1⟩
    · by_cases hf : flipL sb' = l
      · obtain rfl : R = (⟨size, false, [], sb'⟩, 2) := by rw [← hR'.eq, if_neg (by simpa using hl), if_neg (by simp), if_neg (by simpa using hf)]
        clear hR' hl
        have HF := hid hf
        clear hf
        go_enter Try.func33, Try.ntmps33
        go_wp2_with fail
        go_region
        go_wp2_with fail
        (with_reducible refine (CLD.out H0.out).mono ?_); rintro e w1 ⟨rfl, hk, k1⟩
        have K1 := ((Only.refl c w).drew).trans k1
        obtain ⟨ub, uv, b1, g2, g3⟩ := hk
        simp only [Ck.clear] at b1 g2 g3
        have d0 := b1.cell 0 _ rfl
        have LK := hid (like_c _ _ _ _ w1 (HB.out w1 K1).2.bs (HB.out w1 K1).1 hn)
        rw [decide_eq_true HF.out] at LK
        have H1 := hid (And.intro b1 (And.intro g2 (And.intro g3 (HB.out w1 K1).2)))
        clear b1 g2 g3 c1 c2 CL CLD k1 HB
        go_wp2_with fail
        (with_reducible refine (LK.out).mono ?_); rintro e w2 ⟨rfl, k2⟩
        have b2 := k2.blk H1.out.1
        have d3 := b2.cell 3 _ rfl
        have t3 := b2.free 3
        have b3 := b2.set 3 (.slice A2 sb'.length cp2)
        have k3 : Only c w2 (w2.setCell ⟨c, 3, none⟩ (.slice A2 sb'.length cp2)) := (Only.refl c w2).set 3 _
        have hb2 : CkAt w2 c ⟨size, false, [], sv⟩ := ⟨_, _, b2, H1.out.2.1.ext k2, H1.out.2.2.1.ext k2⟩
        have HH := hid (And.intro b3 (And.intro (hb2.bt (H1.out.2.1.ext k2) k3) (And.intro (hb2.bt (H1.out.2.2.2.ext k2) k3) ((K1.ext k2).trans k3))))
        obtain ⟨A3, bl3, o3, cp3, huv, _⟩ := H1.out.2.2.1.bs
        subst huv
        clear b2 b3 k3 hb2 k2 H1 LK d0 K1
        go_wp2_with fail
        go_ret
        exact ⟨rfl, ⟨_, _, HH.out.1, HH.out.2.1, HH.out.2.2.1⟩, HH.out.2.2.2⟩
      · obtain rfl : R = (Ck.clear ⟨size, true, sb', sv⟩, 5) := by rw [← hR'.eq, if_neg (by simpa using hl), if_neg (by simp), if_pos (by simpa using hf)]
        clear hR' hl
        have HF := hid hf
        clear hf
        go_enter Try.func33, Try.ntmps33
        go_wp2_with fail
        go_region
        go_wp2_with fail
        (with_reducible refine (CLD.out H0.out).mono ?_); rintro e w1 ⟨rfl, hk, k1⟩
        have K1 := ((Only.refl c w).drew).trans k1
        have HK := hid hk
        obtain ⟨ub, uv, b1, g2, g3⟩ := hk
        simp only [Ck.clear] at b1 g2 g3
        have d0 := b1.cell 0 _ rfl
        have LK := hid (like_c _ _ _ _ w1 (HB.out w1 K1).2.bs (HB.out w1 K1).1 hn)
        rw [decide_eq_false HF.out] at LK
        clear b1 g2 g3 c1 c2 CL CLD k1 HB
        go_wp2_with fail
        (with_reducible refine (LK.out).mono ?_); rintro e w2 ⟨rfl, k2⟩
        go_wp2_with fail
        go_ret
        exact ⟨rfl, HK.out.ext k2, K1.ext k2⟩
  · have e1 : ((l.length : Int) != size) = true := by simpa using hl
    have e2 : decide ((l.length : Int) = size) = false := by simpa using hl
    obtain rfl : R = (Ck.clear ⟨size, half, sb', sv⟩, 4) := by rw [← hR'.eq, if_pos (by simpa using hl)]
    clear hR' hl HB
    go_enter Try.func33, Try.ntmps33
    go_wp2_with fail
    go_region
    go_wp2_with fail
    (with_reducible refine (CLD.out H0.out).mono ?_); rintro e w1 ⟨rfl, hk, k1⟩
    have HK := hid hk
    obtain ⟨ub, uv, b1, g2, g3⟩ := hk
    simp only [Ck.clear] at b1 g2 g3
    have d0 := b1.cell 0 _ rfl
    clear b1 g2 g3 c1 c2 CL CLD
    go_wp2_with fail
    go_ret
    exact ⟨rfl, HK.out, ((Only.refl c w).drew).trans k1⟩

theorem plain_nil (v : Value) (w : World) : Calls Try.prog 31 #[.pointer none, v] w fun e w' => e = .returned (.int .i64 0) ∧ Ext w w' := by
  go_enter Try.func31, Try.ntmps31
  go_wp2_with fail
  go_ret
  exact ⟨rfl, (by repeat (first | with_reducible exact Ext.refl _ | with_reducible assumption | with_reducible apply Ext.alloc | with_reducible apply Ext.drew | with_reducible apply Ext.drewN | (with_reducible refine Ext.set' ?_ (by first | omega | (simp only [World.size_alloc, World.size_setCell]; omega))) | (with_reducible refine Ext.trans ?_ (by with_reducible assumption)) | (with_reducible refine Ext.only ?_ (by with_reducible assumption) (by omega))))⟩
theorem turned_nil (v : Value) (w : World) : Calls Try.prog 33 #[.pointer none, v] w fun e w' => e = .returned (.int .i64 0) ∧ Ext w w' := by
  go_enter Try.func33, Try.ntmps33
  go_wp2_with fail
  go_ret
  exact ⟨rfl, (by repeat (first | with_reducible exact Ext.refl _ | with_reducible assumption | with_reducible apply Ext.alloc | with_reducible apply Ext.drew | with_reducible apply Ext.drewN | (with_reducible refine Ext.set' ?_ (by first | omega | (simp only [World.size_alloc, World.size_setCell]; omega))) | (with_reducible refine Ext.trans ?_ (by with_reducible assumption)) | (with_reducible refine Ext.only ?_ (by with_reducible assumption) (by omega))))⟩
theorem fork_nil (w : World) : Calls Try.prog 49 #[.pointer none] w fun e w' => e = .returned (.pointer none) ∧ Ext w w' := by
  go_enter Try.func49, Try.ntmps49
  go_wp2_with fail
  go_ret
  exact ⟨rfl, (by repeat (first | with_reducible exact Ext.refl _ | with_reducible assumption | with_reducible apply Ext.alloc | with_reducible apply Ext.drew | with_reducible apply Ext.drewN | (with_reducible refine Ext.set' ?_ (by first | omega | (simp only [World.size_alloc, World.size_setCell]; omega))) | (with_reducible refine Ext.trans ?_ (by with_reducible assumption)) | (with_reducible refine Ext.only ?_ (by with_reducible assumption) (by omega))))⟩

end Go.Proofs.Ytocogmboocjjaaa
