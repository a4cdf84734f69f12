/- The law ConsWell. -/
import Derived.Test.YtocogmboocjjaaaWellL
import Derived.Deep.Cut
import Derived.Deep.CutRange
import Derived.Deep.DeepCutAuto
import Derived.Deep.RegionWith
set_option linter.unusedSimpArgs false
set_option linter.unusedVariables false
set_option linter.unnecessarySimpa false
namespace Go.Proofs.Ytocogmboocjjaaa
open Go.RowKit Go.Proofs.YtocogmboocjjaaaW.PrintWords
attribute [local go_sem] max2_max min2_min max_of_two min_of_two bxF_fr stF_fr stF_fr2 stF_put ldF_put ldV_put ldF_new guard_eq guard_ne bin_eq bin_ne alF_fr bdF_none bdF_ask bdF_len bdF_dat ext_drew' ext_alloc
attribute [local go_sem ↓] ldF_in ldV_in bxF_in stF_in cvS_in alF_in bdF_in ixS_in
attribute [local go_sem] bxC_ch chguard_eq chguard_ne chbin_eq chbin_ne ldC_new bxT_v alT_v stT_put stT_new bdT_none bdT_failed bdT_v bdW_v gUpon gStill
attribute [local go_sem ↓] ldC_in bxC_in stC_in ldT_in bxT_in stT_in alT_in bdT_in bdW_in
attribute [local go_sem] alC_v bdC_tab stC_new stC_new1 stS_tab stC_old ldC_new1
attribute [local go_sem ↓] alC_in bdC_in stS_in

set_option maxRecDepth 100000 in
set_option maxHeartbeats 8000000 in
theorem cwell_c (tm gp : Int) (A : Option Addr) (bl o : Nat) (c : Nat) (l : List Tp) (w : World) (a0 : 0 ≤ tm) (a1 : tm ≤ 255) (b0 : 0 ≤ gp) (b1 : gp ≤ 255) (hl : RowOf Tp.cells 3 w A bl o l) (hlc : l.length ≤ c) (hP : ∀ d ∈ l, d.ok) :
    Calls Try.prog 5 #[.int .u8 tm, .int .u8 gp, .slice A l.length c] w fun e w' => e = .returned (.bool true) ∧ Ext w w' := by
  have HP := hid hP
  have hl0 := hl.1
  obtain ⟨T, hT⟩ : ∃ T, Is (1 + tm % 60) T := ⟨_, Is.refl _⟩
  obtain ⟨G, hG⟩ : ∃ G, Is (1 + gp % 60) G := ⟨_, Is.refl _⟩
  have HT : Hid (1 ≤ T ∧ T ≤ 60) := hid (by have := hT.eq; omega)
  have HG : Hid (1 ≤ G ∧ G ≤ 60) := hid (by have := hG.eq; omega)
  have TB := hid (fun w => table2_c T G w)
  clear hP
  go_enter Try.func5, Try.ntmps5
  go_wp2_with fail
  rw [hT.eq, hG.eq]
  (with_reducible refine (TB.out _).mono ?_); rintro e w1 ⟨rfl, k1⟩
  have HX := hid (Blk.new w1 (tab2 T G).cells CT)
  have KX : Ext w (w1.alloc (.cells (tab2 T G).cells CT)) := (by repeat (first | with_reducible exact Ext.refl _ | with_reducible assumption | with_reducible apply Ext.alloc | with_reducible apply Ext.drew | with_reducible apply Ext.drewN | (with_reducible refine Ext.set' ?_ (by first | omega | (simp only [World.size_alloc, World.size_setCell]; omega))) | (with_reducible refine Ext.trans ?_ (by with_reducible assumption)) | (with_reducible refine Ext.only ?_ (by with_reducible assumption) (by omega))))
  clear k1 TB
  go_wp2_with fail
  generalize hxb : w1.heap.size = xb at *
  generalize (w1.alloc (.cells (tab2 T G).cells CT)) = w2 at *
  (with_reducible refine (cnew_c _).mono ?_); rintro e w3 ⟨b, rfl, ht, hb, k3⟩
  have HT3 := hid ht
  have HX3 := hid (k3.blk HX.out)
  have K3 := KX.trans k3
  have hb3 : w.heap.size ≤ b := Nat.le_trans KX.le hb
  have lx3 := ldC_blk HX3.out
  clear ht hb k3 KX HX hxb hT hG
  go_wp2_with fail
  have CB := hid (begin_c b b b _ 7 true (tab2 T G) w3 HT3.out)
  rw [ws_start HT.out.1 (by have := HT.out.2; omega) HG.out.1 (by have := HG.out.2; omega) (by omega) (by omega)] at CB
  (with_reducible refine (CB.out).mono ?_); rintro e w4 ⟨rfl, cb4, gb4, ht, o4, n1, n2⟩
  have HWO : Hid (WO w b xb T G w4 (ws T G 7 0 false [] [])) := hid ⟨cb4, gb4, ht, ⟨hb3, n1.le hb3 hb3 K3.le, n2.le hb3 hb3 K3.le⟩, HT3.out.keep o4 HX3.out (by decide) (by decide) (by decide), o4.ext K3 hb3 hb3 hb3⟩
  clear ht o4 n1 n2 CB lx3 HT3 HX3 K3
  go_wp2_with fail
  go_loopg [9, 10] 20 (fun g u9 u10 wr => ∃ (i : Nat) (now gs : Int) (val : List Int), i + g = 20 ∧ i ≤ l.length ∧ u10 = .int .i64 i ∧ u9 = .int .i64 now ∧ 7 ≤ now ∧ now ≤ 7 + 60 * i ∧ Hid (WO w b xb T G wr (ws T G now gs false [] val)) ∧ Ext w wr)
  case atStart => exact ⟨0, 7, 0, [], rfl, by omega, rfl, rfl, by omega, by omega, HWO, by obtain ⟨_, _, _, _, _, q⟩ := HWO.out; exact q⟩
  case round =>
    clear HWO
    obtain ⟨i, now, gs, val, hig, hil, rfl, rfl, hn0, hn1, HWO, K⟩ := hrel
    obtain ⟨gk0, hgk0⟩ : ∃ q, Is gk q := ⟨_, Is.refl _⟩
    have HGK := hid (show gk = gk0 ∧ i + gk0 = 20 from ⟨hgk0.eq, by rw [← hgk0.eq]; exact hig⟩)
    have t0 := HT.out.1
    have t1 := HT.out.2
    have q0 := HG.out.1
    have q1 := HG.out.2
    by_cases hlt : i < l.length ∧ i < 20
    · obtain ⟨hlt, h80⟩ := hlt
      have e1 : decide ((i : Int) < (l.length : Int)) = true := by simpa using hlt
      have e2 : decide ((i : Int) < 20) = true := by simp; omega
      have i0 : (0 : Int) ≤ (i : Int) := by omega
      have i1 : (i : Int) < (l.length : Int) := by omega
      obtain ⟨rfl, hcell⟩ := hl.at K hlt
      have HPi := hid (HP.out l[i] (List.getElem_mem _))
      have HR := hid (hl.at (Ext.refl w) hlt).2
      generalize l[i] = d at *
      obtain ⟨mn, hmn⟩ : ∃ q, min T G = q := ⟨_, rfl⟩
      have HMN : Hid (1 ≤ mn ∧ mn ≤ T ∧ mn ≤ G) := hid (by omega)
      have hne : ¬ (mn + 1 = 0) := by have := HMN.out; omega
      obtain ⟨sec, hsec⟩ : ∃ q, d.b % (mn + 1) = q := ⟨_, rfl⟩
      have HSEC : Hid (0 ≤ sec ∧ sec ≤ mn) := hid (by
        have h1 := Int.emod_nonneg d.b hne
        have h2 := Int.emod_lt_of_pos d.b (show 0 < mn + 1 by have := HMN.out; omega)
        omega)
      have hne2 : ¬ (T - sec + 1 = 0) := by have := HSEC.out; have := HMN.out; omega
      obtain ⟨fst, hfst⟩ : ∃ q, d.a % (T - sec + 1) = q := ⟨_, rfl⟩
      have HFST : Hid (0 ≤ fst ∧ fst ≤ T - sec) := hid (by
        have h1 := Int.emod_nonneg d.a hne2
        have h2 := Int.emod_lt_of_pos d.a (show 0 < T - sec + 1 by have := HSEC.out; have := HMN.out; omega)
        omega)
      have hwA : IntKind.i64.wrap (T - sec) = T - sec := IntWalk.i64_in _ (by have := HSEC.out; have := HMN.out; omega)
      have hwB : IntKind.i64.wrap (T - sec + 1) = T - sec + 1 := IntWalk.i64_in _ (by have := HSEC.out; have := HMN.out; omega)
      have hwC : IntKind.i64.wrap d.a = d.a := IntWalk.i64_in _ (by have := HPi.out.1; omega)
      have htm : d.a.tmod (T - sec + 1) = fst := (Int.tmod_eq_emod_of_nonneg HPi.out.1.1).trans hfst
      have hd1 := HPi.out.1
      have hd2 := HPi.out.2.1
      have hd3 := HPi.out.2.2
      obtain ⟨cb, gb, g1, g2, g3, g4⟩ := HWO.out
      have c1 : wr.cell? ⟨xb, 1, none⟩ = some (.int .i64 T) := g3.chat (j := 1) (by omega)
      have c2 : wr.cell? ⟨xb, 2, none⟩ = some (.int .i64 G) := g3.chat (j := 2) (by omega)
      have x0 : wr.cell? ⟨bl, o + i * 3, none⟩ = some (.int .u8 d.a) := hcell 0 _ rfl
      have x1 : wr.cell? ⟨bl, o + i * 3 + 1, none⟩ = some (.int .u8 d.b) := hcell 1 _ rfl
      have x2 : wr.cell? ⟨bl, o + i * 3 + 2, none⟩ = some (.int .u8 d.c) := hcell 2 _ rfl
      have D : ∀ p : Addr, wr.drew.cell? p = wr.cell? p := fun p => rfl
      have D2 : ∀ p : Addr, wr.drew.drew.cell? p = wr.cell? p := fun p => rfl
      have HWB := hid (HWO.out.ext (show Ext wr (wr.alloc (.cells #[.int .u8 d.c] U8)).drew.drew from (by repeat (first | with_reducible exact Ext.refl _ | with_reducible assumption | with_reducible apply Ext.alloc | with_reducible apply Ext.drew | with_reducible apply Ext.drewN | (with_reducible refine Ext.set' ?_ (by first | omega | (simp only [World.size_alloc, World.size_setCell]; omega))) | (with_reducible refine Ext.trans ?_ (by with_reducible assumption)) | (with_reducible refine Ext.only ?_ (by with_reducible assumption) (by omega))))))
      have HBV : Hid (Bt (wr.alloc (.cells #[.int .u8 d.c] U8)).drew.drew (.slice (some ⟨wr.heap.size, 0, none⟩) 1 1) [d.c]) := hid (Bt.own (own8_one wr wr.heap.size d.c (Nat.le_refl _)) (Byt.one hd3.1 hd3.2))
      have g3' := g3.alloc (.cells #[.int .u8 d.c] U8)
      have c3' : (wr.alloc (.cells #[.int .u8 d.c] U8)).cell? ⟨xb, 3, none⟩ = some (.int .i64 257) := g3'.chat (j := 3) (by omega)
      have c4' : (wr.alloc (.cells #[.int .u8 d.c] U8)).cell? ⟨xb, 4, none⟩ = some (.int .i64 258) := g3'.chat (j := 4) (by omega)
      have DD : ∀ p : Addr, (wr.alloc (.cells #[.int .u8 d.c] U8)).drew.drew.cell? p = (wr.alloc (.cells #[.int .u8 d.c] U8)).cell? p := fun p => rfl
      obtain ⟨hk1, hk2, hk3⟩ := wsmall (p := 257) (l := [d.c]) (by omega) (by omega) (by show 1 ≤ 8; omega) (Byt.one hd3.1 hd3.2)
      obtain ⟨hj1, hj2, hj3⟩ := wsmall (p := 258) (l := flipL [d.c]) (by omega) (by omega) (by rw [flipL_len]; show 1 ≤ 8; omega) (flipL_byt (Byt.one hd3.1 hd3.2))
      have HE0 : Hid (mkE 257 258 [d.c] = 0) := hid (by unfold mkE; rw [if_neg (by show ¬ (1 < 1 ∨ 8 < 1); omega), hk1, hj1]; rfl)
      have HKJ := hid (And.intro hk3 hj3)
      clear hcell g1 g2 g3 g4 g3' HWO hk1 hk2 hk3 hj1 hj2 hj3
      go_wp2_with fail
      go_region
      go_wp2_with fail
      go_region
      go_wp2_with fail
      rw [hsec]
      have HMK := hid (prmake_c 257 258 _ [d.c] _ HBV.out.bs)
      rw [HE0.out] at HMK
      (with_reducible refine (HMK.out).mono ?_); rintro e w5 ⟨u, rfl, hu, k5⟩
      have HU : Hid (OwnF w5 _ u _) := hid (by
        rcases hu with h | h
        · exact absurd HE0.out h.1
        · exact h.2)
      have HW5 := hid (show WI w b xb T G _ u (.slice (some ⟨wr.heap.size, 0, none⟩) 1 1) _ d.c w5 (ws T G now gs false [] val) from ⟨HWB.out.ext k5, HU.out, HBV.out.ext k5⟩)
      have hbe : bl < w.heap.size := (hl.2.1 (by omega)).2
      generalize (wr.alloc (.cells #[.int .u8 d.c] U8)).drew.drew.heap.size = B0 at *
      generalize hbv : wr.heap.size = gv at *
      clear hu k5 HMK HU HBV HWB c1 c2 x0 x1 x2 c3' c4' DD D D2 htm hwA hwB hwC hne hne2 hmn
      obtain ⟨gu, cu, hgu, _⟩ := HW5.out.2.1.frs (by simp)
      subst hgu
      obtain ⟨v, hv⟩ : ∃ q, d.c = q := ⟨_, rfl⟩
      rw [hv] at HW5 hd3 HKJ
      have HKB := hid (And.intro HSEC.out (And.intro HFST.out HMN.out))
      obtain ⟨fs, hfs⟩ : ∃ q, Is (fst + sec) q := ⟨_, Is.refl _⟩
      have HFS : Hid (fs = fst + sec ∧ 0 ≤ fs ∧ fs ≤ T) := hid ⟨hfs.eq.symm, by have := hfs.eq; have := HKB.out; omega, by have := hfs.eq; have := HKB.out; omega⟩
      have hwfs : IntKind.i64.wrap (fst + sec) = fs := (IntWalk.i64_in _ (by have := HFS.out; omega)).trans hfs.eq
      obtain ⟨N, hN⟩ : ∃ N : Nat, fs + 1 = N := ⟨(fs + 1).toNat, by have := HFS.out; omega⟩
      have HNN := hid hN
      have HST0 : stw T G now gs fst sec v val ((0 : Nat) : Int) = ws T G now gs false [] val := by unfold stw; rw [if_pos (by have := HFST.out; omega)]
      rw [← HST0] at HW5
      clear HST0 hN hfs
      go_wp2_with fail
      go_loopg [16] N (fun g u16 wq => ∃ n : Nat, n + g = N ∧ u16 = .int .i64 n ∧ Hid (WI w b xb T G B0 (.slice (some ⟨gu, 0, none⟩) 2 cu) (.slice (some ⟨gv, 0, none⟩) 1 1) [mkFr 257 [v], mkFr 258 (flipL [v])] v wq (stw T G now gs fst sec v val n)))
      case atStart => exact ⟨0, by omega, rfl, HW5⟩
      case round =>
        clear HW5
        obtain ⟨n, hng, rfl, HW⟩ := hrel
        by_cases hnl : (n : Int) ≤ fs
        · have e3 : decide ((n : Int) ≤ fs) = true := by simpa using hnl
          have hwn : IntKind.i64.wrap (now + (n : Int)) = now + (n : Int) := IntWalk.i64_in _ (by have := HFS.out; omega)
          have hwn1 : IntKind.i64.wrap ((n : Int) + 1) = (n : Int) + 1 := IntWalk.i64_in _ (by have := HFS.out; omega)
          have NN := hid hnl
          clear hnl
          go_upto_region 17 with fail
          go_cut [110] from 89 to 156 (fun u110 wx => u110 = .bool false ∧ WI w b xb T G B0 (.slice (some ⟨gu, 0, none⟩) 2 cu) (.slice (some ⟨gv, 0, none⟩) 1 1) [mkFr 257 [v], mkFr 258 (flipL [v])] v wx (stw T G now gs fst sec v val n))
          case first =>
            by_cases h00 : n = 0 ∧ i = 0
            · have z1 : decide ((0 : Int) < (n : Int)) = false := by simp; omega
              have z1' : decide (0 < n) = false := by simp; omega
              have z2 : decide ((0 : Int) < (i : Int)) = false := by simp; omega
              have z2' : decide (0 < i) = false := by simp; omega
              clear h00
              go_wp2_with fail
              go_meet
              case rel => exact ⟨rfl, HW.out⟩
            · obtain ⟨⟨cb6, gb6, y1, y2, y3, y4⟩, y5, y6⟩ := HW.out
              have CB6 := hid (begin_c b cb6 gb6 _ (now + (n : Int)) true (tab2 T G) wr y1)
              rw [stw_begin t0 t1 q0 q1 (by omega) (by omega) (by omega) (by have := HFS.out; have := NN.out; omega) HKB.out.2.1.1 HKB.out.1.1 (by have := HFS.out; omega) (by have := HKB.out; omega)] at CB6
              have lx6 := ldC_blk y3
              have FN := hid (fun w' cb' gb' ht o n1 n2 => WI.next (w' := w') (cb' := cb') (gb' := gb') (st' := stw T G now gs fst sec v val n) y1 y2 y3 y4 y5 y6 o ht n1 n2)
              clear y1 y2 y3 y4 y5 y6
              by_cases hp : 0 < n
              · have z1 : decide ((0 : Int) < (n : Int)) = true := by simp; omega
                have z1' : decide (0 < n) = true := by simp; omega
                clear h00 hp
                go_wp2_with fail
                (with_reducible refine (CB6.out).mono ?_); rintro e w6 ⟨rfl, cb7, gb7, ht, o6, n1, n2⟩
                have HF6 := hid (FN.out w6 cb7 gb7 ht o6 n1 n2)
                clear ht o6 n1 n2
                go_wp2_with fail
                go_meet
                case rel => exact ⟨rfl, HF6.out⟩
              · have z1 : decide ((0 : Int) < (n : Int)) = false := by simp; omega
                have z1' : decide (0 < n) = false := by simp; omega
                have z2 : decide ((0 : Int) < (i : Int)) = true := by simp; omega
                have z2' : decide (0 < i) = true := by simp; omega
                clear h00 hp
                go_wp2_with fail
                (with_reducible refine (CB6.out).mono ?_); rintro e w6 ⟨rfl, cb7, gb7, ht, o6, n1, n2⟩
                have HF6 := hid (FN.out w6 cb7 gb7 ht o6 n1 n2)
                clear ht o6 n1 n2
                go_wp2_with fail
                go_meet
                case rel => exact ⟨rfl, HF6.out⟩
          case rest =>
            obtain ⟨rfl, hW6⟩ := hcut
            obtain ⟨w6, hw6⟩ : ∃ w6, w6 = wc := ⟨_, rfl⟩
            subst hw6
            have HW6 := hid hW6
            clear hW6 HW
            go_upto_if 113 with fail
            go_cut [16] from 89 to 156 (fun u16 wx => u16 = .int .i64 n ∧ WI w b xb T G B0 (.slice (some ⟨gu, 0, none⟩) 2 cu) (.slice (some ⟨gv, 0, none⟩) 1 1) [mkFr 257 [v], mkFr 258 (flipL [v])] v wx (if (n : Int) = fst then ws T G now (now + fst) true [v] val else stw T G now gs fst sec v val n))
            case first =>
              by_cases hnf : (n : Int) = fst
              · have z1 : ((n : Int) == fst) = true := by simpa using hnf
                have hst : stw T G now gs fst sec v val n = ws T G now gs false [] val := by unfold stw; rw [if_pos (by omega)]
                rw [hst] at HW6
                obtain ⟨⟨cb6, gb6, y1, y2, y3, y4⟩, y5, y6⟩ := HW6.out
                obtain ⟨l0, l1⟩ := y5.ld2
                have HH := hid (hear_c b cb6 gb6 _ (now + (n : Int)) (mkFr 257 [v]) w6 y1 HKJ.out.1)
                rw [ws_first (by omega) (by have := HFS.out; have := NN.out; omega) hd3.1 hd3.2, show now + (n : Int) = now + fst by omega] at HH
                have FN := hid (fun w' cb' gb' ht o n1 n2 => WI.next (w' := w') (cb' := cb') (gb' := gb') (st' := ws T G now (now + fst) true [v] val) y1 y2 y3 y4 y5 y6 o ht n1 n2)
                have hwf : IntKind.i64.wrap (now + fst) = now + fst := IntWalk.i64_in _ (by have := HKB.out; omega)
                have HNF := hid hnf
                clear y1 y2 y3 y4 y5 y6 hst HW6
                generalize mkFr 257 [v] = F1 at *
                generalize mkFr 258 (flipL [v]) = F2 at *
                go_wp2_with fail
                try rw [show now + (n : Int) = now + fst by have := HNF.out; omega]
                (with_reducible refine (HH.out).mono ?_); rintro e w7 ⟨u7, rfl, hbt, ⟨cb7, gb7, ht, n1, n2⟩, o7⟩
                have HF7 := hid (FN.out w7 cb7 gb7 ht o7 n1 n2)
                obtain ⟨U7, c7, hu7⟩ := hbt.form
                subst hu7
                clear ht o7 n1 n2 hbt
                go_wp2_with fail
                go_meet
                case rel => exact ⟨by first | rfl | rw [HNF.out], by rw [if_pos HNF.out]; exact HF7.out⟩
              · have z1 : ((n : Int) == fst) = false := by simpa using hnf
                have HNF := hid hnf
                clear hnf
                go_wp2_with fail
                go_meet
                case rel => exact ⟨rfl, by rw [if_neg HNF.out]; exact HW6.out⟩
            case rest =>
              obtain ⟨rfl, hW7⟩ := hcut
              obtain ⟨w7, hw7⟩ : ∃ w7, w7 = wc := ⟨_, rfl⟩
              subst hw7
              have HW7 := hid hW7
              clear hW7 HW6
              have HNX : Hid ((n : Int) < fs → (if (n : Int) = fst then ws T G now (now + fst) true [v] val else stw T G now gs fst sec v val n) = stw T G now gs fst sec v val ((n + 1 : Nat) : Int)) := hid (fun hlt => by
                have h1 := HFS.out.1
                have h2 := HKB.out
                by_cases hnf : (n : Int) = fst
                · rw [if_pos hnf]
                  unfold stw
                  rw [if_neg (by omega), if_pos (by omega)]
                · rw [if_neg hnf]
                  unfold stw
                  by_cases hle : (n : Int) ≤ fst
                  · rw [if_pos hle, if_pos (by omega)]
                  · rw [if_neg hle, if_pos (by omega), if_neg (by omega), if_pos (by omega)])
              by_cases hns : (n : Int) = fs
              · have z1 : ((n : Int) == fs) = true := by simpa using hns
                have hst : (if (n : Int) = fst then ws T G now (now + fst) true [v] val else stw T G now gs fst sec v val n) = ws T G now (now + fst) true [v] val := by
                  have h1 := HFS.out.1
                  have h2 := HKB.out
                  by_cases hnf : (n : Int) = fst
                  · rw [if_pos hnf]
                  · rw [if_neg hnf]
                    unfold stw
                    rw [if_neg (by omega), if_pos (by omega)]
                rw [hst] at HW7
                obtain ⟨⟨cb6, gb6, y1, y2, y3, y4⟩, y5, y6⟩ := HW7.out
                obtain ⟨l0, l1⟩ := y5.ld2
                have HH := hid (hear_c b cb6 gb6 _ (now + (n : Int)) (mkFr 258 (flipL [v])) w7 y1 HKJ.out.2)
                have hfin : ws T G (now + (n : Int)) (now + fst) false [] [v] = stw T G now gs fst sec v val ((n + 1 : Nat) : Int) := by
                  have h1 := HFS.out.1
                  have h2 := HKB.out
                  unfold stw
                  rw [if_neg (by omega), if_neg (by omega), show now + (n : Int) = now + fst + sec by omega]
                rw [ws_second (by omega) (by have := HFS.out; have := NN.out; omega) hd3.1 hd3.2, hfin] at HH
                have FN := hid (fun w' cb' gb' ht o n1 n2 => WI.next (w' := w') (cb' := cb') (gb' := gb') (st' := stw T G now gs fst sec v val ((n + 1 : Nat) : Int)) y1 y2 y3 y4 y5 y6 o ht n1 n2)
                have HBT := hid (fun w' cb' gb' ht (o : O3 b cb6 gb6 w7 w') (n1 : Nx w7 b cb6 cb') (n2 : Nx w7 b gb6 gb') => (FN.out w' cb' gb' ht o n1 n2).2.2.bs.str)
                have f2 : ((mkS [v]).toList != (mkS [v]).toList) = false := by simp
                have f2' : ((mkS [v]).toList == (mkS [v]).toList) = true := by simp
                have HNS := hid hns
                have hwn2 : IntKind.i64.wrap (fs + 1) = fs + 1 := IntWalk.i64_in _ (by have := HFS.out; omega)
                have HH2 := hid HH.out
                rw [show now + (n : Int) = now + fs by omega] at HH2
                clear y1 y2 y3 y4 y5 y6 hst HW7 hns hfin
                generalize mkFr 257 [v] = F1 at *
                generalize mkFr 258 (flipL [v]) = F2 at *
                go_wp2_with fail
                first | (with_reducible refine (HH.out).mono ?_) | (with_reducible refine (HH2.out).mono ?_)
                rintro e w8 ⟨u8, rfl, hbt, ⟨cb8, gb8, ht, n1, n2⟩, o8⟩
                have HF8 := hid (FN.out w8 cb8 gb8 ht o8 n1 n2)
                have hs8 := hbt.bs.str
                have hs9 := HBT.out w8 cb8 gb8 ht o8 n1 n2
                clear ht o8 n1 n2 hbt HBT
                go_wp2_with fail
                go_roundg (gk - 1)
                case rel => exact ⟨n + 1, by have q1 := NN.out; have q2 := HNN.out; omega, by first | go_num | (have q3 := HNS.out; rw [show ((n + 1 : Nat) : Int) = fs + 1 by omega]), HF8⟩
                case measure => (have q1 := NN.out; have q2 := HNN.out; omega)
              · have z1 : ((n : Int) == fs) = false := by simpa using hns
                have HLT : Hid ((n : Int) < fs) := hid (by have := NN.out; omega)
                clear hns
                go_wp2_with fail
                go_roundg (gk - 1)
                case rel => exact ⟨n + 1, by have q1 := NN.out; have q2 := HNN.out; omega, by go_num, hid (by rw [← HNX.out HLT.out]; exact HW7.out)⟩
                case measure => (have q1 := NN.out; have q2 := HNN.out; omega)
        · have e3 : decide ((n : Int) ≤ fs) = false := by simpa using hnl
          have hst : stw T G now gs fst sec v val n = ws T G (now + fs) (now + fst) false [] [v] := by
            have h1 := HFS.out.1
            have h2 := HKB.out
            unfold stw
            rw [if_neg (by omega), if_neg (by omega), show now + fst + sec = now + fs by omega]
          rw [hst] at HW
          obtain ⟨⟨cb6, gb6, y1, y2, y3, y4⟩, y5, y6⟩ := HW.out
          have VC := hid (value_c b cb6 gb6 _ wr y1)
          have hval : (ws T G (now + fs) (now + fst) false [] [v]).val = [v] := rfl
          rw [hval] at VC
          have hwn : IntKind.i64.wrap (now + fs) = now + fs := IntWalk.i64_in _ (by have := HFS.out; omega)
          have f2 : ((mkS [v]).toList != (mkS [v]).toList) = false := by simp
          have f2' : ((mkS [v]).toList == (mkS [v]).toList) = true := by simp
          have HWW := hid HW.out
          have hnf0 : (!decide ([v] = ([] : List Int))) = true := by simp
          clear y1 y2 y3 y4 y5 y6 hst hval hnl HW
          rw [hnf0] at VC
          go_wp2_with fail
          (with_reducible refine (VC.out).mono ?_); rintro e w6 ⟨u6, rfl, hbt, k6⟩
          have hs6 := hbt.bs.str
          have HW6 := hid (HWW.out.ext k6)
          have hs7 := HW6.out.2.2.bs.str
          clear k6 hbt
          go_wp2_with fail
          go_roundg (gk0 - 1)
          case rel => exact ⟨i + 1, now + fs, now + fst, [v], by have := HGK.out; omega, by omega, by go_num, rfl, by have := HFS.out; omega, by have := HFS.out; omega, hid HW6.out.1, by obtain ⟨_, _, _, _, _, q⟩ := HW6.out.1; exact q⟩
          case measure => (have := HGK.out; omega)
    · have FIN : ∀ w3, Ext wr w3 → Calls Try.prog 12 #[.pointer (some ⟨b, 0, none⟩)] w3 fun e w' => e = .returned (.bool true) ∧ w3 = w' := fun w3 k => by
        obtain ⟨cb, gb, g1, _⟩ := HWO.out
        exact works_c b true w3 (g1.ext k).cw
      have HFIN := hid FIN
      clear FIN
      by_cases hi : i = l.length
      · subst hi
        have e1 : decide ((l.length : Int) < (l.length : Int)) = false := by simp
        clear hlt
        go_wp2_with fail
        (with_reducible refine (clive_c _).mono ?_); rintro e w3 ⟨rfl, k3⟩
        have WC := hid (HFIN.out w3 k3)
        have K3 := K.trans k3
        clear k3
        go_wp2_with fail
        (with_reducible refine (WC.out).mono ?_); rintro e w4 ⟨rfl, rfl⟩
        go_wp2_with fail
        go_ret
        exact ⟨rfl, K3⟩
      · obtain rfl : i = 20 := by omega
        have d : (20 : Int) < (l.length : Int) := by omega
        have d' : decide ((20 : Int) < (l.length : Int)) = true := by simpa using d
        clear hlt hi
        go_wp2_with fail
        (with_reducible refine (clive_c _).mono ?_); rintro e w3 ⟨rfl, k3⟩
        have WC := hid (HFIN.out w3 k3)
        have K3 := K.trans k3
        clear k3
        go_wp2_with fail
        (with_reducible refine (WC.out).mono ?_); rintro e w4 ⟨rfl, rfl⟩
        go_wp2_with fail
        go_ret
        exact ⟨rfl, K3⟩

set_option maxRecDepth 100000 in
theorem cwell_entry (v0 v1 v2 : Value) (W : World) {base : Nat} (h0 : Rd Try.prog W 5 v0.cells.toList) (o0 : Value.okWide Try.prog W .any base 5 v0)
    (h1 : Rd Try.prog W 5 v1.cells.toList) (o1 : Value.okWide Try.prog W .any base 5 v1)
    (h2 : Rd Try.prog W 53 v2.cells.toList) (o2 : Value.okWide Try.prog W .any base 53 v2) :
    Calls Try.prog 5 #[v0, v1, v2] W fun e w' => e = .returned (.bool true) ∧ Below W.heap.size W w' := by
  obtain ⟨a, rfl, ha⟩ := opn_int Try.underlying5 h0 o0
  obtain ⟨b, rfl, hb⟩ := opn_int Try.underlying5 h1 o1
  obtain ⟨A, bl, o, l, c, rfl, hlc, _, _, _, hrow, hP⟩ := opn_rows Tp.cells Tp.ok 3 (by decide) Try.underlying53 (by kernel_rfl) dec_tp h2 o2
  exact cwell_c a b A bl o c l W (wf_u8 ha).1 (wf_u8 ha).2 (wf_u8 hb).1 (wf_u8 hb).2 hrow hlc hP

end Go.Proofs.Ytocogmboocjjaaa
