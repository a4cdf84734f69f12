/- The reference's Parse of a frame. -/
import Derived.Test.YtcahjmnkcdcbpaaFRText
import Derived.Test.YtcahjmnkcdcbpaaFMake
import Derived.Test.YtcahjmnkcdcbpaaOrd
import Derived.Deep.RegionHeld
import Derived.Deep.RegionWith
set_option linter.unusedSimpArgs false
set_option linter.unusedVariables false
set_option linter.unnecessarySimpa false
namespace Go.Proofs.Ytcahjmnkcdcbpaa
open Go.RowKit Go.Proofs.YtcahjmnkcdcbpaaW.PrintWords
attribute [local go_sem] max2_max min2_min max_of_two min_of_two bxF_fr stF_fr stF_fr2 stF_put ldF_put ldV_put ldF_new guard_eq guard_ne bin_eq bin_ne alF_fr bdF_none bdF_ask bdF_len bdF_dat ext_drew' ext_alloc
attribute [local go_sem ↓] ldF_in ldV_in bxF_in stF_in cvS_in alF_in bdF_in ixS_in
attribute [local go_sem] gUpon

def pairR : List Int → List Int
  | a :: b :: t => ((16 * valR a + valR b) % 256) :: pairR t
  | _ => []
def guess (l : List Int) : Fr :=
  if l.length = 6 ∧ l.getD 4 0 = 82 then ⟨256 * valR (l.getD 0 0) + 16 * valR (l.getD 1 0) + valR (l.getD 2 0), true, valR (l.getD 5 0), 0, 0, 0, 0, 0, 0, 0, 0⟩
  else mkT (256 * valR (l.getD 0 0) + 16 * valR (l.getD 1 0) + valR (l.getD 2 0)) (((l.length - 4) / 2 : Nat) : Int) (pairR (l.drop 4))
def rparseV (l : List Int) : Fr × Int :=
  if l.length < 4 ∨ 20 < l.length then (Fr.zero, 4)
  else if (guess l).chk = 0 ∧ (guess l).text = l then (guess l, 0) else (Fr.zero, 4)

theorem valR_lt (c : Int) : 0 ≤ valR c ∧ valR c ≤ 16 := by
  have := valI_lt c
  unfold valR
  split <;> omega
theorem pairR_len : ∀ l : List Int, (pairR l).length = l.length / 2
  | [] => rfl
  | [_] => by simp [pairR]
  | a :: b :: t => by simp [pairR, pairR_len t]; omega
theorem pairR_byt : ∀ l : List Int, Byt (pairR l)
  | [] => Byt.nil
  | [_] => Byt.nil
  | a :: b :: t => by
    intro x hx
    simp only [pairR, List.mem_cons] at hx
    rcases hx with rfl | hx
    · omega
    · exact pairR_byt t x hx
theorem pairR_at : ∀ (l : List Int) (i : Nat), 2 * i + 1 < l.length → (pairR l).getD i 0 = (16 * valR (l.getD (2 * i) 0) + valR (l.getD (2 * i + 1) 0)) % 256
  | [], i, h => by simp at h
  | [_], i, h => by simp at h
  | a :: b :: t, 0, h => by simp [pairR]
  | a :: b :: t, i + 1, h => by
    have := pairR_at t i (by simp at h; omega)
    rw [show 2 * (i + 1) = (2 * i) + 1 + 1 by omega, show 2 * i + 1 + 1 + 1 = (2 * i + 1) + 1 + 1 by omega]
    simpa [pairR] using this
theorem text_byt {f : Fr} (hd : Byt f.data) (hc : f.chk = 0) : Byt f.text := by
  obtain ⟨i0, i1, l0, l1⟩ := chk_bounds hc
  unfold Fr.text
  refine (headT_byt i0 i1).append ?_
  split
  · intro x hx
    simp only [List.mem_cons, List.not_mem_nil, or_false] at hx
    rcases hx with rfl | rfl
    · omega
    · exact sgn_byt l0 (by omega)
  · exact tailT_byt (hd.take _)
theorem guess_byt (l : List Int) : Byt (guess l).data := by
  unfold guess
  split
  · intro x hx
    simp [Fr.data] at hx
    omega
  · have hb := pairR_byt (l.drop 4)
    have key : ∀ k, 0 ≤ (pairR (l.drop 4)).getD k 0 ∧ (pairR (l.drop 4)).getD k 0 ≤ 255 := by
      intro k
      by_cases h : k < (pairR (l.drop 4)).length
      · exact hb.at h
      · rw [List.getD_eq_getElem?_getD, List.getElem?_eq_none (by omega)]; simp
    intro x hx
    simp only [Fr.data, mkT, List.mem_cons, List.not_mem_nil, or_false] at hx
    rcases hx with rfl | rfl | rfl | rfl | rfl | rfl | rfl | rfl <;> exact key _

set_option maxRecDepth 100000 in
set_option maxHeartbeats 4000000 in
theorem rparse_c (s : ByteArray) (w : World) (hs : s.size ≤ 140737488355000) :
    Calls Try.prog 16 #[.string s] w fun e w' => e = .returned (.tuple #[(rparseV (sb s)).1.val, .int .i64 (rparseV (sb s)).2]) ∧ Ext w w' := by
  have bR := (Blk.new w Fr.zero.cells FT).alloc (.cells Fr.zero.cells FT)
  have bF := Blk.new2 w (.cells Fr.zero.cells FT) Fr.zero.cells FT
  have K0 : Ext w ((w.alloc (.cells Fr.zero.cells FT)).alloc (.cells Fr.zero.cells FT)) := (by repeat (first | with_reducible exact Ext.refl _ | with_reducible assumption | with_reducible apply Ext.alloc | with_reducible apply Ext.drew | with_reducible apply Ext.drewN | (with_reducible refine Ext.set' ?_ (by first | omega | (simp only [World.size_alloc, World.size_setCell]; omega))) | (with_reducible refine Ext.trans ?_ (by with_reducible assumption)) | (with_reducible refine Ext.only ?_ (by with_reducible assumption) (by omega))))
  by_cases hl : s.size < 4 ∨ 20 < s.size
  · have hp : rparseV (sb s) = (Fr.zero, 4) := by
      unfold rparseV
      rw [sb_len, if_pos (by omega)]
    rw [hp]
    clear hp
    have fR := FrB.of bR
    have LF := ldF_blk bF
    have e4 : decide ((s.size : Int) < 4) = true ∨ (decide ((s.size : Int) < 4) = false ∧ decide (20 < (s.size : Int)) = true) := by
      by_cases h : s.size < 4
      · exact .inl (by simp; omega)
      · exact .inr ⟨by simp; omega, by simp; omega⟩
    clear hl
    rcases e4 with d | ⟨d, d2⟩
    all_goals
      go_enter Try.func16, Try.ntmps16
      go_wp2_with fail
      exact bodyPost_ret (res_fr2 (Try.results16) rfl rfl (putF_blk Fr.zero fR)) rfl ⟨rfl, K0.putF (by omega)⟩
  · obtain ⟨g4, g20⟩ : 4 ≤ s.size ∧ s.size ≤ 20 := by omega
    clear hl
    have e4 : decide ((s.size : Int) < 4) = false := by simp; omega
    have e20 : decide (20 < (s.size : Int)) = false := by simp; omega
    have hby := sb_byt s
    have hln := sb_len s
    have HBY := hid (And.intro hby hln)
    obtain ⟨R, hR⟩ : ∃ R, Is (rparseV (sb s)) R := ⟨_, Is.refl _⟩
    rw [hR.eq]
    have q0 := hby.at (i := 0) (by rw [hln]; omega)
    have q1 := hby.at (i := 1) (by rw [hln]; omega)
    have q2 := hby.at (i := 2) (by rw [hln]; omega)
    obtain ⟨x0, hx0⟩ : ∃ y, Is ((sb s).getD 0 0) y := ⟨_, Is.refl _⟩
    obtain ⟨x1, hx1⟩ : ∃ y, Is ((sb s).getD 1 0) y := ⟨_, Is.refl _⟩
    obtain ⟨x2, hx2⟩ : ∃ y, Is ((sb s).getD 2 0) y := ⟨_, Is.refl _⟩
    rw [hx0.eq] at q0
    have hc0 : ∀ w, (ixS (.string s) (.int .i64 0)).run Try.prog w = .ok (.int .u8 x0) w := fun w => by have h := ixS_at s 0 .i64 (by omega) w; rw [hx0.eq] at h; exact h
    rw [hx1.eq] at q1
    have hc1 : ∀ w, (ixS (.string s) (.int .i64 1)).run Try.prog w = .ok (.int .u8 x1) w := fun w => by have h := ixS_at s 1 .i64 (by omega) w; rw [hx1.eq] at h; exact h
    rw [hx2.eq] at q2
    have hc2 : ∀ w, (ixS (.string s) (.int .i64 2)).run Try.prog w = .ok (.int .u8 x2) w := fun w => by have h := ixS_at s 2 .i64 (by omega) w; rw [hx2.eq] at h; exact h
    have V0 := hid (fun w => value_c x0 w q0.1 q0.2)
    have V1 := hid (fun w => value_c x1 w q1.1 q1.2)
    have V2 := hid (fun w => value_c x2 w q2.1 q2.2)
    have v0 := valR_lt x0
    have v1 := valR_lt x1
    have v2 := valR_lt x2
    obtain ⟨y0, hy0⟩ : ∃ y, Is (valR x0) y := ⟨_, Is.refl _⟩
    obtain ⟨y1, hy1⟩ : ∃ y, Is (valR x1) y := ⟨_, Is.refl _⟩
    obtain ⟨y2, hy2⟩ : ∃ y, Is (valR x2) y := ⟨_, Is.refl _⟩
    rw [hy0.eq] at V0 v0
    rw [hy1.eq] at V1 v1
    rw [hy2.eq] at V2 v2
    have HID : Is (256 * valR ((sb s).getD 0 0) + 16 * valR ((sb s).getD 1 0) + valR ((sb s).getD 2 0)) (256 * y0 + 16 * y1 + y2) := Is.mk (by rw [hx0.eq, hx1.eq, hx2.eq, hy0.eq, hy1.eq, hy2.eq])
    have z0 : IntKind.i64.wrap (256 * y0) = 256 * y0 := IntWalk.i64_in _ (by omega)
    have z1 : IntKind.i64.wrap (16 * y1) = 16 * y1 := IntWalk.i64_in _ (by omega)
    have z2 : IntKind.i64.wrap (256 * y0 + 16 * y1) = 256 * y0 + 16 * y1 := IntWalk.i64_in _ (by omega)
    have z3 : IntKind.i64.wrap (256 * y0 + 16 * y1 + y2) = 256 * y0 + 16 * y1 + y2 := IntWalk.i64_in _ (by omega)
    clear hby hln q0 q1 q2
    go_enter Try.func16, Try.ntmps16
    go_upto_region 2 with fail
    generalize hW : ((w.alloc (.cells Fr.zero.cells FT)).alloc (.cells Fr.zero.cells FT)) = W at *
    clear hW
    have E0 := Ext.refl W
    have c0 : ∀ w', Ext W w' → w'.cell? ⟨w.heap.size + 1, 0, none⟩ = some (.int .i64 0) := fun w' q => (q.blk bF).cell 0 _ rfl
    have t0 : ∀ w', Ext W w' → w'.frozen? ⟨w.heap.size + 1, 0, none⟩ = false := fun w' q => (q.blk bF).free 0
    go_upto_region 4 with fail
    have HV := hid (And.intro v0 (And.intro v1 v2))
    have HBB := hid (fun w' (q : Ext W w') => (⟨q.blk bR, q.blk bF⟩ : Blk w' w.heap.size Fr.zero.cells FT ∧ Blk w' (w.heap.size + 1) Fr.zero.cells FT))
    clear hx0 hx1 hx2 hy0 hy1 hy2 v0 v1 v2 bR bF e4 e20
    have hb1 := (HBB.out W E0).1
    have hb2 := (HBB.out W E0).2
    clear HBB c0 t0
    obtain ⟨N, hN⟩ : ∃ N, (Fr.cells Fr.zero).setIfInBounds 0 (.int .i64 (256 * y0 + 16 * y1 + y2)) = N := ⟨_, rfl⟩
    have hN2 : N.setIfInBounds 0 (.int .i64 (256 * y0 + 16 * y1 + y2)) = N := by rw [← hN]; rfl
    have hne_ : Nonempty (St W (w.heap.size + 1) (Fr.cells Fr.zero) N FT) := ⟨⟨_, Only.refl _ _, .inl hb2⟩⟩; refine wp_region_go (sp := spOf (R := Rst (w.heap.size + 1) N FT) [(2, Told.val (.int .i64 y0)), (6, Told.val (.int .i64 y1)), (11, Told.val (.int .i64 y2)), (14, Told.blk)]) (C := fun w' => ∃ n : St W (w.heap.size + 1) (Fr.cells Fr.zero) N FT, w' = n.wd) (R := Rst (w.heap.size + 1) N FT) (by kernel_rfl) (by kernel_rfl) (spOf_mono _) (St.drew hb2) ?_
    repeat (first | (first | ((with_reducible refine go_nil ?_)) | (refine go_skip' (by rfl) ?_; (try simp only [Act.put, List.setIfInBounds_toArray, List.set_cons_zero, List.set_cons_succ])) | (refine go_quiet' (by rfl) (by rfl) (by rfl) ?_; intro K hK; go_big_quiet_op; go_big_quiet_on)) | (refine go_act (by rfl) (by rfl) ?_ ?_; (focus (intro w' hC hM; obtain ⟨x, rfl⟩ := hC; go_simp; (with_reducible refine Calls.st (V0.out _)); done)); intro v hv; obtain ⟨_, _, hv, _⟩ := hv; obtain rfl := hv; (try simp only [Act.put, List.setIfInBounds_toArray, List.set_cons_zero, List.set_cons_succ])) | (refine go_act (by rfl) (by rfl) ?_ ?_; (focus (intro w' hC hM; obtain ⟨x, rfl⟩ := hC; go_simp; (with_reducible refine Calls.st (V1.out _)); done)); intro v hv; obtain ⟨_, _, hv, _⟩ := hv; obtain rfl := hv; (try simp only [Act.put, List.setIfInBounds_toArray, List.set_cons_zero, List.set_cons_succ])) | (refine go_act (by rfl) (by rfl) ?_ ?_; (focus (intro w' hC hM; obtain ⟨x, rfl⟩ := hC; go_simp; (with_reducible refine Calls.st (V2.out _)); done)); intro v hv; obtain ⟨_, _, hv, _⟩ := hv; obtain rfl := hv; (try simp only [Act.put, List.setIfInBounds_toArray, List.set_cons_zero, List.set_cons_succ])))
    refine go_act (by rfl) (by rfl) ?_ ?_
    · intro w' hC hM
      obtain ⟨x, rfl⟩ := hC
      obtain ⟨u, hcell, hfz⟩ := x.has (i := 0) (u := .int .i64 0) (v := .int .i64 (256 * y0 + 16 * y1 + y2)) rfl (by rw [← hN]; rfl)
      have hput := x.put hN hN2
      go_simp
      exact hput.2.2
    intro v hv
    clear hv
    (try simp only [Act.put])
    refine go_nil ?_
    intro wA hCA hall
    obtain ⟨xA, rfl⟩ := hCA
    have hF : Blk xA.wd (w.heap.size + 1) N FT := hall _ (.inl rfl)
    have hZ := xA.blk (by omega) hb1
    have KA : Ext w xA.wd := Ext.only K0 xA.only (by omega)
    generalize xA.wd = wA at *
    rw [← hN] at hF
    change Blk wA (w.heap.size + 1) (mkT (256 * y0 + 16 * y1 + y2) 0 []).cells FT at hF
    clear hall hN hN2 hb1 hb2 E0 K0 V0 V1 V2 hc0 hc1 hc2 z0 z1 z2 z3 HV
    generalize 256 * y0 + 16 * y1 + y2 = id at *
    have hG : guess (sb s) = if s.size = 6 ∧ (sb s).getD 4 0 = 82 then ⟨id, true, valR ((sb s).getD 5 0), 0, 0, 0, 0, 0, 0, 0, 0⟩ else mkT id (((s.size - 4) / 2 : Nat) : Int) (pairR ((sb s).drop 4)) := by
      unfold guess
      rw [HID.eq, sb_len]
    have HG := hid hG
    clear hG HID
    have hgb := hid (guess_byt (sb s))
    obtain ⟨Gs, hGs⟩ : ∃ g, Is (guess (sb s)) g := ⟨_, Is.refl _⟩
    have hrp : rparseV (sb s) = if (guess (sb s)).chk = 0 ∧ (guess (sb s)).text = sb s then (guess (sb s), 0) else (Fr.zero, 4) := by
      unfold rparseV
      rw [sb_len, if_neg (by omega)]
    have hRR : Is (if Gs.chk = 0 ∧ Gs.text = sb s then (Gs, 0) else (Fr.zero, 4)) R := Is.mk (by rw [← hR.eq, ← hGs.eq, hrp])
    clear hrp
    rw [hGs.eq] at HG hgb
    clear hGs hR
    have hc4 : 4 < s.size → ∀ w, (ixS (.string s) (.int .i64 4)).run Try.prog w = .ok (.int .u8 ((sb s).getD 4 0)) w := fun h w => ixS_at s 4 .i64 h w
    have hc5 : 5 < s.size → ∀ w, (ixS (.string s) (.int .i64 5)).run Try.prog w = .ok (.int .u8 ((sb s).getD 5 0)) w := fun h w => ixS_at s 5 .i64 h w
    have hq5 : 5 < s.size → 0 ≤ (sb s).getD 5 0 ∧ (sb s).getD 5 0 ≤ 255 := fun h => HBY.out.1.at (by rw [HBY.out.2]; exact h)
    have HC45 := hid (And.intro hc4 (And.intro hc5 hq5))
    clear hc4 hc5 hq5
    go_upto_region 5 with fail
    obtain ⟨cb, hcb⟩ : ∃ cb, Is (decide (s.size = 6 ∧ (sb s).getD 4 0 = 82)) cb := ⟨_, Is.refl _⟩
    go_cut [37] (fun u37 wr => u37 = .bool cb ∧ wr = wA)
    case first =>
      by_cases h6 : s.size = 6
      · have hc4 := HC45.out.1 (by omega)
        have e6 : decide ((s.size : Int) = 6) = true := by simp; omega
        obtain ⟨x4, hx4⟩ : ∃ y, (sb s).getD 4 0 = y := ⟨_, rfl⟩
        rw [hx4] at hc4 hcb
        clear hx4 HC45 HG
        go_wp2_with fail
        go_meet
        case rel => exact ⟨by rw [← hcb.eq]; simp only [h6, true_and]; rfl, rfl⟩
      · have e6 : decide ((s.size : Int) = 6) = false := by simp; omega
        clear HC45 HG
        go_wp2_with fail
        go_meet
        case rel => exact ⟨by rw [← hcb.eq]; simp [h6], rfl⟩
    case rest =>
      obtain ⟨rfl, rfl⟩ := hcut
      go_upto_if 37 with fail
      go_cut [3] (fun u3 wr => u3 = .int .i64 0 ∧ Blk wr w.heap.size Fr.zero.cells FT ∧ Blk wr (w.heap.size + 1) Gs.cells FT ∧ Ext w wr)
      case first =>
        cases cb
        · have hcb' : ¬ (s.size = 6 ∧ (sb s).getD 4 0 = 82) := of_decide_eq_false hcb.eq
          obtain ⟨n, hn⟩ : ∃ n : Nat, (s.size - 4) / 2 = n := ⟨_, rfl⟩
          have hg : Is (mkT id n (pairR ((sb s).drop 4))) Gs := Is.mk (by rw [HG.out, if_neg hcb', hn])
          have hP : (pairR ((sb s).drop 4)).length = n := by rw [pairR_len, List.length_drop, HBY.out.2, hn]
          have HPat : Hid (∀ i, i < n → (pairR ((sb s).drop 4)).getD i 0 = (16 * valR ((sb s).getD (4 + 2 * i) 0) + valR ((sb s).getD (5 + 2 * i) 0)) % 256) := hid fun i hi => by
            rw [pairR_at _ _ (by rw [List.length_drop, HBY.out.2]; omega)]
            simp only [List.getD_eq_getElem?_getD, List.getElem?_drop]
            rw [show 4 + (2 * i + 1) = 5 + 2 * i by omega]
          have n0 : n ≤ 8 := by omega
          have zs : IntKind.i64.wrap ((s.size : Int) - 4) = (s.size : Int) - 4 := IntWalk.i64_in _ (by omega)
          have zd : Int.tdiv ((s.size : Int) - 4) 2 = (n : Int) := by
            rw [Int.tdiv_eq_ediv_of_nonneg (by omega)]
            omega
          have zn : IntKind.i64.wrap (n : Int) = (n : Int) := IntWalk.i64_in _ (by omega)
          have c2 := hF.cell 2 (.int .i64 0) rfl
          have t2 := hF.free 2
          have HH := hid (And.intro (hZ.other ⟨w.heap.size + 1, 2, none⟩ (.int .i64 n) (by show w.heap.size ≠ w.heap.size + 1; omega)) (And.intro (hF.set 2 (.int .i64 n)) (Ext.set' (g := w.heap.size + 1) (i := 2) (v := .int .i64 n) KA (by omega))))
          clear HG HC45 hcb hcb' hZ hF KA
          go_wp2_with fail
          generalize wc.setCell ⟨w.heap.size + 1, 2, none⟩ (.int .i64 n) = w3 at *
          clear c2 t2 zs zd zn
          generalize pairR ((sb s).drop 4) = PP at *
          go_loopg [5] n (fun g u5 wr => ∃ i : Nat, i + g = n ∧ u5 = .int .i64 i ∧ Blk wr w.heap.size Fr.zero.cells FT ∧ Blk wr (w.heap.size + 1) (mkT id n (PP.take i)).cells FT ∧ Ext w wr)
          case atStart => exact ⟨0, by omega, rfl, HH.out.1, HH.out.2.1, HH.out.2.2⟩
          case round =>
            clear HH
            obtain ⟨i, hig, rfl, hz, hf, K⟩ := hrel
            have c2 : wr.cell? ⟨w.heap.size + 1, 2, none⟩ = some (.int .i64 n) := hf.cell 2 _ rfl
            by_cases hk : gk = 0
            · subst hk
              obtain rfl : i = n := by omega
              have e1 : decide ((i : Int) < (i : Int)) = false := by simp
              rw [List.take_of_length_le (by omega), hg.eq] at hf
              have HH := hid (And.intro hz (And.intro hf K))
              clear hz hf K
              go_wp2_with fail
              go_meet
              case rel => exact ⟨rfl, HH.out.1, HH.out.2.1, HH.out.2.2⟩
            · have e1 : decide ((i : Int) < (n : Int)) = true := by simp; omega
              have i0 : (0 : Int) ≤ (i : Int) := by omega
              have i1 : (i : Int) < 8 := by omega
              have ha : ∀ w, (ixS (.string s) (.int .i64 (4 + 2 * (i : Int)))).run Try.prog w = .ok (.int .u8 ((sb s).getD (4 + 2 * i) 0)) w := fun w => by
                have h := ixS_at s (4 + 2 * i) .i64 (by omega) w
                rw [show ((4 + 2 * i : Nat) : Int) = 4 + 2 * (i : Int) by omega] at h
                exact h
              have hb : ∀ w, (ixS (.string s) (.int .i64 (5 + 2 * (i : Int)))).run Try.prog w = .ok (.int .u8 ((sb s).getD (5 + 2 * i) 0)) w := fun w => by
                have h := ixS_at s (5 + 2 * i) .i64 (by omega) w
                rw [show ((5 + 2 * i : Nat) : Int) = 5 + 2 * (i : Int) by omega] at h
                exact h
              have qa := HBY.out.1.at (i := 4 + 2 * i) (by rw [HBY.out.2]; omega)
              have qb := HBY.out.1.at (i := 5 + 2 * i) (by rw [HBY.out.2]; omega)
              have hx := HPat.out i (by omega)
              have hsn : PP.take (i + 1) = PP.take i ++ [PP.getD i 0] := by
                rw [List.take_add_one, List.getElem?_eq_getElem (by omega), getD_at (by omega)]
                rfl
              rw [hx] at hsn
              clear hx
              generalize (sb s).getD (4 + 2 * i) 0 = xa at *
              generalize (sb s).getD (5 + 2 * i) 0 = xb at *
              have VA := hid (fun w => value_c xa w qa.1 qa.2)
              have VB := hid (fun w => value_c xb w qb.1 qb.2)
              have va := valR_lt xa
              have vb := valR_lt xb
              generalize valR xa = ya at *
              generalize valR xb = yb at *
              have za : IntKind.i64.wrap (16 * ya) = 16 * ya := IntWalk.i64_in _ (by omega)
              have zb : IntKind.i64.wrap (16 * ya + yb) = 16 * ya + yb := IntWalk.i64_in _ (by omega)
              have zc : IntKind.u8.wrap (16 * ya + yb) = (16 * ya + yb) % 256 := rfl
              have zi : IntKind.i64.wrap (2 * (i : Int)) = 2 * (i : Int) := IntWalk.i64_in _ (by omega)
              have zi4 : IntKind.i64.wrap (4 + 2 * (i : Int)) = 4 + 2 * (i : Int) := IntWalk.i64_in _ (by omega)
              have zi5 : IntKind.i64.wrap (5 + 2 * (i : Int)) = 5 + 2 * (i : Int) := IntWalk.i64_in _ (by omega)
              have hlen : (PP.take i).length = i := by rw [List.length_take]; omega
              have hput := mkT_put id n ((16 * ya + yb) % 256) (PP.take i) (by omega)
              rw [hlen, ← hsn] at hput
              have hcA : ∃ u, (mkT id n (PP.take i)).cells[3 + i]? = some u := ⟨_, Array.getElem?_eq_getElem (by rw [Fr.size]; omega)⟩
              have hcB : (mkT id n (PP.take (i + 1))).cells[3 + i]? = some (.int .u8 ((16 * ya + yb) % 256)) := by rw [← hput]; rw [Array.getElem?_setIfInBounds_self_of_lt (by rw [Fr.size]; omega)]
              have hput2 : (mkT id n (PP.take (i + 1))).cells.setIfInBounds (3 + i) (.int .u8 ((16 * ya + yb) % 256)) = (mkT id n (PP.take (i + 1))).cells := by
                conv => lhs; rw [← hput]
                rw [← hput, Array.setIfInBounds_setIfInBounds]
              have HPUT := hid (And.intro hput (And.intro hput2 (And.intro hcA hcB)))
              clear hput hput2 hcA hcB hlen hsn HPat va vb qa qb
              generalize (mkT id n (PP.take i)).cells = old at *
              generalize hnew : (mkT id n (PP.take (i + 1))).cells = new at *
              go_wp2_with fail
              have hne_ : Nonempty (St wr (w.heap.size + 1) old new FT) := ⟨⟨_, Only.refl _ _, .inl hf⟩⟩; refine wp_region_go (sp := spOf (R := Rst (w.heap.size + 1) new FT) [(6, Told.val (.int .i64 ya)), (13, Told.val (.int .i64 yb)), (18, Told.blk)]) (C := fun w' => ∃ n : St wr (w.heap.size + 1) old new FT, w' = n.wd) (R := Rst (w.heap.size + 1) new FT) (by kernel_rfl) (by kernel_rfl) (spOf_mono _) (St.drew hf) ?_
              repeat (first | (first | ((with_reducible refine go_nil ?_)) | (refine go_skip' (by rfl) ?_; (try simp only [Act.put, List.setIfInBounds_toArray, List.set_cons_zero, List.set_cons_succ])) | (refine go_quiet' (by rfl) (by rfl) (by rfl) ?_; intro K hK; go_big_quiet_op; go_big_quiet_on)) | (refine go_act (by rfl) (by rfl) ?_ ?_; (focus (intro w' hC hM; obtain ⟨x, rfl⟩ := hC; go_simp; (with_reducible refine Calls.st (VA.out _)); done)); intro v hv; obtain ⟨_, _, hv, _⟩ := hv; obtain rfl := hv; (try simp only [Act.put, List.setIfInBounds_toArray, List.set_cons_zero, List.set_cons_succ])) | (refine go_act (by rfl) (by rfl) ?_ ?_; (focus (intro w' hC hM; obtain ⟨x, rfl⟩ := hC; go_simp; (with_reducible refine Calls.st (VB.out _)); done)); intro v hv; obtain ⟨_, _, hv, _⟩ := hv; obtain rfl := hv; (try simp only [Act.put, List.setIfInBounds_toArray, List.set_cons_zero, List.set_cons_succ])))
              refine go_act (by rfl) (by rfl) ?_ ?_
              · intro w' hC hM
                obtain ⟨x, rfl⟩ := hC
                obtain ⟨u0, hu0⟩ := HPUT.out.2.2.1
                obtain ⟨u, hcell, hfz⟩ := x.has (i := 3 + i) hu0 HPUT.out.2.2.2
                have hputs := x.put HPUT.out.1 HPUT.out.2.1
                go_simp
                exact hputs.2.2
              intro v hv
              clear hv
              (try simp only [Act.put])
              refine go_nil ?_
              intro wB hCB hall
              obtain ⟨xB, rfl⟩ := hCB
              have hFB : Blk xB.wd (w.heap.size + 1) new FT := hall _ (.inl rfl)
              have hZB := xB.blk (by omega) hz
              have KB : Ext w xB.wd := Ext.only K xB.only (by omega)
              generalize xB.wd = wB at *
              have HH := hid (And.intro hZB (And.intro hFB KB))
              clear hall hFB hZB KB HPUT
              go_wp2_with fail
              go_roundg (gk - 1)
              case rel => exact ⟨i + 1, by omega, by go_num, HH.out.1, by rw [hnew]; exact HH.out.2.1, HH.out.2.2⟩
              case measure => omega
        · have hcb' : s.size = 6 ∧ (sb s).getD 4 0 = 82 := of_decide_eq_true hcb.eq
          have h5 := HC45.out.2.1 (by omega)
          have q5 := HC45.out.2.2 (by omega)
          have hg : Gs = ⟨id, true, valR ((sb s).getD 5 0), 0, 0, 0, 0, 0, 0, 0, 0⟩ := by rw [HG.out, if_pos hcb']
          generalize (sb s).getD 5 0 = x5 at *
          have V5 := hid (fun w => value_c x5 w q5.1 q5.2)
          generalize valR x5 = y5 at *
          have c1 := hF.cell 1 (.bool false) rfl
          have t1 := hF.free 1
          have b2 := hF.set 1 (.bool true)
          have z2 := hZ.other ⟨w.heap.size + 1, 1, none⟩ (.bool true) (by show w.heap.size ≠ w.heap.size + 1; omega)
          have K2 : Ext w (wc.setCell ⟨w.heap.size + 1, 1, none⟩ (.bool true)) := Ext.set' KA (by omega)
          clear HG HC45 hcb hcb'
          go_wp2_with fail
          (with_reducible refine (V5.out _).mono ?_); rintro e w5 ⟨rfl, k5⟩
          have b3 := k5.blk b2
          have z3 := k5.blk z2
          have K3 := K2.trans k5
          have c2 := b3.cell 2 (.int .i64 0) rfl
          have t2 := b3.free 2
          have HH := hid (And.intro (z3.other ⟨w.heap.size + 1, 2, none⟩ (.int .i64 y5) (by show w.heap.size ≠ w.heap.size + 1; omega)) (And.intro (b3.set 2 (.int .i64 y5)) (Ext.set' (g := w.heap.size + 1) (i := 2) (v := .int .i64 y5) K3 (by omega))))
          clear c1 t1 b2 z2 K2 k5 b3 z3 K3
          go_wp2_with fail
          go_meet
          case rel => exact ⟨rfl, HH.out.1, by rw [hg]; exact HH.out.2.1, HH.out.2.2⟩
      case rest =>
        obtain ⟨rfl, hZ2, hF2, K2⟩ := hcut
        clear HG HC45 hF hZ KA hcb
        have fR := FrB.of hZ2
        have CK := hid (fun w => rcheck_v Gs w)
        have LG := ldF_all hF2
        have E1 := Ext.refl wc
        have HBR := hid (fun (w' : World) (q : Ext wc w') => FrB.of (q.blk hZ2))
        by_cases h0 : Gs.chk = 0
        · have RT := hid (fun w => rtext_v Gs w hgb.out h0)
          rw [h0] at CK
          by_cases ht : Gs.text = sb s
          · obtain rfl : R = (Gs, 0) := by rw [← hRR.eq, if_pos ⟨h0, ht⟩]
            rw [ht, mkS_sb] at RT
            clear hRR h0 ht hF2 hZ2
            go_wp2_with fail
            (with_reducible refine (CK.out _).mono ?_); rintro e w1 ⟨rfl, k1⟩
            go_wp2_with fail
            (with_reducible refine (RT.out _).mono ?_); rintro e w2 ⟨rfl, k2⟩
            have k3 := Ext.trans k1 k2
            have fR2 := HBR.out _ k3
            have K3 := K2.trans k3
            go_wp2_with fail
            exact bodyPost_ret (res_fr2 (Try.results16) rfl rfl (putF_blk Gs fR2)) rfl ⟨rfl, K3.putF (by omega)⟩
          · obtain rfl : R = (Fr.zero, 4) := by rw [← hRR.eq, if_neg (fun h => ht h.2)]
            have hne : ((mkS Gs.text).toList == s.toList) = false := str_ne (fun h => ht (by rw [← h, sb_mkS]; exact text_byt hgb.out h0))
            clear hRR h0 ht hF2 hZ2
            go_wp2_with fail
            (with_reducible refine (CK.out _).mono ?_); rintro e w1 ⟨rfl, k1⟩
            go_wp2_with fail
            (with_reducible refine (RT.out _).mono ?_); rintro e w2 ⟨rfl, k2⟩
            have k3 := Ext.trans k1 k2
            have fR2 := HBR.out _ k3
            have K3 := K2.trans k3
            go_wp2_with fail
            exact bodyPost_ret (res_fr2 (Try.results16) rfl rfl (putF_blk Fr.zero fR2)) rfl ⟨rfl, K3.putF (by omega)⟩
        · obtain rfl : R = (Fr.zero, 4) := by rw [← hRR.eq, if_neg (fun h => h0 h.1)]
          have e0 : (Gs.chk != 0) = true := by simpa using h0
          generalize Gs.chk = m at *
          clear hRR h0 hF2 hZ2
          go_wp2_with fail
          (with_reducible refine (CK.out _).mono ?_); rintro e w1 ⟨rfl, k1⟩
          have fR2 := HBR.out _ k1
          have K3 := K2.trans k1
          go_wp2_with fail
          exact bodyPost_ret (res_fr2 (Try.results16) rfl rfl (putF_blk Fr.zero fR2)) rfl ⟨rfl, K3.putF (by omega)⟩

end Go.Proofs.Ytcahjmnkcdcbpaa
