/- The law PairGoes. -/
import Derived.Test.YtfjmflkfnccohaaPSend
import Derived.Test.YtfjmflkfnccohaaPLive
set_option linter.unusedSimpArgs false
set_option linter.unusedVariables false
set_option linter.unnecessarySimpa false
namespace Go.Proofs.Ytfjmflkfnccohaa
open Go.RowKit Go.Proofs.YtfjmflkfnccohaaW.PrintWords
attribute [local go_sem] max2_max min2_min max_of_two min_of_two bxF_fr stF_fr stF_fr2 stF_put ldF_put ldV_put ldF_new guard_eq guard_ne bin_eq bin_ne alF_fr bdF_none bdF_ask bdF_len bdF_dat ext_drew' ext_alloc
attribute [local go_sem ↓] ldF_in ldV_in bxF_in stF_in cvS_in alF_in bdF_in ixS_in
attribute [local go_sem] gUpon gStill

abbrev A8 : TypeId := 44
/-- A part of an array of eight bytes. -/
theorem bs_part {w : World} {g : Nat} {l : List Int} {n : Nat} (h : Blk w g (nums .u8 l).toArray A8) (hb : Byt l) (hn : n ≤ 8) (hl : l.length = 8) : Bs w (.slice (some ⟨g, 0, none⟩) n 8) (l.take n) := by
  refine Bs.of_row (bl := g) (o := 0) (by rw [List.length_take]; omega) hn ⟨by rw [List.length_take]; omega, fun _ => ⟨rfl, h.lt⟩, fun i hi => ?_⟩ (hb.take n)
  rw [List.length_take] at hi
  rw [Nat.zero_add, List.getD_eq_getElem?_getD, List.getElem?_take_of_lt (by omega), ← List.getD_eq_getElem?_getD]
  refine h.cell i _ ?_
  simp [nums, List.getD_eq_getElem?_getD, List.getElem?_eq_getElem (show i < l.length by omega)]
theorem zz_step {T : List Int} {i : Nat} (h : i < T.length) : zz T (i + 1) = (zz T i && (T.getD i 0 == 0)) := by
  unfold zz
  rw [List.take_add_one, List.all_append, List.getElem?_eq_getElem h, List.getD_eq_getElem?_getD, List.getElem?_eq_getElem h]
  simp
theorem zz_zero {n : Nat} : zz [0, 0, 0, 0, 0, 0, 0, 0] n = true := by
  unfold zz
  rw [List.all_eq_true]
  intro x hx
  have := List.mem_of_mem_take hx
  simp at this
  simpa using this

set_option maxRecDepth 100000 in
set_option maxHeartbeats 4000000 in
theorem goes_c (a0 a1 a2 a3 a4 a5 a6 a7 b0 b1 b2 b3 b4 b5 b6 b7 size t0 t1 t2 t3 t4 t5 t6 t7 : Int) (second : Bool) (w : World) (hA : Byt [a0, a1, a2, a3, a4, a5, a6, a7]) (hB : Byt [b0, b1, b2, b3, b4, b5, b6, b7]) (hT : Byt [t0, t1, t2, t3, t4, t5, t6, t7]) (hz0 : 0 ≤ size) (hz1 : size ≤ 255) :
    Calls Try.prog 5 #[.agg #[.int .u8 a0, .int .u8 a1, .int .u8 a2, .int .u8 a3, .int .u8 a4, .int .u8 a5, .int .u8 a6, .int .u8 a7], .agg #[.int .u8 b0, .int .u8 b1, .int .u8 b2, .int .u8 b3, .int .u8 b4, .int .u8 b5, .int .u8 b6, .int .u8 b7], .int .u8 size, .agg #[.int .u8 t0, .int .u8 t1, .int .u8 t2, .int .u8 t3, .int .u8 t4, .int .u8 t5, .int .u8 t6, .int .u8 t7], .bool second] w fun e w' => e = .returned (.bool true) ∧ Ext w w' := by
  obtain ⟨n, hn1, hn8, hn⟩ : ∃ n : Nat, 1 ≤ n ∧ n ≤ 8 ∧ 1 + size % 8 = (n : Int) := ⟨(1 + size % 8).toNat, by omega, by omega, by omega⟩
  have htm : size.tmod 8 = size % 8 := Int.tmod_eq_emod_of_nonneg hz0
  have hK : Ext w ((w.alloc (.cells #[.int .u8 a0, .int .u8 a1, .int .u8 a2, .int .u8 a3, .int .u8 a4, .int .u8 a5, .int .u8 a6, .int .u8 a7] A8)).alloc (.cells #[.int .u8 b0, .int .u8 b1, .int .u8 b2, .int .u8 b3, .int .u8 b4, .int .u8 b5, .int .u8 b6, .int .u8 b7] A8)) := (by repeat (first | with_reducible exact Ext.refl _ | with_reducible assumption | with_reducible apply Ext.alloc | with_reducible apply Ext.drew | with_reducible apply Ext.drewN | (with_reducible refine Ext.set' ?_ (by first | omega | (simp only [World.size_alloc, World.size_setCell]; omega))) | (with_reducible refine Ext.trans ?_ (by with_reducible assumption)) | (with_reducible refine Ext.only ?_ (by with_reducible assumption) (by omega))))
  have hwn : IntKind.i64.wrap (1 + size.tmod 8) = n := by rw [htm, hn]; exact IntWalk.i64_in _ (by omega)
  have BA := hid (Blk.new w #[.int .u8 a0, .int .u8 a1, .int .u8 a2, .int .u8 a3, .int .u8 a4, .int .u8 a5, .int .u8 a6, .int .u8 a7] A8)
  have BB := hid (Blk.new (w.alloc (.cells #[.int .u8 a0, .int .u8 a1, .int .u8 a2, .int .u8 a3, .int .u8 a4, .int .u8 a5, .int .u8 a6, .int .u8 a7] A8)) #[.int .u8 b0, .int .u8 b1, .int .u8 b2, .int .u8 b3, .int .u8 b4, .int .u8 b5, .int .u8 b6, .int .u8 b7] A8)
  have BT := hid (Blk.new ((w.alloc (.cells #[.int .u8 a0, .int .u8 a1, .int .u8 a2, .int .u8 a3, .int .u8 a4, .int .u8 a5, .int .u8 a6, .int .u8 a7] A8)).alloc (.cells #[.int .u8 b0, .int .u8 b1, .int .u8 b2, .int .u8 b3, .int .u8 b4, .int .u8 b5, .int .u8 b6, .int .u8 b7] A8)) #[.int .u8 t0, .int .u8 t1, .int .u8 t2, .int .u8 t3, .int .u8 t4, .int .u8 t5, .int .u8 t6, .int .u8 t7] A8)
  have K0 : Ext w (((w.alloc (.cells #[.int .u8 a0, .int .u8 a1, .int .u8 a2, .int .u8 a3, .int .u8 a4, .int .u8 a5, .int .u8 a6, .int .u8 a7] A8)).alloc (.cells #[.int .u8 b0, .int .u8 b1, .int .u8 b2, .int .u8 b3, .int .u8 b4, .int .u8 b5, .int .u8 b6, .int .u8 b7] A8)).alloc (.cells #[.int .u8 t0, .int .u8 t1, .int .u8 t2, .int .u8 t3, .int .u8 t4, .int .u8 t5, .int .u8 t6, .int .u8 t7] A8)) := (by repeat (first | with_reducible exact Ext.refl _ | with_reducible assumption | with_reducible apply Ext.alloc | with_reducible apply Ext.drew | with_reducible apply Ext.drewN | (with_reducible refine Ext.set' ?_ (by first | omega | (simp only [World.size_alloc, World.size_setCell]; omega))) | (with_reducible refine Ext.trans ?_ (by with_reducible assumption)) | (with_reducible refine Ext.only ?_ (by with_reducible assumption) (by omega))))
  have NW := hid (fun w => knew_c n w)
  have HN := hid (And.intro hn1 hn8)
  go_enter Try.func5, Try.ntmps5
  go_wp2_with fail
  (with_reducible refine (NW.out _).mono ?_); rintro e w1 hk
  rw [if_neg (by omega)] at hk
  obtain ⟨c, rfl, hc, hcs, k1⟩ := hk
  have hcs' : w.heap.size + 3 ≤ c := by simpa using hcs
  have k1a : Ext (w.alloc (.cells #[.int .u8 a0, .int .u8 a1, .int .u8 a2, .int .u8 a3, .int .u8 a4, .int .u8 a5, .int .u8 a6, .int .u8 a7] A8)) w1 := Ext.trans (by repeat (first | with_reducible exact Ext.refl _ | with_reducible assumption | with_reducible apply Ext.alloc | with_reducible apply Ext.drew | with_reducible apply Ext.drewN | (with_reducible refine Ext.set' ?_ (by first | omega | (simp only [World.size_alloc, World.size_setCell]; omega))) | (with_reducible refine Ext.trans ?_ (by with_reducible assumption)) | (with_reducible refine Ext.only ?_ (by with_reducible assumption) (by omega)))) k1
  have k1b : Ext ((w.alloc (.cells #[.int .u8 a0, .int .u8 a1, .int .u8 a2, .int .u8 a3, .int .u8 a4, .int .u8 a5, .int .u8 a6, .int .u8 a7] A8)).alloc (.cells #[.int .u8 b0, .int .u8 b1, .int .u8 b2, .int .u8 b3, .int .u8 b4, .int .u8 b5, .int .u8 b6, .int .u8 b7] A8)) w1 := Ext.trans (by repeat (first | with_reducible exact Ext.refl _ | with_reducible assumption | with_reducible apply Ext.alloc | with_reducible apply Ext.drew | with_reducible apply Ext.drewN | (with_reducible refine Ext.set' ?_ (by first | omega | (simp only [World.size_alloc, World.size_setCell]; omega))) | (with_reducible refine Ext.trans ?_ (by with_reducible assumption)) | (with_reducible refine Ext.only ?_ (by with_reducible assumption) (by omega)))) k1
  have K1 : Ext w w1 := K0.trans k1
  have A1 : Hid (Blk w1 w.heap.size #[.int .u8 a0, .int .u8 a1, .int .u8 a2, .int .u8 a3, .int .u8 a4, .int .u8 a5, .int .u8 a6, .int .u8 a7] A8) := hid (k1a.blk BA.out)
  have B1 : Hid (Blk w1 (w.heap.size + 1) #[.int .u8 b0, .int .u8 b1, .int .u8 b2, .int .u8 b3, .int .u8 b4, .int .u8 b5, .int .u8 b6, .int .u8 b7] A8) := hid (by have := k1b.blk BB.out; simpa using this)
  have T1 : Hid (Blk w1 (w.heap.size + 2) #[.int .u8 t0, .int .u8 t1, .int .u8 t2, .int .u8 t3, .int .u8 t4, .int .u8 t5, .int .u8 t6, .int .u8 t7] A8) := hid (by have := k1.blk BT.out; simpa using this)
  clear BA BB BT K0 hK k1 k1a k1b NW hcs htm hwn hn
  have n0 : (0 : Int) ≤ (n : Int) := by omega
  have n8 : (n : Int) ≤ 8 := by omega
  have HCk := hid hc
  clear hc
  go_wp2_with fail
  obtain ⟨WAS, hWAS⟩ : ∃ L, Is ([a0, a1, a2, a3, a4, a5, a6, a7].take n) L := ⟨_, Is.refl _⟩
  have hwl : WAS.length = n := by rw [← hWAS.eq, List.length_take]; show min n 8 = n; omega
  have hwb : Byt WAS := by rw [← hWAS.eq]; exact hA.take n
  have HWB := hid (And.intro hwl hwb)
  have PA : Hid (∀ w', Only c w1 w' → Bs w' (.slice (some ⟨w.heap.size, 0, none⟩) n 8) WAS) := hid (fun w' k => by rw [← hWAS.eq]; exact bs_part (A1.out.kept k (by omega)) hA hn8 rfl)
  have SD : Hid (∀ w', Only c w1 w' → CkAt w' c ⟨n, false, [], []⟩ → Calls Try.prog 18 #[.pointer (some ⟨c, 0, none⟩), .slice (some ⟨w.heap.size, 0, none⟩) n 8, .agg #[.int .u8 0, .int .u8 0, .int .u8 0, .int .u8 0, .int .u8 0, .int .u8 0, .int .u8 0, .int .u8 0], .bool false] w'
      fun e w'' => e = .returned (.int .i64 2) ∧ CkAt w'' c ⟨n, false, [], WAS⟩ ∧ Only c w1 w'') := hid (fun w' k h => by
    have hz : zz [0, 0, 0, 0, 0, 0, 0, 0] WAS.length = true := zz_zero
    obtain ⟨vb, vv, hbk, _⟩ := id h
    have := send_c c ⟨n, false, [], []⟩ _ WAS 0 0 0 0 0 0 0 0 false w' h (PA.out w' k) (by omega) (by omega) (by simp [hwl]) rfl (by intro x hx; simp at hx; subst hx; decide) hbk.lt
    rw [hz] at this
    exact this.mono fun e w'' ⟨h1, h2, h3⟩ => ⟨h1, h2, k.trans h3⟩)
  have VK : Hid (∀ w', CkAt w' c ⟨n, false, [], WAS⟩ → Only c w1 w' → Calls Try.prog 11 #[.pointer (some ⟨c, 0, none⟩)] w' fun e w'' => ∃ u, e = .returned u ∧ Bs w'' u WAS ∧ CkAt w'' c ⟨n, false, [], WAS⟩ ∧ Only c w1 w'') := hid (fun w' h k => (value_k c _ w' h (by show WAS.length ≤ _; omega)).mono fun e w'' ⟨u, h1, h2, h3⟩ => ⟨u, h1, Bs.own h2 HWB.out.2, h.ext h3, k.trans (Only.of_ext h3)⟩)
  have CV : Hid (∀ w', Only c w1 w' → (cvS (.slice (some ⟨w.heap.size, 0, none⟩) n 8)).run Try.prog w' = .ok (.string (mkS WAS)) w') := hid (fun w' k => (PA.out w' k).str)
  have e1 : ((mkS WAS).toList == (mkS WAS).toList) = true := by simp
  have O1 : Only c w1 w1.drew := (Only.refl c w1).drew
  have HCd : CkAt w1.drew c ⟨n, false, [], []⟩ := HCk.out.ext (Ext.refl w1).drew
  have SD1 := hid (SD.out _ O1 HCd)
  clear hwl hwb hWAS
  go_region_with (first
    | (go_at_call 18; (with_reducible refine (SD1.out).mono ?_); rintro e w2 ⟨rfl, ck2, k2⟩; have cv2 := CV.out _ k2)
    | (go_at_call 11; (with_reducible refine (VK.out _ ck2 k2).mono ?_); rintro e w3 ⟨u, rfl, bs3, ck3, k3⟩; have cv3 := CV.out _ k3; have cu3 := bs3.str; clear bs3))
  all_goals
    have k3' := k3
    have ck3' := ck3
    clear cv3 cu3 cv2 ck2 k2 SD1 HCd O1 SD ck3 k3
    obtain ⟨BSL, hBSL⟩ : ∃ L, Is ([b0, b1, b2, b3, b4, b5, b6, b7].take n) L := ⟨_, Is.refl _⟩
    obtain ⟨T, hTT⟩ : ∃ L, Is [t0, t1, t2, t3, t4, t5, t6, t7] L := ⟨_, Is.refl _⟩
    have HBL : Hid (BSL.length = n ∧ Byt BSL) := hid ⟨by rw [← hBSL.eq, List.length_take]; show min n 8 = n; omega, by rw [← hBSL.eq]; exact hB.take n⟩
    have PB : Hid (∀ w', Only c w1 w' → Bs w' (.slice (some ⟨w.heap.size + 1, 0, none⟩) n 8) BSL) := hid (fun w' k => by rw [← hBSL.eq]; exact bs_part (B1.out.kept k (by omega)) hB hn8 rfl)
    have CB : Hid (∀ w', Only c w1 w' → (cvS (.slice (some ⟨w.heap.size + 1, 0, none⟩) n 8)).run Try.prog w' = .ok (.string (mkS BSL)) w') := hid (fun w' k => (PB.out w' k).str)
    have hTl : T.length = 8 := by rw [← hTT.eq]; rfl
    have TC : Hid (∀ (i : Nat) w', i < 8 → Only c w1 w' → w'.cell? ⟨w.heap.size + 2, i, none⟩ = some (.int .u8 (T.getD i 0))) := hid (fun i w' hi k => by
      refine (T1.out.kept k (by omega)).cell i _ ?_
      rw [← hTT.eq]
      rcases (by omega : i = 0 ∨ i = 1 ∨ i = 2 ∨ i = 3 ∨ i = 4 ∨ i = 5 ∨ i = 6 ∨ i = 7) with rfl | rfl | rfl | rfl | rfl | rfl | rfl | rfl <;> rfl)
    have ZS := hid (fun (i : Nat) (h : i < T.length) => zz_step h)
    have SD : Hid (∀ w', Only c w1 w' → CkAt w' c ⟨n, false, [], WAS⟩ → Calls Try.prog 18 #[.pointer (some ⟨c, 0, none⟩), .slice (some ⟨w.heap.size + 1, 0, none⟩) n 8, .agg #[.int .u8 t0, .int .u8 t1, .int .u8 t2, .int .u8 t3, .int .u8 t4, .int .u8 t5, .int .u8 t6, .int .u8 t7], .bool second] w'
        fun e w'' => e = .returned (.int .i64 (if zz T n then 2 else 5)) ∧ CkAt w'' c ⟨n, false, [], if zz T n then BSL else WAS⟩ ∧ Only c w1 w'') := hid (fun w' k h => by
      obtain ⟨vb, vv, hbk, _⟩ := id h
      have hl := HBL.out.1
      have := send_c c ⟨n, false, [], WAS⟩ _ BSL t0 t1 t2 t3 t4 t5 t6 t7 second w' h (PB.out w' k) (by omega) (by omega) (by simp [hl]) rfl hT hbk.lt
      rw [hl, hTT.eq] at this
      exact this.mono fun e w'' ⟨h1, h2, h3⟩ => ⟨h1, h2, k.trans h3⟩)
    have T8 := hid (fun w' (k : Only c w1 w') => T1.out.kept k (by omega))
    clear hTT hBSL hA hB hT PB PA
    go_wp2_with fail
    go_loopg [15, 16] n (fun g u15 u16 wr => ∃ i : Nat, i + g = n ∧ u16 = .int .i64 i ∧ u15 = .bool (!(zz T i)) ∧ wr = w3)
    case atStart => exact ⟨0, by omega, rfl, rfl, rfl⟩
    case round =>
      obtain ⟨i, hig, rfl, rfl, rfl⟩ := hrel
      by_cases hlt : i < n
      · have e2 : decide ((i : Int) < (n : Int)) = true := by simp; omega
        have i0 : (0 : Int) ≤ (i : Int) := by omega
        have i8 : (i : Int) < 8 := by omega
        have ct := TC.out i _ (by omega) k3'
        have hz := ZS.out i (by omega)
        obtain ⟨z, hzi⟩ : ∃ z, zz T i = z := ⟨_, rfl⟩
        rw [hzi] at hz ⊢
        generalize T.getD i 0 = ti at *
        obtain ⟨e, he⟩ : ∃ e, (ti == 0) = e := ⟨_, rfl⟩
        have HZ := hid (show zz T (i + 1) = (z && e) by rw [hz, he])
        clear hz hzi
        cases z
        · have he' : (ti != 0) = !e := by rw [← he]; rfl
          clear he
          go_wp2_with fail
          go_roundg (n - i - 1)
          case rel => exact ⟨i + 1, by omega, by go_num, by rw [HZ.out]; rfl, rfl⟩
          case measure => omega
        · cases e
          · have he' : (ti != 0) = true := by simpa using he
            clear he
            go_wp2_with fail
            go_roundg (n - i - 1)
            case rel => exact ⟨i + 1, by omega, by go_num, by rw [HZ.out]; rfl, rfl⟩
            case measure => omega
          · have he' : (ti != 0) = false := by simpa using he
            clear he
            go_wp2_with fail
            go_roundg (n - i - 1)
            case rel => exact ⟨i + 1, by omega, by go_num, by rw [HZ.out]; rfl, rfl⟩
            case measure => omega
      · obtain rfl : i = n := by omega
        have e2 : decide ((i : Int) < (i : Int)) = false := by simp
        have tb := T8.out _ k3'
        have d0 := tb.cell 0 _ rfl
        have d1 := tb.cell 1 _ rfl
        have d2 := tb.cell 2 _ rfl
        have d3 := tb.cell 3 _ rfl
        have d4 := tb.cell 4 _ rfl
        have d5 := tb.cell 5 _ rfl
        have d6 := tb.cell 6 _ rfl
        have d7 := tb.cell 7 _ rfl
        have O3 := k3'.drew
        have SD1 := hid (SD.out _ O3 (ck3'.ext (Ext.refl _).drew))
        have D : ∀ p : Addr, World.cell? (World.drew _) p = World.cell? wr p := fun p => rfl
        clear tb ZS TC T8 SD
        obtain ⟨z, hz⟩ : ∃ z, zz T i = z := ⟨_, rfl⟩
        rw [hz] at SD1 ⊢
        have e3 : ((mkS BSL).toList == (mkS BSL).toList) = true := by simp
        cases z
        all_goals simp only [Bool.false_eq_true, if_false, if_true] at SD1
        · go_wp2_with fail
          go_region_with (go_at_call 18; (with_reducible refine (SD1.out).mono ?_); rintro e w4 ⟨rfl, ck4, k4⟩)
          go_wp2_with fail
          have EE := Ext.refl w4
          have LX := hid (fun x : After w4 => live_c x.wd)
          have VX := hid (fun x : After w4 => value_k c ⟨i, false, [], WAS⟩ x.wd (ck4.ext x.ext) (by show (WAS).length ≤ _; have := HWB.out.1; omega))
          have HX := hid (fun x : After w4 => half_c c ⟨i, false, [], WAS⟩ x.wd (ck4.ext x.ext))
          have CX := hid (fun x : After w4 => CV.out x.wd (k4.ext x.ext))
          have KW : Ext w w4 := Ext.only K1 k4 (by omega)
          clear SD1 VK CV CB ck4 k4 k3' ck3' A1 B1 T1 d0 d1 d2 d3 d4 d5 d6 d7 D O3 K1 HCk
          refine wp_region_go (sp := spOf (R := Ext) [(0, Told.val (R := Ext) (.bool true)), (7, Told.bs WAS), (15, Told.val (R := Ext) (.bool false))]) (C := fun w' => ∃ n : After w4, w' = n.wd) (R := Ext) (by kernel_rfl) (by kernel_rfl) (spOf_mono _) (After.drew _) ?_
          (refine go_act (by rfl) (by rfl) ?_ ?_; (focus (intro w' hC hM; obtain ⟨x, rfl⟩ := hC; go_simp; (with_reducible refine Calls.told (LX.out _)); done)); intro v hv; obtain ⟨_, _, hv, _⟩ := hv; obtain rfl := hv; (try simp only [Act.put, List.setIfInBounds_toArray, List.set_cons_zero, List.set_cons_succ]))
          repeat (first | ((with_reducible refine go_nil ?_)) | (refine go_skip' (by rfl) ?_; (try simp only [Act.put, List.setIfInBounds_toArray, List.set_cons_zero, List.set_cons_succ])) | (refine go_quiet' (by rfl) (by rfl) (by rfl) ?_; intro K hK; go_big_quiet_op; go_big_quiet_on) | (refine go_nilcheck _ _ rfl rfl (by rfl) (by rfl) ?_; (try simp only [Act.put, List.setIfInBounds_toArray, List.set_cons_zero, List.set_cons_succ])))
          (refine go_act (by rfl) (by rfl) ?_ ?_; (focus (intro w' hC hM; obtain ⟨x, rfl⟩ := hC; ((go_simp; exact Calls.told_bs HWB.out.2 (VX.out x))))); intro v hv; obtain ⟨_, _, hv, _⟩ := hv; ((revert hv; revert v; intro u1 hv)); (try simp only [Act.put, List.setIfInBounds_toArray, List.set_cons_zero, List.set_cons_succ]))
          refine go_fact (by rfl) (by rfl) (.string (mkS WAS)) ?_ ?_
          · intro w' hC hM
            obtain ⟨x, rfl⟩ := hC
            have f2 : Bs x.wd u1 WAS := hM _ (.inl rfl) ⟨70, rfl, by decide⟩
            have hs2 := f2.str
            clear hM f2
            go_simp
          (try simp only [Act.put, List.setIfInBounds_toArray, List.set_cons_zero, List.set_cons_succ])
          repeat (first | ((with_reducible refine go_nil ?_)) | (refine go_skip' (by rfl) ?_; (try simp only [Act.put, List.setIfInBounds_toArray, List.set_cons_zero, List.set_cons_succ])) | (refine go_quiet' (by rfl) (by rfl) (by rfl) ?_; intro K hK; go_big_quiet_op; go_big_quiet_on) | (refine go_nilcheck _ _ rfl rfl (by rfl) (by rfl) ?_; (try simp only [Act.put, List.setIfInBounds_toArray, List.set_cons_zero, List.set_cons_succ])))
          refine go_fact (by rfl) (by rfl) (.string (mkS WAS)) ?_ ?_
          · intro w' hC hM
            obtain ⟨x, rfl⟩ := hC
            have hs2 := CX.out x
            clear hM
            go_simp
          (try simp only [Act.put, List.setIfInBounds_toArray, List.set_cons_zero, List.set_cons_succ])
          repeat (first | ((with_reducible refine go_nil ?_)) | (refine go_skip' (by rfl) ?_; (try simp only [Act.put, List.setIfInBounds_toArray, List.set_cons_zero, List.set_cons_succ])) | (refine go_quiet' (by rfl) (by rfl) (by rfl) ?_; intro K hK; go_big_quiet_op; go_big_quiet_on) | (refine go_nilcheck _ _ rfl rfl (by rfl) (by rfl) ?_; (try simp only [Act.put, List.setIfInBounds_toArray, List.set_cons_zero, List.set_cons_succ])))
          (refine go_act (by rfl) (by rfl) ?_ ?_; (focus (intro w' hC hM; obtain ⟨x, rfl⟩ := hC; go_simp; (with_reducible refine Calls.told (HX.out _)); done)); intro v hv; obtain ⟨_, _, hv, _⟩ := hv; obtain rfl := hv; (try simp only [Act.put, List.setIfInBounds_toArray, List.set_cons_zero, List.set_cons_succ]))
          repeat (first | ((with_reducible refine go_nil ?_)) | (refine go_skip' (by rfl) ?_; (try simp only [Act.put, List.setIfInBounds_toArray, List.set_cons_zero, List.set_cons_succ])) | (refine go_quiet' (by rfl) (by rfl) (by rfl) ?_; intro K hK; go_big_quiet_op; go_big_quiet_on) | (refine go_nilcheck _ _ rfl rfl (by rfl) (by rfl) ?_; (try simp only [Act.put, List.setIfInBounds_toArray, List.set_cons_zero, List.set_cons_succ])))
          intro wz hC hall
          obtain ⟨x, rfl⟩ := hC
          have KX : Ext w x.wd := KW.trans x.ext
          generalize x.wd = wx at *
          clear hall hv
          go_wp2_with fail
          go_ret
          exact ⟨rfl, KX⟩
        · go_wp2_with fail
          go_region_with (go_at_call 18; (with_reducible refine (SD1.out).mono ?_); rintro e w4 ⟨rfl, ck4, k4⟩)
          go_wp2_with fail
          have EE := Ext.refl w4
          have LX := hid (fun x : After w4 => live_c x.wd)
          have VX := hid (fun x : After w4 => value_k c ⟨i, false, [], BSL⟩ x.wd (ck4.ext x.ext) (by show (BSL).length ≤ _; have := HBL.out.1; omega))
          have HX := hid (fun x : After w4 => half_c c ⟨i, false, [], BSL⟩ x.wd (ck4.ext x.ext))
          have CX := hid (fun x : After w4 => CB.out x.wd (k4.ext x.ext))
          have KW : Ext w w4 := Ext.only K1 k4 (by omega)
          clear SD1 VK CV CB ck4 k4 k3' ck3' A1 B1 T1 d0 d1 d2 d3 d4 d5 d6 d7 D O3 K1 HCk
          refine wp_region_go (sp := spOf (R := Ext) [(0, Told.val (R := Ext) (.bool true)), (7, Told.bs BSL)]) (C := fun w' => ∃ n : After w4, w' = n.wd) (R := Ext) (by kernel_rfl) (by kernel_rfl) (spOf_mono _) (After.drew _) ?_
          (refine go_act (by rfl) (by rfl) ?_ ?_; (focus (intro w' hC hM; obtain ⟨x, rfl⟩ := hC; go_simp; (with_reducible refine Calls.told (LX.out _)); done)); intro v hv; obtain ⟨_, _, hv, _⟩ := hv; obtain rfl := hv; (try simp only [Act.put, List.setIfInBounds_toArray, List.set_cons_zero, List.set_cons_succ]))
          repeat (first | ((with_reducible refine go_nil ?_)) | (refine go_skip' (by rfl) ?_; (try simp only [Act.put, List.setIfInBounds_toArray, List.set_cons_zero, List.set_cons_succ])) | (refine go_quiet' (by rfl) (by rfl) (by rfl) ?_; intro K hK; go_big_quiet_op; go_big_quiet_on) | (refine go_nilcheck _ _ rfl rfl (by rfl) (by rfl) ?_; (try simp only [Act.put, List.setIfInBounds_toArray, List.set_cons_zero, List.set_cons_succ])))
          (refine go_act (by rfl) (by rfl) ?_ ?_; (focus (intro w' hC hM; obtain ⟨x, rfl⟩ := hC; ((go_simp; exact Calls.told_bs HBL.out.2 (VX.out x))))); intro v hv; obtain ⟨_, _, hv, _⟩ := hv; ((revert hv; revert v; intro u1 hv)); (try simp only [Act.put, List.setIfInBounds_toArray, List.set_cons_zero, List.set_cons_succ]))
          refine go_fact (by rfl) (by rfl) (.string (mkS BSL)) ?_ ?_
          · intro w' hC hM
            obtain ⟨x, rfl⟩ := hC
            have f2 : Bs x.wd u1 BSL := hM _ (.inl rfl) ⟨88, rfl, by decide⟩
            have hs2 := f2.str
            clear hM f2
            go_simp
          (try simp only [Act.put, List.setIfInBounds_toArray, List.set_cons_zero, List.set_cons_succ])
          repeat (first | ((with_reducible refine go_nil ?_)) | (refine go_skip' (by rfl) ?_; (try simp only [Act.put, List.setIfInBounds_toArray, List.set_cons_zero, List.set_cons_succ])) | (refine go_quiet' (by rfl) (by rfl) (by rfl) ?_; intro K hK; go_big_quiet_op; go_big_quiet_on) | (refine go_nilcheck _ _ rfl rfl (by rfl) (by rfl) ?_; (try simp only [Act.put, List.setIfInBounds_toArray, List.set_cons_zero, List.set_cons_succ])))
          refine go_fact (by rfl) (by rfl) (.string (mkS BSL)) ?_ ?_
          · intro w' hC hM
            obtain ⟨x, rfl⟩ := hC
            have hs2 := CX.out x
            clear hM
            go_simp
          (try simp only [Act.put, List.setIfInBounds_toArray, List.set_cons_zero, List.set_cons_succ])
          repeat (first | ((with_reducible refine go_nil ?_)) | (refine go_skip' (by rfl) ?_; (try simp only [Act.put, List.setIfInBounds_toArray, List.set_cons_zero, List.set_cons_succ])) | (refine go_quiet' (by rfl) (by rfl) (by rfl) ?_; intro K hK; go_big_quiet_op; go_big_quiet_on) | (refine go_nilcheck _ _ rfl rfl (by rfl) (by rfl) ?_; (try simp only [Act.put, List.setIfInBounds_toArray, List.set_cons_zero, List.set_cons_succ])))
          intro wz hC hall
          obtain ⟨x, rfl⟩ := hC
          have KX : Ext w x.wd := KW.trans x.ext
          generalize x.wd = wx at *
          clear hall hv
          go_wp2_with fail
          go_ret
          exact ⟨rfl, KX⟩

end Go.Proofs.Ytfjmflkfnccohaa
