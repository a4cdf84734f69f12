/- Package frame: Rank, Less; the reference's Rank; the law's live. -/
import Derived.Test.YtcahjmnkcdcbpaaFParse
set_option linter.unusedSimpArgs false
set_option linter.unusedVariables false
set_option linter.unnecessarySimpa false
namespace Go.Proofs.Ytcahjmnkcdcbpaa
open Go.RowKit Go.Proofs.YtcahjmnkcdcbpaaW.PrintWords
attribute [local go_sem] max2_max min2_min max_of_two min_of_two
attribute [local go_sem ↓] run_eq_fr

def Fr.rank (f : Fr) : Int := if f.chk = 0 then (if f.rtr then 2 * f.id + 1 else 2 * f.id) else -1

set_option maxHeartbeats 2000000 in
theorem rank_c (id : Int) (rtr : Bool) (len d0 d1 d2 d3 d4 d5 d6 d7 : Int) (w : World) :
    Calls Try.prog 8 #[.agg #[.int .i64 id, .bool rtr, .int .i64 len, .int .u8 d0, .int .u8 d1, .int .u8 d2, .int .u8 d3, .int .u8 d4, .int .u8 d5, .int .u8 d6, .int .u8 d7]] w fun e w' => e = .returned (.int .i64 (Fr.rank (⟨id, rtr, len, d0, d1, d2, d3, d4, d5, d6, d7⟩ : Fr))) ∧ Ext w w' := by
  have HB := hid (fun w' (k : Ext (w.alloc (.cells #[.int .i64 id, .bool rtr, .int .i64 len, .int .u8 d0, .int .u8 d1, .int .u8 d2, .int .u8 d3, .int .u8 d4, .int .u8 d5, .int .u8 d6, .int .u8 d7] FT)) w') => Ext.blk k (Blk.new w #[.int .i64 id, .bool rtr, .int .i64 len, .int .u8 d0, .int .u8 d1, .int .u8 d2, .int .u8 d3, .int .u8 d4, .int .u8 d5, .int .u8 d6, .int .u8 d7] FT))
  have CK := hid (fun w => check_c id rtr len d0 d1 d2 d3 d4 d5 d6 d7 w)
  unfold Fr.rank
  by_cases hm : Fr.chk (⟨id, rtr, len, d0, d1, d2, d3, d4, d5, d6, d7⟩ : Fr) = 0
  · obtain ⟨i0, i1, _, _⟩ := chk_bounds hm
    simp only at i0 i1
    rw [if_pos hm]
    rw [hm] at CK
    clear hm
    cases rtr
    all_goals
      simp only [Bool.false_eq_true, if_false, if_true]
      go_enter Try.func8, Try.ntmps8
      go_wp2_with fail
      (with_reducible refine (CK.out _).mono ?_); rintro e w1 ⟨rfl, k1⟩
      have b1 := HB.out w1 (by repeat (first | with_reducible exact Ext.refl _ | with_reducible assumption | with_reducible apply Ext.alloc | with_reducible apply Ext.drew | with_reducible apply Ext.drewN | (with_reducible refine Ext.set' ?_ (by first | omega | (simp only [World.size_alloc, World.size_setCell]; omega))) | (with_reducible refine Ext.trans ?_ (by with_reducible assumption)) | (with_reducible refine Ext.only ?_ (by with_reducible assumption) (by omega))))
      obtain ⟨pc0, pc1, pc2, pc3, pc4, pc5, pc6, pc7, pc8, pc9, pc10, pf0, pf1, pf2, pf3, pf4, pf5, pf6, pf7, pf8, pf9, pf10⟩ := Blk.cells11 b1
      clear pf0 pf1 pf2 pf3 pf4 pf5 pf6 pf7 pf8 pf9 pf10
      have KE : Ext w w1 := (by repeat (first | with_reducible exact Ext.refl _ | with_reducible assumption | with_reducible apply Ext.alloc | with_reducible apply Ext.drew | with_reducible apply Ext.drewN | (with_reducible refine Ext.set' ?_ (by first | omega | (simp only [World.size_alloc, World.size_setCell]; omega))) | (with_reducible refine Ext.trans ?_ (by with_reducible assumption)) | (with_reducible refine Ext.only ?_ (by with_reducible assumption) (by omega))))
      clear CK HB k1 b1
      go_wp2_with fail
      go_ret
      exact ⟨rfl, (by repeat (first | with_reducible exact Ext.refl _ | with_reducible assumption | with_reducible apply Ext.alloc | with_reducible apply Ext.drew | with_reducible apply Ext.drewN | (with_reducible refine Ext.set' ?_ (by first | omega | (simp only [World.size_alloc, World.size_setCell]; omega))) | (with_reducible refine Ext.trans ?_ (by with_reducible assumption)) | (with_reducible refine Ext.only ?_ (by with_reducible assumption) (by omega))))⟩
  · rw [if_neg hm]
    have e0 : (Fr.chk (⟨id, rtr, len, d0, d1, d2, d3, d4, d5, d6, d7⟩ : Fr) != 0) = true := by simpa using hm
    generalize Fr.chk (⟨id, rtr, len, d0, d1, d2, d3, d4, d5, d6, d7⟩ : Fr) = m at *
    clear hm
    go_enter Try.func8, Try.ntmps8
    go_wp2_with fail
    (with_reducible refine (CK.out _).mono ?_); rintro e w1 ⟨rfl, k1⟩
    go_wp2_with fail
    go_ret
    exact ⟨rfl, (by repeat (first | with_reducible exact Ext.refl _ | with_reducible assumption | with_reducible apply Ext.alloc | with_reducible apply Ext.drew | with_reducible apply Ext.drewN | (with_reducible refine Ext.set' ?_ (by first | omega | (simp only [World.size_alloc, World.size_setCell]; omega))) | (with_reducible refine Ext.trans ?_ (by with_reducible assumption)) | (with_reducible refine Ext.only ?_ (by with_reducible assumption) (by omega))))⟩

set_option maxHeartbeats 2000000 in
theorem rrank_c (id : Int) (rtr : Bool) (len d0 d1 d2 d3 d4 d5 d6 d7 : Int) (w : World) :
    Calls Try.prog 7 #[.agg #[.int .i64 id, .bool rtr, .int .i64 len, .int .u8 d0, .int .u8 d1, .int .u8 d2, .int .u8 d3, .int .u8 d4, .int .u8 d5, .int .u8 d6, .int .u8 d7]] w fun e w' => e = .returned (.int .i64 (Fr.rank (⟨id, rtr, len, d0, d1, d2, d3, d4, d5, d6, d7⟩ : Fr))) ∧ Ext w w' := by
  have HB := hid (fun w' (k : Ext (w.alloc (.cells #[.int .i64 id, .bool rtr, .int .i64 len, .int .u8 d0, .int .u8 d1, .int .u8 d2, .int .u8 d3, .int .u8 d4, .int .u8 d5, .int .u8 d6, .int .u8 d7] FT)) w') => Ext.blk k (Blk.new w #[.int .i64 id, .bool rtr, .int .i64 len, .int .u8 d0, .int .u8 d1, .int .u8 d2, .int .u8 d3, .int .u8 d4, .int .u8 d5, .int .u8 d6, .int .u8 d7] FT))
  have CK := hid (fun w => rcheck_c id rtr len d0 d1 d2 d3 d4 d5 d6 d7 w)
  unfold Fr.rank
  by_cases hm : Fr.chk (⟨id, rtr, len, d0, d1, d2, d3, d4, d5, d6, d7⟩ : Fr) = 0
  · obtain ⟨i0, i1, _, _⟩ := chk_bounds hm
    simp only at i0 i1
    rw [if_pos hm]
    rw [hm] at CK
    clear hm
    have e2 : 2 * id = id + id := by omega
    rw [e2]
    clear e2
    cases rtr
    all_goals
      simp only [Bool.false_eq_true, if_false, if_true]
      go_enter Try.func7, Try.ntmps7
      go_wp2_with fail
      (with_reducible refine (CK.out _).mono ?_); rintro e w1 ⟨rfl, k1⟩
      have b1 := HB.out w1 (by repeat (first | with_reducible exact Ext.refl _ | with_reducible assumption | with_reducible apply Ext.alloc | with_reducible apply Ext.drew | with_reducible apply Ext.drewN | (with_reducible refine Ext.set' ?_ (by first | omega | (simp only [World.size_alloc, World.size_setCell]; omega))) | (with_reducible refine Ext.trans ?_ (by with_reducible assumption)) | (with_reducible refine Ext.only ?_ (by with_reducible assumption) (by omega))))
      obtain ⟨pc0, pc1, pc2, pc3, pc4, pc5, pc6, pc7, pc8, pc9, pc10, pf0, pf1, pf2, pf3, pf4, pf5, pf6, pf7, pf8, pf9, pf10⟩ := Blk.cells11 b1
      clear pf0 pf1 pf2 pf3 pf4 pf5 pf6 pf7 pf8 pf9 pf10
      have KE : Ext w w1 := (by repeat (first | with_reducible exact Ext.refl _ | with_reducible assumption | with_reducible apply Ext.alloc | with_reducible apply Ext.drew | with_reducible apply Ext.drewN | (with_reducible refine Ext.set' ?_ (by first | omega | (simp only [World.size_alloc, World.size_setCell]; omega))) | (with_reducible refine Ext.trans ?_ (by with_reducible assumption)) | (with_reducible refine Ext.only ?_ (by with_reducible assumption) (by omega))))
      clear CK HB k1 b1
      go_wp2_with fail
      go_ret
      exact ⟨rfl, (by repeat (first | with_reducible exact Ext.refl _ | with_reducible assumption | with_reducible apply Ext.alloc | with_reducible apply Ext.drew | with_reducible apply Ext.drewN | (with_reducible refine Ext.set' ?_ (by first | omega | (simp only [World.size_alloc, World.size_setCell]; omega))) | (with_reducible refine Ext.trans ?_ (by with_reducible assumption)) | (with_reducible refine Ext.only ?_ (by with_reducible assumption) (by omega))))⟩
  · rw [if_neg hm]
    have e0 : (Fr.chk (⟨id, rtr, len, d0, d1, d2, d3, d4, d5, d6, d7⟩ : Fr) != 0) = true := by simpa using hm
    generalize Fr.chk (⟨id, rtr, len, d0, d1, d2, d3, d4, d5, d6, d7⟩ : Fr) = m at *
    clear hm
    go_enter Try.func7, Try.ntmps7
    go_wp2_with fail
    (with_reducible refine (CK.out _).mono ?_); rintro e w1 ⟨rfl, k1⟩
    go_wp2_with fail
    go_ret
    exact ⟨rfl, (by repeat (first | with_reducible exact Ext.refl _ | with_reducible assumption | with_reducible apply Ext.alloc | with_reducible apply Ext.drew | with_reducible apply Ext.drewN | (with_reducible refine Ext.set' ?_ (by first | omega | (simp only [World.size_alloc, World.size_setCell]; omega))) | (with_reducible refine Ext.trans ?_ (by with_reducible assumption)) | (with_reducible refine Ext.only ?_ (by with_reducible assumption) (by omega))))⟩

set_option maxHeartbeats 2000000 in
theorem less_c (id : Int) (rtr : Bool) (len d0 d1 d2 d3 d4 d5 d6 d7 : Int) (eid : Int) (ertr : Bool) (elen ed0 ed1 ed2 ed3 ed4 ed5 ed6 ed7 : Int) (w : World) :
    Calls Try.prog 9 #[.agg #[.int .i64 id, .bool rtr, .int .i64 len, .int .u8 d0, .int .u8 d1, .int .u8 d2, .int .u8 d3, .int .u8 d4, .int .u8 d5, .int .u8 d6, .int .u8 d7], .agg #[.int .i64 eid, .bool ertr, .int .i64 elen, .int .u8 ed0, .int .u8 ed1, .int .u8 ed2, .int .u8 ed3, .int .u8 ed4, .int .u8 ed5, .int .u8 ed6, .int .u8 ed7]] w fun e w' => e = .returned (.bool (decide (Fr.rank (⟨id, rtr, len, d0, d1, d2, d3, d4, d5, d6, d7⟩ : Fr) < Fr.rank (⟨eid, ertr, elen, ed0, ed1, ed2, ed3, ed4, ed5, ed6, ed7⟩ : Fr)))) ∧ Ext w w' := by
  have R1 := hid (fun w => rank_c id rtr len d0 d1 d2 d3 d4 d5 d6 d7 w)
  have R2 := hid (fun w => rank_c eid ertr elen ed0 ed1 ed2 ed3 ed4 ed5 ed6 ed7 w)
  generalize Fr.rank (⟨id, rtr, len, d0, d1, d2, d3, d4, d5, d6, d7⟩ : Fr) = x at *
  generalize Fr.rank (⟨eid, ertr, elen, ed0, ed1, ed2, ed3, ed4, ed5, ed6, ed7⟩ : Fr) = y at *
  have b1 := (Blk.new w #[.int .i64 id, .bool rtr, .int .i64 len, .int .u8 d0, .int .u8 d1, .int .u8 d2, .int .u8 d3, .int .u8 d4, .int .u8 d5, .int .u8 d6, .int .u8 d7] FT).alloc (.cells #[.int .i64 eid, .bool ertr, .int .i64 elen, .int .u8 ed0, .int .u8 ed1, .int .u8 ed2, .int .u8 ed3, .int .u8 ed4, .int .u8 ed5, .int .u8 ed6, .int .u8 ed7] FT)
  have b2 := Blk.new2 w (.cells #[.int .i64 id, .bool rtr, .int .i64 len, .int .u8 d0, .int .u8 d1, .int .u8 d2, .int .u8 d3, .int .u8 d4, .int .u8 d5, .int .u8 d6, .int .u8 d7] FT) #[.int .i64 eid, .bool ertr, .int .i64 elen, .int .u8 ed0, .int .u8 ed1, .int .u8 ed2, .int .u8 ed3, .int .u8 ed4, .int .u8 ed5, .int .u8 ed6, .int .u8 ed7] FT
  have K0 : Ext w ((w.alloc (.cells #[.int .i64 id, .bool rtr, .int .i64 len, .int .u8 d0, .int .u8 d1, .int .u8 d2, .int .u8 d3, .int .u8 d4, .int .u8 d5, .int .u8 d6, .int .u8 d7] FT)).alloc (.cells #[.int .i64 eid, .bool ertr, .int .i64 elen, .int .u8 ed0, .int .u8 ed1, .int .u8 ed2, .int .u8 ed3, .int .u8 ed4, .int .u8 ed5, .int .u8 ed6, .int .u8 ed7] FT)) := (by repeat (first | with_reducible exact Ext.refl _ | with_reducible assumption | with_reducible apply Ext.alloc | with_reducible apply Ext.drew | with_reducible apply Ext.drewN | (with_reducible refine Ext.set' ?_ (by first | omega | (simp only [World.size_alloc, World.size_setCell]; omega))) | (with_reducible refine Ext.trans ?_ (by with_reducible assumption)) | (with_reducible refine Ext.only ?_ (by with_reducible assumption) (by omega))))
  obtain ⟨W, hW⟩ : ∃ W, W = ((w.alloc (.cells #[.int .i64 id, .bool rtr, .int .i64 len, .int .u8 d0, .int .u8 d1, .int .u8 d2, .int .u8 d3, .int .u8 d4, .int .u8 d5, .int .u8 d6, .int .u8 d7] FT)).alloc (.cells #[.int .i64 eid, .bool ertr, .int .i64 elen, .int .u8 ed0, .int .u8 ed1, .int .u8 ed2, .int .u8 ed3, .int .u8 ed4, .int .u8 ed5, .int .u8 ed6, .int .u8 ed7] FT)) := ⟨_, rfl⟩
  rw [← hW] at b1 b2 K0
  obtain ⟨pc0, pc1, pc2, pc3, pc4, pc5, pc6, pc7, pc8, pc9, pc10, pf0, pf1, pf2, pf3, pf4, pf5, pf6, pf7, pf8, pf9, pf10⟩ := Blk.cells11 b1
  obtain ⟨qc0, qc1, qc2, qc3, qc4, qc5, qc6, qc7, qc8, qc9, qc10, qf0, qf1, qf2, qf3, qf4, qf5, qf6, qf7, qf8, qf9, qf10⟩ := Blk.cells11 b2
  have pa0 := After.cell pc0; have pa1 := After.cell pc1; have pa2 := After.cell pc2; have pa3 := After.cell pc3; have pa4 := After.cell pc4; have pa5 := After.cell pc5; have pa6 := After.cell pc6; have pa7 := After.cell pc7; have pa8 := After.cell pc8; have pa9 := After.cell pc9; have pa10 := After.cell pc10
  have qa0 := After.cell qc0; have qa1 := After.cell qc1; have qa2 := After.cell qc2; have qa3 := After.cell qc3; have qa4 := After.cell qc4; have qa5 := After.cell qc5; have qa6 := After.cell qc6; have qa7 := After.cell qc7; have qa8 := After.cell qc8; have qa9 := After.cell qc9; have qa10 := After.cell qc10
  clear pf0 pf1 pf2 pf3 pf4 pf5 pf6 pf7 pf8 pf9 pf10
  clear qf0 qf1 qf2 qf3 qf4 qf5 qf6 qf7 qf8 qf9 qf10
  clear b1 b2 pc0 pc1 pc2 pc3 pc4 pc5 pc6 pc7 pc8 pc9 pc10 qc0 qc1 qc2 qc3 qc4 qc5 qc6 qc7 qc8 qc9 qc10
  go_enter Try.func9, Try.ntmps9
  go_wp2_with fail
  rw [← hW]
  refine wp_region_ext (by kernel_rfl) (by kernel_rfl) ?_; (repeat (any_goals (first | go_big_quiet_step (first | (go_at_call 8; with_reducible exact Calls.ext_of (R1.out _)) | (go_at_call 8; with_reducible exact Calls.ext_of (R2.out _))) | quiet_step (first | (go_at_call 8; with_reducible exact Calls.ext_of (R1.out _)) | (go_at_call 8; with_reducible exact Calls.ext_of (R2.out _)))))); (all_goals (refine wpQuiet_nil ?_; intro w1 hw'; obtain ⟨⟨wX, k1⟩, hw''⟩ := hw'; subst hw''))
  go_wp2_with fail
  go_ret
  exact ⟨rfl, (by repeat (first | with_reducible exact Ext.refl _ | with_reducible assumption | with_reducible apply Ext.alloc | with_reducible apply Ext.drew | with_reducible apply Ext.drewN | (with_reducible refine Ext.set' ?_ (by first | omega | (simp only [World.size_alloc, World.size_setCell]; omega))) | (with_reducible refine Ext.trans ?_ (by with_reducible assumption)) | (with_reducible refine Ext.only ?_ (by with_reducible assumption) (by omega))))⟩

theorem live_text : mkS (Fr.text ⟨291, false, 2, 1, 171, 0, 0, 0, 0, 0, 0⟩) = ⟨#[49, 50, 51, 35, 48, 49, 65, 66]⟩ := by decide +kernel
theorem live_parse : parseV (sb ⟨#[49, 50, 51, 35, 82, 53]⟩) = (⟨291, true, 5, 0, 0, 0, 0, 0, 0, 0, 0⟩, 0) := by decide +kernel
theorem live_mk : Fr.ckd (mkFr 291 [1, 171]) = ⟨291, false, 2, 1, 171, 0, 0, 0, 0, 0, 0⟩ := by decide +kernel
theorem live_chk : Fr.chk (mkFr 291 [1, 171]) = 0 := by decide +kernel
theorem live_chk2 : Fr.chk ⟨291, false, 2, 1, 171, 0, 0, 0, 0, 0, 0⟩ = 0 := by decide +kernel
theorem live_less : decide (Fr.rank ⟨291, false, 2, 1, 171, 0, 0, 0, 0, 0, 0⟩ < Fr.rank ⟨291, true, 5, 0, 0, 0, 0, 0, 0, 0, 0⟩) = true := by decide +kernel

set_option maxHeartbeats 4000000 in
theorem live_c (w : World) : Calls Try.prog 10 #[] w fun e w' => e = .returned (.bool true) ∧ Ext w w' := by
  have N := hid (fun w v h => new_c 291 v [1, 171] w h)
  rw [live_mk, live_chk] at N
  have T := hid (fun w => text_c 291 false 2 1 171 0 0 0 0 0 0 w (by intro x hx; simp at hx; omega))
  rw [live_chk2, if_pos rfl, live_text] at T
  have P := hid (fun w => parse_c ⟨#[49, 50, 51, 35, 82, 53]⟩ w (by decide))
  rw [live_parse] at P
  have L := hid (fun w => less_c 291 false 2 1 171 0 0 0 0 0 0 291 true 5 0 0 0 0 0 0 0 0 w)
  rw [live_less] at L
  have f1 := frEq_refl ⟨291, true, 5, 0, 0, 0, 0, 0, 0, 0, 0⟩
  simp only [Fr.val, Fr.cells] at N P
  have bs0 : Bs (w.alloc (.cells #[.int .u8 1, .int .u8 171] U8)) (.slice (some ⟨w.heap.size, 0, none⟩) 2 2) [1, 171] := Bs.own (own8_lit w w.heap.size [1, 171] (Nat.le_refl _) (by simp)) (by intro x hx; simp at hx; omega)
  go_enter Try.func10, Try.ntmps10
  go_wp2_with fail
  (with_reducible refine (N.out _ _ bs0).mono ?_); rintro e w1 ⟨rfl, k1⟩
  have K1 : Ext w w1 := (by repeat (first | with_reducible exact Ext.refl _ | with_reducible assumption | with_reducible apply Ext.alloc | with_reducible apply Ext.drew | with_reducible apply Ext.drewN | (with_reducible refine Ext.set' ?_ (by first | omega | (simp only [World.size_alloc, World.size_setCell]; omega))) | (with_reducible refine Ext.trans ?_ (by with_reducible assumption)) | (with_reducible refine Ext.only ?_ (by with_reducible assumption) (by omega))))
  have b1 := Blk.new w1 #[.int .i64 291, .bool false, .int .i64 2, .int .u8 1, .int .u8 171, .int .u8 0, .int .u8 0, .int .u8 0, .int .u8 0, .int .u8 0, .int .u8 0] FT
  clear bs0 k1 N
  go_wp2_with fail
  (with_reducible refine (T.out _).mono ?_); rintro e w2 ⟨rfl, k2⟩
  have K2 : Ext w w2 := (by repeat (first | with_reducible exact Ext.refl _ | with_reducible assumption | with_reducible apply Ext.alloc | with_reducible apply Ext.drew | with_reducible apply Ext.drewN | (with_reducible refine Ext.set' ?_ (by first | omega | (simp only [World.size_alloc, World.size_setCell]; omega))) | (with_reducible refine Ext.trans ?_ (by with_reducible assumption)) | (with_reducible refine Ext.only ?_ (by with_reducible assumption) (by omega))))
  have b1 := k2.blk b1
  clear k2 T K1
  generalize w1.heap.size = p at *
  go_wp2_with fail
  (with_reducible refine (P.out _).mono ?_); rintro e w3 ⟨rfl, k3⟩
  have b1 := k3.blk b1
  have b2 := Blk.new w3 #[.int .i64 291, .bool true, .int .i64 5, .int .u8 0, .int .u8 0, .int .u8 0, .int .u8 0, .int .u8 0, .int .u8 0, .int .u8 0, .int .u8 0] FT
  have K3 : Ext w w3 := (by repeat (first | with_reducible exact Ext.refl _ | with_reducible assumption | with_reducible apply Ext.alloc | with_reducible apply Ext.drew | with_reducible apply Ext.drewN | (with_reducible refine Ext.set' ?_ (by first | omega | (simp only [World.size_alloc, World.size_setCell]; omega))) | (with_reducible refine Ext.trans ?_ (by with_reducible assumption)) | (with_reducible refine Ext.only ?_ (by with_reducible assumption) (by omega))))
  obtain ⟨pc0, pc1, pc2, pc3, pc4, pc5, pc6, pc7, pc8, pc9, pc10, pf0, pf1, pf2, pf3, pf4, pf5, pf6, pf7, pf8, pf9, pf10⟩ := Blk.cells11 b1
  clear pf0 pf1 pf2 pf3 pf4 pf5 pf6 pf7 pf8 pf9 pf10
  clear k3 P K2
  have hlt := b1.lt
  go_wp2_with fail
  (with_reducible refine (L.out _).mono ?_); rintro e w4 ⟨rfl, k4⟩
  go_wp2_with fail
  go_ret
  exact ⟨rfl, (by repeat (first | with_reducible exact Ext.refl _ | with_reducible assumption | with_reducible apply Ext.alloc | with_reducible apply Ext.drew | with_reducible apply Ext.drewN | (with_reducible refine Ext.set' ?_ (by first | omega | (simp only [World.size_alloc, World.size_setCell]; omega))) | (with_reducible refine Ext.trans ?_ (by with_reducible assumption)) | (with_reducible refine Ext.only ?_ (by with_reducible assumption) (by omega))))⟩

end Go.Proofs.Ytcahjmnkcdcbpaa
