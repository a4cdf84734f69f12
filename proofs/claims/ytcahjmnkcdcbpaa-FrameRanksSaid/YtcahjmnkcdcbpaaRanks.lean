/- The law FrameRanks. -/
import Derived.Test.YtcahjmnkcdcbpaaFRank
import Derived.Test.YtcahjmnkcdcbpaaFrameOpen
set_option linter.unusedSimpArgs false
set_option linter.unusedVariables false
set_option linter.unnecessarySimpa false
namespace Go.Proofs.Ytcahjmnkcdcbpaa
open Go.RowKit Go.Proofs.YtcahjmnkcdcbpaaW.PrintWords
attribute [local go_sem] max2_max min2_min max_of_two min_of_two
attribute [local go_sem ↓] run_eq_fr

theorem rank_pos (f : Fr) : decide (0 ≤ f.rank) = (f.chk == 0) := by
  unfold Fr.rank
  by_cases h : f.chk = 0
  · obtain ⟨i0, _⟩ := chk_bounds h
    rw [if_pos h, h]
    have : (0 : Int) ≤ if f.rtr = true then 2 * f.id + 1 else 2 * f.id := by split <;> omega
    simp [this]
  · rw [if_neg h]
    simp [h]
theorem rank_mono {f g : Fr} (hf : 0 ≤ f.rank) (hg : 0 ≤ g.rank) (h : f.id < g.id) : f.rank < g.rank := by
  unfold Fr.rank at *
  split at hf
  · split at hg
    · split <;> split <;> omega
    · omega
  · omega

set_option maxHeartbeats 4000000 in
theorem ranks_0 (id : Int) (rtr : Bool) (len d0 d1 d2 d3 d4 d5 d6 d7 : Int) (eid : Int) (ertr : Bool) (elen ed0 ed1 ed2 ed3 ed4 ed5 ed6 ed7 : Int) (gid : Int) (grtr : Bool) (glen gd0 gd1 gd2 gd3 gd4 gd5 gd6 gd7 : Int) (w : World)
    (hc : (decide (Fr.rank (⟨id, rtr, len, d0, d1, d2, d3, d4, d5, d6, d7⟩ : Fr) < Fr.rank (⟨eid, ertr, elen, ed0, ed1, ed2, ed3, ed4, ed5, ed6, ed7⟩ : Fr)) = false ∧ decide (0 ≤ Fr.rank (⟨id, rtr, len, d0, d1, d2, d3, d4, d5, d6, d7⟩ : Fr)) = false)) :
    Calls Try.prog 3 #[.agg #[.int .i64 id, .bool rtr, .int .i64 len, .int .u8 d0, .int .u8 d1, .int .u8 d2, .int .u8 d3, .int .u8 d4, .int .u8 d5, .int .u8 d6, .int .u8 d7], .agg #[.int .i64 eid, .bool ertr, .int .i64 elen, .int .u8 ed0, .int .u8 ed1, .int .u8 ed2, .int .u8 ed3, .int .u8 ed4, .int .u8 ed5, .int .u8 ed6, .int .u8 ed7], .agg #[.int .i64 gid, .bool grtr, .int .i64 glen, .int .u8 gd0, .int .u8 gd1, .int .u8 gd2, .int .u8 gd3, .int .u8 gd4, .int .u8 gd5, .int .u8 gd6, .int .u8 gd7]] w fun e w' => e = .returned (.bool true) ∧ Ext w w' := by
  have Q1 := hid (fun w => rrank_c id rtr len d0 d1 d2 d3 d4 d5 d6 d7 w)
  have Q2 := hid (fun w => rrank_c eid ertr elen ed0 ed1 ed2 ed3 ed4 ed5 ed6 ed7 w)
  have Q3 := hid (fun w => rrank_c gid grtr glen gd0 gd1 gd2 gd3 gd4 gd5 gd6 gd7 w)
  have R1 := hid (fun w => rank_c id rtr len d0 d1 d2 d3 d4 d5 d6 d7 w)
  have L12 := hid (fun w => less_c id rtr len d0 d1 d2 d3 d4 d5 d6 d7 eid ertr elen ed0 ed1 ed2 ed3 ed4 ed5 ed6 ed7 w)
  have L21 := hid (fun w => less_c eid ertr elen ed0 ed1 ed2 ed3 ed4 ed5 ed6 ed7 id rtr len d0 d1 d2 d3 d4 d5 d6 d7 w)
  have L23 := hid (fun w => less_c eid ertr elen ed0 ed1 ed2 ed3 ed4 ed5 ed6 ed7 gid grtr glen gd0 gd1 gd2 gd3 gd4 gd5 gd6 gd7 w)
  have L13 := hid (fun w => less_c id rtr len d0 d1 d2 d3 d4 d5 d6 d7 gid grtr glen gd0 gd1 gd2 gd3 gd4 gd5 gd6 gd7 w)
  have C3 := hid (fun w => check_c gid grtr glen gd0 gd1 gd2 gd3 gd4 gd5 gd6 gd7 w)
  have hz := rank_pos (⟨gid, grtr, glen, gd0, gd1, gd2, gd3, gd4, gd5, gd6, gd7⟩ : Fr)
  generalize Fr.rank (⟨id, rtr, len, d0, d1, d2, d3, d4, d5, d6, d7⟩ : Fr) = x at *
  generalize Fr.rank (⟨eid, ertr, elen, ed0, ed1, ed2, ed3, ed4, ed5, ed6, ed7⟩ : Fr) = y at *
  generalize Fr.rank (⟨gid, grtr, glen, gd0, gd1, gd2, gd3, gd4, gd5, gd6, gd7⟩ : Fr) = z at *
  generalize Fr.chk (⟨gid, grtr, glen, gd0, gd1, gd2, gd3, gd4, gd5, gd6, gd7⟩ : Fr) = m at *
  obtain ⟨h1, h2⟩ := hc
  have b1 := ((Blk.new w #[.int .i64 id, .bool rtr, .int .i64 len, .int .u8 d0, .int .u8 d1, .int .u8 d2, .int .u8 d3, .int .u8 d4, .int .u8 d5, .int .u8 d6, .int .u8 d7] FT).alloc (.cells #[.int .i64 eid, .bool ertr, .int .i64 elen, .int .u8 ed0, .int .u8 ed1, .int .u8 ed2, .int .u8 ed3, .int .u8 ed4, .int .u8 ed5, .int .u8 ed6, .int .u8 ed7] FT)).alloc (.cells #[.int .i64 gid, .bool grtr, .int .i64 glen, .int .u8 gd0, .int .u8 gd1, .int .u8 gd2, .int .u8 gd3, .int .u8 gd4, .int .u8 gd5, .int .u8 gd6, .int .u8 gd7] FT)
  have b2 := (Blk.new2 w (.cells #[.int .i64 id, .bool rtr, .int .i64 len, .int .u8 d0, .int .u8 d1, .int .u8 d2, .int .u8 d3, .int .u8 d4, .int .u8 d5, .int .u8 d6, .int .u8 d7] FT) #[.int .i64 eid, .bool ertr, .int .i64 elen, .int .u8 ed0, .int .u8 ed1, .int .u8 ed2, .int .u8 ed3, .int .u8 ed4, .int .u8 ed5, .int .u8 ed6, .int .u8 ed7] FT).alloc (.cells #[.int .i64 gid, .bool grtr, .int .i64 glen, .int .u8 gd0, .int .u8 gd1, .int .u8 gd2, .int .u8 gd3, .int .u8 gd4, .int .u8 gd5, .int .u8 gd6, .int .u8 gd7] FT)
  have b3 : Blk (((w.alloc (.cells #[.int .i64 id, .bool rtr, .int .i64 len, .int .u8 d0, .int .u8 d1, .int .u8 d2, .int .u8 d3, .int .u8 d4, .int .u8 d5, .int .u8 d6, .int .u8 d7] FT)).alloc (.cells #[.int .i64 eid, .bool ertr, .int .i64 elen, .int .u8 ed0, .int .u8 ed1, .int .u8 ed2, .int .u8 ed3, .int .u8 ed4, .int .u8 ed5, .int .u8 ed6, .int .u8 ed7] FT)).alloc (.cells #[.int .i64 gid, .bool grtr, .int .i64 glen, .int .u8 gd0, .int .u8 gd1, .int .u8 gd2, .int .u8 gd3, .int .u8 gd4, .int .u8 gd5, .int .u8 gd6, .int .u8 gd7] FT)) (w.heap.size + 2) #[.int .i64 gid, .bool grtr, .int .i64 glen, .int .u8 gd0, .int .u8 gd1, .int .u8 gd2, .int .u8 gd3, .int .u8 gd4, .int .u8 gd5, .int .u8 gd6, .int .u8 gd7] FT := by
    have := Blk.new ((w.alloc (.cells #[.int .i64 id, .bool rtr, .int .i64 len, .int .u8 d0, .int .u8 d1, .int .u8 d2, .int .u8 d3, .int .u8 d4, .int .u8 d5, .int .u8 d6, .int .u8 d7] FT)).alloc (.cells #[.int .i64 eid, .bool ertr, .int .i64 elen, .int .u8 ed0, .int .u8 ed1, .int .u8 ed2, .int .u8 ed3, .int .u8 ed4, .int .u8 ed5, .int .u8 ed6, .int .u8 ed7] FT)) #[.int .i64 gid, .bool grtr, .int .i64 glen, .int .u8 gd0, .int .u8 gd1, .int .u8 gd2, .int .u8 gd3, .int .u8 gd4, .int .u8 gd5, .int .u8 gd6, .int .u8 gd7] FT
    simpa only [World.size_alloc] using this
  have K0 : Ext w (((w.alloc (.cells #[.int .i64 id, .bool rtr, .int .i64 len, .int .u8 d0, .int .u8 d1, .int .u8 d2, .int .u8 d3, .int .u8 d4, .int .u8 d5, .int .u8 d6, .int .u8 d7] FT)).alloc (.cells #[.int .i64 eid, .bool ertr, .int .i64 elen, .int .u8 ed0, .int .u8 ed1, .int .u8 ed2, .int .u8 ed3, .int .u8 ed4, .int .u8 ed5, .int .u8 ed6, .int .u8 ed7] FT)).alloc (.cells #[.int .i64 gid, .bool grtr, .int .i64 glen, .int .u8 gd0, .int .u8 gd1, .int .u8 gd2, .int .u8 gd3, .int .u8 gd4, .int .u8 gd5, .int .u8 gd6, .int .u8 gd7] FT)) := (by repeat (first | with_reducible exact Ext.refl _ | with_reducible assumption | with_reducible apply Ext.alloc | with_reducible apply Ext.drew | with_reducible apply Ext.drewN | (with_reducible refine Ext.set' ?_ (by first | omega | (simp only [World.size_alloc, World.size_setCell]; omega))) | (with_reducible refine Ext.trans ?_ (by with_reducible assumption)) | (with_reducible refine Ext.only ?_ (by with_reducible assumption) (by omega))))
  obtain ⟨W, hW⟩ : ∃ W, W = (((w.alloc (.cells #[.int .i64 id, .bool rtr, .int .i64 len, .int .u8 d0, .int .u8 d1, .int .u8 d2, .int .u8 d3, .int .u8 d4, .int .u8 d5, .int .u8 d6, .int .u8 d7] FT)).alloc (.cells #[.int .i64 eid, .bool ertr, .int .i64 elen, .int .u8 ed0, .int .u8 ed1, .int .u8 ed2, .int .u8 ed3, .int .u8 ed4, .int .u8 ed5, .int .u8 ed6, .int .u8 ed7] FT)).alloc (.cells #[.int .i64 gid, .bool grtr, .int .i64 glen, .int .u8 gd0, .int .u8 gd1, .int .u8 gd2, .int .u8 gd3, .int .u8 gd4, .int .u8 gd5, .int .u8 gd6, .int .u8 gd7] FT)) := ⟨_, rfl⟩
  rw [← hW] at b1 b2 b3 K0
  obtain ⟨pc0, pc1, pc2, pc3, pc4, pc5, pc6, pc7, pc8, pc9, pc10, pf0, pf1, pf2, pf3, pf4, pf5, pf6, pf7, pf8, pf9, pf10⟩ := Blk.cells11 b1
  obtain ⟨qc0, qc1, qc2, qc3, qc4, qc5, qc6, qc7, qc8, qc9, qc10, qf0, qf1, qf2, qf3, qf4, qf5, qf6, qf7, qf8, qf9, qf10⟩ := Blk.cells11 b2
  obtain ⟨rc0, rc1, rc2, rc3, rc4, rc5, rc6, rc7, rc8, rc9, rc10, rf0, rf1, rf2, rf3, rf4, rf5, rf6, rf7, rf8, rf9, rf10⟩ := Blk.cells11 b3
  have pa0 := After.cell pc0; have pa1 := After.cell pc1; have pa2 := After.cell pc2; have pa3 := After.cell pc3; have pa4 := After.cell pc4; have pa5 := After.cell pc5; have pa6 := After.cell pc6; have pa7 := After.cell pc7; have pa8 := After.cell pc8; have pa9 := After.cell pc9; have pa10 := After.cell pc10
  have qa0 := After.cell qc0; have qa1 := After.cell qc1; have qa2 := After.cell qc2; have qa3 := After.cell qc3; have qa4 := After.cell qc4; have qa5 := After.cell qc5; have qa6 := After.cell qc6; have qa7 := After.cell qc7; have qa8 := After.cell qc8; have qa9 := After.cell qc9; have qa10 := After.cell qc10
  have ra0 := After.cell rc0; have ra1 := After.cell rc1; have ra2 := After.cell rc2; have ra3 := After.cell rc3; have ra4 := After.cell rc4; have ra5 := After.cell rc5; have ra6 := After.cell rc6; have ra7 := After.cell rc7; have ra8 := After.cell rc8; have ra9 := After.cell rc9; have ra10 := After.cell rc10
  clear pf0 pf1 pf2 pf3 pf4 pf5 pf6 pf7 pf8 pf9 pf10
  clear qf0 qf1 qf2 qf3 qf4 qf5 qf6 qf7 qf8 qf9 qf10
  clear rf0 rf1 rf2 rf3 rf4 rf5 rf6 rf7 rf8 rf9 rf10
  clear b1 b2 b3 pc0 pc1 pc2 pc3 pc4 pc5 pc6 pc7 pc8 pc9 pc10 qc0 qc1 qc2 qc3 qc4 qc5 qc6 qc7 qc8 qc9 qc10 rc0 rc1 rc2 rc3 rc4 rc5 rc6 rc7 rc8 rc9 rc10
  have KL := hid (fun (n : After W) => live_c n.wd)
  have KW := hid (fun (n : After W) => Ext.trans K0 n.ext)
  go_enter Try.func3, Try.ntmps3
  go_wp2_with fail
  rw [← hW]
  clear hW
  refine wp_region_ext (by kernel_rfl) (by kernel_rfl) ?_; (repeat (any_goals (first | go_big_quiet_step (first | (go_at_call 7; with_reducible exact Calls.ext_of (Q1.out _)) | (go_at_call 7; with_reducible exact Calls.ext_of (Q2.out _)) | (go_at_call 7; with_reducible exact Calls.ext_of (Q3.out _))) | quiet_step (first | (go_at_call 7; with_reducible exact Calls.ext_of (Q1.out _)) | (go_at_call 7; with_reducible exact Calls.ext_of (Q2.out _)) | (go_at_call 7; with_reducible exact Calls.ext_of (Q3.out _)))))); (all_goals (refine wpQuiet_nil ?_; intro w1 hw'; obtain ⟨x1, hw''⟩ := hw'; subst hw''))
  go_wp2_with (first | ((with_reducible refine (Calls.ext_of (R1.out _)).mono ?_); rintro e w' ⟨rfl, x', rfl⟩) | ((with_reducible refine (Calls.ext_of (L12.out _)).mono ?_); rintro e w' ⟨rfl, x', rfl⟩) | ((with_reducible refine (Calls.ext_of (L21.out _)).mono ?_); rintro e w' ⟨rfl, x', rfl⟩) | ((with_reducible refine (Calls.ext_of (L23.out _)).mono ?_); rintro e w' ⟨rfl, x', rfl⟩) | ((with_reducible refine (Calls.ext_of (L13.out _)).mono ?_); rintro e w' ⟨rfl, x', rfl⟩) | ((with_reducible refine (Calls.ext_of (C3.out _)).mono ?_); rintro e w' ⟨rfl, x', rfl⟩) | ((with_reducible refine (Calls.ext_of (KL.out _)).mono ?_); rintro e w' ⟨rfl, x', rfl⟩))
  go_ret
  exact ⟨rfl, KW.out _⟩

set_option maxHeartbeats 4000000 in
theorem ranks_1 (id : Int) (rtr : Bool) (len d0 d1 d2 d3 d4 d5 d6 d7 : Int) (eid : Int) (ertr : Bool) (elen ed0 ed1 ed2 ed3 ed4 ed5 ed6 ed7 : Int) (gid : Int) (grtr : Bool) (glen gd0 gd1 gd2 gd3 gd4 gd5 gd6 gd7 : Int) (w : World)
    (hc : (decide (Fr.rank (⟨id, rtr, len, d0, d1, d2, d3, d4, d5, d6, d7⟩ : Fr) < Fr.rank (⟨eid, ertr, elen, ed0, ed1, ed2, ed3, ed4, ed5, ed6, ed7⟩ : Fr)) = false ∧ decide (0 ≤ Fr.rank (⟨id, rtr, len, d0, d1, d2, d3, d4, d5, d6, d7⟩ : Fr)) = true ∧ decide (0 ≤ Fr.rank (⟨eid, ertr, elen, ed0, ed1, ed2, ed3, ed4, ed5, ed6, ed7⟩ : Fr)) = false)) :
    Calls Try.prog 3 #[.agg #[.int .i64 id, .bool rtr, .int .i64 len, .int .u8 d0, .int .u8 d1, .int .u8 d2, .int .u8 d3, .int .u8 d4, .int .u8 d5, .int .u8 d6, .int .u8 d7], .agg #[.int .i64 eid, .bool ertr, .int .i64 elen, .int .u8 ed0, .int .u8 ed1, .int .u8 ed2, .int .u8 ed3, .int .u8 ed4, .int .u8 ed5, .int .u8 ed6, .int .u8 ed7], .agg #[.int .i64 gid, .bool grtr, .int .i64 glen, .int .u8 gd0, .int .u8 gd1, .int .u8 gd2, .int .u8 gd3, .int .u8 gd4, .int .u8 gd5, .int .u8 gd6, .int .u8 gd7]] w fun e w' => e = .returned (.bool true) ∧ Ext w w' := by
  have Q1 := hid (fun w => rrank_c id rtr len d0 d1 d2 d3 d4 d5 d6 d7 w)
  have Q2 := hid (fun w => rrank_c eid ertr elen ed0 ed1 ed2 ed3 ed4 ed5 ed6 ed7 w)
  have Q3 := hid (fun w => rrank_c gid grtr glen gd0 gd1 gd2 gd3 gd4 gd5 gd6 gd7 w)
  have R1 := hid (fun w => rank_c id rtr len d0 d1 d2 d3 d4 d5 d6 d7 w)
  have L12 := hid (fun w => less_c id rtr len d0 d1 d2 d3 d4 d5 d6 d7 eid ertr elen ed0 ed1 ed2 ed3 ed4 ed5 ed6 ed7 w)
  have L21 := hid (fun w => less_c eid ertr elen ed0 ed1 ed2 ed3 ed4 ed5 ed6 ed7 id rtr len d0 d1 d2 d3 d4 d5 d6 d7 w)
  have L23 := hid (fun w => less_c eid ertr elen ed0 ed1 ed2 ed3 ed4 ed5 ed6 ed7 gid grtr glen gd0 gd1 gd2 gd3 gd4 gd5 gd6 gd7 w)
  have L13 := hid (fun w => less_c id rtr len d0 d1 d2 d3 d4 d5 d6 d7 gid grtr glen gd0 gd1 gd2 gd3 gd4 gd5 gd6 gd7 w)
  have C3 := hid (fun w => check_c gid grtr glen gd0 gd1 gd2 gd3 gd4 gd5 gd6 gd7 w)
  have hz := rank_pos (⟨gid, grtr, glen, gd0, gd1, gd2, gd3, gd4, gd5, gd6, gd7⟩ : Fr)
  generalize Fr.rank (⟨id, rtr, len, d0, d1, d2, d3, d4, d5, d6, d7⟩ : Fr) = x at *
  generalize Fr.rank (⟨eid, ertr, elen, ed0, ed1, ed2, ed3, ed4, ed5, ed6, ed7⟩ : Fr) = y at *
  generalize Fr.rank (⟨gid, grtr, glen, gd0, gd1, gd2, gd3, gd4, gd5, gd6, gd7⟩ : Fr) = z at *
  generalize Fr.chk (⟨gid, grtr, glen, gd0, gd1, gd2, gd3, gd4, gd5, gd6, gd7⟩ : Fr) = m at *
  obtain ⟨h1, h2, h3⟩ := hc
  have b1 := ((Blk.new w #[.int .i64 id, .bool rtr, .int .i64 len, .int .u8 d0, .int .u8 d1, .int .u8 d2, .int .u8 d3, .int .u8 d4, .int .u8 d5, .int .u8 d6, .int .u8 d7] FT).alloc (.cells #[.int .i64 eid, .bool ertr, .int .i64 elen, .int .u8 ed0, .int .u8 ed1, .int .u8 ed2, .int .u8 ed3, .int .u8 ed4, .int .u8 ed5, .int .u8 ed6, .int .u8 ed7] FT)).alloc (.cells #[.int .i64 gid, .bool grtr, .int .i64 glen, .int .u8 gd0, .int .u8 gd1, .int .u8 gd2, .int .u8 gd3, .int .u8 gd4, .int .u8 gd5, .int .u8 gd6, .int .u8 gd7] FT)
  have b2 := (Blk.new2 w (.cells #[.int .i64 id, .bool rtr, .int .i64 len, .int .u8 d0, .int .u8 d1, .int .u8 d2, .int .u8 d3, .int .u8 d4, .int .u8 d5, .int .u8 d6, .int .u8 d7] FT) #[.int .i64 eid, .bool ertr, .int .i64 elen, .int .u8 ed0, .int .u8 ed1, .int .u8 ed2, .int .u8 ed3, .int .u8 ed4, .int .u8 ed5, .int .u8 ed6, .int .u8 ed7] FT).alloc (.cells #[.int .i64 gid, .bool grtr, .int .i64 glen, .int .u8 gd0, .int .u8 gd1, .int .u8 gd2, .int .u8 gd3, .int .u8 gd4, .int .u8 gd5, .int .u8 gd6, .int .u8 gd7] FT)
  have b3 : Blk (((w.alloc (.cells #[.int .i64 id, .bool rtr, .int .i64 len, .int .u8 d0, .int .u8 d1, .int .u8 d2, .int .u8 d3, .int .u8 d4, .int .u8 d5, .int .u8 d6, .int .u8 d7] FT)).alloc (.cells #[.int .i64 eid, .bool ertr, .int .i64 elen, .int .u8 ed0, .int .u8 ed1, .int .u8 ed2, .int .u8 ed3, .int .u8 ed4, .int .u8 ed5, .int .u8 ed6, .int .u8 ed7] FT)).alloc (.cells #[.int .i64 gid, .bool grtr, .int .i64 glen, .int .u8 gd0, .int .u8 gd1, .int .u8 gd2, .int .u8 gd3, .int .u8 gd4, .int .u8 gd5, .int .u8 gd6, .int .u8 gd7] FT)) (w.heap.size + 2) #[.int .i64 gid, .bool grtr, .int .i64 glen, .int .u8 gd0, .int .u8 gd1, .int .u8 gd2, .int .u8 gd3, .int .u8 gd4, .int .u8 gd5, .int .u8 gd6, .int .u8 gd7] FT := by
    have := Blk.new ((w.alloc (.cells #[.int .i64 id, .bool rtr, .int .i64 len, .int .u8 d0, .int .u8 d1, .int .u8 d2, .int .u8 d3, .int .u8 d4, .int .u8 d5, .int .u8 d6, .int .u8 d7] FT)).alloc (.cells #[.int .i64 eid, .bool ertr, .int .i64 elen, .int .u8 ed0, .int .u8 ed1, .int .u8 ed2, .int .u8 ed3, .int .u8 ed4, .int .u8 ed5, .int .u8 ed6, .int .u8 ed7] FT)) #[.int .i64 gid, .bool grtr, .int .i64 glen, .int .u8 gd0, .int .u8 gd1, .int .u8 gd2, .int .u8 gd3, .int .u8 gd4, .int .u8 gd5, .int .u8 gd6, .int .u8 gd7] FT
    simpa only [World.size_alloc] using this
  have K0 : Ext w (((w.alloc (.cells #[.int .i64 id, .bool rtr, .int .i64 len, .int .u8 d0, .int .u8 d1, .int .u8 d2, .int .u8 d3, .int .u8 d4, .int .u8 d5, .int .u8 d6, .int .u8 d7] FT)).alloc (.cells #[.int .i64 eid, .bool ertr, .int .i64 elen, .int .u8 ed0, .int .u8 ed1, .int .u8 ed2, .int .u8 ed3, .int .u8 ed4, .int .u8 ed5, .int .u8 ed6, .int .u8 ed7] FT)).alloc (.cells #[.int .i64 gid, .bool grtr, .int .i64 glen, .int .u8 gd0, .int .u8 gd1, .int .u8 gd2, .int .u8 gd3, .int .u8 gd4, .int .u8 gd5, .int .u8 gd6, .int .u8 gd7] FT)) := (by repeat (first | with_reducible exact Ext.refl _ | with_reducible assumption | with_reducible apply Ext.alloc | with_reducible apply Ext.drew | with_reducible apply Ext.drewN | (with_reducible refine Ext.set' ?_ (by first | omega | (simp only [World.size_alloc, World.size_setCell]; omega))) | (with_reducible refine Ext.trans ?_ (by with_reducible assumption)) | (with_reducible refine Ext.only ?_ (by with_reducible assumption) (by omega))))
  obtain ⟨W, hW⟩ : ∃ W, W = (((w.alloc (.cells #[.int .i64 id, .bool rtr, .int .i64 len, .int .u8 d0, .int .u8 d1, .int .u8 d2, .int .u8 d3, .int .u8 d4, .int .u8 d5, .int .u8 d6, .int .u8 d7] FT)).alloc (.cells #[.int .i64 eid, .bool ertr, .int .i64 elen, .int .u8 ed0, .int .u8 ed1, .int .u8 ed2, .int .u8 ed3, .int .u8 ed4, .int .u8 ed5, .int .u8 ed6, .int .u8 ed7] FT)).alloc (.cells #[.int .i64 gid, .bool grtr, .int .i64 glen, .int .u8 gd0, .int .u8 gd1, .int .u8 gd2, .int .u8 gd3, .int .u8 gd4, .int .u8 gd5, .int .u8 gd6, .int .u8 gd7] FT)) := ⟨_, rfl⟩
  rw [← hW] at b1 b2 b3 K0
  obtain ⟨pc0, pc1, pc2, pc3, pc4, pc5, pc6, pc7, pc8, pc9, pc10, pf0, pf1, pf2, pf3, pf4, pf5, pf6, pf7, pf8, pf9, pf10⟩ := Blk.cells11 b1
  obtain ⟨qc0, qc1, qc2, qc3, qc4, qc5, qc6, qc7, qc8, qc9, qc10, qf0, qf1, qf2, qf3, qf4, qf5, qf6, qf7, qf8, qf9, qf10⟩ := Blk.cells11 b2
  obtain ⟨rc0, rc1, rc2, rc3, rc4, rc5, rc6, rc7, rc8, rc9, rc10, rf0, rf1, rf2, rf3, rf4, rf5, rf6, rf7, rf8, rf9, rf10⟩ := Blk.cells11 b3
  have pa0 := After.cell pc0; have pa1 := After.cell pc1; have pa2 := After.cell pc2; have pa3 := After.cell pc3; have pa4 := After.cell pc4; have pa5 := After.cell pc5; have pa6 := After.cell pc6; have pa7 := After.cell pc7; have pa8 := After.cell pc8; have pa9 := After.cell pc9; have pa10 := After.cell pc10
  have qa0 := After.cell qc0; have qa1 := After.cell qc1; have qa2 := After.cell qc2; have qa3 := After.cell qc3; have qa4 := After.cell qc4; have qa5 := After.cell qc5; have qa6 := After.cell qc6; have qa7 := After.cell qc7; have qa8 := After.cell qc8; have qa9 := After.cell qc9; have qa10 := After.cell qc10
  have ra0 := After.cell rc0; have ra1 := After.cell rc1; have ra2 := After.cell rc2; have ra3 := After.cell rc3; have ra4 := After.cell rc4; have ra5 := After.cell rc5; have ra6 := After.cell rc6; have ra7 := After.cell rc7; have ra8 := After.cell rc8; have ra9 := After.cell rc9; have ra10 := After.cell rc10
  clear pf0 pf1 pf2 pf3 pf4 pf5 pf6 pf7 pf8 pf9 pf10
  clear qf0 qf1 qf2 qf3 qf4 qf5 qf6 qf7 qf8 qf9 qf10
  clear rf0 rf1 rf2 rf3 rf4 rf5 rf6 rf7 rf8 rf9 rf10
  clear b1 b2 b3 pc0 pc1 pc2 pc3 pc4 pc5 pc6 pc7 pc8 pc9 pc10 qc0 qc1 qc2 qc3 qc4 qc5 qc6 qc7 qc8 qc9 qc10 rc0 rc1 rc2 rc3 rc4 rc5 rc6 rc7 rc8 rc9 rc10
  have KL := hid (fun (n : After W) => live_c n.wd)
  have KW := hid (fun (n : After W) => Ext.trans K0 n.ext)
  go_enter Try.func3, Try.ntmps3
  go_wp2_with fail
  rw [← hW]
  clear hW
  refine wp_region_ext (by kernel_rfl) (by kernel_rfl) ?_; (repeat (any_goals (first | go_big_quiet_step (first | (go_at_call 7; with_reducible exact Calls.ext_of (Q1.out _)) | (go_at_call 7; with_reducible exact Calls.ext_of (Q2.out _)) | (go_at_call 7; with_reducible exact Calls.ext_of (Q3.out _))) | quiet_step (first | (go_at_call 7; with_reducible exact Calls.ext_of (Q1.out _)) | (go_at_call 7; with_reducible exact Calls.ext_of (Q2.out _)) | (go_at_call 7; with_reducible exact Calls.ext_of (Q3.out _)))))); (all_goals (refine wpQuiet_nil ?_; intro w1 hw'; obtain ⟨x1, hw''⟩ := hw'; subst hw''))
  go_wp2_with (first | ((with_reducible refine (Calls.ext_of (R1.out _)).mono ?_); rintro e w' ⟨rfl, x', rfl⟩) | ((with_reducible refine (Calls.ext_of (L12.out _)).mono ?_); rintro e w' ⟨rfl, x', rfl⟩) | ((with_reducible refine (Calls.ext_of (L21.out _)).mono ?_); rintro e w' ⟨rfl, x', rfl⟩) | ((with_reducible refine (Calls.ext_of (L23.out _)).mono ?_); rintro e w' ⟨rfl, x', rfl⟩) | ((with_reducible refine (Calls.ext_of (L13.out _)).mono ?_); rintro e w' ⟨rfl, x', rfl⟩) | ((with_reducible refine (Calls.ext_of (C3.out _)).mono ?_); rintro e w' ⟨rfl, x', rfl⟩) | ((with_reducible refine (Calls.ext_of (KL.out _)).mono ?_); rintro e w' ⟨rfl, x', rfl⟩))
  go_ret
  exact ⟨rfl, KW.out _⟩

set_option maxHeartbeats 4000000 in
theorem ranks_2 (id : Int) (rtr : Bool) (len d0 d1 d2 d3 d4 d5 d6 d7 : Int) (eid : Int) (ertr : Bool) (elen ed0 ed1 ed2 ed3 ed4 ed5 ed6 ed7 : Int) (gid : Int) (grtr : Bool) (glen gd0 gd1 gd2 gd3 gd4 gd5 gd6 gd7 : Int) (w : World)
    (hc : (decide (Fr.rank (⟨id, rtr, len, d0, d1, d2, d3, d4, d5, d6, d7⟩ : Fr) < Fr.rank (⟨eid, ertr, elen, ed0, ed1, ed2, ed3, ed4, ed5, ed6, ed7⟩ : Fr)) = false ∧ decide (0 ≤ Fr.rank (⟨id, rtr, len, d0, d1, d2, d3, d4, d5, d6, d7⟩ : Fr)) = true ∧ decide (0 ≤ Fr.rank (⟨eid, ertr, elen, ed0, ed1, ed2, ed3, ed4, ed5, ed6, ed7⟩ : Fr)) = true ∧ decide (id < eid) = false)) :
    Calls Try.prog 3 #[.agg #[.int .i64 id, .bool rtr, .int .i64 len, .int .u8 d0, .int .u8 d1, .int .u8 d2, .int .u8 d3, .int .u8 d4, .int .u8 d5, .int .u8 d6, .int .u8 d7], .agg #[.int .i64 eid, .bool ertr, .int .i64 elen, .int .u8 ed0, .int .u8 ed1, .int .u8 ed2, .int .u8 ed3, .int .u8 ed4, .int .u8 ed5, .int .u8 ed6, .int .u8 ed7], .agg #[.int .i64 gid, .bool grtr, .int .i64 glen, .int .u8 gd0, .int .u8 gd1, .int .u8 gd2, .int .u8 gd3, .int .u8 gd4, .int .u8 gd5, .int .u8 gd6, .int .u8 gd7]] w fun e w' => e = .returned (.bool true) ∧ Ext w w' := by
  have Q1 := hid (fun w => rrank_c id rtr len d0 d1 d2 d3 d4 d5 d6 d7 w)
  have Q2 := hid (fun w => rrank_c eid ertr elen ed0 ed1 ed2 ed3 ed4 ed5 ed6 ed7 w)
  have Q3 := hid (fun w => rrank_c gid grtr glen gd0 gd1 gd2 gd3 gd4 gd5 gd6 gd7 w)
  have R1 := hid (fun w => rank_c id rtr len d0 d1 d2 d3 d4 d5 d6 d7 w)
  have L12 := hid (fun w => less_c id rtr len d0 d1 d2 d3 d4 d5 d6 d7 eid ertr elen ed0 ed1 ed2 ed3 ed4 ed5 ed6 ed7 w)
  have L21 := hid (fun w => less_c eid ertr elen ed0 ed1 ed2 ed3 ed4 ed5 ed6 ed7 id rtr len d0 d1 d2 d3 d4 d5 d6 d7 w)
  have L23 := hid (fun w => less_c eid ertr elen ed0 ed1 ed2 ed3 ed4 ed5 ed6 ed7 gid grtr glen gd0 gd1 gd2 gd3 gd4 gd5 gd6 gd7 w)
  have L13 := hid (fun w => less_c id rtr len d0 d1 d2 d3 d4 d5 d6 d7 gid grtr glen gd0 gd1 gd2 gd3 gd4 gd5 gd6 gd7 w)
  have C3 := hid (fun w => check_c gid grtr glen gd0 gd1 gd2 gd3 gd4 gd5 gd6 gd7 w)
  have hz := rank_pos (⟨gid, grtr, glen, gd0, gd1, gd2, gd3, gd4, gd5, gd6, gd7⟩ : Fr)
  generalize Fr.rank (⟨id, rtr, len, d0, d1, d2, d3, d4, d5, d6, d7⟩ : Fr) = x at *
  generalize Fr.rank (⟨eid, ertr, elen, ed0, ed1, ed2, ed3, ed4, ed5, ed6, ed7⟩ : Fr) = y at *
  generalize Fr.rank (⟨gid, grtr, glen, gd0, gd1, gd2, gd3, gd4, gd5, gd6, gd7⟩ : Fr) = z at *
  generalize Fr.chk (⟨gid, grtr, glen, gd0, gd1, gd2, gd3, gd4, gd5, gd6, gd7⟩ : Fr) = m at *
  obtain ⟨h1, h2, h3, h4⟩ := hc
  have b1 := ((Blk.new w #[.int .i64 id, .bool rtr, .int .i64 len, .int .u8 d0, .int .u8 d1, .int .u8 d2, .int .u8 d3, .int .u8 d4, .int .u8 d5, .int .u8 d6, .int .u8 d7] FT).alloc (.cells #[.int .i64 eid, .bool ertr, .int .i64 elen, .int .u8 ed0, .int .u8 ed1, .int .u8 ed2, .int .u8 ed3, .int .u8 ed4, .int .u8 ed5, .int .u8 ed6, .int .u8 ed7] FT)).alloc (.cells #[.int .i64 gid, .bool grtr, .int .i64 glen, .int .u8 gd0, .int .u8 gd1, .int .u8 gd2, .int .u8 gd3, .int .u8 gd4, .int .u8 gd5, .int .u8 gd6, .int .u8 gd7] FT)
  have b2 := (Blk.new2 w (.cells #[.int .i64 id, .bool rtr, .int .i64 len, .int .u8 d0, .int .u8 d1, .int .u8 d2, .int .u8 d3, .int .u8 d4, .int .u8 d5, .int .u8 d6, .int .u8 d7] FT) #[.int .i64 eid, .bool ertr, .int .i64 elen, .int .u8 ed0, .int .u8 ed1, .int .u8 ed2, .int .u8 ed3, .int .u8 ed4, .int .u8 ed5, .int .u8 ed6, .int .u8 ed7] FT).alloc (.cells #[.int .i64 gid, .bool grtr, .int .i64 glen, .int .u8 gd0, .int .u8 gd1, .int .u8 gd2, .int .u8 gd3, .int .u8 gd4, .int .u8 gd5, .int .u8 gd6, .int .u8 gd7] FT)
  have b3 : Blk (((w.alloc (.cells #[.int .i64 id, .bool rtr, .int .i64 len, .int .u8 d0, .int .u8 d1, .int .u8 d2, .int .u8 d3, .int .u8 d4, .int .u8 d5, .int .u8 d6, .int .u8 d7] FT)).alloc (.cells #[.int .i64 eid, .bool ertr, .int .i64 elen, .int .u8 ed0, .int .u8 ed1, .int .u8 ed2, .int .u8 ed3, .int .u8 ed4, .int .u8 ed5, .int .u8 ed6, .int .u8 ed7] FT)).alloc (.cells #[.int .i64 gid, .bool grtr, .int .i64 glen, .int .u8 gd0, .int .u8 gd1, .int .u8 gd2, .int .u8 gd3, .int .u8 gd4, .int .u8 gd5, .int .u8 gd6, .int .u8 gd7] FT)) (w.heap.size + 2) #[.int .i64 gid, .bool grtr, .int .i64 glen, .int .u8 gd0, .int .u8 gd1, .int .u8 gd2, .int .u8 gd3, .int .u8 gd4, .int .u8 gd5, .int .u8 gd6, .int .u8 gd7] FT := by
    have := Blk.new ((w.alloc (.cells #[.int .i64 id, .bool rtr, .int .i64 len, .int .u8 d0, .int .u8 d1, .int .u8 d2, .int .u8 d3, .int .u8 d4, .int .u8 d5, .int .u8 d6, .int .u8 d7] FT)).alloc (.cells #[.int .i64 eid, .bool ertr, .int .i64 elen, .int .u8 ed0, .int .u8 ed1, .int .u8 ed2, .int .u8 ed3, .int .u8 ed4, .int .u8 ed5, .int .u8 ed6, .int .u8 ed7] FT)) #[.int .i64 gid, .bool grtr, .int .i64 glen, .int .u8 gd0, .int .u8 gd1, .int .u8 gd2, .int .u8 gd3, .int .u8 gd4, .int .u8 gd5, .int .u8 gd6, .int .u8 gd7] FT
    simpa only [World.size_alloc] using this
  have K0 : Ext w (((w.alloc (.cells #[.int .i64 id, .bool rtr, .int .i64 len, .int .u8 d0, .int .u8 d1, .int .u8 d2, .int .u8 d3, .int .u8 d4, .int .u8 d5, .int .u8 d6, .int .u8 d7] FT)).alloc (.cells #[.int .i64 eid, .bool ertr, .int .i64 elen, .int .u8 ed0, .int .u8 ed1, .int .u8 ed2, .int .u8 ed3, .int .u8 ed4, .int .u8 ed5, .int .u8 ed6, .int .u8 ed7] FT)).alloc (.cells #[.int .i64 gid, .bool grtr, .int .i64 glen, .int .u8 gd0, .int .u8 gd1, .int .u8 gd2, .int .u8 gd3, .int .u8 gd4, .int .u8 gd5, .int .u8 gd6, .int .u8 gd7] FT)) := (by repeat (first | with_reducible exact Ext.refl _ | with_reducible assumption | with_reducible apply Ext.alloc | with_reducible apply Ext.drew | with_reducible apply Ext.drewN | (with_reducible refine Ext.set' ?_ (by first | omega | (simp only [World.size_alloc, World.size_setCell]; omega))) | (with_reducible refine Ext.trans ?_ (by with_reducible assumption)) | (with_reducible refine Ext.only ?_ (by with_reducible assumption) (by omega))))
  obtain ⟨W, hW⟩ : ∃ W, W = (((w.alloc (.cells #[.int .i64 id, .bool rtr, .int .i64 len, .int .u8 d0, .int .u8 d1, .int .u8 d2, .int .u8 d3, .int .u8 d4, .int .u8 d5, .int .u8 d6, .int .u8 d7] FT)).alloc (.cells #[.int .i64 eid, .bool ertr, .int .i64 elen, .int .u8 ed0, .int .u8 ed1, .int .u8 ed2, .int .u8 ed3, .int .u8 ed4, .int .u8 ed5, .int .u8 ed6, .int .u8 ed7] FT)).alloc (.cells #[.int .i64 gid, .bool grtr, .int .i64 glen, .int .u8 gd0, .int .u8 gd1, .int .u8 gd2, .int .u8 gd3, .int .u8 gd4, .int .u8 gd5, .int .u8 gd6, .int .u8 gd7] FT)) := ⟨_, rfl⟩
  rw [← hW] at b1 b2 b3 K0
  obtain ⟨pc0, pc1, pc2, pc3, pc4, pc5, pc6, pc7, pc8, pc9, pc10, pf0, pf1, pf2, pf3, pf4, pf5, pf6, pf7, pf8, pf9, pf10⟩ := Blk.cells11 b1
  obtain ⟨qc0, qc1, qc2, qc3, qc4, qc5, qc6, qc7, qc8, qc9, qc10, qf0, qf1, qf2, qf3, qf4, qf5, qf6, qf7, qf8, qf9, qf10⟩ := Blk.cells11 b2
  obtain ⟨rc0, rc1, rc2, rc3, rc4, rc5, rc6, rc7, rc8, rc9, rc10, rf0, rf1, rf2, rf3, rf4, rf5, rf6, rf7, rf8, rf9, rf10⟩ := Blk.cells11 b3
  have pa0 := After.cell pc0; have pa1 := After.cell pc1; have pa2 := After.cell pc2; have pa3 := After.cell pc3; have pa4 := After.cell pc4; have pa5 := After.cell pc5; have pa6 := After.cell pc6; have pa7 := After.cell pc7; have pa8 := After.cell pc8; have pa9 := After.cell pc9; have pa10 := After.cell pc10
  have qa0 := After.cell qc0; have qa1 := After.cell qc1; have qa2 := After.cell qc2; have qa3 := After.cell qc3; have qa4 := After.cell qc4; have qa5 := After.cell qc5; have qa6 := After.cell qc6; have qa7 := After.cell qc7; have qa8 := After.cell qc8; have qa9 := After.cell qc9; have qa10 := After.cell qc10
  have ra0 := After.cell rc0; have ra1 := After.cell rc1; have ra2 := After.cell rc2; have ra3 := After.cell rc3; have ra4 := After.cell rc4; have ra5 := After.cell rc5; have ra6 := After.cell rc6; have ra7 := After.cell rc7; have ra8 := After.cell rc8; have ra9 := After.cell rc9; have ra10 := After.cell rc10
  clear pf0 pf1 pf2 pf3 pf4 pf5 pf6 pf7 pf8 pf9 pf10
  clear qf0 qf1 qf2 qf3 qf4 qf5 qf6 qf7 qf8 qf9 qf10
  clear rf0 rf1 rf2 rf3 rf4 rf5 rf6 rf7 rf8 rf9 rf10
  clear b1 b2 b3 pc0 pc1 pc2 pc3 pc4 pc5 pc6 pc7 pc8 pc9 pc10 qc0 qc1 qc2 qc3 qc4 qc5 qc6 qc7 qc8 qc9 qc10 rc0 rc1 rc2 rc3 rc4 rc5 rc6 rc7 rc8 rc9 rc10
  have KL := hid (fun (n : After W) => live_c n.wd)
  have KW := hid (fun (n : After W) => Ext.trans K0 n.ext)
  go_enter Try.func3, Try.ntmps3
  go_wp2_with fail
  rw [← hW]
  clear hW
  refine wp_region_ext (by kernel_rfl) (by kernel_rfl) ?_; (repeat (any_goals (first | go_big_quiet_step (first | (go_at_call 7; with_reducible exact Calls.ext_of (Q1.out _)) | (go_at_call 7; with_reducible exact Calls.ext_of (Q2.out _)) | (go_at_call 7; with_reducible exact Calls.ext_of (Q3.out _))) | quiet_step (first | (go_at_call 7; with_reducible exact Calls.ext_of (Q1.out _)) | (go_at_call 7; with_reducible exact Calls.ext_of (Q2.out _)) | (go_at_call 7; with_reducible exact Calls.ext_of (Q3.out _)))))); (all_goals (refine wpQuiet_nil ?_; intro w1 hw'; obtain ⟨x1, hw''⟩ := hw'; subst hw''))
  go_wp2_with (first | ((with_reducible refine (Calls.ext_of (R1.out _)).mono ?_); rintro e w' ⟨rfl, x', rfl⟩) | ((with_reducible refine (Calls.ext_of (L12.out _)).mono ?_); rintro e w' ⟨rfl, x', rfl⟩) | ((with_reducible refine (Calls.ext_of (L21.out _)).mono ?_); rintro e w' ⟨rfl, x', rfl⟩) | ((with_reducible refine (Calls.ext_of (L23.out _)).mono ?_); rintro e w' ⟨rfl, x', rfl⟩) | ((with_reducible refine (Calls.ext_of (L13.out _)).mono ?_); rintro e w' ⟨rfl, x', rfl⟩) | ((with_reducible refine (Calls.ext_of (C3.out _)).mono ?_); rintro e w' ⟨rfl, x', rfl⟩) | ((with_reducible refine (Calls.ext_of (KL.out _)).mono ?_); rintro e w' ⟨rfl, x', rfl⟩))
  go_ret
  exact ⟨rfl, KW.out _⟩

set_option maxHeartbeats 4000000 in
theorem ranks_3 (id : Int) (rtr : Bool) (len d0 d1 d2 d3 d4 d5 d6 d7 : Int) (eid : Int) (ertr : Bool) (elen ed0 ed1 ed2 ed3 ed4 ed5 ed6 ed7 : Int) (gid : Int) (grtr : Bool) (glen gd0 gd1 gd2 gd3 gd4 gd5 gd6 gd7 : Int) (w : World)
    (hc : (decide (Fr.rank (⟨id, rtr, len, d0, d1, d2, d3, d4, d5, d6, d7⟩ : Fr) < Fr.rank (⟨eid, ertr, elen, ed0, ed1, ed2, ed3, ed4, ed5, ed6, ed7⟩ : Fr)) = true ∧ decide (Fr.rank (⟨eid, ertr, elen, ed0, ed1, ed2, ed3, ed4, ed5, ed6, ed7⟩ : Fr) < Fr.rank (⟨id, rtr, len, d0, d1, d2, d3, d4, d5, d6, d7⟩ : Fr)) = false ∧ (decide (0 ≤ Fr.rank (⟨id, rtr, len, d0, d1, d2, d3, d4, d5, d6, d7⟩ : Fr)) = false) ∧ (decide (Fr.rank (⟨eid, ertr, elen, ed0, ed1, ed2, ed3, ed4, ed5, ed6, ed7⟩ : Fr) < Fr.rank (⟨gid, grtr, glen, gd0, gd1, gd2, gd3, gd4, gd5, gd6, gd7⟩ : Fr)) = false))) :
    Calls Try.prog 3 #[.agg #[.int .i64 id, .bool rtr, .int .i64 len, .int .u8 d0, .int .u8 d1, .int .u8 d2, .int .u8 d3, .int .u8 d4, .int .u8 d5, .int .u8 d6, .int .u8 d7], .agg #[.int .i64 eid, .bool ertr, .int .i64 elen, .int .u8 ed0, .int .u8 ed1, .int .u8 ed2, .int .u8 ed3, .int .u8 ed4, .int .u8 ed5, .int .u8 ed6, .int .u8 ed7], .agg #[.int .i64 gid, .bool grtr, .int .i64 glen, .int .u8 gd0, .int .u8 gd1, .int .u8 gd2, .int .u8 gd3, .int .u8 gd4, .int .u8 gd5, .int .u8 gd6, .int .u8 gd7]] w fun e w' => e = .returned (.bool true) ∧ Ext w w' := by
  have Q1 := hid (fun w => rrank_c id rtr len d0 d1 d2 d3 d4 d5 d6 d7 w)
  have Q2 := hid (fun w => rrank_c eid ertr elen ed0 ed1 ed2 ed3 ed4 ed5 ed6 ed7 w)
  have Q3 := hid (fun w => rrank_c gid grtr glen gd0 gd1 gd2 gd3 gd4 gd5 gd6 gd7 w)
  have R1 := hid (fun w => rank_c id rtr len d0 d1 d2 d3 d4 d5 d6 d7 w)
  have L12 := hid (fun w => less_c id rtr len d0 d1 d2 d3 d4 d5 d6 d7 eid ertr elen ed0 ed1 ed2 ed3 ed4 ed5 ed6 ed7 w)
  have L21 := hid (fun w => less_c eid ertr elen ed0 ed1 ed2 ed3 ed4 ed5 ed6 ed7 id rtr len d0 d1 d2 d3 d4 d5 d6 d7 w)
  have L23 := hid (fun w => less_c eid ertr elen ed0 ed1 ed2 ed3 ed4 ed5 ed6 ed7 gid grtr glen gd0 gd1 gd2 gd3 gd4 gd5 gd6 gd7 w)
  have L13 := hid (fun w => less_c id rtr len d0 d1 d2 d3 d4 d5 d6 d7 gid grtr glen gd0 gd1 gd2 gd3 gd4 gd5 gd6 gd7 w)
  have C3 := hid (fun w => check_c gid grtr glen gd0 gd1 gd2 gd3 gd4 gd5 gd6 gd7 w)
  have hz := rank_pos (⟨gid, grtr, glen, gd0, gd1, gd2, gd3, gd4, gd5, gd6, gd7⟩ : Fr)
  generalize Fr.rank (⟨id, rtr, len, d0, d1, d2, d3, d4, d5, d6, d7⟩ : Fr) = x at *
  generalize Fr.rank (⟨eid, ertr, elen, ed0, ed1, ed2, ed3, ed4, ed5, ed6, ed7⟩ : Fr) = y at *
  generalize Fr.rank (⟨gid, grtr, glen, gd0, gd1, gd2, gd3, gd4, gd5, gd6, gd7⟩ : Fr) = z at *
  generalize Fr.chk (⟨gid, grtr, glen, gd0, gd1, gd2, gd3, gd4, gd5, gd6, gd7⟩ : Fr) = m at *
  obtain ⟨h1, h2, h3, h6⟩ := hc
  have b1 := ((Blk.new w #[.int .i64 id, .bool rtr, .int .i64 len, .int .u8 d0, .int .u8 d1, .int .u8 d2, .int .u8 d3, .int .u8 d4, .int .u8 d5, .int .u8 d6, .int .u8 d7] FT).alloc (.cells #[.int .i64 eid, .bool ertr, .int .i64 elen, .int .u8 ed0, .int .u8 ed1, .int .u8 ed2, .int .u8 ed3, .int .u8 ed4, .int .u8 ed5, .int .u8 ed6, .int .u8 ed7] FT)).alloc (.cells #[.int .i64 gid, .bool grtr, .int .i64 glen, .int .u8 gd0, .int .u8 gd1, .int .u8 gd2, .int .u8 gd3, .int .u8 gd4, .int .u8 gd5, .int .u8 gd6, .int .u8 gd7] FT)
  have b2 := (Blk.new2 w (.cells #[.int .i64 id, .bool rtr, .int .i64 len, .int .u8 d0, .int .u8 d1, .int .u8 d2, .int .u8 d3, .int .u8 d4, .int .u8 d5, .int .u8 d6, .int .u8 d7] FT) #[.int .i64 eid, .bool ertr, .int .i64 elen, .int .u8 ed0, .int .u8 ed1, .int .u8 ed2, .int .u8 ed3, .int .u8 ed4, .int .u8 ed5, .int .u8 ed6, .int .u8 ed7] FT).alloc (.cells #[.int .i64 gid, .bool grtr, .int .i64 glen, .int .u8 gd0, .int .u8 gd1, .int .u8 gd2, .int .u8 gd3, .int .u8 gd4, .int .u8 gd5, .int .u8 gd6, .int .u8 gd7] FT)
  have b3 : Blk (((w.alloc (.cells #[.int .i64 id, .bool rtr, .int .i64 len, .int .u8 d0, .int .u8 d1, .int .u8 d2, .int .u8 d3, .int .u8 d4, .int .u8 d5, .int .u8 d6, .int .u8 d7] FT)).alloc (.cells #[.int .i64 eid, .bool ertr, .int .i64 elen, .int .u8 ed0, .int .u8 ed1, .int .u8 ed2, .int .u8 ed3, .int .u8 ed4, .int .u8 ed5, .int .u8 ed6, .int .u8 ed7] FT)).alloc (.cells #[.int .i64 gid, .bool grtr, .int .i64 glen, .int .u8 gd0, .int .u8 gd1, .int .u8 gd2, .int .u8 gd3, .int .u8 gd4, .int .u8 gd5, .int .u8 gd6, .int .u8 gd7] FT)) (w.heap.size + 2) #[.int .i64 gid, .bool grtr, .int .i64 glen, .int .u8 gd0, .int .u8 gd1, .int .u8 gd2, .int .u8 gd3, .int .u8 gd4, .int .u8 gd5, .int .u8 gd6, .int .u8 gd7] FT := by
    have := Blk.new ((w.alloc (.cells #[.int .i64 id, .bool rtr, .int .i64 len, .int .u8 d0, .int .u8 d1, .int .u8 d2, .int .u8 d3, .int .u8 d4, .int .u8 d5, .int .u8 d6, .int .u8 d7] FT)).alloc (.cells #[.int .i64 eid, .bool ertr, .int .i64 elen, .int .u8 ed0, .int .u8 ed1, .int .u8 ed2, .int .u8 ed3, .int .u8 ed4, .int .u8 ed5, .int .u8 ed6, .int .u8 ed7] FT)) #[.int .i64 gid, .bool grtr, .int .i64 glen, .int .u8 gd0, .int .u8 gd1, .int .u8 gd2, .int .u8 gd3, .int .u8 gd4, .int .u8 gd5, .int .u8 gd6, .int .u8 gd7] FT
    simpa only [World.size_alloc] using this
  have K0 : Ext w (((w.alloc (.cells #[.int .i64 id, .bool rtr, .int .i64 len, .int .u8 d0, .int .u8 d1, .int .u8 d2, .int .u8 d3, .int .u8 d4, .int .u8 d5, .int .u8 d6, .int .u8 d7] FT)).alloc (.cells #[.int .i64 eid, .bool ertr, .int .i64 elen, .int .u8 ed0, .int .u8 ed1, .int .u8 ed2, .int .u8 ed3, .int .u8 ed4, .int .u8 ed5, .int .u8 ed6, .int .u8 ed7] FT)).alloc (.cells #[.int .i64 gid, .bool grtr, .int .i64 glen, .int .u8 gd0, .int .u8 gd1, .int .u8 gd2, .int .u8 gd3, .int .u8 gd4, .int .u8 gd5, .int .u8 gd6, .int .u8 gd7] FT)) := (by repeat (first | with_reducible exact Ext.refl _ | with_reducible assumption | with_reducible apply Ext.alloc | with_reducible apply Ext.drew | with_reducible apply Ext.drewN | (with_reducible refine Ext.set' ?_ (by first | omega | (simp only [World.size_alloc, World.size_setCell]; omega))) | (with_reducible refine Ext.trans ?_ (by with_reducible assumption)) | (with_reducible refine Ext.only ?_ (by with_reducible assumption) (by omega))))
  obtain ⟨W, hW⟩ : ∃ W, W = (((w.alloc (.cells #[.int .i64 id, .bool rtr, .int .i64 len, .int .u8 d0, .int .u8 d1, .int .u8 d2, .int .u8 d3, .int .u8 d4, .int .u8 d5, .int .u8 d6, .int .u8 d7] FT)).alloc (.cells #[.int .i64 eid, .bool ertr, .int .i64 elen, .int .u8 ed0, .int .u8 ed1, .int .u8 ed2, .int .u8 ed3, .int .u8 ed4, .int .u8 ed5, .int .u8 ed6, .int .u8 ed7] FT)).alloc (.cells #[.int .i64 gid, .bool grtr, .int .i64 glen, .int .u8 gd0, .int .u8 gd1, .int .u8 gd2, .int .u8 gd3, .int .u8 gd4, .int .u8 gd5, .int .u8 gd6, .int .u8 gd7] FT)) := ⟨_, rfl⟩
  rw [← hW] at b1 b2 b3 K0
  obtain ⟨pc0, pc1, pc2, pc3, pc4, pc5, pc6, pc7, pc8, pc9, pc10, pf0, pf1, pf2, pf3, pf4, pf5, pf6, pf7, pf8, pf9, pf10⟩ := Blk.cells11 b1
  obtain ⟨qc0, qc1, qc2, qc3, qc4, qc5, qc6, qc7, qc8, qc9, qc10, qf0, qf1, qf2, qf3, qf4, qf5, qf6, qf7, qf8, qf9, qf10⟩ := Blk.cells11 b2
  obtain ⟨rc0, rc1, rc2, rc3, rc4, rc5, rc6, rc7, rc8, rc9, rc10, rf0, rf1, rf2, rf3, rf4, rf5, rf6, rf7, rf8, rf9, rf10⟩ := Blk.cells11 b3
  have pa0 := After.cell pc0; have pa1 := After.cell pc1; have pa2 := After.cell pc2; have pa3 := After.cell pc3; have pa4 := After.cell pc4; have pa5 := After.cell pc5; have pa6 := After.cell pc6; have pa7 := After.cell pc7; have pa8 := After.cell pc8; have pa9 := After.cell pc9; have pa10 := After.cell pc10
  have qa0 := After.cell qc0; have qa1 := After.cell qc1; have qa2 := After.cell qc2; have qa3 := After.cell qc3; have qa4 := After.cell qc4; have qa5 := After.cell qc5; have qa6 := After.cell qc6; have qa7 := After.cell qc7; have qa8 := After.cell qc8; have qa9 := After.cell qc9; have qa10 := After.cell qc10
  have ra0 := After.cell rc0; have ra1 := After.cell rc1; have ra2 := After.cell rc2; have ra3 := After.cell rc3; have ra4 := After.cell rc4; have ra5 := After.cell rc5; have ra6 := After.cell rc6; have ra7 := After.cell rc7; have ra8 := After.cell rc8; have ra9 := After.cell rc9; have ra10 := After.cell rc10
  clear pf0 pf1 pf2 pf3 pf4 pf5 pf6 pf7 pf8 pf9 pf10
  clear qf0 qf1 qf2 qf3 qf4 qf5 qf6 qf7 qf8 qf9 qf10
  clear rf0 rf1 rf2 rf3 rf4 rf5 rf6 rf7 rf8 rf9 rf10
  clear b1 b2 b3 pc0 pc1 pc2 pc3 pc4 pc5 pc6 pc7 pc8 pc9 pc10 qc0 qc1 qc2 qc3 qc4 qc5 qc6 qc7 qc8 qc9 qc10 rc0 rc1 rc2 rc3 rc4 rc5 rc6 rc7 rc8 rc9 rc10
  have KL := hid (fun (n : After W) => live_c n.wd)
  have KW := hid (fun (n : After W) => Ext.trans K0 n.ext)
  go_enter Try.func3, Try.ntmps3
  go_wp2_with fail
  rw [← hW]
  clear hW
  refine wp_region_ext (by kernel_rfl) (by kernel_rfl) ?_; (repeat (any_goals (first | go_big_quiet_step (first | (go_at_call 7; with_reducible exact Calls.ext_of (Q1.out _)) | (go_at_call 7; with_reducible exact Calls.ext_of (Q2.out _)) | (go_at_call 7; with_reducible exact Calls.ext_of (Q3.out _))) | quiet_step (first | (go_at_call 7; with_reducible exact Calls.ext_of (Q1.out _)) | (go_at_call 7; with_reducible exact Calls.ext_of (Q2.out _)) | (go_at_call 7; with_reducible exact Calls.ext_of (Q3.out _)))))); (all_goals (refine wpQuiet_nil ?_; intro w1 hw'; obtain ⟨x1, hw''⟩ := hw'; subst hw''))
  go_wp2_with (first | ((with_reducible refine (Calls.ext_of (R1.out _)).mono ?_); rintro e w' ⟨rfl, x', rfl⟩) | ((with_reducible refine (Calls.ext_of (L12.out _)).mono ?_); rintro e w' ⟨rfl, x', rfl⟩) | ((with_reducible refine (Calls.ext_of (L21.out _)).mono ?_); rintro e w' ⟨rfl, x', rfl⟩) | ((with_reducible refine (Calls.ext_of (L23.out _)).mono ?_); rintro e w' ⟨rfl, x', rfl⟩) | ((with_reducible refine (Calls.ext_of (L13.out _)).mono ?_); rintro e w' ⟨rfl, x', rfl⟩) | ((with_reducible refine (Calls.ext_of (C3.out _)).mono ?_); rintro e w' ⟨rfl, x', rfl⟩) | ((with_reducible refine (Calls.ext_of (KL.out _)).mono ?_); rintro e w' ⟨rfl, x', rfl⟩))
  go_ret
  exact ⟨rfl, KW.out _⟩

set_option maxHeartbeats 4000000 in
theorem ranks_4 (id : Int) (rtr : Bool) (len d0 d1 d2 d3 d4 d5 d6 d7 : Int) (eid : Int) (ertr : Bool) (elen ed0 ed1 ed2 ed3 ed4 ed5 ed6 ed7 : Int) (gid : Int) (grtr : Bool) (glen gd0 gd1 gd2 gd3 gd4 gd5 gd6 gd7 : Int) (w : World)
    (hc : (decide (Fr.rank (⟨id, rtr, len, d0, d1, d2, d3, d4, d5, d6, d7⟩ : Fr) < Fr.rank (⟨eid, ertr, elen, ed0, ed1, ed2, ed3, ed4, ed5, ed6, ed7⟩ : Fr)) = true ∧ decide (Fr.rank (⟨eid, ertr, elen, ed0, ed1, ed2, ed3, ed4, ed5, ed6, ed7⟩ : Fr) < Fr.rank (⟨id, rtr, len, d0, d1, d2, d3, d4, d5, d6, d7⟩ : Fr)) = false ∧ (decide (0 ≤ Fr.rank (⟨id, rtr, len, d0, d1, d2, d3, d4, d5, d6, d7⟩ : Fr)) = false) ∧ (decide (Fr.rank (⟨eid, ertr, elen, ed0, ed1, ed2, ed3, ed4, ed5, ed6, ed7⟩ : Fr) < Fr.rank (⟨gid, grtr, glen, gd0, gd1, gd2, gd3, gd4, gd5, gd6, gd7⟩ : Fr)) = true ∧ decide (Fr.rank (⟨id, rtr, len, d0, d1, d2, d3, d4, d5, d6, d7⟩ : Fr) < Fr.rank (⟨gid, grtr, glen, gd0, gd1, gd2, gd3, gd4, gd5, gd6, gd7⟩ : Fr)) = true))) :
    Calls Try.prog 3 #[.agg #[.int .i64 id, .bool rtr, .int .i64 len, .int .u8 d0, .int .u8 d1, .int .u8 d2, .int .u8 d3, .int .u8 d4, .int .u8 d5, .int .u8 d6, .int .u8 d7], .agg #[.int .i64 eid, .bool ertr, .int .i64 elen, .int .u8 ed0, .int .u8 ed1, .int .u8 ed2, .int .u8 ed3, .int .u8 ed4, .int .u8 ed5, .int .u8 ed6, .int .u8 ed7], .agg #[.int .i64 gid, .bool grtr, .int .i64 glen, .int .u8 gd0, .int .u8 gd1, .int .u8 gd2, .int .u8 gd3, .int .u8 gd4, .int .u8 gd5, .int .u8 gd6, .int .u8 gd7]] w fun e w' => e = .returned (.bool true) ∧ Ext w w' := by
  have Q1 := hid (fun w => rrank_c id rtr len d0 d1 d2 d3 d4 d5 d6 d7 w)
  have Q2 := hid (fun w => rrank_c eid ertr elen ed0 ed1 ed2 ed3 ed4 ed5 ed6 ed7 w)
  have Q3 := hid (fun w => rrank_c gid grtr glen gd0 gd1 gd2 gd3 gd4 gd5 gd6 gd7 w)
  have R1 := hid (fun w => rank_c id rtr len d0 d1 d2 d3 d4 d5 d6 d7 w)
  have L12 := hid (fun w => less_c id rtr len d0 d1 d2 d3 d4 d5 d6 d7 eid ertr elen ed0 ed1 ed2 ed3 ed4 ed5 ed6 ed7 w)
  have L21 := hid (fun w => less_c eid ertr elen ed0 ed1 ed2 ed3 ed4 ed5 ed6 ed7 id rtr len d0 d1 d2 d3 d4 d5 d6 d7 w)
  have L23 := hid (fun w => less_c eid ertr elen ed0 ed1 ed2 ed3 ed4 ed5 ed6 ed7 gid grtr glen gd0 gd1 gd2 gd3 gd4 gd5 gd6 gd7 w)
  have L13 := hid (fun w => less_c id rtr len d0 d1 d2 d3 d4 d5 d6 d7 gid grtr glen gd0 gd1 gd2 gd3 gd4 gd5 gd6 gd7 w)
  have C3 := hid (fun w => check_c gid grtr glen gd0 gd1 gd2 gd3 gd4 gd5 gd6 gd7 w)
  have hz := rank_pos (⟨gid, grtr, glen, gd0, gd1, gd2, gd3, gd4, gd5, gd6, gd7⟩ : Fr)
  generalize Fr.rank (⟨id, rtr, len, d0, d1, d2, d3, d4, d5, d6, d7⟩ : Fr) = x at *
  generalize Fr.rank (⟨eid, ertr, elen, ed0, ed1, ed2, ed3, ed4, ed5, ed6, ed7⟩ : Fr) = y at *
  generalize Fr.rank (⟨gid, grtr, glen, gd0, gd1, gd2, gd3, gd4, gd5, gd6, gd7⟩ : Fr) = z at *
  generalize Fr.chk (⟨gid, grtr, glen, gd0, gd1, gd2, gd3, gd4, gd5, gd6, gd7⟩ : Fr) = m at *
  obtain ⟨h1, h2, h3, ⟨h6, h7⟩⟩ := hc
  have b1 := ((Blk.new w #[.int .i64 id, .bool rtr, .int .i64 len, .int .u8 d0, .int .u8 d1, .int .u8 d2, .int .u8 d3, .int .u8 d4, .int .u8 d5, .int .u8 d6, .int .u8 d7] FT).alloc (.cells #[.int .i64 eid, .bool ertr, .int .i64 elen, .int .u8 ed0, .int .u8 ed1, .int .u8 ed2, .int .u8 ed3, .int .u8 ed4, .int .u8 ed5, .int .u8 ed6, .int .u8 ed7] FT)).alloc (.cells #[.int .i64 gid, .bool grtr, .int .i64 glen, .int .u8 gd0, .int .u8 gd1, .int .u8 gd2, .int .u8 gd3, .int .u8 gd4, .int .u8 gd5, .int .u8 gd6, .int .u8 gd7] FT)
  have b2 := (Blk.new2 w (.cells #[.int .i64 id, .bool rtr, .int .i64 len, .int .u8 d0, .int .u8 d1, .int .u8 d2, .int .u8 d3, .int .u8 d4, .int .u8 d5, .int .u8 d6, .int .u8 d7] FT) #[.int .i64 eid, .bool ertr, .int .i64 elen, .int .u8 ed0, .int .u8 ed1, .int .u8 ed2, .int .u8 ed3, .int .u8 ed4, .int .u8 ed5, .int .u8 ed6, .int .u8 ed7] FT).alloc (.cells #[.int .i64 gid, .bool grtr, .int .i64 glen, .int .u8 gd0, .int .u8 gd1, .int .u8 gd2, .int .u8 gd3, .int .u8 gd4, .int .u8 gd5, .int .u8 gd6, .int .u8 gd7] FT)
  have b3 : Blk (((w.alloc (.cells #[.int .i64 id, .bool rtr, .int .i64 len, .int .u8 d0, .int .u8 d1, .int .u8 d2, .int .u8 d3, .int .u8 d4, .int .u8 d5, .int .u8 d6, .int .u8 d7] FT)).alloc (.cells #[.int .i64 eid, .bool ertr, .int .i64 elen, .int .u8 ed0, .int .u8 ed1, .int .u8 ed2, .int .u8 ed3, .int .u8 ed4, .int .u8 ed5, .int .u8 ed6, .int .u8 ed7] FT)).alloc (.cells #[.int .i64 gid, .bool grtr, .int .i64 glen, .int .u8 gd0, .int .u8 gd1, .int .u8 gd2, .int .u8 gd3, .int .u8 gd4, .int .u8 gd5, .int .u8 gd6, .int .u8 gd7] FT)) (w.heap.size + 2) #[.int .i64 gid, .bool grtr, .int .i64 glen, .int .u8 gd0, .int .u8 gd1, .int .u8 gd2, .int .u8 gd3, .int .u8 gd4, .int .u8 gd5, .int .u8 gd6, .int .u8 gd7] FT := by
    have := Blk.new ((w.alloc (.cells #[.int .i64 id, .bool rtr, .int .i64 len, .int .u8 d0, .int .u8 d1, .int .u8 d2, .int .u8 d3, .int .u8 d4, .int .u8 d5, .int .u8 d6, .int .u8 d7] FT)).alloc (.cells #[.int .i64 eid, .bool ertr, .int .i64 elen, .int .u8 ed0, .int .u8 ed1, .int .u8 ed2, .int .u8 ed3, .int .u8 ed4, .int .u8 ed5, .int .u8 ed6, .int .u8 ed7] FT)) #[.int .i64 gid, .bool grtr, .int .i64 glen, .int .u8 gd0, .int .u8 gd1, .int .u8 gd2, .int .u8 gd3, .int .u8 gd4, .int .u8 gd5, .int .u8 gd6, .int .u8 gd7] FT
    simpa only [World.size_alloc] using this
  have K0 : Ext w (((w.alloc (.cells #[.int .i64 id, .bool rtr, .int .i64 len, .int .u8 d0, .int .u8 d1, .int .u8 d2, .int .u8 d3, .int .u8 d4, .int .u8 d5, .int .u8 d6, .int .u8 d7] FT)).alloc (.cells #[.int .i64 eid, .bool ertr, .int .i64 elen, .int .u8 ed0, .int .u8 ed1, .int .u8 ed2, .int .u8 ed3, .int .u8 ed4, .int .u8 ed5, .int .u8 ed6, .int .u8 ed7] FT)).alloc (.cells #[.int .i64 gid, .bool grtr, .int .i64 glen, .int .u8 gd0, .int .u8 gd1, .int .u8 gd2, .int .u8 gd3, .int .u8 gd4, .int .u8 gd5, .int .u8 gd6, .int .u8 gd7] FT)) := (by repeat (first | with_reducible exact Ext.refl _ | with_reducible assumption | with_reducible apply Ext.alloc | with_reducible apply Ext.drew | with_reducible apply Ext.drewN | (with_reducible refine Ext.set' ?_ (by first | omega | (simp only [World.size_alloc, World.size_setCell]; omega))) | (with_reducible refine Ext.trans ?_ (by with_reducible assumption)) | (with_reducible refine Ext.only ?_ (by with_reducible assumption) (by omega))))
  obtain ⟨W, hW⟩ : ∃ W, W = (((w.alloc (.cells #[.int .i64 id, .bool rtr, .int .i64 len, .int .u8 d0, .int .u8 d1, .int .u8 d2, .int .u8 d3, .int .u8 d4, .int .u8 d5, .int .u8 d6, .int .u8 d7] FT)).alloc (.cells #[.int .i64 eid, .bool ertr, .int .i64 elen, .int .u8 ed0, .int .u8 ed1, .int .u8 ed2, .int .u8 ed3, .int .u8 ed4, .int .u8 ed5, .int .u8 ed6, .int .u8 ed7] FT)).alloc (.cells #[.int .i64 gid, .bool grtr, .int .i64 glen, .int .u8 gd0, .int .u8 gd1, .int .u8 gd2, .int .u8 gd3, .int .u8 gd4, .int .u8 gd5, .int .u8 gd6, .int .u8 gd7] FT)) := ⟨_, rfl⟩
  rw [← hW] at b1 b2 b3 K0
  obtain ⟨pc0, pc1, pc2, pc3, pc4, pc5, pc6, pc7, pc8, pc9, pc10, pf0, pf1, pf2, pf3, pf4, pf5, pf6, pf7, pf8, pf9, pf10⟩ := Blk.cells11 b1
  obtain ⟨qc0, qc1, qc2, qc3, qc4, qc5, qc6, qc7, qc8, qc9, qc10, qf0, qf1, qf2, qf3, qf4, qf5, qf6, qf7, qf8, qf9, qf10⟩ := Blk.cells11 b2
  obtain ⟨rc0, rc1, rc2, rc3, rc4, rc5, rc6, rc7, rc8, rc9, rc10, rf0, rf1, rf2, rf3, rf4, rf5, rf6, rf7, rf8, rf9, rf10⟩ := Blk.cells11 b3
  have pa0 := After.cell pc0; have pa1 := After.cell pc1; have pa2 := After.cell pc2; have pa3 := After.cell pc3; have pa4 := After.cell pc4; have pa5 := After.cell pc5; have pa6 := After.cell pc6; have pa7 := After.cell pc7; have pa8 := After.cell pc8; have pa9 := After.cell pc9; have pa10 := After.cell pc10
  have qa0 := After.cell qc0; have qa1 := After.cell qc1; have qa2 := After.cell qc2; have qa3 := After.cell qc3; have qa4 := After.cell qc4; have qa5 := After.cell qc5; have qa6 := After.cell qc6; have qa7 := After.cell qc7; have qa8 := After.cell qc8; have qa9 := After.cell qc9; have qa10 := After.cell qc10
  have ra0 := After.cell rc0; have ra1 := After.cell rc1; have ra2 := After.cell rc2; have ra3 := After.cell rc3; have ra4 := After.cell rc4; have ra5 := After.cell rc5; have ra6 := After.cell rc6; have ra7 := After.cell rc7; have ra8 := After.cell rc8; have ra9 := After.cell rc9; have ra10 := After.cell rc10
  clear pf0 pf1 pf2 pf3 pf4 pf5 pf6 pf7 pf8 pf9 pf10
  clear qf0 qf1 qf2 qf3 qf4 qf5 qf6 qf7 qf8 qf9 qf10
  clear rf0 rf1 rf2 rf3 rf4 rf5 rf6 rf7 rf8 rf9 rf10
  clear b1 b2 b3 pc0 pc1 pc2 pc3 pc4 pc5 pc6 pc7 pc8 pc9 pc10 qc0 qc1 qc2 qc3 qc4 qc5 qc6 qc7 qc8 qc9 qc10 rc0 rc1 rc2 rc3 rc4 rc5 rc6 rc7 rc8 rc9 rc10
  have KL := hid (fun (n : After W) => live_c n.wd)
  have KW := hid (fun (n : After W) => Ext.trans K0 n.ext)
  go_enter Try.func3, Try.ntmps3
  go_wp2_with fail
  rw [← hW]
  clear hW
  refine wp_region_ext (by kernel_rfl) (by kernel_rfl) ?_; (repeat (any_goals (first | go_big_quiet_step (first | (go_at_call 7; with_reducible exact Calls.ext_of (Q1.out _)) | (go_at_call 7; with_reducible exact Calls.ext_of (Q2.out _)) | (go_at_call 7; with_reducible exact Calls.ext_of (Q3.out _))) | quiet_step (first | (go_at_call 7; with_reducible exact Calls.ext_of (Q1.out _)) | (go_at_call 7; with_reducible exact Calls.ext_of (Q2.out _)) | (go_at_call 7; with_reducible exact Calls.ext_of (Q3.out _)))))); (all_goals (refine wpQuiet_nil ?_; intro w1 hw'; obtain ⟨x1, hw''⟩ := hw'; subst hw''))
  go_wp2_with (first | ((with_reducible refine (Calls.ext_of (R1.out _)).mono ?_); rintro e w' ⟨rfl, x', rfl⟩) | ((with_reducible refine (Calls.ext_of (L12.out _)).mono ?_); rintro e w' ⟨rfl, x', rfl⟩) | ((with_reducible refine (Calls.ext_of (L21.out _)).mono ?_); rintro e w' ⟨rfl, x', rfl⟩) | ((with_reducible refine (Calls.ext_of (L23.out _)).mono ?_); rintro e w' ⟨rfl, x', rfl⟩) | ((with_reducible refine (Calls.ext_of (L13.out _)).mono ?_); rintro e w' ⟨rfl, x', rfl⟩) | ((with_reducible refine (Calls.ext_of (C3.out _)).mono ?_); rintro e w' ⟨rfl, x', rfl⟩) | ((with_reducible refine (Calls.ext_of (KL.out _)).mono ?_); rintro e w' ⟨rfl, x', rfl⟩))
  go_ret
  exact ⟨rfl, KW.out _⟩

set_option maxHeartbeats 4000000 in
theorem ranks_5 (id : Int) (rtr : Bool) (len d0 d1 d2 d3 d4 d5 d6 d7 : Int) (eid : Int) (ertr : Bool) (elen ed0 ed1 ed2 ed3 ed4 ed5 ed6 ed7 : Int) (gid : Int) (grtr : Bool) (glen gd0 gd1 gd2 gd3 gd4 gd5 gd6 gd7 : Int) (w : World)
    (hc : (decide (Fr.rank (⟨id, rtr, len, d0, d1, d2, d3, d4, d5, d6, d7⟩ : Fr) < Fr.rank (⟨eid, ertr, elen, ed0, ed1, ed2, ed3, ed4, ed5, ed6, ed7⟩ : Fr)) = true ∧ decide (Fr.rank (⟨eid, ertr, elen, ed0, ed1, ed2, ed3, ed4, ed5, ed6, ed7⟩ : Fr) < Fr.rank (⟨id, rtr, len, d0, d1, d2, d3, d4, d5, d6, d7⟩ : Fr)) = false ∧ (decide (0 ≤ Fr.rank (⟨id, rtr, len, d0, d1, d2, d3, d4, d5, d6, d7⟩ : Fr)) = true ∧ decide (0 ≤ Fr.rank (⟨eid, ertr, elen, ed0, ed1, ed2, ed3, ed4, ed5, ed6, ed7⟩ : Fr)) = false) ∧ (decide (Fr.rank (⟨eid, ertr, elen, ed0, ed1, ed2, ed3, ed4, ed5, ed6, ed7⟩ : Fr) < Fr.rank (⟨gid, grtr, glen, gd0, gd1, gd2, gd3, gd4, gd5, gd6, gd7⟩ : Fr)) = false))) :
    Calls Try.prog 3 #[.agg #[.int .i64 id, .bool rtr, .int .i64 len, .int .u8 d0, .int .u8 d1, .int .u8 d2, .int .u8 d3, .int .u8 d4, .int .u8 d5, .int .u8 d6, .int .u8 d7], .agg #[.int .i64 eid, .bool ertr, .int .i64 elen, .int .u8 ed0, .int .u8 ed1, .int .u8 ed2, .int .u8 ed3, .int .u8 ed4, .int .u8 ed5, .int .u8 ed6, .int .u8 ed7], .agg #[.int .i64 gid, .bool grtr, .int .i64 glen, .int .u8 gd0, .int .u8 gd1, .int .u8 gd2, .int .u8 gd3, .int .u8 gd4, .int .u8 gd5, .int .u8 gd6, .int .u8 gd7]] w fun e w' => e = .returned (.bool true) ∧ Ext w w' := by
  have Q1 := hid (fun w => rrank_c id rtr len d0 d1 d2 d3 d4 d5 d6 d7 w)
  have Q2 := hid (fun w => rrank_c eid ertr elen ed0 ed1 ed2 ed3 ed4 ed5 ed6 ed7 w)
  have Q3 := hid (fun w => rrank_c gid grtr glen gd0 gd1 gd2 gd3 gd4 gd5 gd6 gd7 w)
  have R1 := hid (fun w => rank_c id rtr len d0 d1 d2 d3 d4 d5 d6 d7 w)
  have L12 := hid (fun w => less_c id rtr len d0 d1 d2 d3 d4 d5 d6 d7 eid ertr elen ed0 ed1 ed2 ed3 ed4 ed5 ed6 ed7 w)
  have L21 := hid (fun w => less_c eid ertr elen ed0 ed1 ed2 ed3 ed4 ed5 ed6 ed7 id rtr len d0 d1 d2 d3 d4 d5 d6 d7 w)
  have L23 := hid (fun w => less_c eid ertr elen ed0 ed1 ed2 ed3 ed4 ed5 ed6 ed7 gid grtr glen gd0 gd1 gd2 gd3 gd4 gd5 gd6 gd7 w)
  have L13 := hid (fun w => less_c id rtr len d0 d1 d2 d3 d4 d5 d6 d7 gid grtr glen gd0 gd1 gd2 gd3 gd4 gd5 gd6 gd7 w)
  have C3 := hid (fun w => check_c gid grtr glen gd0 gd1 gd2 gd3 gd4 gd5 gd6 gd7 w)
  have hz := rank_pos (⟨gid, grtr, glen, gd0, gd1, gd2, gd3, gd4, gd5, gd6, gd7⟩ : Fr)
  generalize Fr.rank (⟨id, rtr, len, d0, d1, d2, d3, d4, d5, d6, d7⟩ : Fr) = x at *
  generalize Fr.rank (⟨eid, ertr, elen, ed0, ed1, ed2, ed3, ed4, ed5, ed6, ed7⟩ : Fr) = y at *
  generalize Fr.rank (⟨gid, grtr, glen, gd0, gd1, gd2, gd3, gd4, gd5, gd6, gd7⟩ : Fr) = z at *
  generalize Fr.chk (⟨gid, grtr, glen, gd0, gd1, gd2, gd3, gd4, gd5, gd6, gd7⟩ : Fr) = m at *
  obtain ⟨h1, h2, ⟨h3, h4⟩, h6⟩ := hc
  have b1 := ((Blk.new w #[.int .i64 id, .bool rtr, .int .i64 len, .int .u8 d0, .int .u8 d1, .int .u8 d2, .int .u8 d3, .int .u8 d4, .int .u8 d5, .int .u8 d6, .int .u8 d7] FT).alloc (.cells #[.int .i64 eid, .bool ertr, .int .i64 elen, .int .u8 ed0, .int .u8 ed1, .int .u8 ed2, .int .u8 ed3, .int .u8 ed4, .int .u8 ed5, .int .u8 ed6, .int .u8 ed7] FT)).alloc (.cells #[.int .i64 gid, .bool grtr, .int .i64 glen, .int .u8 gd0, .int .u8 gd1, .int .u8 gd2, .int .u8 gd3, .int .u8 gd4, .int .u8 gd5, .int .u8 gd6, .int .u8 gd7] FT)
  have b2 := (Blk.new2 w (.cells #[.int .i64 id, .bool rtr, .int .i64 len, .int .u8 d0, .int .u8 d1, .int .u8 d2, .int .u8 d3, .int .u8 d4, .int .u8 d5, .int .u8 d6, .int .u8 d7] FT) #[.int .i64 eid, .bool ertr, .int .i64 elen, .int .u8 ed0, .int .u8 ed1, .int .u8 ed2, .int .u8 ed3, .int .u8 ed4, .int .u8 ed5, .int .u8 ed6, .int .u8 ed7] FT).alloc (.cells #[.int .i64 gid, .bool grtr, .int .i64 glen, .int .u8 gd0, .int .u8 gd1, .int .u8 gd2, .int .u8 gd3, .int .u8 gd4, .int .u8 gd5, .int .u8 gd6, .int .u8 gd7] FT)
  have b3 : Blk (((w.alloc (.cells #[.int .i64 id, .bool rtr, .int .i64 len, .int .u8 d0, .int .u8 d1, .int .u8 d2, .int .u8 d3, .int .u8 d4, .int .u8 d5, .int .u8 d6, .int .u8 d7] FT)).alloc (.cells #[.int .i64 eid, .bool ertr, .int .i64 elen, .int .u8 ed0, .int .u8 ed1, .int .u8 ed2, .int .u8 ed3, .int .u8 ed4, .int .u8 ed5, .int .u8 ed6, .int .u8 ed7] FT)).alloc (.cells #[.int .i64 gid, .bool grtr, .int .i64 glen, .int .u8 gd0, .int .u8 gd1, .int .u8 gd2, .int .u8 gd3, .int .u8 gd4, .int .u8 gd5, .int .u8 gd6, .int .u8 gd7] FT)) (w.heap.size + 2) #[.int .i64 gid, .bool grtr, .int .i64 glen, .int .u8 gd0, .int .u8 gd1, .int .u8 gd2, .int .u8 gd3, .int .u8 gd4, .int .u8 gd5, .int .u8 gd6, .int .u8 gd7] FT := by
    have := Blk.new ((w.alloc (.cells #[.int .i64 id, .bool rtr, .int .i64 len, .int .u8 d0, .int .u8 d1, .int .u8 d2, .int .u8 d3, .int .u8 d4, .int .u8 d5, .int .u8 d6, .int .u8 d7] FT)).alloc (.cells #[.int .i64 eid, .bool ertr, .int .i64 elen, .int .u8 ed0, .int .u8 ed1, .int .u8 ed2, .int .u8 ed3, .int .u8 ed4, .int .u8 ed5, .int .u8 ed6, .int .u8 ed7] FT)) #[.int .i64 gid, .bool grtr, .int .i64 glen, .int .u8 gd0, .int .u8 gd1, .int .u8 gd2, .int .u8 gd3, .int .u8 gd4, .int .u8 gd5, .int .u8 gd6, .int .u8 gd7] FT
    simpa only [World.size_alloc] using this
  have K0 : Ext w (((w.alloc (.cells #[.int .i64 id, .bool rtr, .int .i64 len, .int .u8 d0, .int .u8 d1, .int .u8 d2, .int .u8 d3, .int .u8 d4, .int .u8 d5, .int .u8 d6, .int .u8 d7] FT)).alloc (.cells #[.int .i64 eid, .bool ertr, .int .i64 elen, .int .u8 ed0, .int .u8 ed1, .int .u8 ed2, .int .u8 ed3, .int .u8 ed4, .int .u8 ed5, .int .u8 ed6, .int .u8 ed7] FT)).alloc (.cells #[.int .i64 gid, .bool grtr, .int .i64 glen, .int .u8 gd0, .int .u8 gd1, .int .u8 gd2, .int .u8 gd3, .int .u8 gd4, .int .u8 gd5, .int .u8 gd6, .int .u8 gd7] FT)) := (by repeat (first | with_reducible exact Ext.refl _ | with_reducible assumption | with_reducible apply Ext.alloc | with_reducible apply Ext.drew | with_reducible apply Ext.drewN | (with_reducible refine Ext.set' ?_ (by first | omega | (simp only [World.size_alloc, World.size_setCell]; omega))) | (with_reducible refine Ext.trans ?_ (by with_reducible assumption)) | (with_reducible refine Ext.only ?_ (by with_reducible assumption) (by omega))))
  obtain ⟨W, hW⟩ : ∃ W, W = (((w.alloc (.cells #[.int .i64 id, .bool rtr, .int .i64 len, .int .u8 d0, .int .u8 d1, .int .u8 d2, .int .u8 d3, .int .u8 d4, .int .u8 d5, .int .u8 d6, .int .u8 d7] FT)).alloc (.cells #[.int .i64 eid, .bool ertr, .int .i64 elen, .int .u8 ed0, .int .u8 ed1, .int .u8 ed2, .int .u8 ed3, .int .u8 ed4, .int .u8 ed5, .int .u8 ed6, .int .u8 ed7] FT)).alloc (.cells #[.int .i64 gid, .bool grtr, .int .i64 glen, .int .u8 gd0, .int .u8 gd1, .int .u8 gd2, .int .u8 gd3, .int .u8 gd4, .int .u8 gd5, .int .u8 gd6, .int .u8 gd7] FT)) := ⟨_, rfl⟩
  rw [← hW] at b1 b2 b3 K0
  obtain ⟨pc0, pc1, pc2, pc3, pc4, pc5, pc6, pc7, pc8, pc9, pc10, pf0, pf1, pf2, pf3, pf4, pf5, pf6, pf7, pf8, pf9, pf10⟩ := Blk.cells11 b1
  obtain ⟨qc0, qc1, qc2, qc3, qc4, qc5, qc6, qc7, qc8, qc9, qc10, qf0, qf1, qf2, qf3, qf4, qf5, qf6, qf7, qf8, qf9, qf10⟩ := Blk.cells11 b2
  obtain ⟨rc0, rc1, rc2, rc3, rc4, rc5, rc6, rc7, rc8, rc9, rc10, rf0, rf1, rf2, rf3, rf4, rf5, rf6, rf7, rf8, rf9, rf10⟩ := Blk.cells11 b3
  have pa0 := After.cell pc0; have pa1 := After.cell pc1; have pa2 := After.cell pc2; have pa3 := After.cell pc3; have pa4 := After.cell pc4; have pa5 := After.cell pc5; have pa6 := After.cell pc6; have pa7 := After.cell pc7; have pa8 := After.cell pc8; have pa9 := After.cell pc9; have pa10 := After.cell pc10
  have qa0 := After.cell qc0; have qa1 := After.cell qc1; have qa2 := After.cell qc2; have qa3 := After.cell qc3; have qa4 := After.cell qc4; have qa5 := After.cell qc5; have qa6 := After.cell qc6; have qa7 := After.cell qc7; have qa8 := After.cell qc8; have qa9 := After.cell qc9; have qa10 := After.cell qc10
  have ra0 := After.cell rc0; have ra1 := After.cell rc1; have ra2 := After.cell rc2; have ra3 := After.cell rc3; have ra4 := After.cell rc4; have ra5 := After.cell rc5; have ra6 := After.cell rc6; have ra7 := After.cell rc7; have ra8 := After.cell rc8; have ra9 := After.cell rc9; have ra10 := After.cell rc10
  clear pf0 pf1 pf2 pf3 pf4 pf5 pf6 pf7 pf8 pf9 pf10
  clear qf0 qf1 qf2 qf3 qf4 qf5 qf6 qf7 qf8 qf9 qf10
  clear rf0 rf1 rf2 rf3 rf4 rf5 rf6 rf7 rf8 rf9 rf10
  clear b1 b2 b3 pc0 pc1 pc2 pc3 pc4 pc5 pc6 pc7 pc8 pc9 pc10 qc0 qc1 qc2 qc3 qc4 qc5 qc6 qc7 qc8 qc9 qc10 rc0 rc1 rc2 rc3 rc4 rc5 rc6 rc7 rc8 rc9 rc10
  have KL := hid (fun (n : After W) => live_c n.wd)
  have KW := hid (fun (n : After W) => Ext.trans K0 n.ext)
  go_enter Try.func3, Try.ntmps3
  go_wp2_with fail
  rw [← hW]
  clear hW
  refine wp_region_ext (by kernel_rfl) (by kernel_rfl) ?_; (repeat (any_goals (first | go_big_quiet_step (first | (go_at_call 7; with_reducible exact Calls.ext_of (Q1.out _)) | (go_at_call 7; with_reducible exact Calls.ext_of (Q2.out _)) | (go_at_call 7; with_reducible exact Calls.ext_of (Q3.out _))) | quiet_step (first | (go_at_call 7; with_reducible exact Calls.ext_of (Q1.out _)) | (go_at_call 7; with_reducible exact Calls.ext_of (Q2.out _)) | (go_at_call 7; with_reducible exact Calls.ext_of (Q3.out _)))))); (all_goals (refine wpQuiet_nil ?_; intro w1 hw'; obtain ⟨x1, hw''⟩ := hw'; subst hw''))
  go_wp2_with (first | ((with_reducible refine (Calls.ext_of (R1.out _)).mono ?_); rintro e w' ⟨rfl, x', rfl⟩) | ((with_reducible refine (Calls.ext_of (L12.out _)).mono ?_); rintro e w' ⟨rfl, x', rfl⟩) | ((with_reducible refine (Calls.ext_of (L21.out _)).mono ?_); rintro e w' ⟨rfl, x', rfl⟩) | ((with_reducible refine (Calls.ext_of (L23.out _)).mono ?_); rintro e w' ⟨rfl, x', rfl⟩) | ((with_reducible refine (Calls.ext_of (L13.out _)).mono ?_); rintro e w' ⟨rfl, x', rfl⟩) | ((with_reducible refine (Calls.ext_of (C3.out _)).mono ?_); rintro e w' ⟨rfl, x', rfl⟩) | ((with_reducible refine (Calls.ext_of (KL.out _)).mono ?_); rintro e w' ⟨rfl, x', rfl⟩))
  go_ret
  exact ⟨rfl, KW.out _⟩

set_option maxHeartbeats 4000000 in
theorem ranks_6 (id : Int) (rtr : Bool) (len d0 d1 d2 d3 d4 d5 d6 d7 : Int) (eid : Int) (ertr : Bool) (elen ed0 ed1 ed2 ed3 ed4 ed5 ed6 ed7 : Int) (gid : Int) (grtr : Bool) (glen gd0 gd1 gd2 gd3 gd4 gd5 gd6 gd7 : Int) (w : World)
    (hc : (decide (Fr.rank (⟨id, rtr, len, d0, d1, d2, d3, d4, d5, d6, d7⟩ : Fr) < Fr.rank (⟨eid, ertr, elen, ed0, ed1, ed2, ed3, ed4, ed5, ed6, ed7⟩ : Fr)) = true ∧ decide (Fr.rank (⟨eid, ertr, elen, ed0, ed1, ed2, ed3, ed4, ed5, ed6, ed7⟩ : Fr) < Fr.rank (⟨id, rtr, len, d0, d1, d2, d3, d4, d5, d6, d7⟩ : Fr)) = false ∧ (decide (0 ≤ Fr.rank (⟨id, rtr, len, d0, d1, d2, d3, d4, d5, d6, d7⟩ : Fr)) = true ∧ decide (0 ≤ Fr.rank (⟨eid, ertr, elen, ed0, ed1, ed2, ed3, ed4, ed5, ed6, ed7⟩ : Fr)) = false) ∧ (decide (Fr.rank (⟨eid, ertr, elen, ed0, ed1, ed2, ed3, ed4, ed5, ed6, ed7⟩ : Fr) < Fr.rank (⟨gid, grtr, glen, gd0, gd1, gd2, gd3, gd4, gd5, gd6, gd7⟩ : Fr)) = true ∧ decide (Fr.rank (⟨id, rtr, len, d0, d1, d2, d3, d4, d5, d6, d7⟩ : Fr) < Fr.rank (⟨gid, grtr, glen, gd0, gd1, gd2, gd3, gd4, gd5, gd6, gd7⟩ : Fr)) = true))) :
    Calls Try.prog 3 #[.agg #[.int .i64 id, .bool rtr, .int .i64 len, .int .u8 d0, .int .u8 d1, .int .u8 d2, .int .u8 d3, .int .u8 d4, .int .u8 d5, .int .u8 d6, .int .u8 d7], .agg #[.int .i64 eid, .bool ertr, .int .i64 elen, .int .u8 ed0, .int .u8 ed1, .int .u8 ed2, .int .u8 ed3, .int .u8 ed4, .int .u8 ed5, .int .u8 ed6, .int .u8 ed7], .agg #[.int .i64 gid, .bool grtr, .int .i64 glen, .int .u8 gd0, .int .u8 gd1, .int .u8 gd2, .int .u8 gd3, .int .u8 gd4, .int .u8 gd5, .int .u8 gd6, .int .u8 gd7]] w fun e w' => e = .returned (.bool true) ∧ Ext w w' := by
  have Q1 := hid (fun w => rrank_c id rtr len d0 d1 d2 d3 d4 d5 d6 d7 w)
  have Q2 := hid (fun w => rrank_c eid ertr elen ed0 ed1 ed2 ed3 ed4 ed5 ed6 ed7 w)
  have Q3 := hid (fun w => rrank_c gid grtr glen gd0 gd1 gd2 gd3 gd4 gd5 gd6 gd7 w)
  have R1 := hid (fun w => rank_c id rtr len d0 d1 d2 d3 d4 d5 d6 d7 w)
  have L12 := hid (fun w => less_c id rtr len d0 d1 d2 d3 d4 d5 d6 d7 eid ertr elen ed0 ed1 ed2 ed3 ed4 ed5 ed6 ed7 w)
  have L21 := hid (fun w => less_c eid ertr elen ed0 ed1 ed2 ed3 ed4 ed5 ed6 ed7 id rtr len d0 d1 d2 d3 d4 d5 d6 d7 w)
  have L23 := hid (fun w => less_c eid ertr elen ed0 ed1 ed2 ed3 ed4 ed5 ed6 ed7 gid grtr glen gd0 gd1 gd2 gd3 gd4 gd5 gd6 gd7 w)
  have L13 := hid (fun w => less_c id rtr len d0 d1 d2 d3 d4 d5 d6 d7 gid grtr glen gd0 gd1 gd2 gd3 gd4 gd5 gd6 gd7 w)
  have C3 := hid (fun w => check_c gid grtr glen gd0 gd1 gd2 gd3 gd4 gd5 gd6 gd7 w)
  have hz := rank_pos (⟨gid, grtr, glen, gd0, gd1, gd2, gd3, gd4, gd5, gd6, gd7⟩ : Fr)
  generalize Fr.rank (⟨id, rtr, len, d0, d1, d2, d3, d4, d5, d6, d7⟩ : Fr) = x at *
  generalize Fr.rank (⟨eid, ertr, elen, ed0, ed1, ed2, ed3, ed4, ed5, ed6, ed7⟩ : Fr) = y at *
  generalize Fr.rank (⟨gid, grtr, glen, gd0, gd1, gd2, gd3, gd4, gd5, gd6, gd7⟩ : Fr) = z at *
  generalize Fr.chk (⟨gid, grtr, glen, gd0, gd1, gd2, gd3, gd4, gd5, gd6, gd7⟩ : Fr) = m at *
  obtain ⟨h1, h2, ⟨h3, h4⟩, ⟨h6, h7⟩⟩ := hc
  have b1 := ((Blk.new w #[.int .i64 id, .bool rtr, .int .i64 len, .int .u8 d0, .int .u8 d1, .int .u8 d2, .int .u8 d3, .int .u8 d4, .int .u8 d5, .int .u8 d6, .int .u8 d7] FT).alloc (.cells #[.int .i64 eid, .bool ertr, .int .i64 elen, .int .u8 ed0, .int .u8 ed1, .int .u8 ed2, .int .u8 ed3, .int .u8 ed4, .int .u8 ed5, .int .u8 ed6, .int .u8 ed7] FT)).alloc (.cells #[.int .i64 gid, .bool grtr, .int .i64 glen, .int .u8 gd0, .int .u8 gd1, .int .u8 gd2, .int .u8 gd3, .int .u8 gd4, .int .u8 gd5, .int .u8 gd6, .int .u8 gd7] FT)
  have b2 := (Blk.new2 w (.cells #[.int .i64 id, .bool rtr, .int .i64 len, .int .u8 d0, .int .u8 d1, .int .u8 d2, .int .u8 d3, .int .u8 d4, .int .u8 d5, .int .u8 d6, .int .u8 d7] FT) #[.int .i64 eid, .bool ertr, .int .i64 elen, .int .u8 ed0, .int .u8 ed1, .int .u8 ed2, .int .u8 ed3, .int .u8 ed4, .int .u8 ed5, .int .u8 ed6, .int .u8 ed7] FT).alloc (.cells #[.int .i64 gid, .bool grtr, .int .i64 glen, .int .u8 gd0, .int .u8 gd1, .int .u8 gd2, .int .u8 gd3, .int .u8 gd4, .int .u8 gd5, .int .u8 gd6, .int .u8 gd7] FT)
  have b3 : Blk (((w.alloc (.cells #[.int .i64 id, .bool rtr, .int .i64 len, .int .u8 d0, .int .u8 d1, .int .u8 d2, .int .u8 d3, .int .u8 d4, .int .u8 d5, .int .u8 d6, .int .u8 d7] FT)).alloc (.cells #[.int .i64 eid, .bool ertr, .int .i64 elen, .int .u8 ed0, .int .u8 ed1, .int .u8 ed2, .int .u8 ed3, .int .u8 ed4, .int .u8 ed5, .int .u8 ed6, .int .u8 ed7] FT)).alloc (.cells #[.int .i64 gid, .bool grtr, .int .i64 glen, .int .u8 gd0, .int .u8 gd1, .int .u8 gd2, .int .u8 gd3, .int .u8 gd4, .int .u8 gd5, .int .u8 gd6, .int .u8 gd7] FT)) (w.heap.size + 2) #[.int .i64 gid, .bool grtr, .int .i64 glen, .int .u8 gd0, .int .u8 gd1, .int .u8 gd2, .int .u8 gd3, .int .u8 gd4, .int .u8 gd5, .int .u8 gd6, .int .u8 gd7] FT := by
    have := Blk.new ((w.alloc (.cells #[.int .i64 id, .bool rtr, .int .i64 len, .int .u8 d0, .int .u8 d1, .int .u8 d2, .int .u8 d3, .int .u8 d4, .int .u8 d5, .int .u8 d6, .int .u8 d7] FT)).alloc (.cells #[.int .i64 eid, .bool ertr, .int .i64 elen, .int .u8 ed0, .int .u8 ed1, .int .u8 ed2, .int .u8 ed3, .int .u8 ed4, .int .u8 ed5, .int .u8 ed6, .int .u8 ed7] FT)) #[.int .i64 gid, .bool grtr, .int .i64 glen, .int .u8 gd0, .int .u8 gd1, .int .u8 gd2, .int .u8 gd3, .int .u8 gd4, .int .u8 gd5, .int .u8 gd6, .int .u8 gd7] FT
    simpa only [World.size_alloc] using this
  have K0 : Ext w (((w.alloc (.cells #[.int .i64 id, .bool rtr, .int .i64 len, .int .u8 d0, .int .u8 d1, .int .u8 d2, .int .u8 d3, .int .u8 d4, .int .u8 d5, .int .u8 d6, .int .u8 d7] FT)).alloc (.cells #[.int .i64 eid, .bool ertr, .int .i64 elen, .int .u8 ed0, .int .u8 ed1, .int .u8 ed2, .int .u8 ed3, .int .u8 ed4, .int .u8 ed5, .int .u8 ed6, .int .u8 ed7] FT)).alloc (.cells #[.int .i64 gid, .bool grtr, .int .i64 glen, .int .u8 gd0, .int .u8 gd1, .int .u8 gd2, .int .u8 gd3, .int .u8 gd4, .int .u8 gd5, .int .u8 gd6, .int .u8 gd7] FT)) := (by repeat (first | with_reducible exact Ext.refl _ | with_reducible assumption | with_reducible apply Ext.alloc | with_reducible apply Ext.drew | with_reducible apply Ext.drewN | (with_reducible refine Ext.set' ?_ (by first | omega | (simp only [World.size_alloc, World.size_setCell]; omega))) | (with_reducible refine Ext.trans ?_ (by with_reducible assumption)) | (with_reducible refine Ext.only ?_ (by with_reducible assumption) (by omega))))
  obtain ⟨W, hW⟩ : ∃ W, W = (((w.alloc (.cells #[.int .i64 id, .bool rtr, .int .i64 len, .int .u8 d0, .int .u8 d1, .int .u8 d2, .int .u8 d3, .int .u8 d4, .int .u8 d5, .int .u8 d6, .int .u8 d7] FT)).alloc (.cells #[.int .i64 eid, .bool ertr, .int .i64 elen, .int .u8 ed0, .int .u8 ed1, .int .u8 ed2, .int .u8 ed3, .int .u8 ed4, .int .u8 ed5, .int .u8 ed6, .int .u8 ed7] FT)).alloc (.cells #[.int .i64 gid, .bool grtr, .int .i64 glen, .int .u8 gd0, .int .u8 gd1, .int .u8 gd2, .int .u8 gd3, .int .u8 gd4, .int .u8 gd5, .int .u8 gd6, .int .u8 gd7] FT)) := ⟨_, rfl⟩
  rw [← hW] at b1 b2 b3 K0
  obtain ⟨pc0, pc1, pc2, pc3, pc4, pc5, pc6, pc7, pc8, pc9, pc10, pf0, pf1, pf2, pf3, pf4, pf5, pf6, pf7, pf8, pf9, pf10⟩ := Blk.cells11 b1
  obtain ⟨qc0, qc1, qc2, qc3, qc4, qc5, qc6, qc7, qc8, qc9, qc10, qf0, qf1, qf2, qf3, qf4, qf5, qf6, qf7, qf8, qf9, qf10⟩ := Blk.cells11 b2
  obtain ⟨rc0, rc1, rc2, rc3, rc4, rc5, rc6, rc7, rc8, rc9, rc10, rf0, rf1, rf2, rf3, rf4, rf5, rf6, rf7, rf8, rf9, rf10⟩ := Blk.cells11 b3
  have pa0 := After.cell pc0; have pa1 := After.cell pc1; have pa2 := After.cell pc2; have pa3 := After.cell pc3; have pa4 := After.cell pc4; have pa5 := After.cell pc5; have pa6 := After.cell pc6; have pa7 := After.cell pc7; have pa8 := After.cell pc8; have pa9 := After.cell pc9; have pa10 := After.cell pc10
  have qa0 := After.cell qc0; have qa1 := After.cell qc1; have qa2 := After.cell qc2; have qa3 := After.cell qc3; have qa4 := After.cell qc4; have qa5 := After.cell qc5; have qa6 := After.cell qc6; have qa7 := After.cell qc7; have qa8 := After.cell qc8; have qa9 := After.cell qc9; have qa10 := After.cell qc10
  have ra0 := After.cell rc0; have ra1 := After.cell rc1; have ra2 := After.cell rc2; have ra3 := After.cell rc3; have ra4 := After.cell rc4; have ra5 := After.cell rc5; have ra6 := After.cell rc6; have ra7 := After.cell rc7; have ra8 := After.cell rc8; have ra9 := After.cell rc9; have ra10 := After.cell rc10
  clear pf0 pf1 pf2 pf3 pf4 pf5 pf6 pf7 pf8 pf9 pf10
  clear qf0 qf1 qf2 qf3 qf4 qf5 qf6 qf7 qf8 qf9 qf10
  clear rf0 rf1 rf2 rf3 rf4 rf5 rf6 rf7 rf8 rf9 rf10
  clear b1 b2 b3 pc0 pc1 pc2 pc3 pc4 pc5 pc6 pc7 pc8 pc9 pc10 qc0 qc1 qc2 qc3 qc4 qc5 qc6 qc7 qc8 qc9 qc10 rc0 rc1 rc2 rc3 rc4 rc5 rc6 rc7 rc8 rc9 rc10
  have KL := hid (fun (n : After W) => live_c n.wd)
  have KW := hid (fun (n : After W) => Ext.trans K0 n.ext)
  go_enter Try.func3, Try.ntmps3
  go_wp2_with fail
  rw [← hW]
  clear hW
  refine wp_region_ext (by kernel_rfl) (by kernel_rfl) ?_; (repeat (any_goals (first | go_big_quiet_step (first | (go_at_call 7; with_reducible exact Calls.ext_of (Q1.out _)) | (go_at_call 7; with_reducible exact Calls.ext_of (Q2.out _)) | (go_at_call 7; with_reducible exact Calls.ext_of (Q3.out _))) | quiet_step (first | (go_at_call 7; with_reducible exact Calls.ext_of (Q1.out _)) | (go_at_call 7; with_reducible exact Calls.ext_of (Q2.out _)) | (go_at_call 7; with_reducible exact Calls.ext_of (Q3.out _)))))); (all_goals (refine wpQuiet_nil ?_; intro w1 hw'; obtain ⟨x1, hw''⟩ := hw'; subst hw''))
  go_wp2_with (first | ((with_reducible refine (Calls.ext_of (R1.out _)).mono ?_); rintro e w' ⟨rfl, x', rfl⟩) | ((with_reducible refine (Calls.ext_of (L12.out _)).mono ?_); rintro e w' ⟨rfl, x', rfl⟩) | ((with_reducible refine (Calls.ext_of (L21.out _)).mono ?_); rintro e w' ⟨rfl, x', rfl⟩) | ((with_reducible refine (Calls.ext_of (L23.out _)).mono ?_); rintro e w' ⟨rfl, x', rfl⟩) | ((with_reducible refine (Calls.ext_of (L13.out _)).mono ?_); rintro e w' ⟨rfl, x', rfl⟩) | ((with_reducible refine (Calls.ext_of (C3.out _)).mono ?_); rintro e w' ⟨rfl, x', rfl⟩) | ((with_reducible refine (Calls.ext_of (KL.out _)).mono ?_); rintro e w' ⟨rfl, x', rfl⟩))
  go_ret
  exact ⟨rfl, KW.out _⟩

set_option maxHeartbeats 4000000 in
theorem ranks_7 (id : Int) (rtr : Bool) (len d0 d1 d2 d3 d4 d5 d6 d7 : Int) (eid : Int) (ertr : Bool) (elen ed0 ed1 ed2 ed3 ed4 ed5 ed6 ed7 : Int) (gid : Int) (grtr : Bool) (glen gd0 gd1 gd2 gd3 gd4 gd5 gd6 gd7 : Int) (w : World)
    (hc : (decide (Fr.rank (⟨id, rtr, len, d0, d1, d2, d3, d4, d5, d6, d7⟩ : Fr) < Fr.rank (⟨eid, ertr, elen, ed0, ed1, ed2, ed3, ed4, ed5, ed6, ed7⟩ : Fr)) = true ∧ decide (Fr.rank (⟨eid, ertr, elen, ed0, ed1, ed2, ed3, ed4, ed5, ed6, ed7⟩ : Fr) < Fr.rank (⟨id, rtr, len, d0, d1, d2, d3, d4, d5, d6, d7⟩ : Fr)) = false ∧ (decide (0 ≤ Fr.rank (⟨id, rtr, len, d0, d1, d2, d3, d4, d5, d6, d7⟩ : Fr)) = true ∧ decide (0 ≤ Fr.rank (⟨eid, ertr, elen, ed0, ed1, ed2, ed3, ed4, ed5, ed6, ed7⟩ : Fr)) = true ∧ decide (id < eid) = false) ∧ (decide (Fr.rank (⟨eid, ertr, elen, ed0, ed1, ed2, ed3, ed4, ed5, ed6, ed7⟩ : Fr) < Fr.rank (⟨gid, grtr, glen, gd0, gd1, gd2, gd3, gd4, gd5, gd6, gd7⟩ : Fr)) = false))) :
    Calls Try.prog 3 #[.agg #[.int .i64 id, .bool rtr, .int .i64 len, .int .u8 d0, .int .u8 d1, .int .u8 d2, .int .u8 d3, .int .u8 d4, .int .u8 d5, .int .u8 d6, .int .u8 d7], .agg #[.int .i64 eid, .bool ertr, .int .i64 elen, .int .u8 ed0, .int .u8 ed1, .int .u8 ed2, .int .u8 ed3, .int .u8 ed4, .int .u8 ed5, .int .u8 ed6, .int .u8 ed7], .agg #[.int .i64 gid, .bool grtr, .int .i64 glen, .int .u8 gd0, .int .u8 gd1, .int .u8 gd2, .int .u8 gd3, .int .u8 gd4, .int .u8 gd5, .int .u8 gd6, .int .u8 gd7]] w fun e w' => e = .returned (.bool true) ∧ Ext w w' := by
  have Q1 := hid (fun w => rrank_c id rtr len d0 d1 d2 d3 d4 d5 d6 d7 w)
  have Q2 := hid (fun w => rrank_c eid ertr elen ed0 ed1 ed2 ed3 ed4 ed5 ed6 ed7 w)
  have Q3 := hid (fun w => rrank_c gid grtr glen gd0 gd1 gd2 gd3 gd4 gd5 gd6 gd7 w)
  have R1 := hid (fun w => rank_c id rtr len d0 d1 d2 d3 d4 d5 d6 d7 w)
  have L12 := hid (fun w => less_c id rtr len d0 d1 d2 d3 d4 d5 d6 d7 eid ertr elen ed0 ed1 ed2 ed3 ed4 ed5 ed6 ed7 w)
  have L21 := hid (fun w => less_c eid ertr elen ed0 ed1 ed2 ed3 ed4 ed5 ed6 ed7 id rtr len d0 d1 d2 d3 d4 d5 d6 d7 w)
  have L23 := hid (fun w => less_c eid ertr elen ed0 ed1 ed2 ed3 ed4 ed5 ed6 ed7 gid grtr glen gd0 gd1 gd2 gd3 gd4 gd5 gd6 gd7 w)
  have L13 := hid (fun w => less_c id rtr len d0 d1 d2 d3 d4 d5 d6 d7 gid grtr glen gd0 gd1 gd2 gd3 gd4 gd5 gd6 gd7 w)
  have C3 := hid (fun w => check_c gid grtr glen gd0 gd1 gd2 gd3 gd4 gd5 gd6 gd7 w)
  have hz := rank_pos (⟨gid, grtr, glen, gd0, gd1, gd2, gd3, gd4, gd5, gd6, gd7⟩ : Fr)
  generalize Fr.rank (⟨id, rtr, len, d0, d1, d2, d3, d4, d5, d6, d7⟩ : Fr) = x at *
  generalize Fr.rank (⟨eid, ertr, elen, ed0, ed1, ed2, ed3, ed4, ed5, ed6, ed7⟩ : Fr) = y at *
  generalize Fr.rank (⟨gid, grtr, glen, gd0, gd1, gd2, gd3, gd4, gd5, gd6, gd7⟩ : Fr) = z at *
  generalize Fr.chk (⟨gid, grtr, glen, gd0, gd1, gd2, gd3, gd4, gd5, gd6, gd7⟩ : Fr) = m at *
  obtain ⟨h1, h2, ⟨h3, h4, h5⟩, h6⟩ := hc
  have b1 := ((Blk.new w #[.int .i64 id, .bool rtr, .int .i64 len, .int .u8 d0, .int .u8 d1, .int .u8 d2, .int .u8 d3, .int .u8 d4, .int .u8 d5, .int .u8 d6, .int .u8 d7] FT).alloc (.cells #[.int .i64 eid, .bool ertr, .int .i64 elen, .int .u8 ed0, .int .u8 ed1, .int .u8 ed2, .int .u8 ed3, .int .u8 ed4, .int .u8 ed5, .int .u8 ed6, .int .u8 ed7] FT)).alloc (.cells #[.int .i64 gid, .bool grtr, .int .i64 glen, .int .u8 gd0, .int .u8 gd1, .int .u8 gd2, .int .u8 gd3, .int .u8 gd4, .int .u8 gd5, .int .u8 gd6, .int .u8 gd7] FT)
  have b2 := (Blk.new2 w (.cells #[.int .i64 id, .bool rtr, .int .i64 len, .int .u8 d0, .int .u8 d1, .int .u8 d2, .int .u8 d3, .int .u8 d4, .int .u8 d5, .int .u8 d6, .int .u8 d7] FT) #[.int .i64 eid, .bool ertr, .int .i64 elen, .int .u8 ed0, .int .u8 ed1, .int .u8 ed2, .int .u8 ed3, .int .u8 ed4, .int .u8 ed5, .int .u8 ed6, .int .u8 ed7] FT).alloc (.cells #[.int .i64 gid, .bool grtr, .int .i64 glen, .int .u8 gd0, .int .u8 gd1, .int .u8 gd2, .int .u8 gd3, .int .u8 gd4, .int .u8 gd5, .int .u8 gd6, .int .u8 gd7] FT)
  have b3 : Blk (((w.alloc (.cells #[.int .i64 id, .bool rtr, .int .i64 len, .int .u8 d0, .int .u8 d1, .int .u8 d2, .int .u8 d3, .int .u8 d4, .int .u8 d5, .int .u8 d6, .int .u8 d7] FT)).alloc (.cells #[.int .i64 eid, .bool ertr, .int .i64 elen, .int .u8 ed0, .int .u8 ed1, .int .u8 ed2, .int .u8 ed3, .int .u8 ed4, .int .u8 ed5, .int .u8 ed6, .int .u8 ed7] FT)).alloc (.cells #[.int .i64 gid, .bool grtr, .int .i64 glen, .int .u8 gd0, .int .u8 gd1, .int .u8 gd2, .int .u8 gd3, .int .u8 gd4, .int .u8 gd5, .int .u8 gd6, .int .u8 gd7] FT)) (w.heap.size + 2) #[.int .i64 gid, .bool grtr, .int .i64 glen, .int .u8 gd0, .int .u8 gd1, .int .u8 gd2, .int .u8 gd3, .int .u8 gd4, .int .u8 gd5, .int .u8 gd6, .int .u8 gd7] FT := by
    have := Blk.new ((w.alloc (.cells #[.int .i64 id, .bool rtr, .int .i64 len, .int .u8 d0, .int .u8 d1, .int .u8 d2, .int .u8 d3, .int .u8 d4, .int .u8 d5, .int .u8 d6, .int .u8 d7] FT)).alloc (.cells #[.int .i64 eid, .bool ertr, .int .i64 elen, .int .u8 ed0, .int .u8 ed1, .int .u8 ed2, .int .u8 ed3, .int .u8 ed4, .int .u8 ed5, .int .u8 ed6, .int .u8 ed7] FT)) #[.int .i64 gid, .bool grtr, .int .i64 glen, .int .u8 gd0, .int .u8 gd1, .int .u8 gd2, .int .u8 gd3, .int .u8 gd4, .int .u8 gd5, .int .u8 gd6, .int .u8 gd7] FT
    simpa only [World.size_alloc] using this
  have K0 : Ext w (((w.alloc (.cells #[.int .i64 id, .bool rtr, .int .i64 len, .int .u8 d0, .int .u8 d1, .int .u8 d2, .int .u8 d3, .int .u8 d4, .int .u8 d5, .int .u8 d6, .int .u8 d7] FT)).alloc (.cells #[.int .i64 eid, .bool ertr, .int .i64 elen, .int .u8 ed0, .int .u8 ed1, .int .u8 ed2, .int .u8 ed3, .int .u8 ed4, .int .u8 ed5, .int .u8 ed6, .int .u8 ed7] FT)).alloc (.cells #[.int .i64 gid, .bool grtr, .int .i64 glen, .int .u8 gd0, .int .u8 gd1, .int .u8 gd2, .int .u8 gd3, .int .u8 gd4, .int .u8 gd5, .int .u8 gd6, .int .u8 gd7] FT)) := (by repeat (first | with_reducible exact Ext.refl _ | with_reducible assumption | with_reducible apply Ext.alloc | with_reducible apply Ext.drew | with_reducible apply Ext.drewN | (with_reducible refine Ext.set' ?_ (by first | omega | (simp only [World.size_alloc, World.size_setCell]; omega))) | (with_reducible refine Ext.trans ?_ (by with_reducible assumption)) | (with_reducible refine Ext.only ?_ (by with_reducible assumption) (by omega))))
  obtain ⟨W, hW⟩ : ∃ W, W = (((w.alloc (.cells #[.int .i64 id, .bool rtr, .int .i64 len, .int .u8 d0, .int .u8 d1, .int .u8 d2, .int .u8 d3, .int .u8 d4, .int .u8 d5, .int .u8 d6, .int .u8 d7] FT)).alloc (.cells #[.int .i64 eid, .bool ertr, .int .i64 elen, .int .u8 ed0, .int .u8 ed1, .int .u8 ed2, .int .u8 ed3, .int .u8 ed4, .int .u8 ed5, .int .u8 ed6, .int .u8 ed7] FT)).alloc (.cells #[.int .i64 gid, .bool grtr, .int .i64 glen, .int .u8 gd0, .int .u8 gd1, .int .u8 gd2, .int .u8 gd3, .int .u8 gd4, .int .u8 gd5, .int .u8 gd6, .int .u8 gd7] FT)) := ⟨_, rfl⟩
  rw [← hW] at b1 b2 b3 K0
  obtain ⟨pc0, pc1, pc2, pc3, pc4, pc5, pc6, pc7, pc8, pc9, pc10, pf0, pf1, pf2, pf3, pf4, pf5, pf6, pf7, pf8, pf9, pf10⟩ := Blk.cells11 b1
  obtain ⟨qc0, qc1, qc2, qc3, qc4, qc5, qc6, qc7, qc8, qc9, qc10, qf0, qf1, qf2, qf3, qf4, qf5, qf6, qf7, qf8, qf9, qf10⟩ := Blk.cells11 b2
  obtain ⟨rc0, rc1, rc2, rc3, rc4, rc5, rc6, rc7, rc8, rc9, rc10, rf0, rf1, rf2, rf3, rf4, rf5, rf6, rf7, rf8, rf9, rf10⟩ := Blk.cells11 b3
  have pa0 := After.cell pc0; have pa1 := After.cell pc1; have pa2 := After.cell pc2; have pa3 := After.cell pc3; have pa4 := After.cell pc4; have pa5 := After.cell pc5; have pa6 := After.cell pc6; have pa7 := After.cell pc7; have pa8 := After.cell pc8; have pa9 := After.cell pc9; have pa10 := After.cell pc10
  have qa0 := After.cell qc0; have qa1 := After.cell qc1; have qa2 := After.cell qc2; have qa3 := After.cell qc3; have qa4 := After.cell qc4; have qa5 := After.cell qc5; have qa6 := After.cell qc6; have qa7 := After.cell qc7; have qa8 := After.cell qc8; have qa9 := After.cell qc9; have qa10 := After.cell qc10
  have ra0 := After.cell rc0; have ra1 := After.cell rc1; have ra2 := After.cell rc2; have ra3 := After.cell rc3; have ra4 := After.cell rc4; have ra5 := After.cell rc5; have ra6 := After.cell rc6; have ra7 := After.cell rc7; have ra8 := After.cell rc8; have ra9 := After.cell rc9; have ra10 := After.cell rc10
  clear pf0 pf1 pf2 pf3 pf4 pf5 pf6 pf7 pf8 pf9 pf10
  clear qf0 qf1 qf2 qf3 qf4 qf5 qf6 qf7 qf8 qf9 qf10
  clear rf0 rf1 rf2 rf3 rf4 rf5 rf6 rf7 rf8 rf9 rf10
  clear b1 b2 b3 pc0 pc1 pc2 pc3 pc4 pc5 pc6 pc7 pc8 pc9 pc10 qc0 qc1 qc2 qc3 qc4 qc5 qc6 qc7 qc8 qc9 qc10 rc0 rc1 rc2 rc3 rc4 rc5 rc6 rc7 rc8 rc9 rc10
  have KL := hid (fun (n : After W) => live_c n.wd)
  have KW := hid (fun (n : After W) => Ext.trans K0 n.ext)
  go_enter Try.func3, Try.ntmps3
  go_wp2_with fail
  rw [← hW]
  clear hW
  refine wp_region_ext (by kernel_rfl) (by kernel_rfl) ?_; (repeat (any_goals (first | go_big_quiet_step (first | (go_at_call 7; with_reducible exact Calls.ext_of (Q1.out _)) | (go_at_call 7; with_reducible exact Calls.ext_of (Q2.out _)) | (go_at_call 7; with_reducible exact Calls.ext_of (Q3.out _))) | quiet_step (first | (go_at_call 7; with_reducible exact Calls.ext_of (Q1.out _)) | (go_at_call 7; with_reducible exact Calls.ext_of (Q2.out _)) | (go_at_call 7; with_reducible exact Calls.ext_of (Q3.out _)))))); (all_goals (refine wpQuiet_nil ?_; intro w1 hw'; obtain ⟨x1, hw''⟩ := hw'; subst hw''))
  go_wp2_with (first | ((with_reducible refine (Calls.ext_of (R1.out _)).mono ?_); rintro e w' ⟨rfl, x', rfl⟩) | ((with_reducible refine (Calls.ext_of (L12.out _)).mono ?_); rintro e w' ⟨rfl, x', rfl⟩) | ((with_reducible refine (Calls.ext_of (L21.out _)).mono ?_); rintro e w' ⟨rfl, x', rfl⟩) | ((with_reducible refine (Calls.ext_of (L23.out _)).mono ?_); rintro e w' ⟨rfl, x', rfl⟩) | ((with_reducible refine (Calls.ext_of (L13.out _)).mono ?_); rintro e w' ⟨rfl, x', rfl⟩) | ((with_reducible refine (Calls.ext_of (C3.out _)).mono ?_); rintro e w' ⟨rfl, x', rfl⟩) | ((with_reducible refine (Calls.ext_of (KL.out _)).mono ?_); rintro e w' ⟨rfl, x', rfl⟩))
  go_ret
  exact ⟨rfl, KW.out _⟩

set_option maxHeartbeats 4000000 in
theorem ranks_8 (id : Int) (rtr : Bool) (len d0 d1 d2 d3 d4 d5 d6 d7 : Int) (eid : Int) (ertr : Bool) (elen ed0 ed1 ed2 ed3 ed4 ed5 ed6 ed7 : Int) (gid : Int) (grtr : Bool) (glen gd0 gd1 gd2 gd3 gd4 gd5 gd6 gd7 : Int) (w : World)
    (hc : (decide (Fr.rank (⟨id, rtr, len, d0, d1, d2, d3, d4, d5, d6, d7⟩ : Fr) < Fr.rank (⟨eid, ertr, elen, ed0, ed1, ed2, ed3, ed4, ed5, ed6, ed7⟩ : Fr)) = true ∧ decide (Fr.rank (⟨eid, ertr, elen, ed0, ed1, ed2, ed3, ed4, ed5, ed6, ed7⟩ : Fr) < Fr.rank (⟨id, rtr, len, d0, d1, d2, d3, d4, d5, d6, d7⟩ : Fr)) = false ∧ (decide (0 ≤ Fr.rank (⟨id, rtr, len, d0, d1, d2, d3, d4, d5, d6, d7⟩ : Fr)) = true ∧ decide (0 ≤ Fr.rank (⟨eid, ertr, elen, ed0, ed1, ed2, ed3, ed4, ed5, ed6, ed7⟩ : Fr)) = true ∧ decide (id < eid) = false) ∧ (decide (Fr.rank (⟨eid, ertr, elen, ed0, ed1, ed2, ed3, ed4, ed5, ed6, ed7⟩ : Fr) < Fr.rank (⟨gid, grtr, glen, gd0, gd1, gd2, gd3, gd4, gd5, gd6, gd7⟩ : Fr)) = true ∧ decide (Fr.rank (⟨id, rtr, len, d0, d1, d2, d3, d4, d5, d6, d7⟩ : Fr) < Fr.rank (⟨gid, grtr, glen, gd0, gd1, gd2, gd3, gd4, gd5, gd6, gd7⟩ : Fr)) = true))) :
    Calls Try.prog 3 #[.agg #[.int .i64 id, .bool rtr, .int .i64 len, .int .u8 d0, .int .u8 d1, .int .u8 d2, .int .u8 d3, .int .u8 d4, .int .u8 d5, .int .u8 d6, .int .u8 d7], .agg #[.int .i64 eid, .bool ertr, .int .i64 elen, .int .u8 ed0, .int .u8 ed1, .int .u8 ed2, .int .u8 ed3, .int .u8 ed4, .int .u8 ed5, .int .u8 ed6, .int .u8 ed7], .agg #[.int .i64 gid, .bool grtr, .int .i64 glen, .int .u8 gd0, .int .u8 gd1, .int .u8 gd2, .int .u8 gd3, .int .u8 gd4, .int .u8 gd5, .int .u8 gd6, .int .u8 gd7]] w fun e w' => e = .returned (.bool true) ∧ Ext w w' := by
  have Q1 := hid (fun w => rrank_c id rtr len d0 d1 d2 d3 d4 d5 d6 d7 w)
  have Q2 := hid (fun w => rrank_c eid ertr elen ed0 ed1 ed2 ed3 ed4 ed5 ed6 ed7 w)
  have Q3 := hid (fun w => rrank_c gid grtr glen gd0 gd1 gd2 gd3 gd4 gd5 gd6 gd7 w)
  have R1 := hid (fun w => rank_c id rtr len d0 d1 d2 d3 d4 d5 d6 d7 w)
  have L12 := hid (fun w => less_c id rtr len d0 d1 d2 d3 d4 d5 d6 d7 eid ertr elen ed0 ed1 ed2 ed3 ed4 ed5 ed6 ed7 w)
  have L21 := hid (fun w => less_c eid ertr elen ed0 ed1 ed2 ed3 ed4 ed5 ed6 ed7 id rtr len d0 d1 d2 d3 d4 d5 d6 d7 w)
  have L23 := hid (fun w => less_c eid ertr elen ed0 ed1 ed2 ed3 ed4 ed5 ed6 ed7 gid grtr glen gd0 gd1 gd2 gd3 gd4 gd5 gd6 gd7 w)
  have L13 := hid (fun w => less_c id rtr len d0 d1 d2 d3 d4 d5 d6 d7 gid grtr glen gd0 gd1 gd2 gd3 gd4 gd5 gd6 gd7 w)
  have C3 := hid (fun w => check_c gid grtr glen gd0 gd1 gd2 gd3 gd4 gd5 gd6 gd7 w)
  have hz := rank_pos (⟨gid, grtr, glen, gd0, gd1, gd2, gd3, gd4, gd5, gd6, gd7⟩ : Fr)
  generalize Fr.rank (⟨id, rtr, len, d0, d1, d2, d3, d4, d5, d6, d7⟩ : Fr) = x at *
  generalize Fr.rank (⟨eid, ertr, elen, ed0, ed1, ed2, ed3, ed4, ed5, ed6, ed7⟩ : Fr) = y at *
  generalize Fr.rank (⟨gid, grtr, glen, gd0, gd1, gd2, gd3, gd4, gd5, gd6, gd7⟩ : Fr) = z at *
  generalize Fr.chk (⟨gid, grtr, glen, gd0, gd1, gd2, gd3, gd4, gd5, gd6, gd7⟩ : Fr) = m at *
  obtain ⟨h1, h2, ⟨h3, h4, h5⟩, ⟨h6, h7⟩⟩ := hc
  have b1 := ((Blk.new w #[.int .i64 id, .bool rtr, .int .i64 len, .int .u8 d0, .int .u8 d1, .int .u8 d2, .int .u8 d3, .int .u8 d4, .int .u8 d5, .int .u8 d6, .int .u8 d7] FT).alloc (.cells #[.int .i64 eid, .bool ertr, .int .i64 elen, .int .u8 ed0, .int .u8 ed1, .int .u8 ed2, .int .u8 ed3, .int .u8 ed4, .int .u8 ed5, .int .u8 ed6, .int .u8 ed7] FT)).alloc (.cells #[.int .i64 gid, .bool grtr, .int .i64 glen, .int .u8 gd0, .int .u8 gd1, .int .u8 gd2, .int .u8 gd3, .int .u8 gd4, .int .u8 gd5, .int .u8 gd6, .int .u8 gd7] FT)
  have b2 := (Blk.new2 w (.cells #[.int .i64 id, .bool rtr, .int .i64 len, .int .u8 d0, .int .u8 d1, .int .u8 d2, .int .u8 d3, .int .u8 d4, .int .u8 d5, .int .u8 d6, .int .u8 d7] FT) #[.int .i64 eid, .bool ertr, .int .i64 elen, .int .u8 ed0, .int .u8 ed1, .int .u8 ed2, .int .u8 ed3, .int .u8 ed4, .int .u8 ed5, .int .u8 ed6, .int .u8 ed7] FT).alloc (.cells #[.int .i64 gid, .bool grtr, .int .i64 glen, .int .u8 gd0, .int .u8 gd1, .int .u8 gd2, .int .u8 gd3, .int .u8 gd4, .int .u8 gd5, .int .u8 gd6, .int .u8 gd7] FT)
  have b3 : Blk (((w.alloc (.cells #[.int .i64 id, .bool rtr, .int .i64 len, .int .u8 d0, .int .u8 d1, .int .u8 d2, .int .u8 d3, .int .u8 d4, .int .u8 d5, .int .u8 d6, .int .u8 d7] FT)).alloc (.cells #[.int .i64 eid, .bool ertr, .int .i64 elen, .int .u8 ed0, .int .u8 ed1, .int .u8 ed2, .int .u8 ed3, .int .u8 ed4, .int .u8 ed5, .int .u8 ed6, .int .u8 ed7] FT)).alloc (.cells #[.int .i64 gid, .bool grtr, .int .i64 glen, .int .u8 gd0, .int .u8 gd1, .int .u8 gd2, .int .u8 gd3, .int .u8 gd4, .int .u8 gd5, .int .u8 gd6, .int .u8 gd7] FT)) (w.heap.size + 2) #[.int .i64 gid, .bool grtr, .int .i64 glen, .int .u8 gd0, .int .u8 gd1, .int .u8 gd2, .int .u8 gd3, .int .u8 gd4, .int .u8 gd5, .int .u8 gd6, .int .u8 gd7] FT := by
    have := Blk.new ((w.alloc (.cells #[.int .i64 id, .bool rtr, .int .i64 len, .int .u8 d0, .int .u8 d1, .int .u8 d2, .int .u8 d3, .int .u8 d4, .int .u8 d5, .int .u8 d6, .int .u8 d7] FT)).alloc (.cells #[.int .i64 eid, .bool ertr, .int .i64 elen, .int .u8 ed0, .int .u8 ed1, .int .u8 ed2, .int .u8 ed3, .int .u8 ed4, .int .u8 ed5, .int .u8 ed6, .int .u8 ed7] FT)) #[.int .i64 gid, .bool grtr, .int .i64 glen, .int .u8 gd0, .int .u8 gd1, .int .u8 gd2, .int .u8 gd3, .int .u8 gd4, .int .u8 gd5, .int .u8 gd6, .int .u8 gd7] FT
    simpa only [World.size_alloc] using this
  have K0 : Ext w (((w.alloc (.cells #[.int .i64 id, .bool rtr, .int .i64 len, .int .u8 d0, .int .u8 d1, .int .u8 d2, .int .u8 d3, .int .u8 d4, .int .u8 d5, .int .u8 d6, .int .u8 d7] FT)).alloc (.cells #[.int .i64 eid, .bool ertr, .int .i64 elen, .int .u8 ed0, .int .u8 ed1, .int .u8 ed2, .int .u8 ed3, .int .u8 ed4, .int .u8 ed5, .int .u8 ed6, .int .u8 ed7] FT)).alloc (.cells #[.int .i64 gid, .bool grtr, .int .i64 glen, .int .u8 gd0, .int .u8 gd1, .int .u8 gd2, .int .u8 gd3, .int .u8 gd4, .int .u8 gd5, .int .u8 gd6, .int .u8 gd7] FT)) := (by repeat (first | with_reducible exact Ext.refl _ | with_reducible assumption | with_reducible apply Ext.alloc | with_reducible apply Ext.drew | with_reducible apply Ext.drewN | (with_reducible refine Ext.set' ?_ (by first | omega | (simp only [World.size_alloc, World.size_setCell]; omega))) | (with_reducible refine Ext.trans ?_ (by with_reducible assumption)) | (with_reducible refine Ext.only ?_ (by with_reducible assumption) (by omega))))
  obtain ⟨W, hW⟩ : ∃ W, W = (((w.alloc (.cells #[.int .i64 id, .bool rtr, .int .i64 len, .int .u8 d0, .int .u8 d1, .int .u8 d2, .int .u8 d3, .int .u8 d4, .int .u8 d5, .int .u8 d6, .int .u8 d7] FT)).alloc (.cells #[.int .i64 eid, .bool ertr, .int .i64 elen, .int .u8 ed0, .int .u8 ed1, .int .u8 ed2, .int .u8 ed3, .int .u8 ed4, .int .u8 ed5, .int .u8 ed6, .int .u8 ed7] FT)).alloc (.cells #[.int .i64 gid, .bool grtr, .int .i64 glen, .int .u8 gd0, .int .u8 gd1, .int .u8 gd2, .int .u8 gd3, .int .u8 gd4, .int .u8 gd5, .int .u8 gd6, .int .u8 gd7] FT)) := ⟨_, rfl⟩
  rw [← hW] at b1 b2 b3 K0
  obtain ⟨pc0, pc1, pc2, pc3, pc4, pc5, pc6, pc7, pc8, pc9, pc10, pf0, pf1, pf2, pf3, pf4, pf5, pf6, pf7, pf8, pf9, pf10⟩ := Blk.cells11 b1
  obtain ⟨qc0, qc1, qc2, qc3, qc4, qc5, qc6, qc7, qc8, qc9, qc10, qf0, qf1, qf2, qf3, qf4, qf5, qf6, qf7, qf8, qf9, qf10⟩ := Blk.cells11 b2
  obtain ⟨rc0, rc1, rc2, rc3, rc4, rc5, rc6, rc7, rc8, rc9, rc10, rf0, rf1, rf2, rf3, rf4, rf5, rf6, rf7, rf8, rf9, rf10⟩ := Blk.cells11 b3
  have pa0 := After.cell pc0; have pa1 := After.cell pc1; have pa2 := After.cell pc2; have pa3 := After.cell pc3; have pa4 := After.cell pc4; have pa5 := After.cell pc5; have pa6 := After.cell pc6; have pa7 := After.cell pc7; have pa8 := After.cell pc8; have pa9 := After.cell pc9; have pa10 := After.cell pc10
  have qa0 := After.cell qc0; have qa1 := After.cell qc1; have qa2 := After.cell qc2; have qa3 := After.cell qc3; have qa4 := After.cell qc4; have qa5 := After.cell qc5; have qa6 := After.cell qc6; have qa7 := After.cell qc7; have qa8 := After.cell qc8; have qa9 := After.cell qc9; have qa10 := After.cell qc10
  have ra0 := After.cell rc0; have ra1 := After.cell rc1; have ra2 := After.cell rc2; have ra3 := After.cell rc3; have ra4 := After.cell rc4; have ra5 := After.cell rc5; have ra6 := After.cell rc6; have ra7 := After.cell rc7; have ra8 := After.cell rc8; have ra9 := After.cell rc9; have ra10 := After.cell rc10
  clear pf0 pf1 pf2 pf3 pf4 pf5 pf6 pf7 pf8 pf9 pf10
  clear qf0 qf1 qf2 qf3 qf4 qf5 qf6 qf7 qf8 qf9 qf10
  clear rf0 rf1 rf2 rf3 rf4 rf5 rf6 rf7 rf8 rf9 rf10
  clear b1 b2 b3 pc0 pc1 pc2 pc3 pc4 pc5 pc6 pc7 pc8 pc9 pc10 qc0 qc1 qc2 qc3 qc4 qc5 qc6 qc7 qc8 qc9 qc10 rc0 rc1 rc2 rc3 rc4 rc5 rc6 rc7 rc8 rc9 rc10
  have KL := hid (fun (n : After W) => live_c n.wd)
  have KW := hid (fun (n : After W) => Ext.trans K0 n.ext)
  go_enter Try.func3, Try.ntmps3
  go_wp2_with fail
  rw [← hW]
  clear hW
  refine wp_region_ext (by kernel_rfl) (by kernel_rfl) ?_; (repeat (any_goals (first | go_big_quiet_step (first | (go_at_call 7; with_reducible exact Calls.ext_of (Q1.out _)) | (go_at_call 7; with_reducible exact Calls.ext_of (Q2.out _)) | (go_at_call 7; with_reducible exact Calls.ext_of (Q3.out _))) | quiet_step (first | (go_at_call 7; with_reducible exact Calls.ext_of (Q1.out _)) | (go_at_call 7; with_reducible exact Calls.ext_of (Q2.out _)) | (go_at_call 7; with_reducible exact Calls.ext_of (Q3.out _)))))); (all_goals (refine wpQuiet_nil ?_; intro w1 hw'; obtain ⟨x1, hw''⟩ := hw'; subst hw''))
  go_wp2_with (first | ((with_reducible refine (Calls.ext_of (R1.out _)).mono ?_); rintro e w' ⟨rfl, x', rfl⟩) | ((with_reducible refine (Calls.ext_of (L12.out _)).mono ?_); rintro e w' ⟨rfl, x', rfl⟩) | ((with_reducible refine (Calls.ext_of (L21.out _)).mono ?_); rintro e w' ⟨rfl, x', rfl⟩) | ((with_reducible refine (Calls.ext_of (L23.out _)).mono ?_); rintro e w' ⟨rfl, x', rfl⟩) | ((with_reducible refine (Calls.ext_of (L13.out _)).mono ?_); rintro e w' ⟨rfl, x', rfl⟩) | ((with_reducible refine (Calls.ext_of (C3.out _)).mono ?_); rintro e w' ⟨rfl, x', rfl⟩) | ((with_reducible refine (Calls.ext_of (KL.out _)).mono ?_); rintro e w' ⟨rfl, x', rfl⟩))
  go_ret
  exact ⟨rfl, KW.out _⟩

set_option maxHeartbeats 4000000 in
theorem ranks_9 (id : Int) (rtr : Bool) (len d0 d1 d2 d3 d4 d5 d6 d7 : Int) (eid : Int) (ertr : Bool) (elen ed0 ed1 ed2 ed3 ed4 ed5 ed6 ed7 : Int) (gid : Int) (grtr : Bool) (glen gd0 gd1 gd2 gd3 gd4 gd5 gd6 gd7 : Int) (w : World)
    (hc : (decide (Fr.rank (⟨id, rtr, len, d0, d1, d2, d3, d4, d5, d6, d7⟩ : Fr) < Fr.rank (⟨eid, ertr, elen, ed0, ed1, ed2, ed3, ed4, ed5, ed6, ed7⟩ : Fr)) = true ∧ decide (Fr.rank (⟨eid, ertr, elen, ed0, ed1, ed2, ed3, ed4, ed5, ed6, ed7⟩ : Fr) < Fr.rank (⟨id, rtr, len, d0, d1, d2, d3, d4, d5, d6, d7⟩ : Fr)) = false ∧ (decide (0 ≤ Fr.rank (⟨id, rtr, len, d0, d1, d2, d3, d4, d5, d6, d7⟩ : Fr)) = true ∧ decide (0 ≤ Fr.rank (⟨eid, ertr, elen, ed0, ed1, ed2, ed3, ed4, ed5, ed6, ed7⟩ : Fr)) = true ∧ decide (id < eid) = true) ∧ (decide (Fr.rank (⟨eid, ertr, elen, ed0, ed1, ed2, ed3, ed4, ed5, ed6, ed7⟩ : Fr) < Fr.rank (⟨gid, grtr, glen, gd0, gd1, gd2, gd3, gd4, gd5, gd6, gd7⟩ : Fr)) = false))) :
    Calls Try.prog 3 #[.agg #[.int .i64 id, .bool rtr, .int .i64 len, .int .u8 d0, .int .u8 d1, .int .u8 d2, .int .u8 d3, .int .u8 d4, .int .u8 d5, .int .u8 d6, .int .u8 d7], .agg #[.int .i64 eid, .bool ertr, .int .i64 elen, .int .u8 ed0, .int .u8 ed1, .int .u8 ed2, .int .u8 ed3, .int .u8 ed4, .int .u8 ed5, .int .u8 ed6, .int .u8 ed7], .agg #[.int .i64 gid, .bool grtr, .int .i64 glen, .int .u8 gd0, .int .u8 gd1, .int .u8 gd2, .int .u8 gd3, .int .u8 gd4, .int .u8 gd5, .int .u8 gd6, .int .u8 gd7]] w fun e w' => e = .returned (.bool true) ∧ Ext w w' := by
  have Q1 := hid (fun w => rrank_c id rtr len d0 d1 d2 d3 d4 d5 d6 d7 w)
  have Q2 := hid (fun w => rrank_c eid ertr elen ed0 ed1 ed2 ed3 ed4 ed5 ed6 ed7 w)
  have Q3 := hid (fun w => rrank_c gid grtr glen gd0 gd1 gd2 gd3 gd4 gd5 gd6 gd7 w)
  have R1 := hid (fun w => rank_c id rtr len d0 d1 d2 d3 d4 d5 d6 d7 w)
  have L12 := hid (fun w => less_c id rtr len d0 d1 d2 d3 d4 d5 d6 d7 eid ertr elen ed0 ed1 ed2 ed3 ed4 ed5 ed6 ed7 w)
  have L21 := hid (fun w => less_c eid ertr elen ed0 ed1 ed2 ed3 ed4 ed5 ed6 ed7 id rtr len d0 d1 d2 d3 d4 d5 d6 d7 w)
  have L23 := hid (fun w => less_c eid ertr elen ed0 ed1 ed2 ed3 ed4 ed5 ed6 ed7 gid grtr glen gd0 gd1 gd2 gd3 gd4 gd5 gd6 gd7 w)
  have L13 := hid (fun w => less_c id rtr len d0 d1 d2 d3 d4 d5 d6 d7 gid grtr glen gd0 gd1 gd2 gd3 gd4 gd5 gd6 gd7 w)
  have C3 := hid (fun w => check_c gid grtr glen gd0 gd1 gd2 gd3 gd4 gd5 gd6 gd7 w)
  have hz := rank_pos (⟨gid, grtr, glen, gd0, gd1, gd2, gd3, gd4, gd5, gd6, gd7⟩ : Fr)
  generalize Fr.rank (⟨id, rtr, len, d0, d1, d2, d3, d4, d5, d6, d7⟩ : Fr) = x at *
  generalize Fr.rank (⟨eid, ertr, elen, ed0, ed1, ed2, ed3, ed4, ed5, ed6, ed7⟩ : Fr) = y at *
  generalize Fr.rank (⟨gid, grtr, glen, gd0, gd1, gd2, gd3, gd4, gd5, gd6, gd7⟩ : Fr) = z at *
  generalize Fr.chk (⟨gid, grtr, glen, gd0, gd1, gd2, gd3, gd4, gd5, gd6, gd7⟩ : Fr) = m at *
  obtain ⟨h1, h2, ⟨h3, h4, h5⟩, h6⟩ := hc
  have b1 := ((Blk.new w #[.int .i64 id, .bool rtr, .int .i64 len, .int .u8 d0, .int .u8 d1, .int .u8 d2, .int .u8 d3, .int .u8 d4, .int .u8 d5, .int .u8 d6, .int .u8 d7] FT).alloc (.cells #[.int .i64 eid, .bool ertr, .int .i64 elen, .int .u8 ed0, .int .u8 ed1, .int .u8 ed2, .int .u8 ed3, .int .u8 ed4, .int .u8 ed5, .int .u8 ed6, .int .u8 ed7] FT)).alloc (.cells #[.int .i64 gid, .bool grtr, .int .i64 glen, .int .u8 gd0, .int .u8 gd1, .int .u8 gd2, .int .u8 gd3, .int .u8 gd4, .int .u8 gd5, .int .u8 gd6, .int .u8 gd7] FT)
  have b2 := (Blk.new2 w (.cells #[.int .i64 id, .bool rtr, .int .i64 len, .int .u8 d0, .int .u8 d1, .int .u8 d2, .int .u8 d3, .int .u8 d4, .int .u8 d5, .int .u8 d6, .int .u8 d7] FT) #[.int .i64 eid, .bool ertr, .int .i64 elen, .int .u8 ed0, .int .u8 ed1, .int .u8 ed2, .int .u8 ed3, .int .u8 ed4, .int .u8 ed5, .int .u8 ed6, .int .u8 ed7] FT).alloc (.cells #[.int .i64 gid, .bool grtr, .int .i64 glen, .int .u8 gd0, .int .u8 gd1, .int .u8 gd2, .int .u8 gd3, .int .u8 gd4, .int .u8 gd5, .int .u8 gd6, .int .u8 gd7] FT)
  have b3 : Blk (((w.alloc (.cells #[.int .i64 id, .bool rtr, .int .i64 len, .int .u8 d0, .int .u8 d1, .int .u8 d2, .int .u8 d3, .int .u8 d4, .int .u8 d5, .int .u8 d6, .int .u8 d7] FT)).alloc (.cells #[.int .i64 eid, .bool ertr, .int .i64 elen, .int .u8 ed0, .int .u8 ed1, .int .u8 ed2, .int .u8 ed3, .int .u8 ed4, .int .u8 ed5, .int .u8 ed6, .int .u8 ed7] FT)).alloc (.cells #[.int .i64 gid, .bool grtr, .int .i64 glen, .int .u8 gd0, .int .u8 gd1, .int .u8 gd2, .int .u8 gd3, .int .u8 gd4, .int .u8 gd5, .int .u8 gd6, .int .u8 gd7] FT)) (w.heap.size + 2) #[.int .i64 gid, .bool grtr, .int .i64 glen, .int .u8 gd0, .int .u8 gd1, .int .u8 gd2, .int .u8 gd3, .int .u8 gd4, .int .u8 gd5, .int .u8 gd6, .int .u8 gd7] FT := by
    have := Blk.new ((w.alloc (.cells #[.int .i64 id, .bool rtr, .int .i64 len, .int .u8 d0, .int .u8 d1, .int .u8 d2, .int .u8 d3, .int .u8 d4, .int .u8 d5, .int .u8 d6, .int .u8 d7] FT)).alloc (.cells #[.int .i64 eid, .bool ertr, .int .i64 elen, .int .u8 ed0, .int .u8 ed1, .int .u8 ed2, .int .u8 ed3, .int .u8 ed4, .int .u8 ed5, .int .u8 ed6, .int .u8 ed7] FT)) #[.int .i64 gid, .bool grtr, .int .i64 glen, .int .u8 gd0, .int .u8 gd1, .int .u8 gd2, .int .u8 gd3, .int .u8 gd4, .int .u8 gd5, .int .u8 gd6, .int .u8 gd7] FT
    simpa only [World.size_alloc] using this
  have K0 : Ext w (((w.alloc (.cells #[.int .i64 id, .bool rtr, .int .i64 len, .int .u8 d0, .int .u8 d1, .int .u8 d2, .int .u8 d3, .int .u8 d4, .int .u8 d5, .int .u8 d6, .int .u8 d7] FT)).alloc (.cells #[.int .i64 eid, .bool ertr, .int .i64 elen, .int .u8 ed0, .int .u8 ed1, .int .u8 ed2, .int .u8 ed3, .int .u8 ed4, .int .u8 ed5, .int .u8 ed6, .int .u8 ed7] FT)).alloc (.cells #[.int .i64 gid, .bool grtr, .int .i64 glen, .int .u8 gd0, .int .u8 gd1, .int .u8 gd2, .int .u8 gd3, .int .u8 gd4, .int .u8 gd5, .int .u8 gd6, .int .u8 gd7] FT)) := (by repeat (first | with_reducible exact Ext.refl _ | with_reducible assumption | with_reducible apply Ext.alloc | with_reducible apply Ext.drew | with_reducible apply Ext.drewN | (with_reducible refine Ext.set' ?_ (by first | omega | (simp only [World.size_alloc, World.size_setCell]; omega))) | (with_reducible refine Ext.trans ?_ (by with_reducible assumption)) | (with_reducible refine Ext.only ?_ (by with_reducible assumption) (by omega))))
  obtain ⟨W, hW⟩ : ∃ W, W = (((w.alloc (.cells #[.int .i64 id, .bool rtr, .int .i64 len, .int .u8 d0, .int .u8 d1, .int .u8 d2, .int .u8 d3, .int .u8 d4, .int .u8 d5, .int .u8 d6, .int .u8 d7] FT)).alloc (.cells #[.int .i64 eid, .bool ertr, .int .i64 elen, .int .u8 ed0, .int .u8 ed1, .int .u8 ed2, .int .u8 ed3, .int .u8 ed4, .int .u8 ed5, .int .u8 ed6, .int .u8 ed7] FT)).alloc (.cells #[.int .i64 gid, .bool grtr, .int .i64 glen, .int .u8 gd0, .int .u8 gd1, .int .u8 gd2, .int .u8 gd3, .int .u8 gd4, .int .u8 gd5, .int .u8 gd6, .int .u8 gd7] FT)) := ⟨_, rfl⟩
  rw [← hW] at b1 b2 b3 K0
  obtain ⟨pc0, pc1, pc2, pc3, pc4, pc5, pc6, pc7, pc8, pc9, pc10, pf0, pf1, pf2, pf3, pf4, pf5, pf6, pf7, pf8, pf9, pf10⟩ := Blk.cells11 b1
  obtain ⟨qc0, qc1, qc2, qc3, qc4, qc5, qc6, qc7, qc8, qc9, qc10, qf0, qf1, qf2, qf3, qf4, qf5, qf6, qf7, qf8, qf9, qf10⟩ := Blk.cells11 b2
  obtain ⟨rc0, rc1, rc2, rc3, rc4, rc5, rc6, rc7, rc8, rc9, rc10, rf0, rf1, rf2, rf3, rf4, rf5, rf6, rf7, rf8, rf9, rf10⟩ := Blk.cells11 b3
  have pa0 := After.cell pc0; have pa1 := After.cell pc1; have pa2 := After.cell pc2; have pa3 := After.cell pc3; have pa4 := After.cell pc4; have pa5 := After.cell pc5; have pa6 := After.cell pc6; have pa7 := After.cell pc7; have pa8 := After.cell pc8; have pa9 := After.cell pc9; have pa10 := After.cell pc10
  have qa0 := After.cell qc0; have qa1 := After.cell qc1; have qa2 := After.cell qc2; have qa3 := After.cell qc3; have qa4 := After.cell qc4; have qa5 := After.cell qc5; have qa6 := After.cell qc6; have qa7 := After.cell qc7; have qa8 := After.cell qc8; have qa9 := After.cell qc9; have qa10 := After.cell qc10
  have ra0 := After.cell rc0; have ra1 := After.cell rc1; have ra2 := After.cell rc2; have ra3 := After.cell rc3; have ra4 := After.cell rc4; have ra5 := After.cell rc5; have ra6 := After.cell rc6; have ra7 := After.cell rc7; have ra8 := After.cell rc8; have ra9 := After.cell rc9; have ra10 := After.cell rc10
  clear pf0 pf1 pf2 pf3 pf4 pf5 pf6 pf7 pf8 pf9 pf10
  clear qf0 qf1 qf2 qf3 qf4 qf5 qf6 qf7 qf8 qf9 qf10
  clear rf0 rf1 rf2 rf3 rf4 rf5 rf6 rf7 rf8 rf9 rf10
  clear b1 b2 b3 pc0 pc1 pc2 pc3 pc4 pc5 pc6 pc7 pc8 pc9 pc10 qc0 qc1 qc2 qc3 qc4 qc5 qc6 qc7 qc8 qc9 qc10 rc0 rc1 rc2 rc3 rc4 rc5 rc6 rc7 rc8 rc9 rc10
  have KL := hid (fun (n : After W) => live_c n.wd)
  have KW := hid (fun (n : After W) => Ext.trans K0 n.ext)
  go_enter Try.func3, Try.ntmps3
  go_wp2_with fail
  rw [← hW]
  clear hW
  refine wp_region_ext (by kernel_rfl) (by kernel_rfl) ?_; (repeat (any_goals (first | go_big_quiet_step (first | (go_at_call 7; with_reducible exact Calls.ext_of (Q1.out _)) | (go_at_call 7; with_reducible exact Calls.ext_of (Q2.out _)) | (go_at_call 7; with_reducible exact Calls.ext_of (Q3.out _))) | quiet_step (first | (go_at_call 7; with_reducible exact Calls.ext_of (Q1.out _)) | (go_at_call 7; with_reducible exact Calls.ext_of (Q2.out _)) | (go_at_call 7; with_reducible exact Calls.ext_of (Q3.out _)))))); (all_goals (refine wpQuiet_nil ?_; intro w1 hw'; obtain ⟨x1, hw''⟩ := hw'; subst hw''))
  go_wp2_with (first | ((with_reducible refine (Calls.ext_of (R1.out _)).mono ?_); rintro e w' ⟨rfl, x', rfl⟩) | ((with_reducible refine (Calls.ext_of (L12.out _)).mono ?_); rintro e w' ⟨rfl, x', rfl⟩) | ((with_reducible refine (Calls.ext_of (L21.out _)).mono ?_); rintro e w' ⟨rfl, x', rfl⟩) | ((with_reducible refine (Calls.ext_of (L23.out _)).mono ?_); rintro e w' ⟨rfl, x', rfl⟩) | ((with_reducible refine (Calls.ext_of (L13.out _)).mono ?_); rintro e w' ⟨rfl, x', rfl⟩) | ((with_reducible refine (Calls.ext_of (C3.out _)).mono ?_); rintro e w' ⟨rfl, x', rfl⟩) | ((with_reducible refine (Calls.ext_of (KL.out _)).mono ?_); rintro e w' ⟨rfl, x', rfl⟩))
  go_ret
  exact ⟨rfl, KW.out _⟩

set_option maxHeartbeats 4000000 in
theorem ranks_10 (id : Int) (rtr : Bool) (len d0 d1 d2 d3 d4 d5 d6 d7 : Int) (eid : Int) (ertr : Bool) (elen ed0 ed1 ed2 ed3 ed4 ed5 ed6 ed7 : Int) (gid : Int) (grtr : Bool) (glen gd0 gd1 gd2 gd3 gd4 gd5 gd6 gd7 : Int) (w : World)
    (hc : (decide (Fr.rank (⟨id, rtr, len, d0, d1, d2, d3, d4, d5, d6, d7⟩ : Fr) < Fr.rank (⟨eid, ertr, elen, ed0, ed1, ed2, ed3, ed4, ed5, ed6, ed7⟩ : Fr)) = true ∧ decide (Fr.rank (⟨eid, ertr, elen, ed0, ed1, ed2, ed3, ed4, ed5, ed6, ed7⟩ : Fr) < Fr.rank (⟨id, rtr, len, d0, d1, d2, d3, d4, d5, d6, d7⟩ : Fr)) = false ∧ (decide (0 ≤ Fr.rank (⟨id, rtr, len, d0, d1, d2, d3, d4, d5, d6, d7⟩ : Fr)) = true ∧ decide (0 ≤ Fr.rank (⟨eid, ertr, elen, ed0, ed1, ed2, ed3, ed4, ed5, ed6, ed7⟩ : Fr)) = true ∧ decide (id < eid) = true) ∧ (decide (Fr.rank (⟨eid, ertr, elen, ed0, ed1, ed2, ed3, ed4, ed5, ed6, ed7⟩ : Fr) < Fr.rank (⟨gid, grtr, glen, gd0, gd1, gd2, gd3, gd4, gd5, gd6, gd7⟩ : Fr)) = true ∧ decide (Fr.rank (⟨id, rtr, len, d0, d1, d2, d3, d4, d5, d6, d7⟩ : Fr) < Fr.rank (⟨gid, grtr, glen, gd0, gd1, gd2, gd3, gd4, gd5, gd6, gd7⟩ : Fr)) = true))) :
    Calls Try.prog 3 #[.agg #[.int .i64 id, .bool rtr, .int .i64 len, .int .u8 d0, .int .u8 d1, .int .u8 d2, .int .u8 d3, .int .u8 d4, .int .u8 d5, .int .u8 d6, .int .u8 d7], .agg #[.int .i64 eid, .bool ertr, .int .i64 elen, .int .u8 ed0, .int .u8 ed1, .int .u8 ed2, .int .u8 ed3, .int .u8 ed4, .int .u8 ed5, .int .u8 ed6, .int .u8 ed7], .agg #[.int .i64 gid, .bool grtr, .int .i64 glen, .int .u8 gd0, .int .u8 gd1, .int .u8 gd2, .int .u8 gd3, .int .u8 gd4, .int .u8 gd5, .int .u8 gd6, .int .u8 gd7]] w fun e w' => e = .returned (.bool true) ∧ Ext w w' := by
  have Q1 := hid (fun w => rrank_c id rtr len d0 d1 d2 d3 d4 d5 d6 d7 w)
  have Q2 := hid (fun w => rrank_c eid ertr elen ed0 ed1 ed2 ed3 ed4 ed5 ed6 ed7 w)
  have Q3 := hid (fun w => rrank_c gid grtr glen gd0 gd1 gd2 gd3 gd4 gd5 gd6 gd7 w)
  have R1 := hid (fun w => rank_c id rtr len d0 d1 d2 d3 d4 d5 d6 d7 w)
  have L12 := hid (fun w => less_c id rtr len d0 d1 d2 d3 d4 d5 d6 d7 eid ertr elen ed0 ed1 ed2 ed3 ed4 ed5 ed6 ed7 w)
  have L21 := hid (fun w => less_c eid ertr elen ed0 ed1 ed2 ed3 ed4 ed5 ed6 ed7 id rtr len d0 d1 d2 d3 d4 d5 d6 d7 w)
  have L23 := hid (fun w => less_c eid ertr elen ed0 ed1 ed2 ed3 ed4 ed5 ed6 ed7 gid grtr glen gd0 gd1 gd2 gd3 gd4 gd5 gd6 gd7 w)
  have L13 := hid (fun w => less_c id rtr len d0 d1 d2 d3 d4 d5 d6 d7 gid grtr glen gd0 gd1 gd2 gd3 gd4 gd5 gd6 gd7 w)
  have C3 := hid (fun w => check_c gid grtr glen gd0 gd1 gd2 gd3 gd4 gd5 gd6 gd7 w)
  have hz := rank_pos (⟨gid, grtr, glen, gd0, gd1, gd2, gd3, gd4, gd5, gd6, gd7⟩ : Fr)
  generalize Fr.rank (⟨id, rtr, len, d0, d1, d2, d3, d4, d5, d6, d7⟩ : Fr) = x at *
  generalize Fr.rank (⟨eid, ertr, elen, ed0, ed1, ed2, ed3, ed4, ed5, ed6, ed7⟩ : Fr) = y at *
  generalize Fr.rank (⟨gid, grtr, glen, gd0, gd1, gd2, gd3, gd4, gd5, gd6, gd7⟩ : Fr) = z at *
  generalize Fr.chk (⟨gid, grtr, glen, gd0, gd1, gd2, gd3, gd4, gd5, gd6, gd7⟩ : Fr) = m at *
  obtain ⟨h1, h2, ⟨h3, h4, h5⟩, ⟨h6, h7⟩⟩ := hc
  have b1 := ((Blk.new w #[.int .i64 id, .bool rtr, .int .i64 len, .int .u8 d0, .int .u8 d1, .int .u8 d2, .int .u8 d3, .int .u8 d4, .int .u8 d5, .int .u8 d6, .int .u8 d7] FT).alloc (.cells #[.int .i64 eid, .bool ertr, .int .i64 elen, .int .u8 ed0, .int .u8 ed1, .int .u8 ed2, .int .u8 ed3, .int .u8 ed4, .int .u8 ed5, .int .u8 ed6, .int .u8 ed7] FT)).alloc (.cells #[.int .i64 gid, .bool grtr, .int .i64 glen, .int .u8 gd0, .int .u8 gd1, .int .u8 gd2, .int .u8 gd3, .int .u8 gd4, .int .u8 gd5, .int .u8 gd6, .int .u8 gd7] FT)
  have b2 := (Blk.new2 w (.cells #[.int .i64 id, .bool rtr, .int .i64 len, .int .u8 d0, .int .u8 d1, .int .u8 d2, .int .u8 d3, .int .u8 d4, .int .u8 d5, .int .u8 d6, .int .u8 d7] FT) #[.int .i64 eid, .bool ertr, .int .i64 elen, .int .u8 ed0, .int .u8 ed1, .int .u8 ed2, .int .u8 ed3, .int .u8 ed4, .int .u8 ed5, .int .u8 ed6, .int .u8 ed7] FT).alloc (.cells #[.int .i64 gid, .bool grtr, .int .i64 glen, .int .u8 gd0, .int .u8 gd1, .int .u8 gd2, .int .u8 gd3, .int .u8 gd4, .int .u8 gd5, .int .u8 gd6, .int .u8 gd7] FT)
  have b3 : Blk (((w.alloc (.cells #[.int .i64 id, .bool rtr, .int .i64 len, .int .u8 d0, .int .u8 d1, .int .u8 d2, .int .u8 d3, .int .u8 d4, .int .u8 d5, .int .u8 d6, .int .u8 d7] FT)).alloc (.cells #[.int .i64 eid, .bool ertr, .int .i64 elen, .int .u8 ed0, .int .u8 ed1, .int .u8 ed2, .int .u8 ed3, .int .u8 ed4, .int .u8 ed5, .int .u8 ed6, .int .u8 ed7] FT)).alloc (.cells #[.int .i64 gid, .bool grtr, .int .i64 glen, .int .u8 gd0, .int .u8 gd1, .int .u8 gd2, .int .u8 gd3, .int .u8 gd4, .int .u8 gd5, .int .u8 gd6, .int .u8 gd7] FT)) (w.heap.size + 2) #[.int .i64 gid, .bool grtr, .int .i64 glen, .int .u8 gd0, .int .u8 gd1, .int .u8 gd2, .int .u8 gd3, .int .u8 gd4, .int .u8 gd5, .int .u8 gd6, .int .u8 gd7] FT := by
    have := Blk.new ((w.alloc (.cells #[.int .i64 id, .bool rtr, .int .i64 len, .int .u8 d0, .int .u8 d1, .int .u8 d2, .int .u8 d3, .int .u8 d4, .int .u8 d5, .int .u8 d6, .int .u8 d7] FT)).alloc (.cells #[.int .i64 eid, .bool ertr, .int .i64 elen, .int .u8 ed0, .int .u8 ed1, .int .u8 ed2, .int .u8 ed3, .int .u8 ed4, .int .u8 ed5, .int .u8 ed6, .int .u8 ed7] FT)) #[.int .i64 gid, .bool grtr, .int .i64 glen, .int .u8 gd0, .int .u8 gd1, .int .u8 gd2, .int .u8 gd3, .int .u8 gd4, .int .u8 gd5, .int .u8 gd6, .int .u8 gd7] FT
    simpa only [World.size_alloc] using this
  have K0 : Ext w (((w.alloc (.cells #[.int .i64 id, .bool rtr, .int .i64 len, .int .u8 d0, .int .u8 d1, .int .u8 d2, .int .u8 d3, .int .u8 d4, .int .u8 d5, .int .u8 d6, .int .u8 d7] FT)).alloc (.cells #[.int .i64 eid, .bool ertr, .int .i64 elen, .int .u8 ed0, .int .u8 ed1, .int .u8 ed2, .int .u8 ed3, .int .u8 ed4, .int .u8 ed5, .int .u8 ed6, .int .u8 ed7] FT)).alloc (.cells #[.int .i64 gid, .bool grtr, .int .i64 glen, .int .u8 gd0, .int .u8 gd1, .int .u8 gd2, .int .u8 gd3, .int .u8 gd4, .int .u8 gd5, .int .u8 gd6, .int .u8 gd7] FT)) := (by repeat (first | with_reducible exact Ext.refl _ | with_reducible assumption | with_reducible apply Ext.alloc | with_reducible apply Ext.drew | with_reducible apply Ext.drewN | (with_reducible refine Ext.set' ?_ (by first | omega | (simp only [World.size_alloc, World.size_setCell]; omega))) | (with_reducible refine Ext.trans ?_ (by with_reducible assumption)) | (with_reducible refine Ext.only ?_ (by with_reducible assumption) (by omega))))
  obtain ⟨W, hW⟩ : ∃ W, W = (((w.alloc (.cells #[.int .i64 id, .bool rtr, .int .i64 len, .int .u8 d0, .int .u8 d1, .int .u8 d2, .int .u8 d3, .int .u8 d4, .int .u8 d5, .int .u8 d6, .int .u8 d7] FT)).alloc (.cells #[.int .i64 eid, .bool ertr, .int .i64 elen, .int .u8 ed0, .int .u8 ed1, .int .u8 ed2, .int .u8 ed3, .int .u8 ed4, .int .u8 ed5, .int .u8 ed6, .int .u8 ed7] FT)).alloc (.cells #[.int .i64 gid, .bool grtr, .int .i64 glen, .int .u8 gd0, .int .u8 gd1, .int .u8 gd2, .int .u8 gd3, .int .u8 gd4, .int .u8 gd5, .int .u8 gd6, .int .u8 gd7] FT)) := ⟨_, rfl⟩
  rw [← hW] at b1 b2 b3 K0
  obtain ⟨pc0, pc1, pc2, pc3, pc4, pc5, pc6, pc7, pc8, pc9, pc10, pf0, pf1, pf2, pf3, pf4, pf5, pf6, pf7, pf8, pf9, pf10⟩ := Blk.cells11 b1
  obtain ⟨qc0, qc1, qc2, qc3, qc4, qc5, qc6, qc7, qc8, qc9, qc10, qf0, qf1, qf2, qf3, qf4, qf5, qf6, qf7, qf8, qf9, qf10⟩ := Blk.cells11 b2
  obtain ⟨rc0, rc1, rc2, rc3, rc4, rc5, rc6, rc7, rc8, rc9, rc10, rf0, rf1, rf2, rf3, rf4, rf5, rf6, rf7, rf8, rf9, rf10⟩ := Blk.cells11 b3
  have pa0 := After.cell pc0; have pa1 := After.cell pc1; have pa2 := After.cell pc2; have pa3 := After.cell pc3; have pa4 := After.cell pc4; have pa5 := After.cell pc5; have pa6 := After.cell pc6; have pa7 := After.cell pc7; have pa8 := After.cell pc8; have pa9 := After.cell pc9; have pa10 := After.cell pc10
  have qa0 := After.cell qc0; have qa1 := After.cell qc1; have qa2 := After.cell qc2; have qa3 := After.cell qc3; have qa4 := After.cell qc4; have qa5 := After.cell qc5; have qa6 := After.cell qc6; have qa7 := After.cell qc7; have qa8 := After.cell qc8; have qa9 := After.cell qc9; have qa10 := After.cell qc10
  have ra0 := After.cell rc0; have ra1 := After.cell rc1; have ra2 := After.cell rc2; have ra3 := After.cell rc3; have ra4 := After.cell rc4; have ra5 := After.cell rc5; have ra6 := After.cell rc6; have ra7 := After.cell rc7; have ra8 := After.cell rc8; have ra9 := After.cell rc9; have ra10 := After.cell rc10
  clear pf0 pf1 pf2 pf3 pf4 pf5 pf6 pf7 pf8 pf9 pf10
  clear qf0 qf1 qf2 qf3 qf4 qf5 qf6 qf7 qf8 qf9 qf10
  clear rf0 rf1 rf2 rf3 rf4 rf5 rf6 rf7 rf8 rf9 rf10
  clear b1 b2 b3 pc0 pc1 pc2 pc3 pc4 pc5 pc6 pc7 pc8 pc9 pc10 qc0 qc1 qc2 qc3 qc4 qc5 qc6 qc7 qc8 qc9 qc10 rc0 rc1 rc2 rc3 rc4 rc5 rc6 rc7 rc8 rc9 rc10
  have KL := hid (fun (n : After W) => live_c n.wd)
  have KW := hid (fun (n : After W) => Ext.trans K0 n.ext)
  go_enter Try.func3, Try.ntmps3
  go_wp2_with fail
  rw [← hW]
  clear hW
  refine wp_region_ext (by kernel_rfl) (by kernel_rfl) ?_; (repeat (any_goals (first | go_big_quiet_step (first | (go_at_call 7; with_reducible exact Calls.ext_of (Q1.out _)) | (go_at_call 7; with_reducible exact Calls.ext_of (Q2.out _)) | (go_at_call 7; with_reducible exact Calls.ext_of (Q3.out _))) | quiet_step (first | (go_at_call 7; with_reducible exact Calls.ext_of (Q1.out _)) | (go_at_call 7; with_reducible exact Calls.ext_of (Q2.out _)) | (go_at_call 7; with_reducible exact Calls.ext_of (Q3.out _)))))); (all_goals (refine wpQuiet_nil ?_; intro w1 hw'; obtain ⟨x1, hw''⟩ := hw'; subst hw''))
  go_wp2_with (first | ((with_reducible refine (Calls.ext_of (R1.out _)).mono ?_); rintro e w' ⟨rfl, x', rfl⟩) | ((with_reducible refine (Calls.ext_of (L12.out _)).mono ?_); rintro e w' ⟨rfl, x', rfl⟩) | ((with_reducible refine (Calls.ext_of (L21.out _)).mono ?_); rintro e w' ⟨rfl, x', rfl⟩) | ((with_reducible refine (Calls.ext_of (L23.out _)).mono ?_); rintro e w' ⟨rfl, x', rfl⟩) | ((with_reducible refine (Calls.ext_of (L13.out _)).mono ?_); rintro e w' ⟨rfl, x', rfl⟩) | ((with_reducible refine (Calls.ext_of (C3.out _)).mono ?_); rintro e w' ⟨rfl, x', rfl⟩) | ((with_reducible refine (Calls.ext_of (KL.out _)).mono ?_); rintro e w' ⟨rfl, x', rfl⟩))
  go_ret
  exact ⟨rfl, KW.out _⟩

theorem ranks_c (id : Int) (rtr : Bool) (len d0 d1 d2 d3 d4 d5 d6 d7 : Int) (eid : Int) (ertr : Bool) (elen ed0 ed1 ed2 ed3 ed4 ed5 ed6 ed7 : Int) (gid : Int) (grtr : Bool) (glen gd0 gd1 gd2 gd3 gd4 gd5 gd6 gd7 : Int) (w : World) :
    Calls Try.prog 3 #[.agg #[.int .i64 id, .bool rtr, .int .i64 len, .int .u8 d0, .int .u8 d1, .int .u8 d2, .int .u8 d3, .int .u8 d4, .int .u8 d5, .int .u8 d6, .int .u8 d7], .agg #[.int .i64 eid, .bool ertr, .int .i64 elen, .int .u8 ed0, .int .u8 ed1, .int .u8 ed2, .int .u8 ed3, .int .u8 ed4, .int .u8 ed5, .int .u8 ed6, .int .u8 ed7], .agg #[.int .i64 gid, .bool grtr, .int .i64 glen, .int .u8 gd0, .int .u8 gd1, .int .u8 gd2, .int .u8 gd3, .int .u8 gd4, .int .u8 gd5, .int .u8 gd6, .int .u8 gd7]] w fun e w' => e = .returned (.bool true) ∧ Ext w w' := by
  have hmono : 0 ≤ Fr.rank (⟨id, rtr, len, d0, d1, d2, d3, d4, d5, d6, d7⟩ : Fr) → 0 ≤ Fr.rank (⟨eid, ertr, elen, ed0, ed1, ed2, ed3, ed4, ed5, ed6, ed7⟩ : Fr) → id < eid → Fr.rank (⟨id, rtr, len, d0, d1, d2, d3, d4, d5, d6, d7⟩ : Fr) < Fr.rank (⟨eid, ertr, elen, ed0, ed1, ed2, ed3, ed4, ed5, ed6, ed7⟩ : Fr) := fun a b c => rank_mono a b c
  have T0 := ranks_0 id rtr len d0 d1 d2 d3 d4 d5 d6 d7 eid ertr elen ed0 ed1 ed2 ed3 ed4 ed5 ed6 ed7 gid grtr glen gd0 gd1 gd2 gd3 gd4 gd5 gd6 gd7 w
  have T1 := ranks_1 id rtr len d0 d1 d2 d3 d4 d5 d6 d7 eid ertr elen ed0 ed1 ed2 ed3 ed4 ed5 ed6 ed7 gid grtr glen gd0 gd1 gd2 gd3 gd4 gd5 gd6 gd7 w
  have T2 := ranks_2 id rtr len d0 d1 d2 d3 d4 d5 d6 d7 eid ertr elen ed0 ed1 ed2 ed3 ed4 ed5 ed6 ed7 gid grtr glen gd0 gd1 gd2 gd3 gd4 gd5 gd6 gd7 w
  have T3 := ranks_3 id rtr len d0 d1 d2 d3 d4 d5 d6 d7 eid ertr elen ed0 ed1 ed2 ed3 ed4 ed5 ed6 ed7 gid grtr glen gd0 gd1 gd2 gd3 gd4 gd5 gd6 gd7 w
  have T4 := ranks_4 id rtr len d0 d1 d2 d3 d4 d5 d6 d7 eid ertr elen ed0 ed1 ed2 ed3 ed4 ed5 ed6 ed7 gid grtr glen gd0 gd1 gd2 gd3 gd4 gd5 gd6 gd7 w
  have T5 := ranks_5 id rtr len d0 d1 d2 d3 d4 d5 d6 d7 eid ertr elen ed0 ed1 ed2 ed3 ed4 ed5 ed6 ed7 gid grtr glen gd0 gd1 gd2 gd3 gd4 gd5 gd6 gd7 w
  have T6 := ranks_6 id rtr len d0 d1 d2 d3 d4 d5 d6 d7 eid ertr elen ed0 ed1 ed2 ed3 ed4 ed5 ed6 ed7 gid grtr glen gd0 gd1 gd2 gd3 gd4 gd5 gd6 gd7 w
  have T7 := ranks_7 id rtr len d0 d1 d2 d3 d4 d5 d6 d7 eid ertr elen ed0 ed1 ed2 ed3 ed4 ed5 ed6 ed7 gid grtr glen gd0 gd1 gd2 gd3 gd4 gd5 gd6 gd7 w
  have T8 := ranks_8 id rtr len d0 d1 d2 d3 d4 d5 d6 d7 eid ertr elen ed0 ed1 ed2 ed3 ed4 ed5 ed6 ed7 gid grtr glen gd0 gd1 gd2 gd3 gd4 gd5 gd6 gd7 w
  have T9 := ranks_9 id rtr len d0 d1 d2 d3 d4 d5 d6 d7 eid ertr elen ed0 ed1 ed2 ed3 ed4 ed5 ed6 ed7 gid grtr glen gd0 gd1 gd2 gd3 gd4 gd5 gd6 gd7 w
  have T10 := ranks_10 id rtr len d0 d1 d2 d3 d4 d5 d6 d7 eid ertr elen ed0 ed1 ed2 ed3 ed4 ed5 ed6 ed7 gid grtr glen gd0 gd1 gd2 gd3 gd4 gd5 gd6 gd7 w
  generalize Fr.rank (⟨id, rtr, len, d0, d1, d2, d3, d4, d5, d6, d7⟩ : Fr) = x at *
  generalize Fr.rank (⟨eid, ertr, elen, ed0, ed1, ed2, ed3, ed4, ed5, ed6, ed7⟩ : Fr) = y at *
  generalize Fr.rank (⟨gid, grtr, glen, gd0, gd1, gd2, gd3, gd4, gd5, gd6, gd7⟩ : Fr) = z at *
  by_cases h1 : x < y
  · have k1 : decide (x < y) = true := by simpa using h1
    have k2 : decide (y < x) = false := by simp; omega
    by_cases h2 : 0 ≤ x
    · by_cases h3 : 0 ≤ y
      · by_cases h4 : id < eid
        · by_cases h5 : y < z
          · exact T10 ⟨k1, k2, ⟨by simpa using h2, by simpa using h3, by simpa using h4⟩, ⟨by simpa using h5, by simp; omega⟩⟩
          · exact T9 ⟨k1, k2, ⟨by simpa using h2, by simpa using h3, by simpa using h4⟩, by simpa using h5⟩
        · by_cases h5 : y < z
          · exact T8 ⟨k1, k2, ⟨by simpa using h2, by simpa using h3, by simpa using h4⟩, ⟨by simpa using h5, by simp; omega⟩⟩
          · exact T7 ⟨k1, k2, ⟨by simpa using h2, by simpa using h3, by simpa using h4⟩, by simpa using h5⟩
      · by_cases h5 : y < z
        · exact T6 ⟨k1, k2, ⟨by simpa using h2, by simpa using h3⟩, ⟨by simpa using h5, by simp; omega⟩⟩
        · exact T5 ⟨k1, k2, ⟨by simpa using h2, by simpa using h3⟩, by simpa using h5⟩
    · by_cases h5 : y < z
      · exact T4 ⟨k1, k2, by simpa using h2, ⟨by simpa using h5, by simp; omega⟩⟩
      · exact T3 ⟨k1, k2, by simpa using h2, by simpa using h5⟩
  · have k1 : decide (x < y) = false := by simpa using h1
    by_cases h2 : 0 ≤ x
    · by_cases h3 : 0 ≤ y
      · have : ¬ id < eid := fun h => h1 (hmono h2 h3 h)
        exact T2 ⟨k1, by simpa using h2, by simpa using h3, by simpa using this⟩
      · exact T1 ⟨k1, by simpa using h2, by simpa using h3⟩
    · exact T0 ⟨k1, by simpa using h2⟩

theorem ranks_entry (v0 v1 v2 : Value) (W : World) {base : Nat} (h0 : Rd Try.prog W 24 v0.cells.toList) (o0 : Value.okWide Try.prog W .any base 24 v0)
    (h1 : Rd Try.prog W 24 v1.cells.toList) (o1 : Value.okWide Try.prog W .any base 24 v1)
    (h2 : Rd Try.prog W 24 v2.cells.toList) (o2 : Value.okWide Try.prog W .any base 24 v2) :
    Calls Try.prog 3 #[v0, v1, v2] W fun e w' => e = .returned (.bool true) ∧ Below W.heap.size W w' := by
  obtain ⟨f, rfl, _⟩ := opn_frame h0 o0
  obtain ⟨g, rfl, _⟩ := opn_frame h1 o1
  obtain ⟨h, rfl, _⟩ := opn_frame h2 o2
  obtain ⟨id, rtr, len, d0, d1, d2, d3, d4, d5, d6, d7⟩ := f
  obtain ⟨eid, ertr, elen, ed0, ed1, ed2, ed3, ed4, ed5, ed6, ed7⟩ := g
  obtain ⟨gid, grtr, glen, gd0, gd1, gd2, gd3, gd4, gd5, gd6, gd7⟩ := h
  exact ranks_c id rtr len d0 d1 d2 d3 d4 d5 d6 d7 eid ertr elen ed0 ed1 ed2 ed3 ed4 ed5 ed6 ed7 gid grtr glen gd0 gd1 gd2 gd3 gd4 gd5 gd6 gd7 W

end Go.Proofs.Ytcahjmnkcdcbpaa
