/- The reference's Bytes. -/
import Derived.Test.YtocogmboocjjaaaFRNew
set_option linter.unusedSimpArgs false
set_option linter.unusedVariables false
set_option linter.unnecessarySimpa false
namespace Go.Proofs.Ytocogmboocjjaaa
open Go.RowKit Go.Proofs.YtocogmboocjjaaaW.PrintWords
attribute [local go_sem] max2_max min2_min max_of_two min_of_two
attribute [local go_sem ↓] run_eq_fr

theorem chk_bounds {f : Fr} (h : f.chk = 0) : 0 ≤ f.id ∧ f.id ≤ 2047 ∧ 0 ≤ f.len ∧ f.len ≤ 8 := by
  unfold Fr.chk at h
  split at h
  · omega
  · split at h
    · omega
    · omega
set_option maxHeartbeats 4000000 in
theorem rbytes_c (id : Int) (rtr : Bool) (len d0 d1 d2 d3 d4 d5 d6 d7 : Int) (w : World) (hd : Byt [d0, d1, d2, d3, d4, d5, d6, d7]) :
    Calls Try.prog 15 #[.agg #[.int .i64 id, .bool rtr, .int .i64 len, .int .u8 d0, .int .u8 d1, .int .u8 d2, .int .u8 d3, .int .u8 d4, .int .u8 d5, .int .u8 d6, .int .u8 d7]] w fun e w' => ∃ v, e = .returned v ∧ Own8 w' w.heap.size v (Fr.bytes (⟨id, rtr, len, d0, d1, d2, d3, d4, d5, d6, d7⟩ : Fr)) ∧ Ext w w' := by
  have CK := hid (fun w => rcheck_c id rtr len d0 d1 d2 d3 d4 d5 d6 d7 w)
  obtain ⟨L, hL⟩ : ∃ L, Is (Fr.bytes (⟨id, rtr, len, d0, d1, d2, d3, d4, d5, d6, d7⟩ : Fr)) L := ⟨_, Is.refl _⟩
  rw [hL.eq]
  obtain ⟨W, hW⟩ : ∃ W, W = w.alloc (.cells #[.int .i64 id, .bool rtr, .int .i64 len, .int .u8 d0, .int .u8 d1, .int .u8 d2, .int .u8 d3, .int .u8 d4, .int .u8 d5, .int .u8 d6, .int .u8 d7] 43) := ⟨_, rfl⟩
  have b0 : Blk W w.heap.size #[.int .i64 id, .bool rtr, .int .i64 len, .int .u8 d0, .int .u8 d1, .int .u8 d2, .int .u8 d3, .int .u8 d4, .int .u8 d5, .int .u8 d6, .int .u8 d7] FT := by rw [hW]; exact Blk.new w _ _
  have K0 : Ext w W := by rw [hW]; exact (by repeat (first | with_reducible exact Ext.refl _ | with_reducible assumption | with_reducible apply Ext.alloc | with_reducible apply Ext.drew | with_reducible apply Ext.drewN | (with_reducible refine Ext.set' ?_ (by first | omega | (simp only [World.size_alloc, World.size_setCell]; omega))) | (with_reducible refine Ext.trans ?_ (by with_reducible assumption)) | (with_reducible refine Ext.only ?_ (by with_reducible assumption) (by omega))))
  have hsz : W.heap.size = w.heap.size + 1 := by rw [hW]; simp
  have o0 : Own8 (W.alloc (.cells #[] 5)) W.heap.size (.slice (some ⟨w.heap.size + 1, 0, none⟩) 0 0) [] := by
    have := own8_new W W.heap.size (Nat.le_refl _)
    rw [hsz] at this
    rw [hsz]
    exact this
  by_cases hm : Fr.chk (⟨id, rtr, len, d0, d1, d2, d3, d4, d5, d6, d7⟩ : Fr) = 0
  · obtain ⟨_, _, l0, l1⟩ := chk_bounds hm
    simp only at l0 l1
    cases rtr
    · have hL2 : Is ([d0, d1, d2, d3, d4, d5, d6, d7].take len.toNat) L := Is.mk (by rw [← hL.eq]; simp [Fr.bytes, Fr.has, hm, Fr.data])
      rw [hm] at CK
      obtain ⟨n, rfl⟩ := Int.eq_ofNat_of_zero_le l0
      rw [Int.toNat_natCast] at hL2
      clear hm hL
      have HC : ∀ w' i, Blk w' w.heap.size #[.int .i64 id, .bool false, .int .i64 (n : Int), .int .u8 d0, .int .u8 d1, .int .u8 d2, .int .u8 d3, .int .u8 d4, .int .u8 d5, .int .u8 d6, .int .u8 d7] FT → i < 8 → w'.cell? ⟨w.heap.size, 3 + i, none⟩ = some (.int .u8 ([d0, d1, d2, d3, d4, d5, d6, d7].getD i 0)) := fun w' i h hi => Fr.cellAt (f := ⟨id, false, n, d0, d1, d2, d3, d4, d5, d6, d7⟩) h hi
      have HC := hid HC
      have hsn : ∀ i : Nat, i < 8 → [d0, d1, d2, d3, d4, d5, d6, d7].take (i + 1) = [d0, d1, d2, d3, d4, d5, d6, d7].take i ++ [[d0, d1, d2, d3, d4, d5, d6, d7].getD i 0] := fun i hi => by
        rw [List.take_add_one, List.getElem?_eq_getElem (by simpa using hi), List.getD_eq_getElem?_getD, List.getElem?_eq_getElem (by simpa using hi)]
        rfl
      have HSN := hid hsn
      clear hsn
      have HO0 := hid o0
      have HSZ := hid hsz
      clear o0 hsz
      go_enter Try.func15, Try.ntmps15
      go_wp2_with fail
      rw [← hW]
      clear hW
      (with_reducible refine (CK.out _).mono ?_); rintro e w1 ⟨rfl, k1⟩
      have K1 : Ext W w1 := (by repeat (first | with_reducible exact Ext.refl _ | with_reducible assumption | with_reducible apply Ext.alloc | with_reducible apply Ext.drew | with_reducible apply Ext.drewN | (with_reducible refine Ext.set' ?_ (by first | omega | (simp only [World.size_alloc, World.size_setCell]; omega))) | (with_reducible refine Ext.trans ?_ (by with_reducible assumption)) | (with_reducible refine Ext.only ?_ (by with_reducible assumption) (by omega))))
      have o1 := k1.own HO0.out
      have b1 := K1.blk b0
      obtain ⟨pc0, pc1, pc2, pc3, pc4, pc5, pc6, pc7, pc8, pc9, pc10, pf0, pf1, pf2, pf3, pf4, pf5, pf6, pf7, pf8, pf9, pf10⟩ := Blk.cells11 b1
      clear pf0 pf1 pf2 pf3 pf4 pf5 pf6 pf7 pf8 pf9 pf10
      clear k1 CK HO0 b1 pc3 pc4 pc5 pc6 pc7 pc8 pc9 pc10
      go_wp2_with fail
      go_loopg [3, 4] n (fun g u3 u4 wr => ∃ i : Nat, i + g = n ∧ u4 = .int .i64 i ∧ Own8 wr W.heap.size u3 ([d0, d1, d2, d3, d4, d5, d6, d7].take i) ∧ Ext W wr)
      case atStart => exact ⟨0, by omega, rfl, o1, K1⟩
      case round =>
        clear o1 K1 pc0 pc1 pc2
        obtain ⟨i, hig, rfl, ho, K⟩ := hrel
        have b2 := K.blk b0
        obtain ⟨pc0, pc1, pc2, pc3, pc4, pc5, pc6, pc7, pc8, pc9, pc10, pf0, pf1, pf2, pf3, pf4, pf5, pf6, pf7, pf8, pf9, pf10⟩ := Blk.cells11 b2
        clear pf0 pf1 pf2 pf3 pf4 pf5 pf6 pf7 pf8 pf9 pf10
        clear pc3 pc4 pc5 pc6 pc7 pc8 pc9 pc10
        by_cases hlt : i < n
        · have d1' : decide ((i : Int) < (n : Int)) = true := by simpa using hlt
          have j0 : (0 : Int) ≤ (i : Int) := by omega
          have j1 : (i : Int) < (n : Int) := by omega
          have c0 := HC.out wr i b2 (by omega)
          have hs := HSN.out i (by omega)
          have HS := hid hs
          have hll : ([d0, d1, d2, d3, d4, d5, d6, d7].take i).length ≤ 8 := by rw [List.length_take]; omega
          clear hs b2
          generalize [d0, d1, d2, d3, d4, d5, d6, d7].getD i 0 = x at *
          go_wp2_with (at_builtin; go_must (refine app8k rfl (.tmp 20) (.tmp 25) rfl W.heap.size rfl rfl (by first | with_reducible rfl | simp only [World.size_alloc, World.size_setCell] | rfl | simp) ho (by first | omega | (simp only [List.length_append, List.length_cons, List.length_nil]; omega)) (Ext.le (by repeat (first | with_reducible exact Ext.refl _ | with_reducible assumption | with_reducible apply Ext.alloc | with_reducible apply Ext.drew | with_reducible apply Ext.drewN | (with_reducible refine Ext.set' ?_ (by first | omega | (simp only [World.size_alloc, World.size_setCell]; omega))) | (with_reducible refine Ext.trans ?_ (by with_reducible assumption)) | (with_reducible refine Ext.only ?_ (by with_reducible assumption) (by omega))))) ?_); intro v5 w5 o5 k5 kk5; have K5 : Ext W w5 := Ext.back (by repeat (first | with_reducible exact Ext.refl _ | with_reducible assumption | with_reducible apply Ext.alloc | with_reducible apply Ext.drew | with_reducible apply Ext.drewN | (with_reducible refine Ext.set' ?_ (by first | omega | (simp only [World.size_alloc, World.size_setCell]; omega))) | (with_reducible refine Ext.trans ?_ (by with_reducible assumption)) | (with_reducible refine Ext.only ?_ (by with_reducible assumption) (by omega)))) k5; clear k5; (skip))
          rw [← HS.out] at o5
          go_roundg (gk - 1)
          case rel => exact ⟨i + 1, by omega, by go_num, o5, K5⟩
          case measure => omega
        · obtain rfl : i = n := by omega
          rw [hL2.eq] at ho
          clear hlt
          go_wp2_with fail
          go_ret
          exact ⟨_, rfl, ho.lower (by have := HSZ.out; omega), K0.trans K⟩
    · have hL2 : Is ([] : List Int) L := Is.mk (by rw [← hL.eq]; simp [Fr.bytes, Fr.has])
      rw [hm] at CK
      clear hm hL
      have HO0 := hid o0
      have HSZ := hid hsz
      clear o0 hsz
      go_enter Try.func15, Try.ntmps15
      go_wp2_with fail
      rw [← hW]
      clear hW
      (with_reducible refine (CK.out _).mono ?_); rintro e w1 ⟨rfl, k1⟩
      have K1 : Ext W w1 := (by repeat (first | with_reducible exact Ext.refl _ | with_reducible assumption | with_reducible apply Ext.alloc | with_reducible apply Ext.drew | with_reducible apply Ext.drewN | (with_reducible refine Ext.set' ?_ (by first | omega | (simp only [World.size_alloc, World.size_setCell]; omega))) | (with_reducible refine Ext.trans ?_ (by with_reducible assumption)) | (with_reducible refine Ext.only ?_ (by with_reducible assumption) (by omega))))
      have o1 := k1.own HO0.out
      have b1 := K1.blk b0
      obtain ⟨pc0, pc1, pc2, pc3, pc4, pc5, pc6, pc7, pc8, pc9, pc10, pf0, pf1, pf2, pf3, pf4, pf5, pf6, pf7, pf8, pf9, pf10⟩ := Blk.cells11 b1
      clear pf0 pf1 pf2 pf3 pf4 pf5 pf6 pf7 pf8 pf9 pf10
      clear k1 CK HO0 b1 pc3 pc4 pc5 pc6 pc7 pc8 pc9 pc10
      go_wp2_with fail
      go_ret
      exact ⟨_, rfl, by rw [← hL2.eq]; exact o1.lower (by have := HSZ.out; omega), K0.trans K1⟩
  · have e0 : (Fr.chk (⟨id, rtr, len, d0, d1, d2, d3, d4, d5, d6, d7⟩ : Fr) != 0) = true := by simpa using hm
    have hL2 : Is ([] : List Int) L := Is.mk (by rw [← hL.eq]; simp [Fr.bytes, Fr.has, hm])
    generalize Fr.chk (⟨id, rtr, len, d0, d1, d2, d3, d4, d5, d6, d7⟩ : Fr) = m at *
    clear hm hL
    have HO0 := hid o0
    have HSZ := hid hsz
    clear o0 hsz
    go_enter Try.func15, Try.ntmps15
    go_wp2_with fail
    rw [← hW]
    clear hW
    (with_reducible refine (CK.out _).mono ?_); rintro e w1 ⟨rfl, k1⟩
    have K1 : Ext W w1 := (by repeat (first | with_reducible exact Ext.refl _ | with_reducible assumption | with_reducible apply Ext.alloc | with_reducible apply Ext.drew | with_reducible apply Ext.drewN | (with_reducible refine Ext.set' ?_ (by first | omega | (simp only [World.size_alloc, World.size_setCell]; omega))) | (with_reducible refine Ext.trans ?_ (by with_reducible assumption)) | (with_reducible refine Ext.only ?_ (by with_reducible assumption) (by omega))))
    have o1 := k1.own HO0.out
    clear k1 CK HO0
    go_wp2_with fail
    go_ret
    exact ⟨_, rfl, by rw [← hL2.eq]; exact o1.lower (by have := HSZ.out; omega), K0.trans K1⟩

theorem rbytes_v (f : Fr) (w : World) (hd : Byt f.data) : Calls Try.prog 15 #[f.val] w fun e w' => ∃ v, e = .returned v ∧ Own8 w' w.heap.size v f.bytes ∧ Ext w w' := by
  obtain ⟨id, rtr, len, d0, d1, d2, d3, d4, d5, d6, d7⟩ := f
  exact rbytes_c id rtr len d0 d1 d2 d3 d4 d5 d6 d7 w hd

end Go.Proofs.Ytocogmboocjjaaa
