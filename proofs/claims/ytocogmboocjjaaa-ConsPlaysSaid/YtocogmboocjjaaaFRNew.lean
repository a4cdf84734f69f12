/- The reference's New of a frame. -/
import Derived.Test.YtocogmboocjjaaaFrame3
set_option linter.unusedSimpArgs false
set_option linter.unusedVariables false
set_option linter.unnecessarySimpa false
namespace Go.Proofs.Ytocogmboocjjaaa
open Go.RowKit Go.Proofs.YtocogmboocjjaaaW.PrintWords
attribute [local go_sem] max2_max min2_min max_of_two min_of_two
attribute [local go_sem ↓] run_eq_fr

def mkT (id n : Int) (D : List Int) : Fr := ⟨id, false, n, D.getD 0 0, D.getD 1 0, D.getD 2 0, D.getD 3 0, D.getD 4 0, D.getD 5 0, D.getD 6 0, D.getD 7 0⟩
theorem mkT_put (id n x : Int) (D : List Int) (h : D.length < 8) : (mkT id n D).cells.setIfInBounds (3 + D.length) (.int .u8 x) = (mkT id n (D ++ [x])).cells := by
  rcases D with _ | ⟨a0, _ | ⟨a1, _ | ⟨a2, _ | ⟨a3, _ | ⟨a4, _ | ⟨a5, _ | ⟨a6, _ | ⟨a7, t⟩⟩⟩⟩⟩⟩⟩⟩
  all_goals first | (simp at h; done) | (simp at h; omega) | rfl
theorem mkT_take (id : Int) (l : List Int) {i : Nat} (h : i = l.length ∨ i = 8) : mkT id l.length (l.take i) = mkFr id l := by
  unfold mkT mkFr
  have key : ∀ k, k < 8 → (l.take i).getD k 0 = l.getD k 0 := fun k hk => by
    rw [List.getD_eq_getElem?_getD, List.getD_eq_getElem?_getD, List.getElem?_take]
    rcases h with rfl | rfl
    · split
      · rfl
      · rw [List.getElem?_eq_none (by omega)]
    · rw [if_pos hk]
  rw [key 0 (by omega), key 1 (by omega), key 2 (by omega), key 3 (by omega), key 4 (by omega), key 5 (by omega), key 6 (by omega), key 7 (by omega)]

set_option maxHeartbeats 4000000 in
theorem rnew_c (id : Int) (v : Value) (l : List Int) (w : World) (hv : Bs w v l) :
    Calls Try.prog 38 #[.int .i64 id, v] w fun e w' => e = .returned (.tuple #[(Fr.ckd (mkFr id l)).val, .int .i64 (Fr.chk (mkFr id l))]) ∧ Ext w w' := by
  obtain ⟨A, bl, o, c, rfl, hlc, hrow, hb⟩ := hv
  have hl0 := hrow.1
  obtain ⟨R, hR⟩ : ∃ R, Is (mkFr id l) R := ⟨_, Is.refl _⟩
  rw [hR.eq]
  have bf : Blk ((w.alloc (.cells #[.int .i64 0, .bool false, .int .i64 0, .int .u8 0, .int .u8 0, .int .u8 0, .int .u8 0, .int .u8 0, .int .u8 0, .int .u8 0, .int .u8 0] 43)).alloc (.cells #[.int .i64 id, .bool false, .int .i64 l.length, .int .u8 0, .int .u8 0, .int .u8 0, .int .u8 0, .int .u8 0, .int .u8 0, .int .u8 0, .int .u8 0] 43)) (w.heap.size + 1) (mkT id l.length []).cells FT := Blk.new2 w _ _ FT
  have bz := (Blk.new w #[.int .i64 0, .bool false, .int .i64 0, .int .u8 0, .int .u8 0, .int .u8 0, .int .u8 0, .int .u8 0, .int .u8 0, .int .u8 0, .int .u8 0] FT).alloc (.cells #[.int .i64 id, .bool false, .int .i64 l.length, .int .u8 0, .int .u8 0, .int .u8 0, .int .u8 0, .int .u8 0, .int .u8 0, .int .u8 0, .int .u8 0] 43)
  have K0 : Ext w ((w.alloc (.cells #[.int .i64 0, .bool false, .int .i64 0, .int .u8 0, .int .u8 0, .int .u8 0, .int .u8 0, .int .u8 0, .int .u8 0, .int .u8 0, .int .u8 0] 43)).alloc (.cells #[.int .i64 id, .bool false, .int .i64 l.length, .int .u8 0, .int .u8 0, .int .u8 0, .int .u8 0, .int .u8 0, .int .u8 0, .int .u8 0, .int .u8 0] 43)) := (by repeat (first | with_reducible exact Ext.refl _ | with_reducible assumption | with_reducible apply Ext.alloc | with_reducible apply Ext.drew | with_reducible apply Ext.drewN | (with_reducible refine Ext.set' ?_ (by first | omega | (simp only [World.size_alloc, World.size_setCell]; omega))) | (with_reducible refine Ext.trans ?_ (by with_reducible assumption)) | (with_reducible refine Ext.only ?_ (by with_reducible assumption) (by omega))))
  go_enter Try.func38, Try.ntmps38
  go_wp2_with fail
  go_loopg [7] 8 (fun g u7 wr => ∃ i : Nat, i + g = 8 ∧ i ≤ l.length ∧ u7 = .int .i64 i ∧ Ext w wr ∧ Blk wr (w.heap.size + 1) (mkT id l.length (l.take i)).cells FT ∧ Blk wr w.heap.size #[.int .i64 0, .bool false, .int .i64 0, .int .u8 0, .int .u8 0, .int .u8 0, .int .u8 0, .int .u8 0, .int .u8 0, .int .u8 0, .int .u8 0] FT)
  case atStart => exact ⟨0, rfl, by omega, rfl, K0, bf, bz⟩
  case round =>
    clear bf bz K0
    obtain ⟨i, hig, hil, rfl, K, bf, bz⟩ := hrel
    by_cases hgo : i < l.length ∧ i < 8
    · obtain ⟨hlt, h8⟩ := hgo
      have d1 : decide ((i : Int) < (l.length : Int)) = true := by simpa using hlt
      have d2 : decide ((i : Int) < 8) = true := by simp; omega
      have i0 : (0 : Int) ≤ (i : Int) := by omega
      have i1 : (i : Int) < (l.length : Int) := by omega
      have i2 : (i : Int) < 8 := by omega
      obtain ⟨rfl, hc⟩ := hrow.cell K hlt
      have hlen : (l.take i).length = i := by rw [List.length_take]; omega
      have hput := bf.set (3 + i) (.int .u8 (l.getD i 0))
      have hp := mkT_put id l.length (l.getD i 0) (l.take i) (by omega)
      rw [hlen] at hp
      rw [hp] at hput
      have hsn : l.take i ++ [l.getD i 0] = l.take (i + 1) := by
        rw [List.take_add_one, List.getElem?_eq_getElem hlt, getD_at hlt]; rfl
      rw [hsn] at hput
      have q3 : wr.cell? ⟨w.heap.size + 1, 3 + i, none⟩ = some (.int .u8 ((mkT id l.length (l.take i)).data.getD i 0)) := Fr.cellAt bf h8
      have t3 := bf.free (3 + i)
      have bz3 := bz.other ⟨w.heap.size + 1, 3 + i, none⟩ (.int .u8 (l.getD i 0)) (by show w.heap.size ≠ w.heap.size + 1; omega)
      have K3 : Ext w (wr.setCell ⟨w.heap.size + 1, 3 + i, none⟩ (.int .u8 (l.getD i 0))) := (by repeat (first | with_reducible exact Ext.refl _ | with_reducible assumption | with_reducible apply Ext.alloc | with_reducible apply Ext.drew | with_reducible apply Ext.drewN | (with_reducible refine Ext.set' ?_ (by first | omega | (simp only [World.size_alloc, World.size_setCell]; omega))) | (with_reducible refine Ext.trans ?_ (by with_reducible assumption)) | (with_reducible refine Ext.only ?_ (by with_reducible assumption) (by omega))))
      have HH := hid (And.intro K3 (And.intro hput bz3))
      clear hput bz3 K3 hp hsn hlen bf bz
      generalize (mkT id l.length (l.take i)).data.getD i 0 = y at *
      generalize l.getD i 0 = x at *
      go_wp2_with fail
      go_roundg (gk - 1)
      case rel =>
        obtain ⟨K3, hfin, bz3⟩ := HH.out
        exact ⟨i + 1, by omega, by omega, by go_num, K3, hfin, bz3⟩
      case measure => omega
    · have hi : i = l.length ∨ i = 8 := by omega
      have hR2 : Is (mkT id l.length (l.take i)) R := Is.mk ((mkT_take id l hi).trans hR.eq)
      rw [hR2.eq] at bf
      have hcase : (decide ((i : Int) < (l.length : Int)) = false ∧ (l.length : Int) ≤ (i : Int)) ∨ (decide ((i : Int) < (l.length : Int)) = true ∧ (i : Int) < (l.length : Int) ∧ i = 8) := by
        by_cases h : i < l.length
        · exact .inr ⟨by simpa using h, by omega, by omega⟩
        · exact .inl ⟨by simp; omega, by omega⟩
      clear hgo hR2 hi hR
      obtain ⟨gid, grtr, glen, g0, g1, g2, g3, g4, g5, g6, g7⟩ := R
      simp only [Fr.cells] at bf
      have CK := hid (fun w => rcheck_c gid grtr glen g0 g1 g2 g3 g4 g5 g6 g7 w)
      have HZ := hid (fun (w' : World) (q : Ext wr w') => (⟨q.blk bf, q.blk bz⟩ : Blk w' (w.heap.size + 1) #[.int .i64 gid, .bool grtr, .int .i64 glen, .int .u8 g0, .int .u8 g1, .int .u8 g2, .int .u8 g3, .int .u8 g4, .int .u8 g5, .int .u8 g6, .int .u8 g7] FT ∧ Blk w' w.heap.size #[.int .i64 0, .bool false, .int .i64 0, .int .u8 0, .int .u8 0, .int .u8 0, .int .u8 0, .int .u8 0, .int .u8 0, .int .u8 0, .int .u8 0] FT))
      have hRES : ∀ m, Fr.chk ⟨gid, grtr, glen, g0, g1, g2, g3, g4, g5, g6, g7⟩ = m → Ending.returned (.tuple #[(Fr.ckd ⟨gid, grtr, glen, g0, g1, g2, g3, g4, g5, g6, g7⟩).val, .int .i64 (Fr.chk ⟨gid, grtr, glen, g0, g1, g2, g3, g4, g5, g6, g7⟩)]) =
          Ending.returned (.tuple #[if m = 0 then .agg #[.int .i64 gid, .bool grtr, .int .i64 glen, .int .u8 g0, .int .u8 g1, .int .u8 g2, .int .u8 g3, .int .u8 g4, .int .u8 g5, .int .u8 g6, .int .u8 g7] else .agg #[.int .i64 0, .bool false, .int .i64 0, .int .u8 0, .int .u8 0, .int .u8 0, .int .u8 0, .int .u8 0, .int .u8 0, .int .u8 0, .int .u8 0], .int .i64 m]) := by
        intro m hm
        unfold Fr.ckd
        rw [hm]
        split <;> rfl
      have HRES := hid hRES
      clear hRES
      obtain ⟨m, hm⟩ : ∃ m, Fr.chk ⟨gid, grtr, glen, g0, g1, g2, g3, g4, g5, g6, g7⟩ = m := ⟨_, rfl⟩
      rw [hm] at CK
      have HM := hid hm
      clear hm
      obtain ⟨pc0, pc1, pc2, pc3, pc4, pc5, pc6, pc7, pc8, pc9, pc10, pf0, pf1, pf2, pf3, pf4, pf5, pf6, pf7, pf8, pf9, pf10⟩ := Blk.cells11 bf
      clear pf0 pf1 pf2 pf3 pf4 pf5 pf6 pf7 pf8 pf9 pf10
      clear bf bz
      have hmc : m = 0 ∨ ((m != 0) = true ∧ Hid (m ≠ 0)) := by
        by_cases h : m = 0
        · exact .inl h
        · exact .inr ⟨by simpa using h, hid h⟩
      rcases hcase with ⟨e1, e2⟩ | ⟨e1, e2, e3⟩ <;> rcases hmc with rfl | ⟨e0, hm0⟩
      all_goals
        try subst e3
        go_wp2_with fail
        (with_reducible refine (CK.out _).mono ?_); rintro e w2 ⟨rfl, k2⟩
        obtain ⟨bf, bz⟩ := HZ.out w2 (by repeat (first | with_reducible exact Ext.refl _ | with_reducible assumption | with_reducible apply Ext.alloc | with_reducible apply Ext.drew | with_reducible apply Ext.drewN | (with_reducible refine Ext.set' ?_ (by first | omega | (simp only [World.size_alloc, World.size_setCell]; omega))) | (with_reducible refine Ext.trans ?_ (by with_reducible assumption)) | (with_reducible refine Ext.only ?_ (by with_reducible assumption) (by omega))))
        have K2 : Ext w w2 := (by repeat (first | with_reducible exact Ext.refl _ | with_reducible assumption | with_reducible apply Ext.alloc | with_reducible apply Ext.drew | with_reducible apply Ext.drewN | (with_reducible refine Ext.set' ?_ (by first | omega | (simp only [World.size_alloc, World.size_setCell]; omega))) | (with_reducible refine Ext.trans ?_ (by with_reducible assumption)) | (with_reducible refine Ext.only ?_ (by with_reducible assumption) (by omega))))
        have hl3 := bf.lt
        clear pc0 pc1 pc2 pc3 pc4 pc5 pc6 pc7 pc8 pc9 pc10 CK HZ k2 K
        obtain ⟨pc0, pc1, pc2, pc3, pc4, pc5, pc6, pc7, pc8, pc9, pc10, pf0, pf1, pf2, pf3, pf4, pf5, pf6, pf7, pf8, pf9, pf10⟩ := Blk.cells11 bf
        obtain ⟨zc0, zc1, zc2, zc3, zc4, zc5, zc6, zc7, zc8, zc9, zc10, zf0, zf1, zf2, zf3, zf4, zf5, zf6, zf7, zf8, zf9, zf10⟩ := Blk.cells11 bz
        clear pf0 pf1 pf2 pf3 pf4 pf5 pf6 pf7 pf8 pf9 pf10
        go_wp2_with fail
      · exact bodyPost_ret (v := .tuple #[.agg #[.int .i64 gid, .bool grtr, .int .i64 glen, .int .u8 g0, .int .u8 g1, .int .u8 g2, .int .u8 g3, .int .u8 g4, .int .u8 g5, .int .u8 g6, .int .u8 g7], .int .i64 0]) (by simp [results, Try.results38, go_sem, *]) rfl ⟨(HRES.out _ HM.out).symm, (by repeat (first | with_reducible exact Ext.refl _ | with_reducible assumption | with_reducible apply Ext.alloc | with_reducible apply Ext.drew | with_reducible apply Ext.drewN | (with_reducible refine Ext.set' ?_ (by first | omega | (simp only [World.size_alloc, World.size_setCell]; omega))) | (with_reducible refine Ext.trans ?_ (by with_reducible assumption)) | (with_reducible refine Ext.only ?_ (by with_reducible assumption) (by omega))))⟩
      · exact bodyPost_ret (v := .tuple #[.agg #[.int .i64 0, .bool false, .int .i64 0, .int .u8 0, .int .u8 0, .int .u8 0, .int .u8 0, .int .u8 0, .int .u8 0, .int .u8 0, .int .u8 0], .int .i64 m]) (by simp [results, Try.results38, go_sem, *]) rfl ⟨by rw [HRES.out _ HM.out, if_neg hm0.out], (by repeat (first | with_reducible exact Ext.refl _ | with_reducible assumption | with_reducible apply Ext.alloc | with_reducible apply Ext.drew | with_reducible apply Ext.drewN | (with_reducible refine Ext.set' ?_ (by first | omega | (simp only [World.size_alloc, World.size_setCell]; omega))) | (with_reducible refine Ext.trans ?_ (by with_reducible assumption)) | (with_reducible refine Ext.only ?_ (by with_reducible assumption) (by omega))))⟩
      · exact bodyPost_ret (v := .tuple #[.agg #[.int .i64 gid, .bool grtr, .int .i64 glen, .int .u8 g0, .int .u8 g1, .int .u8 g2, .int .u8 g3, .int .u8 g4, .int .u8 g5, .int .u8 g6, .int .u8 g7], .int .i64 0]) (by simp [results, Try.results38, go_sem, *]) rfl ⟨(HRES.out _ HM.out).symm, (by repeat (first | with_reducible exact Ext.refl _ | with_reducible assumption | with_reducible apply Ext.alloc | with_reducible apply Ext.drew | with_reducible apply Ext.drewN | (with_reducible refine Ext.set' ?_ (by first | omega | (simp only [World.size_alloc, World.size_setCell]; omega))) | (with_reducible refine Ext.trans ?_ (by with_reducible assumption)) | (with_reducible refine Ext.only ?_ (by with_reducible assumption) (by omega))))⟩
      · exact bodyPost_ret (v := .tuple #[.agg #[.int .i64 0, .bool false, .int .i64 0, .int .u8 0, .int .u8 0, .int .u8 0, .int .u8 0, .int .u8 0, .int .u8 0, .int .u8 0, .int .u8 0], .int .i64 m]) (by simp [results, Try.results38, go_sem, *]) rfl ⟨by rw [HRES.out _ HM.out, if_neg hm0.out], (by repeat (first | with_reducible exact Ext.refl _ | with_reducible assumption | with_reducible apply Ext.alloc | with_reducible apply Ext.drew | with_reducible apply Ext.drewN | (with_reducible refine Ext.set' ?_ (by first | omega | (simp only [World.size_alloc, World.size_setCell]; omega))) | (with_reducible refine Ext.trans ?_ (by with_reducible assumption)) | (with_reducible refine Ext.only ?_ (by with_reducible assumption) (by omega))))⟩

end Go.Proofs.Ytocogmboocjjaaa
